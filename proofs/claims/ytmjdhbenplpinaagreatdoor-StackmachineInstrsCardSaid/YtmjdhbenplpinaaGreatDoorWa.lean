/- The functions of the law, one after the other: what a run of D answers. -/
import Derived.Test.YtmjdhbenplpinaaGreatDoorGb
import Derived.Test.YtmjdhbenplpinaaGreatDoorFull
import Derived.Test.YtmjdhbenplpinaaGreatDoorW0
import Derived.Laws.RangeString
import Derived.Laws.RangeAny
import Derived.Laws.StructEq
namespace Go.D
open Go.Proofs
set_option maxRecDepth 100000
set_option linter.unusedVariables false
set_option linter.unusedSimpArgs false
theorem tng (T : List (Nat × Spec)) {n : Nat} (h : 17 ≤ n) : (tabL T).ng ≤ n := h
theorem tabL_ng (T : List (Nat × Spec)) : (tabL T).ng = 17 := rfl
def Fine (T : List (Nat × Spec)) : Prop := ∀ f args v, tabF T f args = some v → Orc Tryz.prog E0 f args v
theorem Fine.nil : Fine [] := fun _ _ _ h => by cases h
theorem Fine.cons {T : List (Nat × Spec)} (hT : Fine T) {f : Nat} {s : Spec} (h : ∀ args v, s args = some v → Orc Tryz.prog E0 f args v) : Fine ((f, s) :: T) := fun g args v hv => by
 simp only [tabF] at hv
 cases hb : Nat.beq g f with
 | true =>
  rw [hb] at hv
  obtain rfl := Nat.eq_of_beq_eq_true hb
  exact h args v hv
 | false =>
  rw [hb] at hv
  exact hT g args v hv
theorem Fine.ok {T : List (Nat × Spec)} (hT : Fine T) : EnvOk3 Tryz.prog (EV (tabL T)) := ev_ok (Nat.le_refl _) (fun _ _ _ h => h) fun f args v _ h => hT f args v h
def h0 : H := ⟨17, .leaf⟩
theorem ng_eq (tab : Tab) : (EV tab).ng = tab.ng := rfl
theorem bt_eq (tab : Tab) : (EV tab).bt = E0.bt := rfl
theorem Fine.orc {T : List (Nat × Spec)} (hT : Fine T) {f : Nat} {F : Func} {args : List Value} {v : Value} {h' : H} (hf : E0.fn f = some F) (hc : E0.chk f = false) (hx : callExt (EV (tabL T)) f args = none)
  (ha : args.all (afree 4) = true) (hv : afree 4 v = true) (hr : callR (EV (tabL T)) f args h0 = some (v, h')) : Orc Tryz.prog E0 f args v := by
 obtain ⟨k, hk⟩ := callR_run hr
 have ho : outV (runD (EV (tabL T)) k f args ⟨(EV (tabL T)).ng, .leaf⟩) = some v := by
  have : runD (EV (tabL T)) k f args ⟨(EV (tabL T)).ng, .leaf⟩ = some (v, h') := hk
  rw [this]; rfl
 exact (orc_of_run hT.ok hf hc hx ha hv ho).over
theorem callR_ext {E : Env} {f : Nat} {args : List Value} {v : Value} (hc : E.chk f = false) (hx : callExt E f args = some v) (h : H) : callR E f args h = some (v, h) := by
 unfold callR callD
 rw [if_neg (by rw [hc]; decide), hx]
theorem callR_tab {tab : Tab} {f : Nat} {args : List Value} {v : Value} (hc : E0.chk f = false) (hs : tab.f f args = some v) (ha : args.all (afree 4) = true) (hv : afree 4 v = true) (h : H) : callR (EV tab) f args h = some (v, h) := by
 refine callR_ext (E := EV tab) hc ?_ h
 unfold callExt
 have : (EV tab).ext f args = some v := by
  show (match tab.f f args with | some v => some v | none => E0.ext f args) = some v
  rw [hs]
 rw [this]
 simp only [ha, hv, Bool.and_self, if_true]
def tabRun (E : Env) (f : Nat) (l : List (List Value × Value)) : Bool := l.all fun p => (callExt E f p.1).isNone && p.1.all (afree 4) && afree 4 p.2 && (match runD E 1000 f p.1 ⟨E.ng, .leaf⟩ with | some r => veq 4 r.1 p.2 | none => false)
theorem Fine.table {T : List (Nat × Spec)} (hT : Fine T) {f : Nat} {F : Func} {l : List (List Value × Value)} (hf : E0.fn f = some F) (hc : E0.chk f = false) (hl : tabRun (EV (tabL T)) f l = true) : Fine ((f, look l) :: T) :=
 hT.cons fun args v hv => by
  have h1 := List.all_eq_true.1 hl _ (look_mem hv)
  simp only [Bool.and_eq_true] at h1
  obtain ⟨⟨⟨a, b⟩, c⟩, d⟩ := h1
  have ho : outV (runD (EV (tabL T)) 1000 f args ⟨(EV (tabL T)).ng, .leaf⟩) = some v := by
   cases hr : runD (EV (tabL T)) 1000 f args ⟨(EV (tabL T)).ng, .leaf⟩ with
   | none => rw [hr] at d; cases d
   | some r =>
    rw [hr] at d
    exact congrArg some (veq_eq 4 r.1 v d)
  exact (orc_of_run hT.ok hf hc (Option.isNone_iff_eq_none.1 a) b c ho).over
theorem Fine.step {T : List (Nat × Spec)} (hT : Fine T) {f : Nat} {F : Func} {s : Spec} (hf : E0.fn f = some F) (hc : E0.chk f = false) (hx : ∀ l, callExt (EV (tabL T)) f l = none)
  (h : ∀ args v, s args = some v → args.all (afree 4) = true ∧ afree 4 v = true ∧ ∃ h', callR (EV (tabL T)) f args h0 = some (v, h')) : Fine ((f, s) :: T) :=
 hT.cons fun args v hv => let ⟨a, b, _, hr⟩ := h args v hv; hT.orc hf hc (hx _) a b hr
def whenV : Spec
 | [.bool b, .int .i64 e] => some (.int .i64 (if b then e else 0))
 | _ => none
def firstI : List Int → Int
 | [] => 0
 | x :: l => if x = 0 then firstI l else x
theorem add1 (i : Nat) (h : i < 1000000000) : iAdd .i64 (i : Int) 1 = some (.int .i64 ((i + 1 : Nat) : Int)) := by
 unfold iAdd
 rw [IntWalk.i64_in _ (by omega)]
 rfl
theorem f_when {T : List (Nat × Spec)} (hT : Fine T) (hx : ∀ l, callExt (EV (tabL T)) 36 l = none) : Fine ((36, whenV) :: T) :=
 hT.step (F := Tryz.f36) (by kernel_rfl) (by kernel_rfl) hx fun args v hv => by
  unfold whenV at hv
  split at hv
  ·rename_i b e
   cases hv
   refine ⟨rfl, rfl, ?_⟩
   generalize he : callR _ _ _ _ = r
   rw [enter36 _ _ _ (hx _) rfl] at he
   cases b <;> (simp only [sS, sevalprocAttr, fF36, tT, Bool.false_eq_true] at he; subst he; exact ⟨_, rfl⟩)
  ·cases hv
theorem f_whenO {T : List (Nat × Spec)} (hT : Fine T) (hx : ∀ l, callExt (EV (tabL T)) 119 l = none) : Fine ((119, whenV) :: T) :=
 hT.step (F := Tryz.f119) (by kernel_rfl) (by kernel_rfl) hx fun args v hv => by
  unfold whenV at hv
  split at hv
  ·rename_i b e
   cases hv
   refine ⟨rfl, rfl, ?_⟩
   generalize he : callR _ _ _ _ = r
   rw [enter119 _ _ _ (hx _) rfl] at he
   cases b <;> (simp only [sS, sevalprocAttr, fF119, tT, Bool.false_eq_true] at he; subst he; exact ⟨_, rfl⟩)
  ·cases hv
noncomputable def firstLoop : Code := .loop (.seq (Rg 35 2) (.seq (.cond (Operand.tmp 8) .skip (Code.exit 0)) (.seq (.block 1 (.seq (Rg 35 3) (.seq (Rg 35 4) (.cond (Operand.tmp 12) (.seq (Rg 35 5) .ret) .skip)))) (Rg 35 6))))
theorem first_round (tab : Tab) (tm : Tr Value) (h : H) (b c i n : Nat) (x : Int) (l : List Int) (hb : tab.ng ≤ b) (hg : h.get b = some (.cells 25 1 (l.map (.int .i64)))) (hl : l[i]? = some x) (hi : i < n) (hn : n < 1000000)
  (t5 : tm.get 5 = some (.slice (some ⟨b, 0, none⟩) n c)) (t6 : tm.get 6 = some (.int .i64 n)) (t7 : tm.get 7 = some (.int .i64 i)) (hx0 : x = 0) :
  ∃ tm', exR (EV tab) firstLoop ⟨false, 15, tm, h⟩ = exR (EV tab) firstLoop ⟨false, 15, tm', h⟩ ∧ tm'.get 5 = some (.slice (some ⟨b, 0, none⟩) n c) ∧ tm'.get 6 = some (.int .i64 n) ∧ tm'.get 7 = some (.int .i64 ((i + 1 : Nat) : Int)) := by
 have hl' : (l.map (Value.int .i64))[i]? = some (.int .i64 x) := by rw [List.getElem?_map, hl]; rfl
 generalize he : exR (EV tab) firstLoop ⟨false, 15, tm, h⟩ = r
 rw [firstLoop, exR_loop] at he
 subst hx0
 simp only [sS, sevalprocAttr, fF35, tT, sN, sM, ng_eq, tabL_ng, t5, t6, t7, iLss, Int.ofNat_lt, hi, decide_true, Int.natCast_nonneg, and_self, Int.toNat_natCast, Nat.not_lt.2 hb, hg, hl', iNeq, bne_self_eq_false, add1 i (by omega)] at he
 subst he
 refine ⟨_, rfl, ?_, ?_, ?_⟩ <;> simp only [Tr.get_set, Nat.reduceEqDiff, ↓reduceIte, t5, t6]
theorem first_found (tab : Tab) (tm : Tr Value) (h : H) (b c i n : Nat) (x : Int) (l : List Int) (hb : tab.ng ≤ b) (hg : h.get b = some (.cells 25 1 (l.map (.int .i64)))) (hl : l[i]? = some x) (hi : i < n)
  (t5 : tm.get 5 = some (.slice (some ⟨b, 0, none⟩) n c)) (t6 : tm.get 6 = some (.int .i64 n)) (t7 : tm.get 7 = some (.int .i64 i)) (hx0 : x ≠ 0) :
  ∃ tm', exR (EV tab) firstLoop ⟨false, 15, tm, h⟩ = some (.ret, ⟨false, 15, tm', h⟩) ∧ tm'.get 2 = some (.int .i64 x) := by
 have hl' : (l.map (Value.int .i64))[i]? = some (.int .i64 x) := by rw [List.getElem?_map, hl]; rfl
 have hne : (x != 0) = true := by simpa using hx0
 generalize he : exR (EV tab) firstLoop ⟨false, 15, tm, h⟩ = r
 rw [firstLoop, exR_loop] at he
 simp only [sS, sevalprocAttr, fF35, tT, sN, sM, ng_eq, tabL_ng, t5, t6, t7, iLss, Int.ofNat_lt, hi, decide_true, Int.natCast_nonneg, and_self, Int.toNat_natCast, Nat.not_lt.2 hb, hg, hl', iNeq, hne] at he
 subst he
 refine ⟨_, rfl, ?_⟩; simp only [Tr.get_set, Nat.reduceEqDiff, ↓reduceIte]
theorem first_end (tab : Tab) (tm : Tr Value) (h : H) (i n : Nat) (hi : ¬ i < n) (t6 : tm.get 6 = some (.int .i64 n)) (t7 : tm.get 7 = some (.int .i64 i)) :
  ∃ tm', exR (EV tab) firstLoop ⟨false, 15, tm, h⟩ = some (.exit 0, ⟨false, 15, tm', h⟩) := by
 generalize he : exR (EV tab) firstLoop ⟨false, 15, tm, h⟩ = r
 rw [firstLoop, exR_loop] at he
 simp only [sS, sevalprocAttr, fF35, tT, sN, sM, t6, t7, iLss, Int.ofNat_lt, hi, decide_false] at he
 subst he
 exact ⟨_, rfl⟩
theorem first_loop (tab : Tab) (h : H) (b c n : Nat) (l : List Int) (hb : tab.ng ≤ b) (hg : h.get b = some (.cells 25 1 (l.map (.int .i64)))) (hl : l.length = n) (hn : n < 1000000) :
  ∀ (k i : Nat) (tm : Tr Value), i + k = n → tm.get 5 = some (.slice (some ⟨b, 0, none⟩) n c) → tm.get 6 = some (.int .i64 n) → tm.get 7 = some (.int .i64 i) →
  ∃ tm', (exR (EV tab) firstLoop ⟨false, 15, tm, h⟩ = some (.exit 0, ⟨false, 15, tm', h⟩) ∧ firstI (l.drop i) = 0) ∨
   (exR (EV tab) firstLoop ⟨false, 15, tm, h⟩ = some (.ret, ⟨false, 15, tm', h⟩) ∧ tm'.get 2 = some (.int .i64 (firstI (l.drop i)))) := by
 intro k
 induction k with
 | zero =>
  intro i tm hk t5 t6 t7
  obtain ⟨tm', e⟩ := first_end tab tm h i n (by omega) t6 t7
  exact ⟨tm', .inl ⟨e, by rw [List.drop_eq_nil_of_le (by omega)]; rfl⟩⟩
 | succ k ih =>
  intro i tm hk t5 t6 t7
  have hlt : i < l.length := by omega
  have hd : l.drop i = l[i] :: l.drop (i + 1) := (List.getElem_cons_drop hlt).symm
  by_cases hx0 : l[i] = 0
  ·obtain ⟨tm1, e, a, b', c'⟩ := first_round tab tm h b c i n l[i] l hb hg (by simp) (by omega) hn t5 t6 t7 hx0
   rw [e, hd, firstI, if_pos hx0]
   exact ih (i + 1) tm1 (by omega) a b' c'
  ·obtain ⟨tm1, e, a⟩ := first_found tab tm h b c i n l[i] l hb hg (by simp) (by omega) t5 t6 t7 hx0
   exact ⟨tm1, .inr ⟨e, by rw [hd, firstI, if_neg hx0]; exact a⟩⟩
theorem first_run (tab : Tab) (hx : ∀ l, callExt (EV tab) 35 l = none) (h : H) (b c n : Nat) (l : List Int) (hb : tab.ng ≤ b) (hg : h.get b = some (.cells 25 1 (l.map (.int .i64)))) (hl : l.length = n) (hn : n < 1000000) :
  callR (EV tab) 35 [.slice (some ⟨b, 0, none⟩) n c] h = some (.int .i64 (firstI l), h) := by
 generalize he : callR _ _ _ _ = r
 rw [enter35 _ _ _ (hx _) rfl] at he
 obtain ⟨tm', ⟨e, hz⟩ | ⟨e, ht⟩⟩ := first_loop tab h b c n l hb hg hl hn n 0 (((((Tr.leaf.set 0 (.slice (some ⟨b, 0, none⟩) n c)).set 2 (.int .i64 0)).set 5 (.slice (some ⟨b, 0, none⟩) n c)).set 6 (.int .i64 n)).set 7 (.int .i64 0)) (by omega)
  (by simp only [Tr.get_set, Nat.reduceEqDiff, ↓reduceIte]) (by simp only [Tr.get_set, Nat.reduceEqDiff, ↓reduceIte]) (by simp only [Tr.get_set, Nat.reduceEqDiff, ↓reduceIte]; rfl)
 ·rw [List.drop_zero] at hz
  rw [firstLoop] at e
  simp only [sS, sevalprocAttr, fF35, tT, e] at he
  subst he
  rw [hz]
 ·rw [List.drop_zero] at ht
  rw [firstLoop] at e
  simp only [sS, sevalprocAttr, fF35, tT, e, ht] at he
  subst he
  rfl
noncomputable def firstLoopO : Code := .loop (.seq (Rg 98 2) (.seq (.cond (Operand.tmp 8) .skip (Code.exit 0)) (.seq (.block 1 (.seq (Rg 98 3) (.seq (Rg 98 4) (.cond (Operand.tmp 12) (.seq (Rg 98 5) .ret) .skip)))) (Rg 98 6))))
theorem first_roundO (tab : Tab) (tm : Tr Value) (h : H) (b c i n : Nat) (x : Int) (l : List Int) (hb : tab.ng ≤ b) (hg : h.get b = some (.cells 25 1 (l.map (.int .i64)))) (hl : l[i]? = some x) (hi : i < n) (hn : n < 1000000)
  (t5 : tm.get 5 = some (.slice (some ⟨b, 0, none⟩) n c)) (t6 : tm.get 6 = some (.int .i64 n)) (t7 : tm.get 7 = some (.int .i64 i)) (hx0 : x = 0) :
  ∃ tm', exR (EV tab) firstLoopO ⟨false, 15, tm, h⟩ = exR (EV tab) firstLoopO ⟨false, 15, tm', h⟩ ∧ tm'.get 5 = some (.slice (some ⟨b, 0, none⟩) n c) ∧ tm'.get 6 = some (.int .i64 n) ∧ tm'.get 7 = some (.int .i64 ((i + 1 : Nat) : Int)) := by
 have hl' : (l.map (Value.int .i64))[i]? = some (.int .i64 x) := by rw [List.getElem?_map, hl]; rfl
 generalize he : exR (EV tab) firstLoopO ⟨false, 15, tm, h⟩ = r
 rw [firstLoopO, exR_loop] at he
 subst hx0
 simp only [sS, sevalprocAttr, fF98, tT, sN, sM, ng_eq, tabL_ng, t5, t6, t7, iLss, Int.ofNat_lt, hi, decide_true, Int.natCast_nonneg, and_self, Int.toNat_natCast, Nat.not_lt.2 hb, hg, hl', iNeq, bne_self_eq_false, add1 i (by omega)] at he
 subst he
 refine ⟨_, rfl, ?_, ?_, ?_⟩ <;> simp only [Tr.get_set, Nat.reduceEqDiff, ↓reduceIte, t5, t6]
theorem first_foundO (tab : Tab) (tm : Tr Value) (h : H) (b c i n : Nat) (x : Int) (l : List Int) (hb : tab.ng ≤ b) (hg : h.get b = some (.cells 25 1 (l.map (.int .i64)))) (hl : l[i]? = some x) (hi : i < n)
  (t5 : tm.get 5 = some (.slice (some ⟨b, 0, none⟩) n c)) (t6 : tm.get 6 = some (.int .i64 n)) (t7 : tm.get 7 = some (.int .i64 i)) (hx0 : x ≠ 0) :
  ∃ tm', exR (EV tab) firstLoopO ⟨false, 15, tm, h⟩ = some (.ret, ⟨false, 15, tm', h⟩) ∧ tm'.get 2 = some (.int .i64 x) := by
 have hl' : (l.map (Value.int .i64))[i]? = some (.int .i64 x) := by rw [List.getElem?_map, hl]; rfl
 have hne : (x != 0) = true := by simpa using hx0
 generalize he : exR (EV tab) firstLoopO ⟨false, 15, tm, h⟩ = r
 rw [firstLoopO, exR_loop] at he
 simp only [sS, sevalprocAttr, fF98, tT, sN, sM, ng_eq, tabL_ng, t5, t6, t7, iLss, Int.ofNat_lt, hi, decide_true, Int.natCast_nonneg, and_self, Int.toNat_natCast, Nat.not_lt.2 hb, hg, hl', iNeq, hne] at he
 subst he
 refine ⟨_, rfl, ?_⟩; simp only [Tr.get_set, Nat.reduceEqDiff, ↓reduceIte]
theorem first_endO (tab : Tab) (tm : Tr Value) (h : H) (i n : Nat) (hi : ¬ i < n) (t6 : tm.get 6 = some (.int .i64 n)) (t7 : tm.get 7 = some (.int .i64 i)) :
  ∃ tm', exR (EV tab) firstLoopO ⟨false, 15, tm, h⟩ = some (.exit 0, ⟨false, 15, tm', h⟩) := by
 generalize he : exR (EV tab) firstLoopO ⟨false, 15, tm, h⟩ = r
 rw [firstLoopO, exR_loop] at he
 simp only [sS, sevalprocAttr, fF98, tT, sN, sM, t6, t7, iLss, Int.ofNat_lt, hi, decide_false] at he
 subst he
 exact ⟨_, rfl⟩
theorem first_loopO (tab : Tab) (h : H) (b c n : Nat) (l : List Int) (hb : tab.ng ≤ b) (hg : h.get b = some (.cells 25 1 (l.map (.int .i64)))) (hl : l.length = n) (hn : n < 1000000) :
  ∀ (k i : Nat) (tm : Tr Value), i + k = n → tm.get 5 = some (.slice (some ⟨b, 0, none⟩) n c) → tm.get 6 = some (.int .i64 n) → tm.get 7 = some (.int .i64 i) →
  ∃ tm', (exR (EV tab) firstLoopO ⟨false, 15, tm, h⟩ = some (.exit 0, ⟨false, 15, tm', h⟩) ∧ firstI (l.drop i) = 0) ∨
   (exR (EV tab) firstLoopO ⟨false, 15, tm, h⟩ = some (.ret, ⟨false, 15, tm', h⟩) ∧ tm'.get 2 = some (.int .i64 (firstI (l.drop i)))) := by
 intro k
 induction k with
 | zero =>
  intro i tm hk t5 t6 t7
  obtain ⟨tm', e⟩ := first_endO tab tm h i n (by omega) t6 t7
  exact ⟨tm', .inl ⟨e, by rw [List.drop_eq_nil_of_le (by omega)]; rfl⟩⟩
 | succ k ih =>
  intro i tm hk t5 t6 t7
  have hlt : i < l.length := by omega
  have hd : l.drop i = l[i] :: l.drop (i + 1) := (List.getElem_cons_drop hlt).symm
  by_cases hx0 : l[i] = 0
  ·obtain ⟨tm1, e, a, b', c'⟩ := first_roundO tab tm h b c i n l[i] l hb hg (by simp) (by omega) hn t5 t6 t7 hx0
   rw [e, hd, firstI, if_pos hx0]
   exact ih (i + 1) tm1 (by omega) a b' c'
  ·obtain ⟨tm1, e, a⟩ := first_foundO tab tm h b c i n l[i] l hb hg (by simp) (by omega) t5 t6 t7 hx0
   exact ⟨tm1, .inr ⟨e, by rw [hd, firstI, if_neg hx0]; exact a⟩⟩
theorem first_runO (tab : Tab) (hx : ∀ l, callExt (EV tab) 98 l = none) (h : H) (b c n : Nat) (l : List Int) (hb : tab.ng ≤ b) (hg : h.get b = some (.cells 25 1 (l.map (.int .i64)))) (hl : l.length = n) (hn : n < 1000000) :
  callR (EV tab) 98 [.slice (some ⟨b, 0, none⟩) n c] h = some (.int .i64 (firstI l), h) := by
 generalize he : callR _ _ _ _ = r
 rw [enter98 _ _ _ (hx _) rfl] at he
 obtain ⟨tm', ⟨e, hz⟩ | ⟨e, ht⟩⟩ := first_loopO tab h b c n l hb hg hl hn n 0 (((((Tr.leaf.set 0 (.slice (some ⟨b, 0, none⟩) n c)).set 2 (.int .i64 0)).set 5 (.slice (some ⟨b, 0, none⟩) n c)).set 6 (.int .i64 n)).set 7 (.int .i64 0)) (by omega)
  (by simp only [Tr.get_set, Nat.reduceEqDiff, ↓reduceIte]) (by simp only [Tr.get_set, Nat.reduceEqDiff, ↓reduceIte]) (by simp only [Tr.get_set, Nat.reduceEqDiff, ↓reduceIte]; rfl)
 ·rw [List.drop_zero] at hz
  rw [firstLoopO] at e
  simp only [sS, sevalprocAttr, fF98, tT, e] at he
  subst he
  rw [hz]
 ·rw [List.drop_zero] at ht
  rw [firstLoopO] at e
  simp only [sS, sevalprocAttr, fF98, tT, e, ht] at he
  subst he
  rfl
def asc (l : List UInt8) : Bool := l.all fun c => decide (c.toNat < 128)
def hasB (o s : List UInt8) : Bool := o.any fun c => s.contains c
theorem asc_get {l : List UInt8} (h : asc l = true) {i : Nat} (hi : i < l.length) : (l[i]).toNat < 128 := by
 have := List.all_eq_true.1 h l[i] (List.getElem_mem hi)
 simpa using this
theorem decode_at {l : List UInt8} (h : asc l = true) {i : Nat} (hi : i < l.length) : Utf8.decode ⟨⟨l⟩⟩ i = ((l[i]).toNat, 1) := by
 have hs : i < (ByteArray.mk ⟨l⟩).size := hi
 exact decode_ascii ⟨⟨l⟩⟩ i hs (asc_get h hi)
theorem next_more (E : Env) (h : H) (b i : Nat) (l : List UInt8) (ha : asc l = true) (hb : ¬ b < E.ng) (hg : h.get b = some (.iter ⟨⟨l⟩⟩ i)) (hi : i < l.length) :
  nextD E h (.pointer (some ⟨b, 0, none⟩)) true = some (.tuple ⟨[.bool true, .int .i64 i, .int .i32 (l[i]).toNat]⟩, h.put b (.iter ⟨⟨l⟩⟩ (i + 1))) := by
 unfold nextD
 have hs : i < (ByteArray.mk ⟨l⟩).size := hi
 simp only [if_neg hb, hg, if_pos hs, decode_at ha hi]
theorem next_done (E : Env) (h : H) (b i : Nat) (l : List UInt8) (hb : ¬ b < E.ng) (hg : h.get b = some (.iter ⟨⟨l⟩⟩ i)) (hi : ¬ i < l.length) :
  nextD E h (.pointer (some ⟨b, 0, none⟩)) true = some (.tuple ⟨[.bool false]⟩, h) := by
 unfold nextD
 have hs : ¬ i < (ByteArray.mk ⟨l⟩).size := hi
 simp only [if_neg hb, hg, if_neg hs]
noncomputable def hasIn : Code := .loop (.seq (Rg 61 5) (.seq (.cond (Operand.tmp 17) .skip (Code.exit 2)) (.block 3 (.seq (Rg 61 6) (.seq (Rg 61 7) (.cond (Operand.tmp 21) (.seq (Rg 61 8) .ret) .skip))))))
noncomputable def hasOut : Code := .loop (.seq (Rg 61 2) (.seq (.cond (Operand.tmp 12) .skip (Code.exit 0)) (.block 1 (.seq (Rg 61 3) (.seq (Rg 61 4) (.block 2 hasIn))))))
theorem hasIn_run (tab : Tab) (s : List UInt8) (ha : asc s = true) (c : Nat) (b : Nat) (hb : tab.ng ≤ b) : ∀ (k i : Nat) (h : H) (tm : Tr Value), i + k = s.length → h.get b = some (.iter ⟨⟨s⟩⟩ i) →
  tm.get 15 = some (.pointer (some ⟨b, 0, none⟩)) → tm.get 6 = some (.int .i32 c) →
  ∃ tm' h', Kept ⟨b, .leaf⟩ ⟨b, .leaf⟩ ∧ h'.next = h.next ∧ (∀ d, d ≠ b → h'.get d = h.get d) ∧ (∀ t, t = 0 ∨ t = 1 ∨ t = 10 → tm'.get t = tm.get t) ∧
   (((s.drop i).any (fun x => c == x.toNat) = false ∧ exR (EV tab) hasIn ⟨false, 22, tm, h⟩ = some (.exit 2, ⟨false, 22, tm', h'⟩)) ∨
    ((s.drop i).any (fun x => c == x.toNat) = true ∧ exR (EV tab) hasIn ⟨false, 22, tm, h⟩ = some (.ret, ⟨false, 22, tm', h'⟩) ∧ tm'.get 4 = some (.bool true))) := by
 intro k
 have hng : ¬ b < (EV tab).ng := by rw [ng_eq]; omega
 induction k with
 | zero =>
  intro i h tm hk hg t15 t6
  have e := next_done (EV tab) h b i s hng hg (by omega)
  generalize he : exR (EV tab) hasIn ⟨false, 22, tm, h⟩ = r
  rw [hasIn, exR_loop] at he
  simp only [sS, sevalprocAttr, fF61, tT, sN, sM, oNext, t15, e] at he
  subst he
  refine ⟨_, h, Kept.refl _, rfl, fun _ _ => rfl, ?_, .inl ⟨by rw [List.drop_eq_nil_of_le (by omega)]; rfl, rfl⟩⟩
  rintro t (rfl | rfl | rfl) <;> simp only [Tr.get_set, Nat.reduceEqDiff, ↓reduceIte]
 | succ k ih =>
  intro i h tm hk hg t15 t6
  have hi : i < s.length := by omega
  have e := next_more (EV tab) h b i s ha hng hg hi
  have hd : s.drop i = s[i] :: s.drop (i + 1) := (List.getElem_cons_drop hi).symm
  by_cases hc : c = (s[i]).toNat
  ·have hq : ((c : Int) == ((s[i]).toNat : Int)) = true := by simp [hc]
   generalize he : exR (EV tab) hasIn ⟨false, 22, tm, h⟩ = r
   rw [hasIn, exR_loop] at he
   simp only [sS, sevalprocAttr, fF61, tT, sN, sM, oNext, t15, t6, e, iEql, hq] at he
   subst he
   refine ⟨_, h.put b (.iter ⟨⟨s⟩⟩ (i + 1)), Kept.refl _, rfl, fun d hdb => by rw [H.get_put, if_neg (fun h => hdb h.symm)], ?_, .inr ⟨by rw [hd, List.any_cons, hc]; simp, rfl, by simp only [Tr.get_set, Nat.reduceEqDiff, ↓reduceIte]⟩⟩
   rintro t (rfl | rfl | rfl) <;> simp only [Tr.get_set, Nat.reduceEqDiff, ↓reduceIte]
  ·have hq : ((c : Int) == ((s[i]).toNat : Int)) = false := by simp; omega
   obtain ⟨tm1, e1, q15, q6, qk⟩ : ∃ tm1, exR (EV tab) hasIn ⟨false, 22, tm, h⟩ = exR (EV tab) hasIn ⟨false, 22, tm1, h.put b (.iter ⟨⟨s⟩⟩ (i + 1))⟩ ∧ tm1.get 15 = some (.pointer (some ⟨b, 0, none⟩)) ∧ tm1.get 6 = some (.int .i32 c) ∧ (∀ t, t = 0 ∨ t = 1 ∨ t = 10 → tm1.get t = tm.get t) := by
    generalize he : exR (EV tab) hasIn ⟨false, 22, tm, h⟩ = r
    rw [hasIn, exR_loop] at he
    simp only [sS, sevalprocAttr, fF61, tT, sN, sM, oNext, t15, t6, e, iEql, hq] at he
    subst he
    refine ⟨_, rfl, by simp only [Tr.get_set, Nat.reduceEqDiff, ↓reduceIte, t15], by simp only [Tr.get_set, Nat.reduceEqDiff, ↓reduceIte, t6], ?_⟩
    rintro t (rfl | rfl | rfl) <;> simp only [Tr.get_set, Nat.reduceEqDiff, ↓reduceIte]
   rw [hd, List.any_cons, e1]
   have hcb : (c == (s[i]).toNat) = false := by simpa using hc
   rw [hcb, Bool.false_or]
   obtain ⟨tm', h', _, n1, n2, n3, n4⟩ := ih (i + 1) (h.put b (.iter ⟨⟨s⟩⟩ (i + 1))) tm1 (by omega) (by rw [H.get_put, if_pos rfl]) q15 q6
   exact ⟨tm', h', Kept.refl _, n1, fun d hdb => by rw [n2 d hdb, H.get_put, if_neg (fun h => hdb h.symm)], fun t ht => by rw [n3 t ht, qk t ht], n4⟩
theorem hasOut_run (tab : Tab) (o s : List UInt8) (ho : asc o = true) (ha : asc s = true) (b : Nat) (hb : tab.ng ≤ b) : ∀ (k i : Nat) (h : H) (tm : Tr Value), i + k = o.length → h.get b = some (.iter ⟨⟨o⟩⟩ i) → b < h.next →
  tm.get 10 = some (.pointer (some ⟨b, 0, none⟩)) → tm.get 1 = some (.string ⟨⟨s⟩⟩) →
  ∃ tm' h', (hasB (o.drop i) s = false ∧ exR (EV tab) hasOut ⟨false, 22, tm, h⟩ = some (.exit 0, ⟨false, 22, tm', h'⟩)) ∨
    (hasB (o.drop i) s = true ∧ exR (EV tab) hasOut ⟨false, 22, tm, h⟩ = some (.ret, ⟨false, 22, tm', h'⟩) ∧ tm'.get 4 = some (.bool true)) := by
 intro k
 have hng : ¬ b < (EV tab).ng := by rw [ng_eq]; omega
 induction k with
 | zero =>
  intro i h tm hk hg hbn t10 t1
  have e := next_done (EV tab) h b i o hng hg (by omega)
  generalize he : exR (EV tab) hasOut ⟨false, 22, tm, h⟩ = r
  rw [hasOut, exR_loop] at he
  simp only [sS, sevalprocAttr, fF61, tT, sN, sM, oNext, t10, e] at he
  subst he
  exact ⟨_, h, .inl ⟨by rw [List.drop_eq_nil_of_le (by omega)]; rfl, rfl⟩⟩
 | succ k ih =>
  intro i h tm hk hg hbn t10 t1
  have hi : i < o.length := by omega
  have e := next_more (EV tab) h b i o ho hng hg hi
  have hd : o.drop i = o[i] :: o.drop (i + 1) := (List.getElem_cons_drop hi).symm
  have hcon : (s.any fun x => (o[i]).toNat == x.toNat) = s.contains o[i] := by
   rw [List.contains_eq_any_beq]
   congr 1
   funext x
   rw [Bool.eq_iff_iff]
   simp [UInt8.toNat_inj]
  generalize he : exR (EV tab) hasOut ⟨false, 22, tm, h⟩ = r
  rw [hasOut, exR_loop] at he
  simp only [sS, sevalprocAttr, fF61, tT, sN, sM, oNext, oRange, t10, t1, e] at he
  obtain ⟨tm1, h1, _, n1, n2, n3, n4⟩ := hasIn_run tab s ha (o[i]).toNat h.next (by omega) s.length 0 ((h.put b (.iter ⟨⟨o⟩⟩ (i + 1))).push (.iter ⟨⟨s⟩⟩ 0))
   (((((((tm.set 11 (.tuple ⟨[.bool true, .int .i64 i, .int .i32 (o[i]).toNat]⟩)).set 12 (.bool true)).set 13 (.int .i32 (o[i]).toNat)).set 6 (.int .i32 (o[i]).toNat)).set 14 (.string ⟨⟨s⟩⟩)).set 15 (.pointer (some ⟨h.next, 0, none⟩)))) (by omega)
   (by rw [H.get_push, H.next_put, if_pos rfl]) (by simp only [Tr.get_set, Nat.reduceEqDiff, ↓reduceIte]) (by simp only [Tr.get_set, Nat.reduceEqDiff, ↓reduceIte])
  rw [List.drop_zero, hcon] at n4
  rw [hd]
  rcases n4 with ⟨n4, n5⟩ | ⟨n4, n5, n6⟩
  ·simp only [n5, sS, sevalprocAttr] at he
   obtain ⟨tm2, h2, n7⟩ := ih (i + 1) h1 tm1 (by omega) (by rw [n2 b (by omega), H.get_push_lt _ _ (by rw [H.next_put]; exact hbn), H.get_put, if_pos rfl]) (by rw [n1]; simp only [H.next_push, H.next_put]; omega)
    (by rw [n3 10 (by omega)]; simp only [Tr.get_set, Nat.reduceEqDiff, ↓reduceIte]; exact t10) (by rw [n3 1 (by omega)]; simp only [Tr.get_set, Nat.reduceEqDiff, ↓reduceIte]; exact t1)
   have hB : hasB (o[i] :: o.drop (i + 1)) s = hasB (o.drop (i + 1)) s := by simp only [hasB, List.any_cons, n4, Bool.false_or]
   rw [hB]
   rw [hasOut] at n7
   rw [← he]
   exact ⟨tm2, h2, n7⟩
  ·simp only [n5, sS, sevalprocAttr] at he
   subst he
   exact ⟨tm1, h1, .inr ⟨by simp only [hasB, List.any_cons, n4, Bool.true_or], rfl, n6⟩⟩
def hasAnyV : Spec
 | [.string ⟨⟨o⟩⟩, .string ⟨⟨s⟩⟩] => if asc o && asc s then some (.bool (hasB o s)) else none
 | _ => none
theorem f_hasAny {T : List (Nat × Spec)} (hT : Fine T) (hx : ∀ l, callExt (EV (tabL T)) 61 l = none) : Fine ((61, hasAnyV) :: T) :=
 hT.step (F := Tryz.f61) (by kernel_rfl) (by kernel_rfl) hx fun args v hv => by
  unfold hasAnyV at hv
  split at hv
  ·rename_i o s
   split at hv
   ·rename_i hb
    cases hv
    simp only [Bool.and_eq_true] at hb
    refine ⟨rfl, rfl, ?_⟩
    generalize he : callR _ _ _ _ = r
    rw [enter61 _ _ _ (hx _) rfl] at he
    obtain ⟨tm', h', n⟩ := hasOut_run (tabL T) o s hb.1 hb.2 17 (Nat.le_refl 17) o.length 0 (h0.push (.iter ⟨⟨o⟩⟩ 0)) (((((Tr.leaf.set 0 (.string ⟨⟨o⟩⟩)).set 1 (.string ⟨⟨s⟩⟩)).set 4 (.bool false)).set 9 (.string ⟨⟨o⟩⟩)).set 10 (.pointer (some ⟨17, 0, none⟩)))
     (by omega) (by rw [H.get_push]; rfl) (Nat.lt_succ_self 17) (by simp only [Tr.get_set, Nat.reduceEqDiff, ↓reduceIte]) (by simp only [Tr.get_set, Nat.reduceEqDiff, ↓reduceIte])
    rw [List.drop_zero, hasOut, hasIn] at n
    have hn0 : h0.next = 17 := rfl
    rcases n with ⟨n1, n2⟩ | ⟨n1, n2, n3⟩
    ·simp only [sS, sevalprocAttr, fF61, tT, sN, sM, oRange, hn0, n2] at he
     subst he
     rw [n1]
     exact ⟨_, rfl⟩
    ·simp only [sS, sevalprocAttr, fF61, tT, sN, sM, oRange, hn0, n2, n3] at he
     subst he
     rw [n1]
     exact ⟨_, rfl⟩
   ·cases hv
  ·cases hv
noncomputable def ixLoopU : Code := .loop (.seq (Rg 134 2) (.seq (.cond (Operand.tmp 9) .skip (Code.exit 0)) (.seq (.block 1 (.seq (Rg 134 3) (.seq (Rg 134 4) (.cond (Operand.tmp 16) (.seq (Rg 134 5) .ret) .skip)))) (Rg 134 6))))
theorem ix_loopU (tab : Tab) (h : H) (b o n c : Nat) (l : List Int) (x : Int) (hg : ∀ i (v : Int), l[i]? = some v → subD (EV tab) h b (o + i * 1) 1 = some [.int .u64 v]) (hl : l.length = n) (hn : n < 1000000) :
  ∀ (k i : Nat) (tm : Tr Value), i + k = n → tm.get 0 = some (.slice (some ⟨b, o, none⟩) n c) → tm.get 1 = some (.int .u64 x) → tm.get 7 = some (.int .i64 n) → tm.get 8 = some (.int .i64 i) →
  ∃ tm', (exR (EV tab) ixLoopU ⟨false, 19, tm, h⟩ = some (.exit 0, ⟨false, 19, tm', h⟩) ∧ (l.drop i).contains x = false) ∨
   (∃ j : Nat, exR (EV tab) ixLoopU ⟨false, 19, tm, h⟩ = some (.ret, ⟨false, 19, tm', h⟩) ∧ tm'.get 4 = some (.int .i64 j) ∧ (l.drop i).contains x = true ∧ (l.drop i).idxOf x + i = j) := by
 intro k
 induction k with
 | zero =>
  intro i tm hk t0 t1 t7 t8
  have hi : ¬ i < n := by omega
  generalize he : exR (EV tab) ixLoopU ⟨false, 19, tm, h⟩ = r
  rw [ixLoopU, exR_loop] at he
  simp only [sS, sevalprocAttr, fF134, tT, sN, sM, t7, t8, iLss, Int.ofNat_lt, hi, decide_false] at he
  subst he
  exact ⟨_, .inl ⟨rfl, by rw [List.drop_eq_nil_of_le (by omega)]; rfl⟩⟩
 | succ k ih =>
  intro i tm hk t0 t1 t7 t8
  have hi : i < n := by omega
  have hlt : i < l.length := by omega
  have hd : l.drop i = l[i] :: l.drop (i + 1) := (List.getElem_cons_drop hlt).symm
  have hs := hg i l[i] (by simp)
  rw [Nat.mul_one] at hs
  by_cases hx : x = l[i]
  ·have hq : (x == l[i]) = true := by simpa using hx
   generalize he : exR (EV tab) ixLoopU ⟨false, 19, tm, h⟩ = r
   rw [ixLoopU, exR_loop] at he
   simp only [sS, sevalprocAttr, fF134, tT, oIndexAddr, indexAddrD, oLoad, loadD, isAggD, Nat.mul_one, Bool.false_eq_true, t0, t1, t7, t8, iLss, Int.ofNat_lt, hi, decide_true, Int.natCast_nonneg, and_self, Int.toNat_natCast, hs, iEql, hq] at he
   subst he
   exact ⟨_, .inr ⟨i, rfl, by simp only [Tr.get_set, Nat.reduceEqDiff, ↓reduceIte], by rw [hd, ← hx]; simp, by rw [hd, ← hx]; simp⟩⟩
  ·have hq : (x == l[i]) = false := by simpa using hx
   obtain ⟨tm1, e1, a0, a1, a7, a8⟩ : ∃ tm1, exR (EV tab) ixLoopU ⟨false, 19, tm, h⟩ = exR (EV tab) ixLoopU ⟨false, 19, tm1, h⟩ ∧ tm1.get 0 = some (.slice (some ⟨b, o, none⟩) n c) ∧ tm1.get 1 = some (.int .u64 x) ∧ tm1.get 7 = some (.int .i64 n) ∧ tm1.get 8 = some (.int .i64 ((i + 1 : Nat) : Int)) := by
    generalize he : exR (EV tab) ixLoopU ⟨false, 19, tm, h⟩ = r
    rw [ixLoopU, exR_loop] at he
    simp only [sS, sevalprocAttr, fF134, tT, oIndexAddr, indexAddrD, oLoad, loadD, isAggD, Nat.mul_one, Bool.false_eq_true, t0, t1, t7, t8, iLss, Int.ofNat_lt, hi, decide_true, Int.natCast_nonneg, and_self, Int.toNat_natCast, hs, iEql, hq, add1 i (by omega)] at he
    subst he
    refine ⟨_, rfl, ?_, ?_, ?_, ?_⟩ <;> simp only [Tr.get_set, Nat.reduceEqDiff, ↓reduceIte, t0, t1, t7]
   have hne : (l[i] == x) = false := by simpa using fun h => hx h.symm
   obtain ⟨tm', ⟨u1, u2⟩ | ⟨j, u1, u2, u3, u4⟩⟩ := ih (i + 1) tm1 (by omega) a0 a1 a7 a8
   ·exact ⟨tm', .inl ⟨by rw [e1]; exact u1, by rw [hd, List.contains_cons, hq, u2]; rfl⟩⟩
   ·exact ⟨tm', .inr ⟨j, by rw [e1]; exact u1, u2, by rw [hd, List.contains_cons, u3, Bool.or_true], by rw [hd, List.idxOf_cons, hne]; simp only [cond_false]; omega⟩⟩
theorem ix_runU (tab : Tab) (hx1 : ∀ l, callExt (EV tab) 134 l = none) (h : H) (b o n c : Nat) (l : List Int) (x : Int) (hg : ∀ i (v : Int), l[i]? = some v → subD (EV tab) h b (o + i * 1) 1 = some [.int .u64 v]) (hl : l.length = n) (hn : n < 1000000) :
  ∃ r : Int, callR (EV tab) 134 [.slice (some ⟨b, o, none⟩) n c, .int .u64 x] h = some (.int .i64 r, h) ∧ ((l.contains x = false ∧ r = -1) ∨ (l.contains x = true ∧ r = (l.idxOf x : Nat))) := by
 generalize he : callR _ _ _ _ = r
 rw [enter134 _ _ _ (hx1 _) rfl] at he
 obtain ⟨tm', ⟨e, hz⟩ | ⟨j, e, ht, hz, hj⟩⟩ := ix_loopU tab h b o n c l x hg hl hn n 0 ((((((Tr.leaf.set 0 (.slice (some ⟨b, o, none⟩) n c)).set 1 (.int .u64 x)).set 4 (.int .i64 0)).set 6 (.slice (some ⟨b, o, none⟩) n c)).set 7 (.int .i64 n)).set 8 (.int .i64 0)) (by omega)
  (by simp only [Tr.get_set, Nat.reduceEqDiff, ↓reduceIte]) (by simp only [Tr.get_set, Nat.reduceEqDiff, ↓reduceIte]) (by simp only [Tr.get_set, Nat.reduceEqDiff, ↓reduceIte]) (by simp only [Tr.get_set, Nat.reduceEqDiff, ↓reduceIte]; rfl)
 ·rw [List.drop_zero] at hz
  rw [ixLoopU] at e
  simp only [sS, sevalprocAttr, fF134, tT, e] at he
  subst he
  exact ⟨_, rfl, .inl ⟨hz, rfl⟩⟩
 ·rw [List.drop_zero] at hz hj
  rw [ixLoopU] at e
  simp only [sS, sevalprocAttr, fF134, tT, e, ht] at he
  subst he
  exact ⟨_, rfl, .inr ⟨hz, by omega⟩⟩
theorem contains_runU (tab : Tab) (hx0 : ∀ l, callExt (EV tab) 112 l = none) (hx1 : ∀ l, callExt (EV tab) 134 l = none) (h : H) (b o n c : Nat) (l : List Int) (x : Int) (hg : ∀ i (v : Int), l[i]? = some v → subD (EV tab) h b (o + i * 1) 1 = some [.int .u64 v]) (hl : l.length = n) (hn : n < 1000000) :
  callR (EV tab) 112 [.slice (some ⟨b, o, none⟩) n c, .int .u64 x] h = some (.bool (l.contains x), h) := by
 obtain ⟨r, e, hr⟩ := ix_runU tab hx1 h b o n c l x hg hl hn
 generalize he : callR _ _ _ _ = r0
 rw [enter112 _ _ _ (hx0 _) rfl] at he
 rcases hr with ⟨h1, rfl⟩ | ⟨h1, rfl⟩
 ·simp only [sS, sevalprocAttr, fF112, tT, e, iGeq, ge_iff_le] at he
  subst he
  rw [h1]; rfl
 ·simp only [sS, sevalprocAttr, fF112, tT, e, iGeq, ge_iff_le, Int.natCast_nonneg, decide_true] at he
  subst he
  rw [h1]
noncomputable def ixLoopI : Code := .loop (.seq (Rg 123 2) (.seq (.cond (Operand.tmp 9) .skip (Code.exit 0)) (.seq (.block 1 (.seq (Rg 123 3) (.seq (Rg 123 4) (.cond (Operand.tmp 16) (.seq (Rg 123 5) .ret) .skip)))) (Rg 123 6))))
theorem ix_loopI (tab : Tab) (h : H) (b o n c : Nat) (l : List Int) (x : Int) (hg : ∀ i (v : Int), l[i]? = some v → subD (EV tab) h b (o + i * 1) 1 = some [.int .i64 v]) (hl : l.length = n) (hn : n < 1000000) :
  ∀ (k i : Nat) (tm : Tr Value), i + k = n → tm.get 0 = some (.slice (some ⟨b, o, none⟩) n c) → tm.get 1 = some (.int .i64 x) → tm.get 7 = some (.int .i64 n) → tm.get 8 = some (.int .i64 i) →
  ∃ tm', (exR (EV tab) ixLoopI ⟨false, 19, tm, h⟩ = some (.exit 0, ⟨false, 19, tm', h⟩) ∧ (l.drop i).contains x = false) ∨
   (∃ j : Nat, exR (EV tab) ixLoopI ⟨false, 19, tm, h⟩ = some (.ret, ⟨false, 19, tm', h⟩) ∧ tm'.get 4 = some (.int .i64 j) ∧ (l.drop i).contains x = true ∧ (l.drop i).idxOf x + i = j) := by
 intro k
 induction k with
 | zero =>
  intro i tm hk t0 t1 t7 t8
  have hi : ¬ i < n := by omega
  generalize he : exR (EV tab) ixLoopI ⟨false, 19, tm, h⟩ = r
  rw [ixLoopI, exR_loop] at he
  simp only [sS, sevalprocAttr, fF123, tT, sN, sM, t7, t8, iLss, Int.ofNat_lt, hi, decide_false] at he
  subst he
  exact ⟨_, .inl ⟨rfl, by rw [List.drop_eq_nil_of_le (by omega)]; rfl⟩⟩
 | succ k ih =>
  intro i tm hk t0 t1 t7 t8
  have hi : i < n := by omega
  have hlt : i < l.length := by omega
  have hd : l.drop i = l[i] :: l.drop (i + 1) := (List.getElem_cons_drop hlt).symm
  have hs := hg i l[i] (by simp)
  rw [Nat.mul_one] at hs
  by_cases hx : x = l[i]
  ·have hq : (x == l[i]) = true := by simpa using hx
   generalize he : exR (EV tab) ixLoopI ⟨false, 19, tm, h⟩ = r
   rw [ixLoopI, exR_loop] at he
   simp only [sS, sevalprocAttr, fF123, tT, oIndexAddr, indexAddrD, oLoad, loadD, isAggD, Nat.mul_one, Bool.false_eq_true, t0, t1, t7, t8, iLss, Int.ofNat_lt, hi, decide_true, Int.natCast_nonneg, and_self, Int.toNat_natCast, hs, iEql, hq] at he
   subst he
   exact ⟨_, .inr ⟨i, rfl, by simp only [Tr.get_set, Nat.reduceEqDiff, ↓reduceIte], by rw [hd, ← hx]; simp, by rw [hd, ← hx]; simp⟩⟩
  ·have hq : (x == l[i]) = false := by simpa using hx
   obtain ⟨tm1, e1, a0, a1, a7, a8⟩ : ∃ tm1, exR (EV tab) ixLoopI ⟨false, 19, tm, h⟩ = exR (EV tab) ixLoopI ⟨false, 19, tm1, h⟩ ∧ tm1.get 0 = some (.slice (some ⟨b, o, none⟩) n c) ∧ tm1.get 1 = some (.int .i64 x) ∧ tm1.get 7 = some (.int .i64 n) ∧ tm1.get 8 = some (.int .i64 ((i + 1 : Nat) : Int)) := by
    generalize he : exR (EV tab) ixLoopI ⟨false, 19, tm, h⟩ = r
    rw [ixLoopI, exR_loop] at he
    simp only [sS, sevalprocAttr, fF123, tT, oIndexAddr, indexAddrD, oLoad, loadD, isAggD, Nat.mul_one, Bool.false_eq_true, t0, t1, t7, t8, iLss, Int.ofNat_lt, hi, decide_true, Int.natCast_nonneg, and_self, Int.toNat_natCast, hs, iEql, hq, add1 i (by omega)] at he
    subst he
    refine ⟨_, rfl, ?_, ?_, ?_, ?_⟩ <;> simp only [Tr.get_set, Nat.reduceEqDiff, ↓reduceIte, t0, t1, t7]
   have hne : (l[i] == x) = false := by simpa using fun h => hx h.symm
   obtain ⟨tm', ⟨u1, u2⟩ | ⟨j, u1, u2, u3, u4⟩⟩ := ih (i + 1) tm1 (by omega) a0 a1 a7 a8
   ·exact ⟨tm', .inl ⟨by rw [e1]; exact u1, by rw [hd, List.contains_cons, hq, u2]; rfl⟩⟩
   ·exact ⟨tm', .inr ⟨j, by rw [e1]; exact u1, u2, by rw [hd, List.contains_cons, u3, Bool.or_true], by rw [hd, List.idxOf_cons, hne]; simp only [cond_false]; omega⟩⟩
theorem ix_runI (tab : Tab) (hx1 : ∀ l, callExt (EV tab) 123 l = none) (h : H) (b o n c : Nat) (l : List Int) (x : Int) (hg : ∀ i (v : Int), l[i]? = some v → subD (EV tab) h b (o + i * 1) 1 = some [.int .i64 v]) (hl : l.length = n) (hn : n < 1000000) :
  ∃ r : Int, callR (EV tab) 123 [.slice (some ⟨b, o, none⟩) n c, .int .i64 x] h = some (.int .i64 r, h) ∧ ((l.contains x = false ∧ r = -1) ∨ (l.contains x = true ∧ r = (l.idxOf x : Nat))) := by
 generalize he : callR _ _ _ _ = r
 rw [enter123 _ _ _ (hx1 _) rfl] at he
 obtain ⟨tm', ⟨e, hz⟩ | ⟨j, e, ht, hz, hj⟩⟩ := ix_loopI tab h b o n c l x hg hl hn n 0 ((((((Tr.leaf.set 0 (.slice (some ⟨b, o, none⟩) n c)).set 1 (.int .i64 x)).set 4 (.int .i64 0)).set 6 (.slice (some ⟨b, o, none⟩) n c)).set 7 (.int .i64 n)).set 8 (.int .i64 0)) (by omega)
  (by simp only [Tr.get_set, Nat.reduceEqDiff, ↓reduceIte]) (by simp only [Tr.get_set, Nat.reduceEqDiff, ↓reduceIte]) (by simp only [Tr.get_set, Nat.reduceEqDiff, ↓reduceIte]) (by simp only [Tr.get_set, Nat.reduceEqDiff, ↓reduceIte]; rfl)
 ·rw [List.drop_zero] at hz
  rw [ixLoopI] at e
  simp only [sS, sevalprocAttr, fF123, tT, e] at he
  subst he
  exact ⟨_, rfl, .inl ⟨hz, rfl⟩⟩
 ·rw [List.drop_zero] at hz hj
  rw [ixLoopI] at e
  simp only [sS, sevalprocAttr, fF123, tT, e, ht] at he
  subst he
  exact ⟨_, rfl, .inr ⟨hz, by omega⟩⟩
theorem contains_runI (tab : Tab) (hx0 : ∀ l, callExt (EV tab) 96 l = none) (hx1 : ∀ l, callExt (EV tab) 123 l = none) (h : H) (b o n c : Nat) (l : List Int) (x : Int) (hg : ∀ i (v : Int), l[i]? = some v → subD (EV tab) h b (o + i * 1) 1 = some [.int .i64 v]) (hl : l.length = n) (hn : n < 1000000) :
  callR (EV tab) 96 [.slice (some ⟨b, o, none⟩) n c, .int .i64 x] h = some (.bool (l.contains x), h) := by
 obtain ⟨r, e, hr⟩ := ix_runI tab hx1 h b o n c l x hg hl hn
 generalize he : callR _ _ _ _ = r0
 rw [enter96 _ _ _ (hx0 _) rfl] at he
 rcases hr with ⟨h1, rfl⟩ | ⟨h1, rfl⟩
 ·simp only [sS, sevalprocAttr, fF96, tT, e, iGeq, ge_iff_le] at he
  subst he
  rw [h1]; rfl
 ·simp only [sS, sevalprocAttr, fF96, tT, e, iGeq, ge_iff_le, Int.natCast_nonneg, decide_true] at he
  subst he
  rw [h1]
def insL (op : Int) (t u : List UInt8) (num imm size : Int) : List Value := [.int .i64 op, .string ⟨⟨t⟩⟩, .string ⟨⟨u⟩⟩, .int .u64 num, .int .i64 imm, .int .i64 size]
def insV (op : Int) (t u : List UInt8) (num imm size : Int) : Value := .agg ⟨insL op t u num imm size⟩
def freeV : Spec
 | [.agg ⟨[.int .i64 _, .string _, .string _, .int .u64 _, .int .i64 _, .int .i64 _]⟩] => some (.bool true)
 | _ => none
def nearB (imm : Int) : Bool := decide (-2147483648 ≤ imm) && decide (imm < 2147483648)
def nearV : Spec
 | [.agg ⟨[.int .i64 _, .string _, .string _, .int .u64 _, .int .i64 imm, .int .i64 _]⟩] => some (.bool (nearB imm))
 | _ => none
def alignB (num : Int) : Bool := [1, 2, 4, 8, 16].contains num
def alignedV : Spec
 | [.agg ⟨[.int .i64 _, .string _, .string _, .int .u64 num, .int .i64 _, .int .i64 _]⟩] => some (.bool (alignB num))
 | _ => none
def enterB (num imm size : Int) : Bool := decide (num ≤ 9999) && decide (0 ≤ imm) && decide (imm ≤ num) && decide (0 ≤ size) && decide (size ≤ 65536)
def enteredV : Spec
 | [.agg ⟨[.int .i64 _, .string _, .string _, .int .u64 num, .int .i64 imm, .int .i64 size]⟩] => if 0 ≤ num then some (.bool (enterB num imm size)) else none
 | _ => none
theorem f_free {T : List (Nat × Spec)} (hT : Fine T) (hx : ∀ l, callExt (EV (tabL T)) 78 l = none) : Fine ((78, freeV) :: T) :=
 hT.step (F := Tryz.f78) (by kernel_rfl) (by kernel_rfl) hx fun args v hv => by
  unfold freeV at hv
  split at hv
  ·cases hv
   refine ⟨rfl, rfl, ?_⟩
   generalize he : callR _ _ _ _ = r
   rw [enter78 _ _ _ (hx _) rfl] at he
   simp only [sS, sevalprocAttr, fF78, tT, sN, sM] at he
   subst he
   exact ⟨_, rfl⟩
  ·cases hv
theorem h0_next : h0.next = 17 := rfl
theorem f_near {T : List (Nat × Spec)} (hT : Fine T) (hx : ∀ l, callExt (EV (tabL T)) 80 l = none) : Fine ((80, nearV) :: T) :=
 hT.step (F := Tryz.f80) (by kernel_rfl) (by kernel_rfl) hx fun args v hv => by
  unfold nearV at hv
  split at hv
  ·rename_i imm _
   cases hv
   refine ⟨rfl, rfl, ?_⟩
   generalize he : callR _ _ _ _ = r
   rw [enter80 _ _ _ (hx _) rfl] at he
   unfold nearB
   by_cases h1 : -2147483648 ≤ imm
   ·simp only [sS, sevalprocAttr, fF80, tT, sN, sM, ng_eq, tabL_ng, h0_next, iGeq, iLss, ge_iff_le, h1, decide_true] at he
    subst he
    simp only [h1, decide_true, Bool.true_and]
    exact ⟨_, rfl⟩
   ·simp only [sS, sevalprocAttr, fF80, tT, sN, sM, ng_eq, tabL_ng, h0_next, iGeq, iLss, ge_iff_le, h1, decide_false] at he
    subst he
    simp only [h1, decide_false, Bool.false_and]
    exact ⟨_, rfl⟩
  ·cases hv
theorem f_aligned {T : List (Nat × Spec)} (hT : Fine T) (hx : ∀ l, callExt (EV (tabL T)) 81 l = none) (hx1 : ∀ l, callExt (EV (tabL T)) 112 l = none) (hx2 : ∀ l, callExt (EV (tabL T)) 134 l = none) :
  Fine ((81, alignedV) :: T) :=
 hT.step (F := Tryz.f81) (by kernel_rfl) (by kernel_rfl) hx fun args v hv => by
  unfold alignedV at hv
  split at hv
  ·rename_i op t u num imm size
   cases hv
   refine ⟨rfl, rfl, ?_⟩
   have e := contains_runU (tabL T) hx1 hx2 ((h0.push (.cells 39 6 [.int .i64 op, .string t, .string u, .int .u64 num, .int .i64 imm, .int .i64 size])).push (.cells 34 1 [.int .u64 1, .int .u64 2, .int .u64 4, .int .u64 8, .int .u64 16])) 18 0 5 11
    [1, 2, 4, 8, 16] num (fun i v hv => by
     match i, hv with
     | 0, hv => cases hv; rfl
     | 1, hv => cases hv; rfl
     | 2, hv => cases hv; rfl
     | 3, hv => cases hv; rfl
     | 4, hv => cases hv; rfl
     | n + 5, hv => simp at hv) rfl (by decide)
   generalize he : callR _ _ _ _ = r
   rw [enter81 _ _ _ (hx _) rfl] at he
   simp only [sS, sevalprocAttr, fF81, tT, sN, sM, ng_eq, tabL_ng, h0_next, e] at he
   subst he
   exact ⟨_, rfl⟩
  ·cases hv
theorem f_entered {T : List (Nat × Spec)} (hT : Fine T) (hx : ∀ l, callExt (EV (tabL T)) 82 l = none) : Fine ((82, enteredV) :: T) :=
 hT.step (F := Tryz.f82) (by kernel_rfl) (by kernel_rfl) hx fun args v hv => by
  unfold enteredV at hv
  split at hv
  ·rename_i op t u num imm size
   split at hv
   ·rename_i h0n
    cases hv
    refine ⟨rfl, rfl, ?_⟩
    generalize he : callR _ _ _ _ = r
    rw [enter82 _ _ _ (hx _) rfl] at he
    unfold enterB
    by_cases h1 : num ≤ 9999
    ·have hw : IntKind.i64.wrap num = num := IntWalk.i64_in _ ⟨by omega, by omega⟩
     by_cases h2 : 0 ≤ imm
     ·by_cases h3 : imm ≤ num
      ·by_cases h4 : 0 ≤ size
       ·by_cases h5 : size ≤ 65536
        ·simp only [sS, sevalprocAttr, fF82, tT, sN, sM, ng_eq, tabL_ng, h0_next, iGeq, iLeq, ge_iff_le, hw, h1, h2, h3, h4, h5, decide_true] at he
         subst he
         simp only [h1, h2, h3, h4, h5, decide_true, Bool.and_self]; exact ⟨_, rfl⟩
        ·simp only [sS, sevalprocAttr, fF82, tT, sN, sM, ng_eq, tabL_ng, h0_next, iGeq, iLeq, ge_iff_le, hw, h1, h2, h3, h4, h5, decide_true, decide_false] at he
         subst he
         simp only [h5, decide_false, Bool.and_false]; exact ⟨_, rfl⟩
       ·simp only [sS, sevalprocAttr, fF82, tT, sN, sM, ng_eq, tabL_ng, h0_next, iGeq, iLeq, ge_iff_le, hw, h1, h2, h3, h4, decide_true, decide_false] at he
        subst he
        simp only [h4, decide_false, Bool.and_false, Bool.false_and]; exact ⟨_, rfl⟩
      ·simp only [sS, sevalprocAttr, fF82, tT, sN, sM, ng_eq, tabL_ng, h0_next, iGeq, iLeq, ge_iff_le, hw, h1, h2, h3, decide_true, decide_false] at he
       subst he
       simp only [h3, decide_false, Bool.and_false, Bool.false_and]; exact ⟨_, rfl⟩
     ·simp only [sS, sevalprocAttr, fF82, tT, sN, sM, ng_eq, tabL_ng, h0_next, iGeq, iLeq, ge_iff_le, hw, h1, h2, decide_true, decide_false] at he
      subst he
      simp only [h2, decide_false, Bool.and_false, Bool.false_and]; exact ⟨_, rfl⟩
    ·simp only [sS, sevalprocAttr, fF82, tT, sN, sM, ng_eq, tabL_ng, h0_next, iGeq, iLeq, ge_iff_le, h1, decide_true, decide_false] at he
     subst he
     simp only [h1, decide_false, Bool.false_and]; exact ⟨_, rfl⟩
   ·cases hv
  ·cases hv
def belowF (b : Nat) : Value := .func (.func 111) #[] #[.pointer (some ⟨b, 0, none⟩)]
theorem below_run (tab : Tab) (hx : ∀ l, callExt (EV tab) 79 l = none) (n : Int) (h : H) : callR (EV tab) 79 [.int .u64 n] h = some (belowF h.next, h.push (.cells 34 1 [.int .u64 n])) := by
 generalize he : callR _ _ _ _ = r
 rw [enter79 _ _ _ (hx _) rfl] at he
 simp only [sS, sevalprocAttr, fF79, tT, sN, sM] at he
 exact he.symm
theorem below1_run (tab : Tab) (hx : ∀ l, callExt (EV tab) 111 l = none) (n : Int) (h : H) (b : Nat) (hb : tab.ng ≤ b) (hbn : b < h.next) (hg : h.get b = some (.cells 34 1 [.int .u64 n])) (op : Int) (t u : List UInt8) (num imm size : Int) :
  callR (EV tab) 111 [insV op t u num imm size, .pointer (some ⟨b, 0, none⟩)] h = some (.bool (decide (num ≤ n)), h.push (.cells 39 6 (insL op t u num imm size))) := by
 have hne : ¬ h.next = b := by omega
 have hnn : ¬ h.next < tab.ng := by omega
 generalize he : callR _ _ _ _ = r
 rw [enter111 _ _ _ (hx _) rfl] at he
 simp only [sS, sevalprocAttr, fF111, tT, sN, sM, insV, insL, ng_eq, tabL_ng, Nat.not_lt.2 hb, hne, hnn, hg, iLeq] at he
 exact he.symm
inductive Right where
 | free | near | aligned | entered
 | below (i : Nat) (n : Int)
structure KindR where
 name : List UInt8
 uses : List UInt8
 pops : Int
 puts : Int
 right : Right
def kindT : List KindR := [
 ⟨[99, 111, 110, 115, 116], [110], 0, 1, .free⟩,
 ⟨[119, 111, 114, 100], [119], 0, 1, .free⟩,
 ⟨[103, 101, 116], [110], 0, 1, .below 0 9999⟩,
 ⟨[115, 101, 116], [110], 1, 0, .below 1 9999⟩,
 ⟨[116, 101, 101], [110], 1, 1, .below 2 9999⟩,
 ⟨[100, 114, 111, 112], [], 1, 0, .free⟩,
 ⟨[117, 110, 97, 114, 121], [84, 110], 1, 1, .below 3 255⟩,
 ⟨[98, 105, 110, 97, 114, 121], [84, 110], 2, 1, .below 4 255⟩,
 ⟨[99, 111, 110, 118, 101, 114, 116], [84, 85, 110], 1, 1, .below 5 255⟩,
 ⟨[108, 111, 97, 100], [84, 115], 1, 1, .near⟩,
 ⟨[115, 116, 111, 114, 101], [84, 115], 2, 0, .near⟩,
 ⟨[108, 101, 97], [115], 1, 1, .near⟩,
 ⟨[105, 110, 100, 101, 120], [115], 2, 1, .near⟩,
 ⟨[99, 111, 112, 121], [110], 2, 0, .below 6 2147483647⟩,
 ⟨[97, 108, 108, 111, 99], [110], 1, 1, .aligned⟩,
 ⟨[102, 114, 101, 101], [], 1, 0, .free⟩,
 ⟨[111, 117, 116], [84], 1, 0, .free⟩,
 ⟨[112, 114, 105, 110, 116], [], 2, 0, .free⟩,
 ⟨[116, 114, 97, 99, 101], [], 0, 0, .free⟩,
 ⟨[102, 111, 114, 103, 101, 116], [], 0, 0, .free⟩,
 ⟨[106, 117, 109, 112], [100], 0, 0, .near⟩,
 ⟨[98, 114, 97, 110, 99, 104], [100], 1, 0, .near⟩,
 ⟨[99, 97, 115, 101], [84, 119, 100], 1, 1, .near⟩,
 ⟨[99, 97, 108, 108], [100], 0, 0, .near⟩,
 ⟨[101, 110, 116, 101, 114], [80, 76, 70], 0, 0, .entered⟩,
 ⟨[114, 101, 116, 117, 114, 110], [110], 0, 0, .below 7 1⟩,
 ⟨[102, 114, 97, 109, 101], [110], 0, 1, .below 8 65536⟩,
 ⟨[116, 114, 97, 112], [110], 0, 0, .below 9 12⟩,
 ⟨[99, 114, 97, 115, 104], [110], 0, 0, .below 10 18⟩]
def rightV (base : Nat) : Right → Value
 | .free => .func (.func 78) #[] #[]
 | .near => .func (.func 80) #[] #[]
 | .aligned => .func (.func 81) #[] #[]
 | .entered => .func (.func 82) #[] #[]
 | .below i _ => belowF (base + i)
def kindL (base : Nat) (k : KindR) : List Value := [.string ⟨⟨k.name⟩⟩, .string ⟨⟨k.uses⟩⟩, .int .i64 k.pops, .int .i64 k.puts, rightV base k.right]
def kindCells (base : Nat) : List Value := kindT.flatMap (kindL base)
def kindBounds : List Int := [9999, 9999, 9999, 255, 255, 255, 2147483647, 1, 65536, 12, 18]
def kindHeap (h : H) : H := kindBounds.foldl (fun h n => h.push (.cells 34 1 [.int .u64 n])) h
theorem kinds_run (tab : Tab) (hx : ∀ l, callExt (EV tab) 47 l = none) (hx1 : ∀ l, callExt (EV tab) 79 l = none) (h : H) :
  callR (EV tab) 47 [] h = some (.slice (some ⟨h.next + 11, 0, none⟩) 29 59, (kindHeap h).push (.cells 73 5 (kindCells h.next))) := by
 have hb := below_run tab hx1
 generalize he : callR _ _ _ _ = r
 rw [enter47 _ _ _ (hx _) rfl] at he
 simp only [sS, sevalprocAttr, fF47, tT, sN, sM, hb, belowF] at he
 rw [← he]
 rfl
theorem kind_sub (e base : Nat) : ∀ (k : Nat) (r : KindR), kindT[k]? = some r → Obj.sub (.cells e 5 (kindCells base)) (0 + k * 5) 5 = some (kindL base r)
 | 0, r, h => by cases h; rfl
 | 1, r, h => by cases h; rfl
 | 2, r, h => by cases h; rfl
 | 3, r, h => by cases h; rfl
 | 4, r, h => by cases h; rfl
 | 5, r, h => by cases h; rfl
 | 6, r, h => by cases h; rfl
 | 7, r, h => by cases h; rfl
 | 8, r, h => by cases h; rfl
 | 9, r, h => by cases h; rfl
 | 10, r, h => by cases h; rfl
 | 11, r, h => by cases h; rfl
 | 12, r, h => by cases h; rfl
 | 13, r, h => by cases h; rfl
 | 14, r, h => by cases h; rfl
 | 15, r, h => by cases h; rfl
 | 16, r, h => by cases h; rfl
 | 17, r, h => by cases h; rfl
 | 18, r, h => by cases h; rfl
 | 19, r, h => by cases h; rfl
 | 20, r, h => by cases h; rfl
 | 21, r, h => by cases h; rfl
 | 22, r, h => by cases h; rfl
 | 23, r, h => by cases h; rfl
 | 24, r, h => by cases h; rfl
 | 25, r, h => by cases h; rfl
 | 26, r, h => by cases h; rfl
 | 27, r, h => by cases h; rfl
 | 28, r, h => by cases h; rfl
 | n + 29, r, h => by simp [kindT] at h
theorem kindHeap_next (h : H) : (kindHeap h).next = h.next + 11 := rfl
theorem kindHeap_kept (h : H) : Kept h (kindHeap h) := (((((((((((Kept.refl h).push _).push _).push _).push _).push _).push _).push _).push _).push _).push _).push _
theorem kindHeap_get (h : H) : ∀ (i : Nat) (n : Int), kindBounds[i]? = some n → (kindHeap h).get (h.next + i) = some (.cells 34 1 [.int .u64 n])
 | 0, n, e => by cases e; simp only [Nat.add_zero, kindHeap, kindBounds, List.foldl, H.get_push, H.next_push, Nat.add_assoc, Nat.reduceAdd, Nat.add_left_cancel_iff, Nat.reduceEqDiff, ↓reduceIte, Nat.add_eq_left]
 | 1, n, e => by cases e; simp only [kindHeap, kindBounds, List.foldl, H.get_push, H.next_push, Nat.add_assoc, Nat.reduceAdd, Nat.add_left_cancel_iff, Nat.reduceEqDiff, ↓reduceIte, Nat.add_eq_left]
 | 2, n, e => by cases e; simp only [kindHeap, kindBounds, List.foldl, H.get_push, H.next_push, Nat.add_assoc, Nat.reduceAdd, Nat.add_left_cancel_iff, Nat.reduceEqDiff, ↓reduceIte, Nat.add_eq_left]
 | 3, n, e => by cases e; simp only [kindHeap, kindBounds, List.foldl, H.get_push, H.next_push, Nat.add_assoc, Nat.reduceAdd, Nat.add_left_cancel_iff, Nat.reduceEqDiff, ↓reduceIte, Nat.add_eq_left]
 | 4, n, e => by cases e; simp only [kindHeap, kindBounds, List.foldl, H.get_push, H.next_push, Nat.add_assoc, Nat.reduceAdd, Nat.add_left_cancel_iff, Nat.reduceEqDiff, ↓reduceIte, Nat.add_eq_left]
 | 5, n, e => by cases e; simp only [kindHeap, kindBounds, List.foldl, H.get_push, H.next_push, Nat.add_assoc, Nat.reduceAdd, Nat.add_left_cancel_iff, Nat.reduceEqDiff, ↓reduceIte, Nat.add_eq_left]
 | 6, n, e => by cases e; simp only [kindHeap, kindBounds, List.foldl, H.get_push, H.next_push, Nat.add_assoc, Nat.reduceAdd, Nat.add_left_cancel_iff, Nat.reduceEqDiff, ↓reduceIte, Nat.add_eq_left]
 | 7, n, e => by cases e; simp only [kindHeap, kindBounds, List.foldl, H.get_push, H.next_push, Nat.add_assoc, Nat.reduceAdd, Nat.add_left_cancel_iff, Nat.reduceEqDiff, ↓reduceIte, Nat.add_eq_left]
 | 8, n, e => by cases e; simp only [kindHeap, kindBounds, List.foldl, H.get_push, H.next_push, Nat.add_assoc, Nat.reduceAdd, Nat.add_left_cancel_iff, Nat.reduceEqDiff, ↓reduceIte, Nat.add_eq_left]
 | 9, n, e => by cases e; simp only [kindHeap, kindBounds, List.foldl, H.get_push, H.next_push, Nat.add_assoc, Nat.reduceAdd, Nat.add_left_cancel_iff, Nat.reduceEqDiff, ↓reduceIte, Nat.add_eq_left]
 | 10, n, e => by cases e; simp only [kindHeap, kindBounds, List.foldl, H.get_push, H.next_push, Nat.add_assoc, Nat.reduceAdd, Nat.add_left_cancel_iff, Nat.reduceEqDiff, ↓reduceIte, Nat.add_eq_left]
 | n + 11, m, e => by simp [kindBounds] at e
def kindH (h : H) : H := (kindHeap h).push (.cells 73 5 (kindCells h.next))
theorem kindH_next (h : H) : (kindH h).next = h.next + 12 := rfl
theorem kindH_kept (h : H) : Kept h (kindH h) := (kindHeap_kept h).push _
theorem kindH_get (h : H) (i : Nat) (n : Int) (e : kindBounds[i]? = some n) : (kindH h).get (h.next + i) = some (.cells 34 1 [.int .u64 n]) := by
 have hi : i < 11 := by
  have := (List.getElem?_eq_some_iff.1 e).1
  simpa [kindBounds] using this
 rw [kindH, H.get_push_lt _ _ (by rw [kindHeap_next]; omega)]
 exact kindHeap_get h i n e
def kindZ : List Value := [.string ⟨⟨[]⟩⟩, .string ⟨⟨[]⟩⟩, .int .i64 0, .int .i64 0, .nilFunc]
theorem rightV_one (b : Nat) (r : Right) : isOne (rightV b r) = true := by cases r <;> rfl
theorem kindOf_in (tab : Tab) (hx : ∀ l, callExt (EV tab) 23 l = none) (hx1 : ∀ l, callExt (EV tab) 47 l = none) (hx2 : ∀ l, callExt (EV tab) 79 l = none) (h : H) (hng : tab.ng ≤ h.next) (k : Nat) (r : KindR) (hk : kindT[k]? = some r) :
  ∃ h', callR (EV tab) 23 [.int .i64 k] h = some (.tuple ⟨[.agg ⟨kindL (h.next + 1) r⟩, .bool true]⟩, h') ∧ Kept h h' ∧ h'.next = h.next + 13 ∧ ∀ i n, kindBounds[i]? = some n → h'.get (h.next + 1 + i) = some (.cells 34 1 [.int .u64 n]) := by
 have e := kinds_run tab hx1 hx2 (h.push (.cells 73 5 kindZ))
 have hlt : k < 29 := by
  have := (List.getElem?_eq_some_iff.1 hk).1
  simpa [kindT] using this
 have hi1 : ¬ (k : Int) < 0 := by omega
 have hi2 : ¬ (29 : Int) ≤ k := by omega
 have hi3 : (k : Int) < 29 := by omega
 have hsub := kind_sub 73 (h.next + 1) k r hk
 rw [Nat.zero_add] at hsub
 have hkp := kindH_kept (h.push (.cells 73 5 kindZ))
 have hg : (kindH (h.push (.cells 73 5 kindZ))).get (h.next + 12) = some (.cells 73 5 (kindCells (h.next + 1))) := H.get_push_self _ _
 have hz : (kindH (h.push (.cells 73 5 kindZ))).get h.next = some (.cells 73 5 kindZ) := by rw [hkp.get _ (Nat.lt_succ_self _)]; exact H.get_push_self _ _
 have hn := kindH_next (h.push (.cells 73 5 kindZ))
 have hnn : ¬ h.next + 12 < tab.ng := by omega
 have hn0 : ¬ h.next < tab.ng := by omega
 have hget := kindH_get (h.push (.cells 73 5 kindZ))
 change callR (EV tab) 47 [] _ = some (.slice (some ⟨h.next + 12, 0, none⟩) 29 59, kindH (h.push (.cells 73 5 kindZ))) at e
 rw [H.next_push] at hn hget
 have hk1 := (Kept.refl h).push (.cells 73 5 kindZ)
 generalize kindH (h.push (.cells 73 5 kindZ)) = h1 at *
 simp only [kindZ] at e hz hk1
 generalize he : callR _ _ _ _ = r0
 rw [enter23 _ _ _ (hx _) rfl] at he
 simp only [sS, sevalprocAttr, fF23, tT, sN, subD, ng_eq, tabL_ng, e, iLss, iGeq, ge_iff_le, hi1, hi2, hi3, decide_false, Int.natCast_nonneg, Int.toNat_natCast, hnn, hn0, hg, hz, hsub, Int.cast_ofNat_Int, kindL, rightV_one] at he
 subst he
 refine ⟨_, rfl, ?_, ?_, fun i n hi => ?_⟩
 ·exact ⟨by rw [H.next_put, hn]; omega, fun c hc => by rw [H.get_put, if_neg (by omega), hkp.get c (by rw [H.next_push]; omega), H.get_push_lt _ _ hc]⟩
 ·rw [H.next_put, hn]
 ·rw [H.get_put, if_neg (by omega)]
  exact hget i n hi
theorem kindOf_out (tab : Tab) (hx : ∀ l, callExt (EV tab) 23 l = none) (hx1 : ∀ l, callExt (EV tab) 47 l = none) (hx2 : ∀ l, callExt (EV tab) 79 l = none) (h : H) (hng : tab.ng ≤ h.next) (k : Int) (hk : k < 0 ∨ 29 ≤ k) :
  ∃ h', callR (EV tab) 23 [.int .i64 k] h = some (.tuple ⟨[.agg ⟨kindZ⟩, .bool false]⟩, h') ∧ Kept h h' := by
 have e := kinds_run tab hx1 hx2 (h.push (.cells 73 5 kindZ))
 have hkp := kindH_kept (h.push (.cells 73 5 kindZ))
 have hz : (kindH (h.push (.cells 73 5 kindZ))).get h.next = some (.cells 73 5 kindZ) := by rw [hkp.get _ (Nat.lt_succ_self _)]; exact H.get_push_self _ _
 have hn0 : ¬ h.next < tab.ng := by omega
 change callR (EV tab) 47 [] _ = some (.slice (some ⟨h.next + 12, 0, none⟩) 29 59, kindH (h.push (.cells 73 5 kindZ))) at e
 have hk1 := (Kept.refl h).push (.cells 73 5 kindZ)
 generalize kindH (h.push (.cells 73 5 kindZ)) = h1 at *
 simp only [kindZ] at e hz hk1 hkp
 generalize he : callR _ _ _ _ = r0
 rw [enter23 _ _ _ (hx _) rfl] at he
 by_cases h1 : k < 0
 ·simp only [sS, sevalprocAttr, fF23, tT, sN, sM, ng_eq, tabL_ng, e, iLss, iGeq, ge_iff_le, h1, decide_true, hn0, hz, Int.cast_ofNat_Int] at he
  subst he
  exact ⟨_, rfl, (hk1.trans hkp).put _ (Nat.le_refl _)⟩
 ·have h2 : 29 ≤ k := by omega
  simp only [sS, sevalprocAttr, fF23, tT, sN, sM, ng_eq, tabL_ng, e, iLss, iGeq, ge_iff_le, h1, h2, decide_true, decide_false, hn0, hz, Int.cast_ofNat_Int] at he
  subst he
  exact ⟨_, rfl, (hk1.trans hkp).put _ (Nat.le_refl _)⟩
theorem uses_run (tab : Tab) (hx : ∀ l, callExt (EV tab) 34 l = none) (hx1 : ∀ (o s : List UInt8) (h : H), asc o = true → asc s = true → callR (EV tab) 61 [.string ⟨⟨o⟩⟩, .string ⟨⟨s⟩⟩] h = some (.bool (hasB o s), h)) (b : Nat) (r : KindR) (s : List UInt8) (ho : asc r.uses = true) (hs : asc s = true) (h : H) (hng : tab.ng ≤ h.next) :
  callR (EV tab) 34 [.agg ⟨kindL b r⟩, .string ⟨⟨s⟩⟩] h = some (.bool (hasB r.uses s), h.push (.cells 73 5 (kindL b r))) := by
 have hnn : ¬ h.next < tab.ng := by omega
 have e := fun h => hx1 r.uses s h ho hs
 generalize he : callR _ _ _ _ = r0
 rw [enter34 _ _ _ (hx _) rfl] at he
 simp only [sS, sevalprocAttr, fF34, tT, sN, sM, kindL, ng_eq, tabL_ng, hnn, e] at he
 exact he.symm
def isD (c : UInt8) : Bool := decide (48 ≤ c.toNat) && decide (c.toNat ≤ 57)
def digB (l : List UInt8) : Bool := l.all isD && !l.isEmpty && (l == [48] || l.head? != some 48)
theorem next_bad (E : Env) (h : H) (b i : Nat) (l : List UInt8) (hb : ¬ b < E.ng) (hg : h.get b = some (.iter ⟨⟨l⟩⟩ i)) (hi : i < l.length) (hd : isD l[i] = false) :
  ∃ (c : Nat) (h' : H), nextD E h (.pointer (some ⟨b, 0, none⟩)) true = some (.tuple ⟨[.bool true, .int .i64 i, .int .i32 c]⟩, h') ∧ (c < 48 ∨ (48 ≤ c ∧ 57 < c)) := by
 have hs : i < (ByteArray.mk ⟨l⟩).size := hi
 refine ⟨(Utf8.decode ⟨⟨l⟩⟩ i).1, h.put b (.iter ⟨⟨l⟩⟩ (i + (Utf8.decode ⟨⟨l⟩⟩ i).2)), ?_, ?_⟩
 ·unfold nextD
  simp only [if_neg hb, hg, if_pos hs]
 ·by_cases ha : (l[i]).toNat < 128
  ·have := decode_ascii ⟨⟨l⟩⟩ i hs ha
   rw [this]
   simp only [isD, Bool.and_eq_false_iff, decide_eq_false_iff_not] at hd
   show (l[i]).toNat < 48 ∨ (48 ≤ (l[i]).toNat ∧ 57 < (l[i]).toNat)
   omega
  ·have := (decode_high ⟨⟨l⟩⟩ i hs (Nat.le_of_not_lt ha)).1
   right; omega
theorem next_ok (E : Env) (h : H) (b i : Nat) (l : List UInt8) (hb : ¬ b < E.ng) (hg : h.get b = some (.iter ⟨⟨l⟩⟩ i)) (hi : i < l.length) (hd : (l[i]).toNat < 128) :
  nextD E h (.pointer (some ⟨b, 0, none⟩)) true = some (.tuple ⟨[.bool true, .int .i64 i, .int .i32 (l[i]).toNat]⟩, h.put b (.iter ⟨⟨l⟩⟩ (i + 1))) := by
 have hs : i < (ByteArray.mk ⟨l⟩).size := hi
 have e : Utf8.decode ⟨⟨l⟩⟩ i = ((l[i]).toNat, 1) := decode_ascii ⟨⟨l⟩⟩ i hs hd
 unfold nextD
 simp only [if_neg hb, hg, if_pos hs, e]
noncomputable def digLoop : Code := .loop (.seq (Rg 215 2) (.seq (.cond (Operand.tmp 8) .skip (Code.exit 0)) (.block 1 (.seq (Rg 215 3) (.seq (Rg 215 4) (.cond (Operand.tmp 15) (.seq (Rg 215 5) .ret) .skip))))))
theorem dig_loop (tab : Tab) (s : List UInt8) (b : Nat) (hb : tab.ng ≤ b) : ∀ (k i : Nat) (h : H) (tm : Tr Value), i + k = s.length → h.get b = some (.iter ⟨⟨s⟩⟩ i) →
  tm.get 6 = some (.pointer (some ⟨b, 0, none⟩)) → tm.get 0 = some (.string ⟨⟨s⟩⟩) →
  ∃ tm' h', ((s.drop i).all isD = true ∧ exR (EV tab) digLoop ⟨false, 27, tm, h⟩ = some (.exit 0, ⟨false, 27, tm', h'⟩) ∧ tm'.get 0 = some (.string ⟨⟨s⟩⟩)) ∨
    ((s.drop i).all isD = false ∧ exR (EV tab) digLoop ⟨false, 27, tm, h⟩ = some (.ret, ⟨false, 27, tm', h'⟩) ∧ tm'.get 2 = some (.bool false)) := by
 intro k
 have hng : ¬ b < (EV tab).ng := by rw [ng_eq]; omega
 induction k with
 | zero =>
  intro i h tm hk hg t6 t0
  have e := next_done (EV tab) h b i s hng hg (by omega)
  generalize he : exR (EV tab) digLoop ⟨false, 27, tm, h⟩ = r
  rw [digLoop, exR_loop] at he
  simp only [sS, sevalprocAttr, fF215, tT, sN, sM, oNext, t6, e] at he
  subst he
  exact ⟨_, h, .inl ⟨by rw [List.drop_eq_nil_of_le (by omega)]; rfl, rfl, by simp only [Tr.get_set, Nat.reduceEqDiff, ↓reduceIte, t0]⟩⟩
 | succ k ih =>
  intro i h tm hk hg t6 t0
  have hi : i < s.length := by omega
  have hd : s.drop i = s[i] :: s.drop (i + 1) := (List.getElem_cons_drop hi).symm
  cases hc : isD s[i] with
  | false =>
   obtain ⟨c, h1, e, hr⟩ := next_bad (EV tab) h b i s hng hg hi hc
   have hall : (s.drop i).all isD = false := by rw [hd, List.all_cons, hc]; rfl
   generalize he : exR (EV tab) digLoop ⟨false, 27, tm, h⟩ = r
   rw [digLoop, exR_loop] at he
   rcases hr with hr | ⟨hr, hr2⟩
   ·have q1 : (c : Int) < 48 := by omega
    simp only [sS, sevalprocAttr, fF215, tT, sN, sM, oNext, t6, e, iLss, q1, decide_true] at he
    subst he
    exact ⟨_, _, .inr ⟨hall, rfl, by simp only [Tr.get_set, Nat.reduceEqDiff, ↓reduceIte]⟩⟩
   ·have q1 : ¬ (c : Int) < 48 := by omega
    have q2 : (57 : Int) < c := by omega
    simp only [sS, sevalprocAttr, fF215, tT, sN, sM, oNext, t6, e, iLss, iGtr, gt_iff_lt, q1, q2, decide_true, decide_false] at he
    subst he
    exact ⟨_, _, .inr ⟨hall, rfl, by simp only [Tr.get_set, Nat.reduceEqDiff, ↓reduceIte]⟩⟩
  | true =>
   have hc' := hc
   simp only [isD, Bool.and_eq_true, decide_eq_true_eq] at hc'
   have e := next_ok (EV tab) h b i s hng hg hi (by omega)
   have q1 : ¬ ((s[i]).toNat : Int) < 48 := by omega
   have q2 : ¬ (57 : Int) < (s[i]).toNat := by omega
   obtain ⟨tm1, e1, q6, q0⟩ : ∃ tm1, exR (EV tab) digLoop ⟨false, 27, tm, h⟩ = exR (EV tab) digLoop ⟨false, 27, tm1, h.put b (.iter ⟨⟨s⟩⟩ (i + 1))⟩ ∧ tm1.get 6 = some (.pointer (some ⟨b, 0, none⟩)) ∧ tm1.get 0 = some (.string ⟨⟨s⟩⟩) := by
    generalize he : exR (EV tab) digLoop ⟨false, 27, tm, h⟩ = r
    rw [digLoop, exR_loop] at he
    simp only [sS, sevalprocAttr, fF215, tT, sN, sM, oNext, t6, e, iLss, iGtr, gt_iff_lt, q1, q2, decide_false] at he
    subst he
    refine ⟨_, rfl, ?_, ?_⟩ <;> simp only [Tr.get_set, Nat.reduceEqDiff, ↓reduceIte, t6, t0]
   rw [e1, hd, List.all_cons, hc, Bool.true_and]
   exact ih (i + 1) _ tm1 (by omega) (by rw [H.get_put, if_pos rfl]) q6 q0
def digV : Spec
 | [.string ⟨⟨s⟩⟩] => some (.bool (digB s))
 | _ => none
theorem bs_beq (a b : List UInt8) : ((ByteArray.mk ⟨a⟩).toList == (ByteArray.mk ⟨b⟩).toList) = (a == b) := by rw [toList_mk, toList_mk]
theorem f_isDigits {T : List (Nat × Spec)} (hT : Fine T) (hx : ∀ l, callExt (EV (tabL T)) 215 l = none) : Fine ((215, digV) :: T) :=
 hT.step (F := Tryz.f215) (by kernel_rfl) (by kernel_rfl) hx fun args v hv => by
  unfold digV at hv
  split at hv
  ·rename_i s
   cases hv
   refine ⟨rfl, rfl, ?_⟩
   generalize he : callR _ _ _ _ = r
   rw [enter215 _ _ _ (hx _) rfl] at he
   obtain ⟨tm', h', n⟩ := dig_loop (tabL T) s 17 (Nat.le_refl 17) s.length 0 (h0.push (.iter ⟨⟨s⟩⟩ 0)) ((((Tr.leaf.set 0 (.string ⟨⟨s⟩⟩)).set 2 (.bool false)).set 5 (.string ⟨⟨s⟩⟩)).set 6 (.pointer (some ⟨17, 0, none⟩)))
    (by omega) (by rw [H.get_push]; rfl) (by simp only [Tr.get_set, Nat.reduceEqDiff, ↓reduceIte]) (by simp only [Tr.get_set, Nat.reduceEqDiff, ↓reduceIte])
   rw [List.drop_zero, digLoop] at n
   rcases n with ⟨n1, n2, n3⟩ | ⟨n1, n2, n3⟩
   ·cases s with
    | nil =>
     simp only [sS, sevalprocAttr, fF215, tT, sN, sM, oRange, h0_next, n2, n3, binStr, strBin, sNeq, bs_beq, Bool.not_true] at he
     subst he
     exact ⟨_, rfl⟩
    | cons c l =>
     have q1 : ((c :: l) == ([] : List UInt8)) = false := rfl
     by_cases q2 : (c :: l) = [48]
     ·cases q2
      simp only [sS, sevalprocAttr, fF215, tT, sN, sM, oRange, h0_next, n2, n3, binStr, strBin, sNeq, sEql, bs_beq, q1, Bool.not_false] at he
      subst he
      exact ⟨_, rfl⟩
     ·have q3 : ((c :: l) == ([48] : List UInt8)) = false := by simpa using q2
      simp only [sS, sevalprocAttr, fF215, tT, sN, sM, oRange, h0_next, n2, n3, binStr, strBin, sNeq, sEql, bs_beq, q1, q3, Bool.not_false, Int.reduceLE, Int.toNat_zero, iNeq] at he
      subst he
      have q4 : digB (c :: l) = ((c.toNat : Int) != 48) := by
       unfold digB
       rw [n1, q3]
       simp only [List.isEmpty_cons, Bool.not_false, Bool.and_self, Bool.false_or, Bool.true_and, List.head?_cons]
       rw [Bool.eq_iff_iff]
       simp only [bne_iff_ne, ne_eq, Option.some.injEq]
       constructor
       ·intro h1 h2; exact h1 (UInt8.toNat_inj.1 (by show c.toNat = 48; omega))
       ·intro h1 h2; exact h1 (by rw [h2]; rfl)
      rw [q4]
      exact ⟨_, rfl⟩
   ·simp only [sS, sevalprocAttr, fF215, tT, sN, sM, oRange, h0_next, n2, n3] at he
    subst he
    have : digB s = false := by unfold digB; rw [n1]; rfl
    rw [this]
    exact ⟨_, rfl⟩
  ·cases hv
def valA (n : Nat) : List UInt8 → Nat
 | [] => n
 | c :: l => valA (n * 10 + (c.toNat - 48)) l
noncomputable def atoiLoop : Code := .loop (.seq (Rg 239 10) (.seq (.cond (Operand.tmp 50) .skip (Code.exit 0)) (.seq (.block 1 (.seq (Rg 239 11) (.seq (Rg 239 12) (.seq (.seq (Rg 239 13) (.cond (Operand.tmp 56) (.seq (Rg 239 14) .ret) .skip)) (Rg 239 15))))) (Rg 239 16))))
theorem sub48 (c : UInt8) (h : isD c = true) : iSub .u8 (c.toNat : Int) 48 = some (.int .u8 ((c.toNat - 48 : Nat) : Int)) := by
 simp only [isD, Bool.and_eq_true, decide_eq_true_eq] at h
 unfold iSub
 rw [IntWalk.u8_in _ (by omega)]
 congr 2; omega
theorem i64_nat (n : Nat) (h : n < 1000000000000) : IntKind.i64.wrap (n : Int) = n := IntWalk.i64_in _ ⟨by omega, by omega⟩
theorem atoi_loop (tab : Tab) (h : H) (b : Nat) (s : List UInt8) (hb : tab.ng ≤ b) (hg : h.get b = some (.cells 5 1 (bs s))) (hd : s.all isD = true) (hl : s.length ≤ 3) :
  ∀ (k i n : Nat) (tm : Tr Value), i + k = s.length → n < 10 ^ i → tm.get 47 = some (.slice (some ⟨b, 0, none⟩) s.length 0) → tm.get 48 = some (.int .i64 s.length) → tm.get 49 = some (.int .i64 i) → tm.get 6 = some (.int .i64 n) →
  ∃ tm', exR (EV tab) atoiLoop ⟨false, 77, tm, h⟩ = some (.exit 0, ⟨false, 77, tm', h⟩) ∧ tm'.get 6 = some (.int .i64 (valA n (s.drop i))) ∧ tm'.get 5 = tm.get 5 := by
 intro k
 induction k with
 | zero =>
  intro i n tm hk hn t47 t48 t49 t6
  have hi : ¬ i < s.length := by omega
  generalize he : exR (EV tab) atoiLoop ⟨false, 77, tm, h⟩ = r
  rw [atoiLoop, exR_loop] at he
  simp only [sS, sevalprocAttr, fF239, tT, sN, sM, t48, t49, iLss, Int.ofNat_lt, hi, decide_false] at he
  subst he
  exact ⟨_, rfl, by rw [List.drop_eq_nil_of_le (by omega)]; simp only [Tr.get_set, Nat.reduceEqDiff, ↓reduceIte, t6]; rfl, by simp only [Tr.get_set, Nat.reduceEqDiff, ↓reduceIte]⟩
 | succ k ih =>
  intro i n tm hk hn t47 t48 t49 t6
  have hi : i < s.length := by omega
  have hdr : s.drop i = s[i] :: s.drop (i + 1) := (List.getElem_cons_drop hi).symm
  have hc : isD s[i] = true := List.all_eq_true.1 hd _ (List.getElem_mem hi)
  have hc' := hc
  simp only [isD, Bool.and_eq_true, decide_eq_true_eq] at hc'
  have hg' : (bs s)[i]? = some (.int .u8 (s[i]).toNat) := by rw [bs, List.getElem?_map, List.getElem?_eq_getElem hi]; rfl
  have hp : (10 : Nat) ^ i ≤ 100 := by
   have : i ≤ 2 := by omega
   exact Nat.pow_le_pow_right (by decide) this
  have q1 : ¬ (9 : Int) < ((s[i]).toNat - 48 : Nat) := by omega
  have q2 : iMul .i64 (n : Int) 10 = some (.int .i64 ((n * 10 : Nat) : Int)) := by
   unfold iMul; rw [IntWalk.i64_in _ ⟨by omega, by omega⟩]; rfl
  have q3 : iAdd .i64 ((n * 10 : Nat) : Int) (((s[i]).toNat - 48 : Nat) : Int) = some (.int .i64 ((n * 10 + ((s[i]).toNat - 48) : Nat) : Int)) := by
   unfold iAdd; rw [IntWalk.i64_in _ ⟨by omega, by omega⟩]; rfl
  have q4 := i64_nat ((s[i]).toNat - 48) (by omega)
  obtain ⟨tm1, e1, a47, a48, a49, a6, a5⟩ : ∃ tm1, exR (EV tab) atoiLoop ⟨false, 77, tm, h⟩ = exR (EV tab) atoiLoop ⟨false, 77, tm1, h⟩ ∧ tm1.get 47 = some (.slice (some ⟨b, 0, none⟩) s.length 0) ∧ tm1.get 48 = some (.int .i64 s.length) ∧ tm1.get 49 = some (.int .i64 ((i + 1 : Nat) : Int)) ∧
    tm1.get 6 = some (.int .i64 ((n * 10 + ((s[i]).toNat - 48) : Nat) : Int)) ∧ tm1.get 5 = tm.get 5 := by
   generalize he : exR (EV tab) atoiLoop ⟨false, 77, tm, h⟩ = r
   rw [atoiLoop, exR_loop] at he
   simp only [sS, sevalprocAttr, fF239, tT, sN, sM, ng_eq, tabL_ng, t47, t48, t49, t6, iLss, iGtr, gt_iff_lt, Int.ofNat_lt, hi, decide_true, decide_false, Int.natCast_nonneg, Int.toNat_natCast, Nat.not_lt.2 hb, hg, hg', sub48 _ hc, q1, q2, q3, q4, add1 i (by omega)] at he
   subst he
   refine ⟨_, rfl, ?_, ?_, ?_, ?_, ?_⟩ <;> simp only [Tr.get_set, Nat.reduceEqDiff, ↓reduceIte, t47, t48]
  obtain ⟨tm', u1, u2, u3⟩ := ih (i + 1) _ tm1 (by omega) (by rw [Nat.pow_succ]; omega) a47 a48 a49 a6
  exact ⟨tm', by rw [e1]; exact u1, by rw [u2, hdr]; rfl, by rw [u3, a5]⟩
def atoiV : Spec
 | [.string ⟨⟨s⟩⟩] => if s.all isD && !s.isEmpty && decide (s.length ≤ 3) then some (.tuple ⟨[.int .i64 (valA 0 s), .nilIface]⟩) else none
 | _ => none
theorem f_atoi0 {T : List (Nat × Spec)} (hT : Fine T) (hx : ∀ l, callExt (EV (tabL T)) 239 l = none) : Fine ((239, atoiV) :: T) :=
 hT.step (F := Tryz.f239) (by kernel_rfl) (by kernel_rfl) hx fun args v hv => by
  unfold atoiV at hv
  split at hv
  ·rename_i s
   split at hv
   ·rename_i hb
    cases hv
    simp only [Bool.and_eq_true, decide_eq_true_eq] at hb
    obtain ⟨⟨hd, hne⟩, hl⟩ := hb
    refine ⟨rfl, rfl, ?_⟩
    obtain ⟨c, hs0⟩ : ∃ c, s[0]? = some c := by
     cases s with
     | nil => cases hne
     | cons c l => exact ⟨c, rfl⟩
    have hpos : 0 < s.length := (List.getElem?_eq_some_iff.1 hs0).1
    have hc : isD c = true := List.all_eq_true.1 hd _ (List.mem_of_getElem? hs0)
    simp only [isD, Bool.and_eq_true, decide_eq_true_eq] at hc
    have q1 : ((c.toNat : Int) == 45) = false := by simp; omega
    have q2 : ((c.toNat : Int) == 43) = false := by simp; omega
    have hsz : (ByteArray.mk ⟨s⟩).size = s.length := rfl
    have q3 : (0 : Int) < (s.length : Nat) := by omega
    have q4 : (s.length : Int) < 19 := by omega
    have hbs : s.map (fun b => Value.int .u8 (b.toNat : Int)) = bs s := rfl
    have hg17 : (h0.push (.cells 5 1 (bs s))).get 17 = some (.cells 5 1 (bs s)) := H.get_push_self h0 _
    have key : ∀ tm h, (h = h0.push (.cells 5 1 (bs s)) ∧ tm.get 47 = some (.slice (some ⟨17, 0, none⟩) s.length 0) ∧ tm.get 48 = some (.int .i64 s.length) ∧ tm.get 49 = some (.int .i64 0) ∧ tm.get 6 = some (.int .i64 0) ∧ tm.get 5 = some (.string ⟨⟨s⟩⟩)) →
      ∃ x s', exR (EV (tabL T)) atoiLoop ⟨false, 77, tm, h⟩ = some (x, s') ∧ ∃ tm', x = .exit 0 ∧ s' = ⟨false, 77, tm', h⟩ ∧ tm'.get 6 = some (.int .i64 (valA 0 s)) ∧ tm'.get 5 = some (.string ⟨⟨s⟩⟩) := by
     rintro tm h ⟨rfl, a, b, c, d, e⟩
     obtain ⟨tm', u1, u2, u3⟩ := atoi_loop (tabL T) (h0.push (.cells 5 1 (bs s))) 17 s (Nat.le_refl 17) hg17 hd hl s.length 0 0 tm (by omega) (by decide) a b c d
     exact ⟨_, _, u1, tm', rfl, rfl, u2, by rw [u3, e]⟩
    generalize he : callR _ _ _ _ = r
    rw [enter239 _ _ _ (hx _) rfl] at he
    simp only [sS, sevalprocAttr, fF239, tT, oIndex, indexD, hsz, hs0, q1, q2, q3, q4, h0_next, ng_eq, tabL_ng, iLss, decide_true, iEql, Int.toNat_zero, Int.reduceLE, oBytes, hbs] at he
    rw [atoiLoop] at key
    obtain ⟨_, _, ⟨tm', rfl, rfl, t6, t5⟩, he⟩ := use_run key (fun o => finish (EV (tabL T)) _ (andThen (andThen (unblock 0 o) _) _)) he (by
     refine ⟨rfl, ?_, ?_, ?_, ?_, ?_⟩ <;> simp only [Tr.get_set, Nat.reduceEqDiff, ↓reduceIte])
    simp only [sS, sevalprocAttr, fF239, tT, oIndex, indexD, hs0, q1, t5, t6, iEql, Int.toNat_zero, Int.reduceLE] at he
    subst he
    exact ⟨_, rfl⟩
   ·cases hv
  ·cases hv
theorem f_atoi {T : List (Nat × Spec)} (hT : Fine T) (hx : ∀ l, callExt (EV (tabL T)) 216 l = none) (h1 : ∀ s v h, atoiV [.string ⟨⟨s⟩⟩] = some v → callR (EV (tabL T)) 239 [.string ⟨⟨s⟩⟩] h = some (v, h)) : Fine ((216, atoiV) :: T) :=
 hT.step (F := Tryz.f216) (by kernel_rfl) (by kernel_rfl) hx fun args v hv => by
  have hv0 := hv
  unfold atoiV at hv
  split at hv
  ·rename_i s
   split at hv
   ·have e := fun h => h1 s v h hv0
    cases hv
    refine ⟨rfl, rfl, ?_⟩
    generalize he : callR _ _ _ _ = r
    rw [enter216 _ _ _ (hx _) rfl] at he
    simp only [sS, sevalprocAttr, fF216, tT, sN, sM, e, eqBin, eqOut, eqD, Region.isConst] at he
    subst he
    exact ⟨_, rfl⟩
   ·cases hv
  ·cases hv
def rdTy : List UInt8 → Int × Bool × Int
 | [] => (0, false, 6)
 | c :: d => if (c = 117 ∨ c = 105) ∧ digB d = true ∧ d.length ≤ 3 then
   (if 64 < valA 0 d ∨ (valA 0 d = 0 ∧ c = 105) then (0, false, 3) else ((valA 0 d : Nat), c == 105, 0))
  else (0, false, 6)
def rdV : Spec
 | [.string ⟨⟨s⟩⟩] => some (.tuple ⟨[.agg ⟨[.int .i64 (rdTy s).1, .bool (rdTy s).2.1, .string ⟨⟨if (rdTy s).2.2 = 0 then s else []⟩⟩]⟩, .int .i64 (rdTy s).2.2]⟩)
 | _ => none
theorem digB_ne {d : List UInt8} (h : digB d = true) : d.all isD = true ∧ d ≠ [] := by
 simp only [digB, Bool.and_eq_true] at h
 exact ⟨h.1.1, fun hd => by rw [hd] at h; simp at h⟩
theorem valA_lt (l : List UInt8) : ∀ (n : Nat), l.all isD = true → valA n l < (n + 1) * 10 ^ l.length := by
 induction l with
 | nil => intro n _; show n < (n + 1) * 10 ^ 0; omega
 | cons c l ih =>
  intro n h
  rw [List.all_cons, Bool.and_eq_true] at h
  have := ih (n * 10 + (c.toNat - 48)) h.2
  have hc := h.1
  simp only [isD, Bool.and_eq_true, decide_eq_true_eq] at hc
  show valA (n * 10 + (c.toNat - 48)) l < (n + 1) * 10 ^ (l.length + 1)
  rw [Nat.pow_succ]
  refine Nat.lt_of_lt_of_le this ?_
  rw [Nat.mul_comm (10 ^ l.length), ← Nat.mul_assoc]
  exact Nat.mul_le_mul_right _ (by omega)
theorem same_str (a b : List UInt8) : Instr.sameNow .string (.string ⟨⟨a⟩⟩) (.string ⟨⟨b⟩⟩) = some (a == b) := by
 simp only [Instr.sameNow, beq_toListBytes, toList_mk]
theorem f_read {T : List (Nat × Spec)} (hT : Fine T) (hx : ∀ l, callExt (EV (tabL T)) 178 l = none) (h1 : ∀ s h, callR (EV (tabL T)) 215 [.string ⟨⟨s⟩⟩] h = some (.bool (digB s), h))
  (h2 : ∀ s v h, atoiV [.string ⟨⟨s⟩⟩] = some v → callR (EV (tabL T)) 216 [.string ⟨⟨s⟩⟩] h = some (v, h)) : Fine ((178, rdV) :: T) :=
 hT.step (F := Tryz.f178) (by kernel_rfl) (by kernel_rfl) hx fun args v hv => by
  unfold rdV at hv
  split at hv
  ·rename_i s
   cases hv
   refine ⟨rfl, rfl, ?_⟩
   have k1 : (([105] : List UInt8) == [117]) = false := rfl
   have k2 : (([] : List UInt8) == [117]) = false := rfl
   have k3 : (([] : List UInt8) == [105]) = false := rfl
   generalize he : callR _ _ _ _ = r
   rw [enter178 _ _ _ (hx _) rfl] at he
   cases s with
   | nil =>
    simp only [sS, sevalprocAttr, fF178, tT, sN, sM, ng_eq, tabL_ng, h0_next, binStr, strBin, sNeq, bs_beq, oMap, oUpdate, updateD, plainKey, Instr.findNow, same_str, k1, k2, k3, oLookup, lookupD] at he
    subst he
    exact ⟨_, rfl⟩
   | cons c d =>
    have k4 : ((c :: d) == ([] : List UInt8)) = false := rfl
    have hsz : (ByteArray.mk ⟨c :: d⟩).size = d.length + 1 := rfl
    have k5 : (0 : Int) ≤ 1 ∧ (1 : Int) ≤ ((d.length + 1 : Nat) : Int) := ⟨by decide, by omega⟩
    have hd := h1 d
    by_cases hc : c = 117 ∨ c = 105
    ·have hfind : (([c] : List UInt8) == [117]) = !(c == 105) ∧ (([c] : List UInt8) == [105]) = (c == 105) := by rcases hc with rfl | rfl <;> decide
     cases hdig : digB d with
     | false =>
      have hr : rdTy (c :: d) = (0, false, 6) := by simp [rdTy, hdig]
      rw [hr]
      rw [hdig] at hd
      rcases hc with rfl | rfl <;>
      ·simp only [sS, sevalprocAttr, fF178, tT, sN, sM, ng_eq, tabL_ng, h0_next, binStr, strBin, sNeq, bs_beq, oMap, oUpdate, updateD, plainKey, Instr.findNow, same_str, k1, k4, k5, oLookup, lookupD, oSlice, optO, sliceD, sliceStr, boundO, boundD, hsz, Int.toNat_one, ext_head, ext_tail, hd] at he
       subst he
       exact ⟨_, rfl⟩
     | true =>
      rw [hdig] at hd
      obtain ⟨g1, g2⟩ := digB_ne hdig
      by_cases hl : d.length ≤ 3
      ·have hl' : ¬ (3 : Int) < (d.length : Nat) := by omega
       have ha := fun h => h2 d (.tuple ⟨[.int .i64 (valA 0 d), .nilIface]⟩) h (by
        have : d.isEmpty = false := by cases d with | nil => exact absurd rfl g2 | cons _ _ => rfl
        simp [atoiV, g1, this, hl])
       have heq : ∀ (a b : Int) (p q : Bool), eqD (EV (tabL T)) 228 (.agg ⟨[.int .i64 a, .bool p]⟩) (.agg ⟨[.int .i64 b, .bool q]⟩) = some (a == b && p == q) := fun a b p q => by
        have hq : (EV (tabL T)).eqf 228 = true := rfl
        simp only [eqD, ti228, hq, sameKinds, beq_self_eq_true, Bool.and_self, if_true, eqCells]
        cases a == b <;> cases p == q <;> simp
       have hlen : (ByteArray.mk ⟨d⟩).size = d.length := rfl
       by_cases hA : 64 < valA 0 d
       ·have hr : rdTy (c :: d) = (0, false, 3) := by simp [rdTy, hdig, hl, hc, hA]
        have q1 : (64 : Int) < (valA 0 d : Nat) := by omega
        rw [hr]
        rcases hc with rfl | rfl <;>
        ·simp only [sS, sevalprocAttr, fF178, tT, sN, sM, ng_eq, tabL_ng, h0_next, binStr, strBin, sNeq, bs_beq, oMap, oUpdate, updateD, plainKey, Instr.findNow, same_str, k1, k4, k5, oLookup, lookupD, oSlice, optO, sliceD, sliceStr, boundO, boundD, hsz, Int.toNat_one, ext_head, ext_tail, hd, hlen, hl', iGtr, gt_iff_lt, q1, decide_true, decide_false, ha, eqBin, eqOut] at he
         subst he
         exact ⟨_, rfl⟩
       ·have q1 : ¬ (64 : Int) < (valA 0 d : Nat) := by omega
        by_cases hB : valA 0 d = 0 ∧ c = 105
        ·have hr : rdTy (c :: d) = (0, false, 3) := by
          obtain ⟨b1, rfl⟩ := hB
          simp [rdTy, hdig, hl, b1]
         rw [hr]
         obtain ⟨b1, rfl⟩ := hB
         have q2 : (((valA 0 d : Nat) : Int) == 0) = true := by simp [b1]
         simp only [sS, sevalprocAttr, fF178, tT, sN, sM, ng_eq, tabL_ng, h0_next, binStr, strBin, sNeq, bs_beq, oMap, oUpdate, updateD, plainKey, Instr.findNow, same_str, k1, k4, k5, oLookup, lookupD, oSlice, optO, sliceD, sliceStr, boundO, boundD, hsz, Int.toNat_one, ext_head, ext_tail, hd, hlen, hl', iGtr, gt_iff_lt, q1, decide_true, decide_false, ha, eqBin, eqOut, heq, q2] at he
         subst he
         exact ⟨_, rfl⟩
        ·have hr : rdTy (c :: d) = (((valA 0 d : Nat) : Int), c == 105, 0) := by
          simp only [rdTy]
          rw [if_pos ⟨hc, hdig, hl⟩, if_neg (fun h => h.elim hA hB)]
         rw [hr]
         rcases hc with rfl | rfl
         ·have q3 : (false == true) = false := rfl
          simp only [sS, sevalprocAttr, fF178, tT, sN, sM, ng_eq, tabL_ng, h0_next, binStr, strBin, sNeq, bs_beq, oMap, oUpdate, updateD, plainKey, Instr.findNow, same_str, k1, k4, k5, oLookup, lookupD, oSlice, optO, sliceD, sliceStr, boundO, boundD, hsz, Int.toNat_one, ext_head, ext_tail, hd, hlen, hl', iGtr, gt_iff_lt, q1, decide_true, decide_false, ha, eqBin, eqOut, heq, q3] at he
          subst he
          exact ⟨_, rfl⟩
         ·have q2 : (((valA 0 d : Nat) : Int) == 0) = false := by simp; intro h; exact hB ⟨h, rfl⟩
          simp only [sS, sevalprocAttr, fF178, tT, sN, sM, ng_eq, tabL_ng, h0_next, binStr, strBin, sNeq, bs_beq, oMap, oUpdate, updateD, plainKey, Instr.findNow, same_str, k1, k4, k5, oLookup, lookupD, oSlice, optO, sliceD, sliceStr, boundO, boundD, hsz, Int.toNat_one, ext_head, ext_tail, hd, hlen, hl', iGtr, gt_iff_lt, q1, decide_true, decide_false, ha, eqBin, eqOut, heq, q2] at he
          subst he
          exact ⟨_, rfl⟩
      ·have hl' : (3 : Int) < (d.length : Nat) := by omega
       have hlen : (ByteArray.mk ⟨d⟩).size = d.length := rfl
       have hr : rdTy (c :: d) = (0, false, 6) := by simp [rdTy, hl]
       rw [hr]
       rcases hc with rfl | rfl <;>
       ·simp only [sS, sevalprocAttr, fF178, tT, sN, sM, ng_eq, tabL_ng, h0_next, binStr, strBin, sNeq, bs_beq, oMap, oUpdate, updateD, plainKey, Instr.findNow, same_str, k1, k4, k5, oLookup, lookupD, oSlice, optO, sliceD, sliceStr, boundO, boundD, hsz, Int.toNat_one, ext_head, ext_tail, hd, hlen, hl', iGtr, gt_iff_lt, decide_true] at he
        subst he
        exact ⟨_, rfl⟩
    ·have hr : rdTy (c :: d) = (0, false, 6) := by simp [rdTy, hc]
     have k6 : (([c] : List UInt8) == [117]) = false := by simp; exact fun h => hc (.inl h)
     have k7 : (([c] : List UInt8) == [105]) = false := by simp; exact fun h => hc (.inr h)
     rw [hr]
     simp only [sS, sevalprocAttr, fF178, tT, sN, sM, ng_eq, tabL_ng, h0_next, binStr, strBin, sNeq, bs_beq, oMap, oUpdate, updateD, plainKey, Instr.findNow, same_str, k1, k4, k5, oLookup, lookupD, oSlice, optO, sliceD, sliceStr, boundO, boundD, hsz, Int.toNat_one, ext_head, ext_tail, hd, k6, k7] at he
     subst he
     exact ⟨_, rfl⟩
  ·cases hv
def wWidthV : Spec
 | [.string ⟨⟨s⟩⟩] => some (.tuple ⟨[.int .i64 (rdTy s).1, .bool (rdTy s).2.1, .int .i64 (rdTy s).2.2]⟩)
 | _ => none
theorem f_wWidth {T : List (Nat × Spec)} (hT : Fine T) (hx : ∀ l, callExt (EV (tabL T)) 124 l = none) (h1 : ∀ s h, callR (EV (tabL T)) 178 [.string ⟨⟨s⟩⟩] h = some (.tuple ⟨[.agg ⟨[.int .i64 (rdTy s).1, .bool (rdTy s).2.1, .string ⟨⟨if (rdTy s).2.2 = 0 then s else []⟩⟩]⟩, .int .i64 (rdTy s).2.2]⟩, h)) : Fine ((124, wWidthV) :: T) :=
 hT.step (F := Tryz.f124) (by kernel_rfl) (by kernel_rfl) hx fun args v hv => by
  unfold wWidthV at hv
  split at hv
  ·rename_i s
   cases hv
   refine ⟨rfl, rfl, ?_⟩
   generalize he : callR _ _ _ _ = r
   rw [enter124 _ _ _ (hx _) rfl] at he
   simp only [sS, sevalprocAttr, fF124, tT, sN, sM, ng_eq, tabL_ng, h0_next, h1] at he
   subst he
   exact ⟨_, rfl⟩
  ·cases hv
def F32 : List UInt8 := [102, 51, 50]
def F64 : List UInt8 := [102, 54, 52]
def PTR : List UInt8 := [112, 116, 114]
def integerV : Spec
 | [.string ⟨⟨s⟩⟩] => some (.tuple ⟨[.agg ⟨[.int .i64 (rdTy s).1, .bool (rdTy s).2.1]⟩, .bool ((rdTy s).2.2 == 0)]⟩)
 | _ => none
theorem f_integer {T : List (Nat × Spec)} (hT : Fine T) (hx : ∀ l, callExt (EV (tabL T)) 97 l = none) (h1 : ∀ s h, callR (EV (tabL T)) 124 [.string ⟨⟨s⟩⟩] h = some (.tuple ⟨[.int .i64 (rdTy s).1, .bool (rdTy s).2.1, .int .i64 (rdTy s).2.2]⟩, h)) : Fine ((97, integerV) :: T) :=
 hT.step (F := Tryz.f97) (by kernel_rfl) (by kernel_rfl) hx fun args v hv => by
  unfold integerV at hv
  split at hv
  ·rename_i s
   cases hv
   refine ⟨rfl, rfl, ?_⟩
   generalize he : callR _ _ _ _ = r
   rw [enter97 _ _ _ (hx _) rfl] at he
   simp only [sS, sevalprocAttr, fF97, tT, sN, sM, ng_eq, tabL_ng, h0_next, h1, iEql] at he
   subst he
   exact ⟨_, rfl⟩
  ·cases hv
theorem ev_glob (T : List (Nat × Spec)) (tm : Tr Value) (g : Nat) (hg : g < 17) : ev (EV (tabL T)) tm (.global g) = some (.pointer (some ⟨g, 0, none⟩)) := by
 have : ev (EV (tabL T)) tm (.global g) = if g < 17 then some (.pointer (some ⟨g, 0, none⟩)) else none := rfl
 rw [this, if_pos hg]
theorem glob_floats (T : List (Nat × Spec)) : globSub (EV (tabL T)) 1 0 4 = some [.string ⟨⟨F32⟩⟩, .int .i64 32, .string ⟨⟨F64⟩⟩, .int .i64 64] := rfl
def isFloatB (s : List UInt8) : Bool := s == F32 || s == F64
def isFloatV : Spec
 | [.string ⟨⟨s⟩⟩] => some (.bool (isFloatB s))
 | _ => none
theorem f_isFloat {T : List (Nat × Spec)} (hT : Fine T) (hx : ∀ l, callExt (EV (tabL T)) 95 l = none) : Fine ((95, isFloatV) :: T) :=
 hT.step (F := Tryz.f95) (by kernel_rfl) (by kernel_rfl) hx fun args v hv => by
  unfold isFloatV at hv
  split at hv
  ·rename_i s
   cases hv
   refine ⟨rfl, rfl, ?_⟩
   generalize he : callR _ _ _ _ = r
   rw [enter95 _ _ _ (hx _) rfl] at he
   unfold isFloatB
   have c1 : (F32 == s) = (s == F32) := by rw [Bool.eq_iff_iff]; simp; exact ⟨Eq.symm, Eq.symm⟩
   have c2 : (F64 == s) = (s == F64) := by rw [Bool.eq_iff_iff]; simp; exact ⟨Eq.symm, Eq.symm⟩
   have a0 : iAdd .i64 0 1 = some (.int .i64 1) := rfl
   have a1 : iAdd .i64 1 1 = some (.int .i64 2) := rfl
   cases h1 : (s == F32) with
   | true =>
    simp only [sS, sevalprocAttr, fF95, tT, sN, sM, exR_loop, ng_eq, tabL_ng, h0_next, ev_glob, glob_floats, iLss, decide_true, binStr, strBin, sEql, bs_beq, c1, h1] at he
    subst he
    exact ⟨_, rfl⟩
   | false =>
    cases h2 : (s == F64) with
    | true =>
     simp only [sS, sevalprocAttr, fF95, tT, sN, sM, exR_loop, ng_eq, tabL_ng, h0_next, ev_glob, glob_floats, iLss, a0, a1, decide_true, binStr, strBin, sEql, bs_beq, c1, c2, h1, h2] at he
     subst he
     exact ⟨_, rfl⟩
    | false =>
     simp only [sS, sevalprocAttr, fF95, tT, sN, sM, exR_loop, ng_eq, tabL_ng, h0_next, ev_glob, glob_floats, iLss, a0, a1, decide_true, decide_false, binStr, strBin, sEql, bs_beq, c1, c2, h1, h2] at he
     subst he
     exact ⟨_, rfl⟩
  ·cases hv
def opsW (s : List UInt8) : Int × Int := if s = F32 then (32, 0) else if s = F64 then (64, 0) else if s = PTR then (64, 0) else ((rdTy s).1, if (rdTy s).2.2 = 0 then 0 else 12)
def opsWV : Spec
 | [.string ⟨⟨s⟩⟩] => some (.tuple ⟨[.int .i64 (opsW s).1, .int .i64 (opsW s).2]⟩)
 | _ => none
theorem f_opsWidth {T : List (Nat × Spec)} (hT : Fine T) (hx : ∀ l, callExt (EV (tabL T)) 92 l = none) (h1 : ∀ s h, callR (EV (tabL T)) 97 [.string ⟨⟨s⟩⟩] h = some (.tuple ⟨[.agg ⟨[.int .i64 (rdTy s).1, .bool (rdTy s).2.1]⟩, .bool ((rdTy s).2.2 == 0)]⟩, h))
  (h2 : ∀ b e h, callR (EV (tabL T)) 119 [.bool b, .int .i64 e] h = some (.int .i64 (if b then e else 0), h)) : Fine ((92, opsWV) :: T) :=
 hT.step (F := Tryz.f92) (by kernel_rfl) (by kernel_rfl) hx fun args v hv => by
  unfold opsWV at hv
  split at hv
  ·rename_i s
   cases hv
   refine ⟨rfl, rfl, ?_⟩
   generalize he : callR _ _ _ _ = r
   rw [enter92 _ _ _ (hx _) rfl] at he
   unfold opsW
   have a0 : iAdd .i64 0 1 = some (.int .i64 1) := rfl
   have a1 : iAdd .i64 1 1 = some (.int .i64 2) := rfl
   have k1 : (F32 == [112, 116, 114]) = false := rfl
   have k2 : (F64 == [112, 116, 114]) = false := rfl
   have k3 : (F64 == F32) = false := rfl
   have k4 : (F32 == F64) = false := rfl
   have k5 : ([112, 116, 114] == F32) = false := rfl
   have k6 : ([112, 116, 114] == F64) = false := rfl
   by_cases q1 : s = F32
   ·subst q1
    simp only [sS, sevalprocAttr, fF92, tT, sN, sM, exR_loop, ng_eq, tabL_ng, h0_next, ev_glob, glob_floats, iLss, a0, a1, decide_true, decide_false, oMap, oUpdate, updateD, plainKey, Instr.findNow, same_str, oLookup, lookupD, k1, k2, k3, k4] at he
    subst he
    exact ⟨_, rfl⟩
   ·by_cases q2 : s = F64
    ·subst q2
     simp only [sS, sevalprocAttr, fF92, tT, sN, sM, exR_loop, ng_eq, tabL_ng, h0_next, ev_glob, glob_floats, iLss, a0, a1, decide_true, decide_false, oMap, oUpdate, updateD, plainKey, Instr.findNow, same_str, oLookup, lookupD, k1, k2, k3, k4] at he
     subst he
     exact ⟨_, rfl⟩
    ·by_cases q3 : s = PTR
     ·subst q3
      have k7 : (PTR == [112, 116, 114]) = true := rfl
      simp only [sS, sevalprocAttr, fF92, tT, sN, sM, exR_loop, ng_eq, tabL_ng, h0_next, ev_glob, glob_floats, iLss, a0, a1, decide_true, decide_false, oMap, oUpdate, updateD, plainKey, Instr.findNow, same_str, oLookup, lookupD, k1, k2, k3, k4, k7] at he
      subst he
      exact ⟨_, rfl⟩
     ·have b1 : (s == F32) = false := by simpa using q1
      have b2 : (s == F64) = false := by simpa using q2
      have b3 : (s == [112, 116, 114]) = false := beq_eq_false_iff_ne.2 q3
      rw [if_neg q1, if_neg q2, if_neg q3]
      cases b4 : ((rdTy s).2.2 == 0) with
      | true =>
       simp only [sS, sevalprocAttr, fF92, tT, sN, sM, exR_loop, ng_eq, tabL_ng, h0_next, ev_glob, glob_floats, iLss, a0, a1, decide_true, decide_false, oMap, oUpdate, updateD, plainKey, Instr.findNow, same_str, oLookup, lookupD, k1, k2, k3, k4, b1, b2, b3, h1, h2, b4] at he
       subst he
       rw [if_pos (by simpa using b4)]
       exact ⟨_, rfl⟩
      | false =>
       simp only [sS, sevalprocAttr, fF92, tT, sN, sM, exR_loop, ng_eq, tabL_ng, h0_next, ev_glob, glob_floats, iLss, a0, a1, decide_true, decide_false, oMap, oUpdate, updateD, plainKey, Instr.findNow, same_str, oLookup, lookupD, k1, k2, k3, k4, b1, b2, b3, h1, h2, b4] at he
       subst he
       rw [if_neg (by simpa using b4)]
       exact ⟨_, rfl⟩
  ·cases hv
theorem rdTy_le (s : List UInt8) : 0 ≤ (rdTy s).1 ∧ (rdTy s).1 ≤ 64 := by
 cases s with
 | nil => exact ⟨Int.le_refl _, by show (0 : Int) ≤ 64; decide⟩
 | cons c d =>
  simp only [rdTy]
  by_cases h1 : (c = 117 ∨ c = 105) ∧ digB d = true ∧ d.length ≤ 3
  ·rw [if_pos h1]
   by_cases h2 : 64 < valA 0 d ∨ valA 0 d = 0 ∧ c = 105
   ·rw [if_pos h2]; exact ⟨Int.le_refl _, by show (0 : Int) ≤ 64; decide⟩
   ·rw [if_neg h2]
    exact ⟨by show (0 : Int) ≤ ((valA 0 d : Nat) : Int); omega, by show ((valA 0 d : Nat) : Int) ≤ 64; omega⟩
  ·rw [if_neg h1]; exact ⟨Int.le_refl _, by show (0 : Int) ≤ 64; decide⟩
theorem opsW_le (s : List UInt8) : 0 ≤ (opsW s).1 ∧ (opsW s).1 ≤ 64 := by
 unfold opsW
 split
 ·exact ⟨by decide, by decide⟩
 ·split
  ·exact ⟨by decide, by decide⟩
  ·split
   ·exact ⟨by decide, by decide⟩
   ·exact rdTy_le s
theorem opsW_err (s : List UInt8) : (opsW s).2 = 0 ∨ (opsW s).2 = 12 := by
 unfold opsW
 split
 ·exact .inl rfl
 ·split
  ·exact .inl rfl
  ·split
   ·exact .inl rfl
   ·show (if (rdTy s).2.2 = 0 then (0 : Int) else 12) = 0 ∨ (if (rdTy s).2.2 = 0 then (0 : Int) else 12) = 12
    split
    ·exact .inl rfl
    ·exact .inr rfl
def codeT (s : List UInt8) : Int × Int :=
 if s = F32 then (129, 0) else if s = F64 then (130, 0) else if s = PTR then (131, 0) else if s = [] then (255, 0) else
 if (opsW s).2 = 0 then ((opsW s).1 + (if s.head? = some 105 then 64 else 0), 0) else (0, 12)
def codeV : Spec
 | [.string ⟨⟨s⟩⟩] => some (.tuple ⟨[.int .i64 (codeT s).1, .int .i64 (codeT s).2]⟩)
 | _ => none
theorem add64r (a : Int) (h : 0 ≤ a ∧ a ≤ 64) : iAdd .i64 a 64 = some (.int .i64 (a + 64)) := by
 simp only [iAdd]
 rw [wrap_small (by omega) (by omega)]
theorem f_code {T : List (Nat × Spec)} (hT : Fine T) (hx : ∀ l, callExt (EV (tabL T)) 60 l = none)
  (h1 : ∀ s h, callR (EV (tabL T)) 92 [.string ⟨⟨s⟩⟩] h = some (.tuple ⟨[.int .i64 (opsW s).1, .int .i64 (opsW s).2]⟩, h)) : Fine ((60, codeV) :: T) :=
 hT.step (F := Tryz.f60) (by kernel_rfl) (by kernel_rfl) hx fun args v hv => by
  unfold codeV at hv
  split at hv
  ·rename_i s
   cases hv
   refine ⟨rfl, rfl, ?_⟩
   generalize he : callR _ _ _ _ = r
   rw [enter60 _ _ _ (hx _) rfl] at he
   unfold codeT
   have k1 : (([102, 54, 52] : List UInt8) == [102, 51, 50]) = false := rfl
   have k2 : (([112, 116, 114] : List UInt8) == [102, 51, 50]) = false := rfl
   have k3 : (([112, 116, 114] : List UInt8) == [102, 54, 52]) = false := rfl
   have k4 : (([] : List UInt8) == [102, 51, 50]) = false := rfl
   have k5 : (([] : List UInt8) == [102, 54, 52]) = false := rfl
   have k6 : (([] : List UInt8) == [112, 116, 114]) = false := rfl
   have k7 : (([102, 51, 50] : List UInt8) == [102, 54, 52]) = false := rfl
   have k8 : (([102, 51, 50] : List UInt8) == [112, 116, 114]) = false := rfl
   have k9 : (([102, 54, 52] : List UInt8) == [112, 116, 114]) = false := rfl
   have j0 : ((0 : Int) != 0) = false := rfl
   have j1 : ((12 : Int) != 0) = true := rfl
   by_cases q : s = F32 ∨ s = F64 ∨ s = PTR ∨ s = []
   ·rcases q with rfl | rfl | rfl | rfl <;>
    ·simp only [sS, sevalprocAttr, fF60, tT, sN, sM, ng_eq, tabL_ng, h0_next, oMap, oUpdate, updateD, plainKey, Instr.findNow, same_str, oLookup, lookupD, F32, F64, PTR, k1, k2, k3, k4, k5, k6, k7, k8, k9] at he
     subst he
     exact ⟨_, rfl⟩
   ·have q1 : s ≠ F32 := fun e => q (.inl e)
    have q2 : s ≠ F64 := fun e => q (.inr (.inl e))
    have q3 : s ≠ PTR := fun e => q (.inr (.inr (.inl e)))
    have q4 : s ≠ [] := fun e => q (.inr (.inr (.inr e)))
    rw [if_neg q1, if_neg q2, if_neg q3, if_neg q4]
    have b1 : (s == [102, 51, 50]) = false := beq_eq_false_iff_ne.2 q1
    have b2 : (s == [102, 54, 52]) = false := beq_eq_false_iff_ne.2 q2
    have b3 : (s == [112, 116, 114]) = false := beq_eq_false_iff_ne.2 q3
    have b4 : (s == []) = false := beq_eq_false_iff_ne.2 q4
    rcases opsW_err s with e | e
    ·rw [if_pos e]
     obtain ⟨c, d, rfl⟩ : ∃ c d, s = c :: d := by cases s with | nil => exact absurd rfl q4 | cons c d => exact ⟨c, d, rfl⟩
     have i0 : (0 : Int) ≤ 0 := by decide
     cases hc : (c == 105) with
     | true =>
      have hc' : c = 105 := by simpa using hc
      subst hc'
      have i1 : ((((105 : UInt8).toNat : Nat) : Int) == 105) = true := rfl
      simp only [sS, sevalprocAttr, fF60, tT, sN, sM, ng_eq, tabL_ng, h0_next, oMap, oUpdate, updateD, plainKey, Instr.findNow, same_str, oLookup, lookupD, k1, k2, k3, k4, k5, k6, k7, k8, k9, b1, b2, b3, b4, h1, e, oIndex, indexD, i0, i1, j0, iNeq, iEql, Int.toNat_zero, List.getElem?_cons_zero, add64r _ (opsW_le _)] at he
      subst he
      exact ⟨_, rfl⟩
     | false =>
      have hc' : c ≠ 105 := by simpa using hc
      have i1 : (((c.toNat : Nat) : Int) == 105) = false := by
       rw [beq_eq_false_iff_ne]; intro e; apply hc'; apply UInt8.toNat_inj.1; show c.toNat = 105; omega
      simp only [sS, sevalprocAttr, fF60, tT, sN, sM, ng_eq, tabL_ng, h0_next, oMap, oUpdate, updateD, plainKey, Instr.findNow, same_str, oLookup, lookupD, k1, k2, k3, k4, k5, k6, k7, k8, k9, b1, b2, b3, b4, h1, e, oIndex, indexD, i0, i1, j0, iNeq, iEql, Int.toNat_zero, List.getElem?_cons_zero] at he
      subst he
      rw [show (if (c :: d).head? = some 105 then (64 : Int) else 0) = 0 by rw [if_neg]; intro h; exact hc' (Option.some.inj h), Int.add_zero]
      exact ⟨_, rfl⟩
    ·rw [if_neg (by rw [e]; decide)]
     have i1 : ((12 : Int) == 0) = false := rfl
     simp only [sS, sevalprocAttr, fF60, tT, sN, sM, ng_eq, tabL_ng, h0_next, oMap, oUpdate, updateD, plainKey, Instr.findNow, same_str, oLookup, lookupD, k1, k2, k3, k4, k5, k6, k7, k8, k9, b1, b2, b3, b4, h1, e, j1, iNeq] at he
     subst he
     exact ⟨_, rfl⟩
  ·cases hv
def wrongB (s : List UInt8) (used : Bool) : Bool := (codeT s).2 != 0 || (!(s == []) != used)
def wrongV : Spec
 | [.string ⟨⟨s⟩⟩, .bool u] => some (.bool (wrongB s u))
 | _ => none
theorem f_wrong {T : List (Nat × Spec)} (hT : Fine T) (hx : ∀ l, callExt (EV (tabL T)) 33 l = none)
  (h1 : ∀ s h, callR (EV (tabL T)) 60 [.string ⟨⟨s⟩⟩] h = some (.tuple ⟨[.int .i64 (codeT s).1, .int .i64 (codeT s).2]⟩, h)) : Fine ((33, wrongV) :: T) :=
 hT.step (F := Tryz.f33) (by kernel_rfl) (by kernel_rfl) hx fun args v hv => by
  unfold wrongV at hv
  split at hv
  ·rename_i s u
   cases hv
   refine ⟨rfl, rfl, ?_⟩
   generalize he : callR _ _ _ _ = r
   rw [enter33 _ _ _ (hx _) rfl] at he
   unfold wrongB
   cases q1 : ((codeT s).2 != 0) with
   | true =>
    simp only [sS, sevalprocAttr, fF33, tT, sN, sM, ng_eq, tabL_ng, h0_next, h1, iNeq, q1] at he
    subst he
    exact ⟨_, rfl⟩
   | false =>
    cases q2 : (s == []) <;> cases u <;>
    ·simp only [sS, sevalprocAttr, fF33, tT, sN, sM, ng_eq, tabL_ng, h0_next, h1, iNeq, q1, q2, binStr, strBin, sNeq, bs_beq, Bool.not_true, Bool.not_false, eqBin, eqOut, eqD, beq_ft, beq_tf, beq_self_eq_true, if_true, bne_self_eq_false, (by decide : (true != false) = true), (by decide : (false != true) = true)] at he
     subst he
     exact ⟨_, rfl⟩
  ·cases hv
end Go.D
