/- The functions of the law, one after the other: what a run of D answers. -/
import Derived.Test.YtfhdhnbnnlpdfaaGreatDoorWi
import Derived.Test.YtfhdhnbnnlpdfaaGreatDoorFull
import Derived.Test.YtfhdhnbnnlpdfaaGreatDoorW0
import Derived.Laws.RangeString
import Derived.Laws.RangeAny
import Derived.Laws.StructEq
namespace Go.D
open Go.Proofs
set_option maxRecDepth 100000
set_option linter.unusedVariables false
set_option linter.unusedSimpArgs false
theorem ol_loop (tab : Tab) (hX : OnX tab) (h0 : H) (hng : tab.ng ≤ h0.next) (p q : Nat) (v : Value) (l us : List UInt8) (hp0 : h0.next ≤ p) (hq0 : h0.next ≤ q) (hpq : q ≠ p) (hl : l.length < 1000000) (hus : us.length ≤ 100) (hu : ∀ c ∈ us, c.toNat ∈ [116, 117, 110, 115, 100, 119, 101]) :
  ∀ (k i : Nat) (tm : Tr Value) (h : H) (x : Ins) (a0 : Nat) (e : Int), i + k = us.length → OlS tab h0 h tm p q v l us x a0 e i →
  ∃ tm' h' a1, exR (EV tab) olLoop ⟨false, 116, tm, h⟩ = some (.exit 0, ⟨false, 116, tm', h'⟩) ∧ OlS tab h0 h' tm' p q v l us (foldR (us.drop i) (x, (l.drop a0, e))).1 a1 (foldR (us.drop i) (x, (l.drop a0, e))).2.2 us.length ∧ l.drop a1 = (foldR (us.drop i) (x, (l.drop a0, e))).2.1 := by
 intro k
 induction k with
 | zero =>
  intro i tm h x a0 e hk s
  have hlt : ¬ i < us.length := by omega
  obtain rfl : i = us.length := by omega
  have hsz : (ByteArray.mk ⟨us⟩).size = us.length := rfl
  have t7 := s.t7
  have t8 := s.t8
  generalize he : exR (EV tab) olLoop ⟨false, 116, tm, h⟩ = r
  rw [olLoop, exR_loop] at he
  simp only [sS, sevalprocAttr, fF28, tT, t7, t8, iLss, hsz, Int.ofNat_lt, hlt, decide_false] at he
  subst he
  rw [List.drop_length]
  exact ⟨_, h, a0, rfl, ⟨by simp only [Tr.get_set, Nat.reduceEqDiff, ↓reduceIte, s.t5], by simp only [Tr.get_set, Nat.reduceEqDiff, ↓reduceIte, s.t6], by simp only [Tr.get_set, Nat.reduceEqDiff, ↓reduceIte, s.t7], by simp only [Tr.get_set, Nat.reduceEqDiff, ↓reduceIte, s.t8], by simpa only [Tr.get_set, Nat.reduceEqDiff, ↓reduceIte] using s.t2, s.r, s.b, s.a, s.g, s.ql, s.k⟩, rfl⟩
 | succ k ih =>
  intro i tm h x a0 e hk s
  have hi : i < us.length := by omega
  have hd : us.drop i = us[i] :: us.drop (i + 1) := (List.getElem_cons_drop hi).symm
  obtain ⟨tm1, h1, a1, e1, s1, c1⟩ := ol_round tab hX h0 h hng tm p q v l us x a0 e i hp0 hq0 hpq hl hi hus _ rfl (hu _ (List.getElem_mem hi)) s
  obtain ⟨tm', h', a2, e2, s2, c2⟩ := ih (i + 1) tm1 h1 _ a1 _ (by omega) s1
  rw [hd]
  rw [c1] at s2 c2
  exact ⟨tm', h', a2, by rw [e1]; exact e2, s2, c2⟩
theorem rsub {ty : Nat} {a b c : Value} : Obj.sub (.cells ty 3 [a, b, c]) 1 1 = some [b] ∧ Obj.sub (.cells ty 3 [a, b, c]) 2 1 = some [c] := ⟨rfl, rfl⟩
theorem rowsub {ty : Nat} {a b c d : Value} : Obj.sub (.cells ty 4 [a, b, c, d]) 1 1 = some [b] := rfl
theorem one_run (tab : Tab) (hX : OnX tab) (x0 : ∀ l, callExt (EV tab) 28 l = none) (hrow : RowOf tab) (ck : CheckP tab 41) (h : H) (hng : tab.ng ≤ h.next) (v : Value) (o : UInt8) (l : List UInt8) (hb : BT tab h v (o :: l)) (hl : l.length < 999999) :
  ∃ h', callR (EV tab) 28 [v] h = some (.tuple ⟨[.agg ⟨insC (decG chkI (o :: l)).1⟩, .int .i64 ((decG chkI (o :: l)).2.1 : Nat), .int .i64 (decG chkI (o :: l)).2.2]⟩, h') ∧ Kept h h' := by
 have hbb := hb
 rcases hb with ⟨_, z⟩ | ⟨b, off, c, rfl, m, _⟩
 ·cases z
 have hs := m.byte 0 (Nat.succ_pos l.length)
 have hblt := m.lt hng
 simp only [Nat.add_zero, List.getElem_cons_zero] at hs
 have bi := byte_i64 o
 have hnn : ¬ h.next < tab.ng := by omega
 have hnn1 : ¬ h.next + 1 < tab.ng := by omega
 have hnn2 : ¬ h.next + 1 + 1 < tab.ng := by omega
 have n01 : ¬ h.next = h.next + 1 := by omega
 have n10 : ¬ h.next + 1 = h.next := by omega
 have n02 : ¬ h.next = h.next + 1 + 1 := by omega
 have n20 : ¬ h.next + 1 + 1 = h.next := by omega
 have n12 : ¬ h.next + 1 = h.next + 1 + 1 := by omega
 have n21 : ¬ h.next + 1 + 1 = h.next + 1 := by omega
 have nb0 : ¬ h.next = b := by omega
 have nb1 : ¬ h.next + 1 = b := by omega
 have nb2 : ¬ h.next + 1 + 1 = b := by omega
 have hlen0 : (0 : Int) < ((l.length + 1 : Nat) : Int) := by omega
 have z0 : (((l.length + 1 : Nat) : Int) == 0) = false := by rw [beq_eq_false_iff_ne]; omega
 have hcons : decG chkI (o :: l) = match kindAt (o.toNat : Int) with
  | none => (insZ, 0, 11)
  | some r =>
   if (foldI r.uses ({ insZ with op := o.toNat }, (l, 0))).2.2 ≠ 0 then (insZ, 0, (foldI r.uses ({ insZ with op := o.toNat }, (l, 0))).2.2) else
   if chkI (foldI r.uses ({ insZ with op := o.toNat }, (l, 0))).1 ≠ 0 then (insZ, 0, chkI (foldI r.uses ({ insZ with op := o.toNat }, (l, 0))).1) else
   ((foldI r.uses ({ insZ with op := o.toNat }, (l, 0))).1, l.length + 1 - (foldI r.uses ({ insZ with op := o.toNat }, (l, 0))).2.1.length, 0) := rfl
 rw [hcons]
 cases hk : kindAt (o.toNat : Int) with
 | none =>
  have hout := kindAt_out _ hk
  have d29 : decide ((o.toNat : Int) ≥ 29) = true := decide_eq_true (by omega)
  generalize he : callR _ _ _ _ = y
  rw [enter28 _ _ _ (x0 _) rfl] at he
  simp only [sS, sevalprocAttr, fF28, tT, sN, sO, isub1, isub6, ng_eq, tabL_ng, hnn, hnn1, n01, n10, nb0, nb1, hs, bi, hlen0, z0, d29, iEql, iGeq, Int.le_refl, Int.toNat_zero, op_nil] at he
  subst he
  exact ⟨_, rfl, ((((Kept.refl h).push _).put _ (Nat.le_refl _)))⟩
 | some r =>
  have hk' := hk
  rw [kindAt_nat] at hk'
  have hlt29 : o.toNat < 29 := by
   have := (List.getElem?_eq_some_iff.1 hk').1
   have e : kindT.length = 29 := rfl
   omega
  have d29 : decide ((o.toNat : Int) ≥ 29) = false := decide_eq_false (by omega)
  have hu := List.all_eq_true.1 kindT_usesR r (List.mem_of_getElem? hk')
  simp only [Bool.and_eq_true, decide_eq_true_eq, List.all_eq_true, List.contains_iff_mem] at hu
  have e1 := fun h => hrow o.toNat r h hk
  simp only [rowL] at e1
  have key : ∀ tm hh, (hh = (((h.push (.cells 44 6 [.int .i64 0, .string ⟨#[]⟩, .string ⟨#[]⟩, .int .u64 0, .int .i64 0, .int .i64 0])).push (.cells 131 3 [.slice (some ⟨b, off, none⟩) (l.length + 1) c, .int .i64 1, .int .i64 0])).push (.cells 44 6 [.int .i64 0, .string ⟨#[]⟩, .string ⟨#[]⟩, .int .u64 0, .int .i64 0, .int .i64 0])).put (h.next + 1 + 1) (.cells 44 6 [.int .i64 (o.toNat : Nat), .string ⟨#[]⟩, .string ⟨#[]⟩, .int .u64 0, .int .i64 0, .int .i64 0]) ∧ tm.get 2 = some (.pointer (some ⟨h.next, 0, none⟩)) ∧ tm.get 5 = some (.pointer (some ⟨h.next + 1, 0, none⟩)) ∧ tm.get 6 = some (.pointer (some ⟨h.next + 1 + 1, 0, none⟩)) ∧ tm.get 7 = some (.string ⟨⟨usesR r.uses⟩⟩) ∧ tm.get 8 = some (.int .i64 ((0 : Nat) : Int))) →
    ∃ x s', exR (EV tab) olLoop ⟨false, 116, tm, hh⟩ = some (x, s') ∧ (x = .exit 0 ∧ ∃ tm' h' a1, s' = ⟨false, 116, tm', h'⟩ ∧
     OlS tab (h.push (.cells 44 6 [.int .i64 0, .string ⟨#[]⟩, .string ⟨#[]⟩, .int .u64 0, .int .i64 0, .int .i64 0])) h' tm' (h.next + 1) (h.next + 1 + 1) (.slice (some ⟨b, off, none⟩) (l.length + 1) c) (o :: l) (usesR r.uses) (foldI r.uses ({ insZ with op := o.toNat }, (l, 0))).1 a1 (foldI r.uses ({ insZ with op := o.toNat }, (l, 0))).2.2 (usesR r.uses).length ∧ (o :: l).drop a1 = (foldI r.uses ({ insZ with op := o.toNat }, (l, 0))).2.1) := fun tm hh q => by
   obtain ⟨rfl, p2, p5, p6, p7, p8⟩ := q
   have kA : Kept h ((((h.push (.cells 44 6 [.int .i64 0, .string ⟨#[]⟩, .string ⟨#[]⟩, .int .u64 0, .int .i64 0, .int .i64 0])).push (.cells 131 3 [.slice (some ⟨b, off, none⟩) (l.length + 1) c, .int .i64 1, .int .i64 0])).push (.cells 44 6 [.int .i64 0, .string ⟨#[]⟩, .string ⟨#[]⟩, .int .u64 0, .int .i64 0, .int .i64 0])).put (h.next + 1 + 1) (.cells 44 6 [.int .i64 (o.toNat : Nat), .string ⟨#[]⟩, .string ⟨#[]⟩, .int .u64 0, .int .i64 0, .int .i64 0])) := ((((Kept.refl h).push _).push _).push _).put _ (by omega)
   obtain ⟨tm', h', a1, y1, y2, y3⟩ := ol_loop tab hX (h.push (.cells 44 6 [.int .i64 0, .string ⟨#[]⟩, .string ⟨#[]⟩, .int .u64 0, .int .i64 0, .int .i64 0])) (by rw [H.next_push]; omega) (h.next + 1) (h.next + 1 + 1) (.slice (some ⟨b, off, none⟩) (l.length + 1) c) (o :: l) (usesR r.uses) (by rw [H.next_push]; omega) (by rw [H.next_push]; omega) (by omega) (by simp; omega) (by omega) (fun c hc => hu.1.2 c hc)
    (usesR r.uses).length 0 tm ((((h.push (.cells 44 6 [.int .i64 0, .string ⟨#[]⟩, .string ⟨#[]⟩, .int .u64 0, .int .i64 0, .int .i64 0])).push (.cells 131 3 [.slice (some ⟨b, off, none⟩) (l.length + 1) c, .int .i64 1, .int .i64 0])).push (.cells 44 6 [.int .i64 0, .string ⟨#[]⟩, .string ⟨#[]⟩, .int .u64 0, .int .i64 0, .int .i64 0])).put (h.next + 1 + 1) (.cells 44 6 [.int .i64 (o.toNat : Nat), .string ⟨#[]⟩, .string ⟨#[]⟩, .int .u64 0, .int .i64 0, .int .i64 0])) { insZ with op := o.toNat } 1 0 (Nat.zero_add _) ⟨p5, p6, p7, p8, ⟨h.next, by rw [H.next_push], p2⟩,
     ⟨by omega, by simp only [H.next_put, H.next_push]; omega, by simp only [H.get_put, H.get_push, H.next_push, n21, n12, if_false, if_true]; rfl⟩, hbb.kept kA, by simp, by rw [H.get_put, if_pos rfl]; rfl, by simp only [H.next_put, H.next_push]; omega,
     ⟨by simp only [H.next_put, H.next_push]; omega, fun c hc hp hq => by rw [H.get_put, if_neg (Ne.symm hq), H.get_push_lt _ _ (by simp only [H.next_push] at hc ⊢; omega), H.get_push_lt _ _ hc]⟩⟩
   rw [List.drop_zero, fold_eq r _ hk'] at y2 y3
   exact ⟨_, _, y1, rfl, tm', h', a1, rfl, y2, y3⟩
  dsimp only
  generalize hf : foldI r.uses ({ insZ with op := o.toNat }, (l, 0)) = s at key ⊢
  obtain ⟨x, l', e'⟩ := s
  simp only at key ⊢
  generalize he : callR _ _ _ _ = y
  rw [enter28 _ _ _ (x0 _) rfl] at he
  simp only [sS, sevalprocAttr, r28_0, r28_1, r28_2, r28_3, r28_4, r28_5, r28_6, r28_7, r28_8, tT, sN, sO, isub1, isub6, rowsub, ng_eq, tabL_ng, hnn, hnn1, hnn2, n01, n10, n02, n20, n12, n21, nb0, nb1, nb2, hs, bi, hlen0, z0, d29, iEql, iGeq, Int.le_refl, Int.toNat_zero, e1, op_nil] at he
  obtain ⟨xx, ss, ⟨rfl, tm', h', a1, rfl, st, hd⟩, he⟩ := use_run key (fun o => finish (EV tab) [ResultVar.cell 2 44, ResultVar.tmp 3, ResultVar.tmp 4] (andThen (unblock 0 o) (exR (EV tab) (.seq (.seq (Rg 28 31) (.cond (Operand.tmp 99) (.seq (Rg 28 32) .ret) .skip)) (.seq (.seq (Rg 28 33) (.seq (Rg 28 34) (.cond (Operand.tmp 108) (.seq (Rg 28 35) .ret) .skip))) (.seq (Rg 28 36) .ret)))))) he (by
   refine ⟨rfl, ?_, ?_, ?_, ?_, ?_⟩ <;> simp only [Tr.get_set, Nat.reduceEqDiff, ↓reduceIte, H.next_push, H.next_put] <;> rfl)
  obtain ⟨xo, xt, xu, xn, xi, xs⟩ := x
  obtain ⟨t5, t6, t7, t8, ⟨r0, hr0, t2⟩, hr, hbt, ha, gq, ql, hkk⟩ := st
  obtain rfl : r0 = h.next := by rw [H.next_push] at hr0; omega
  have ec := ck xo xt xu (xn : Nat) xi xs h' (by omega)
  have hv := insL_veq xo xt xu (xn : Nat) xi xs
  have hck : chkI ⟨xo, xt, xu, xn, xi, xs⟩ = checkI xo xt xu (xn : Nat) xi xs := rfl
  rw [hck]
  simp only [insV, insL] at ec hv
  simp only [insC, insL] at gq
  have hlen : l.length + 1 - l'.length = a1 := by rw [← hd, List.length_drop, List.length_cons]; simp at ha; omega
  have ga : h'.get h.next = some ((.cells 44 6 [.int .i64 0, .string ⟨#[]⟩, .string ⟨#[]⟩, .int .u64 0, .int .i64 0, .int .i64 0])) := by rw [hkk.get _ (by rw [H.next_push]; omega) (by omega) (by omega), H.get_push_self]
  have rs := hr.s
  have rs1 : subD (EV tab) h' (h.next + 1) 1 1 = some [.int .i64 a1] := by
   unfold subD
   rw [ng_eq, if_neg (Nat.not_lt.2 hr.1), hr.2.2]; rfl
  have k0 : Kept h h' := hkk.kept ((Kept.refl h).push _) (by omega) (by omega)
  have hx6 : subD (EV tab) h' (h.next + 1 + 1) 0 6 = some [.int .i64 xo, .string ⟨⟨xt⟩⟩, .string ⟨⟨xu⟩⟩, .int .u64 (xn : Nat), .int .i64 xi, .int .i64 xs] := by
   unfold subD
   rw [ng_eq, if_neg hnn2, gq]; rfl
  have kP : ∀ o2, Kept h (h'.put h.next o2) := fun o2 => k0.put o2 (Nat.le_refl _)
  by_cases q2 : e' = 0
  ·have z : (e' != 0) = false := by rw [q2]; rfl
   rw [if_neg (fun h => h q2)]
   by_cases q3 : checkI xo xt xu (xn : Nat) xi xs = 0
   ·have zc : (checkI xo xt xu (xn : Nat) xi xs != 0) = false := by rw [q3]; rfl
    rw [if_neg (fun h => h q3), hlen]
    simp only [sS, sevalprocAttr, fF28, tT, sN, sO, isub1, isub6, rsub, ng_eq, tabL_ng, hnn, hnn1, hnn2, t2, t5, t6, rs, rs1, gq, ga, hx6, ec, hv, iNeq, z, zc, n01, n10, n02, n20, n12, n21, op_nil] at he
    subst he
    exact ⟨_, rfl, kP _⟩
   ·have zc : (checkI xo xt xu (xn : Nat) xi xs != 0) = true := by simpa using q3
    rw [if_pos q3]
    simp only [sS, sevalprocAttr, fF28, tT, sN, sO, isub1, isub6, rsub, ng_eq, tabL_ng, hnn, hnn1, hnn2, t2, t5, t6, rs, rs1, gq, ga, hx6, ec, hv, iNeq, z, zc, n01, n10, n02, n20, n12, n21, op_nil] at he
    subst he
    exact ⟨_, rfl, kP _⟩
  ·have z : (e' != 0) = true := by simpa using q2
   rw [if_pos q2]
   simp only [sS, sevalprocAttr, fF28, tT, sN, sO, isub1, isub6, rsub, ng_eq, tabL_ng, hnn, hnn1, hnn2, t2, t5, t6, rs, rs1, gq, ga, hx6, ec, hv, iNeq, z, n01, n10, n02, n20, n12, n21, op_nil] at he
   subst he
   exact ⟨_, rfl, kP _⟩
abbrev DecPR (tab : Tab) : Prop := ∀ (h : H) (v : Value) (o : UInt8) (l : List UInt8), tab.ng ≤ h.next → BT tab h v (o :: l) → l.length < 999999 →
 ∃ h', callR (EV tab) 28 [v] h = some (.tuple ⟨[.agg ⟨insC (decG chkI (o :: l)).1⟩, .int .i64 ((decG chkI (o :: l)).2.1 : Nat), .int .i64 (decG chkI (o :: l)).2.2]⟩, h') ∧ Kept h h'
noncomputable def deLoopR : Code := (.loop (.seq (.seq (Rg 11 5) (.cond (Operand.tmp 16) .skip (Code.exit 0))) (.block 1 (.seq (Rg 11 6) (.seq (.seq (Rg 11 7) (.cond (Operand.tmp 26) (.seq (Rg 11 8) .ret) .skip)) (.seq (Rg 11 9) (Rg 11 10)))))))
theorem de_loopR (tab : Tab) (hD : DecPR tab) (h0 : H) (hng : tab.ng ≤ h0.next) (v : Value) (b : List UInt8) (hb : BT tab h0 v b) (hl : b.length < 100000) :
  ∀ (k i : Nat) (tm : Tr Value) (h : H) (vo : Value) (acc : List Ins), b.length ≤ i + k → i ≤ b.length → acc.length ≤ i → tm.get 0 = some v → tm.get 5 = some vo → tm.get 6 = some (.int .i64 i) → Row h0 h 44 6 vo acc.length (cellsI acc) → Kept h0 h →
  ∃ tm' h', Kept h0 h' ∧ ((exR (EV tab) deLoopR ⟨false, 37, tm, h⟩ = some (.exit 0, ⟨false, 37, tm', h'⟩) ∧ ∃ vo' l, tm'.get 5 = some vo' ∧ Row h0 h' 44 6 vo' l.length (cellsI l) ∧ decF chkI k b i acc = (l, 0, 0)) ∨
   (exR (EV tab) deLoopR ⟨false, 37, tm, h⟩ = some (.ret, ⟨false, 37, tm', h'⟩) ∧ ∃ (j : Nat) (e : Int), tm'.get 2 = some (.slice none 0 0) ∧ tm'.get 3 = some (.int .i64 j) ∧ tm'.get 4 = some (.int .i64 e) ∧ decF chkI k b i acc = ([], j, e))) := by
 obtain ⟨a0, c0, rfl⟩ := hb.len
 have done : ∀ (i : Nat) (tm : Tr Value) (h : H) (vo : Value) (acc : List Ins) (k : Nat), b.length ≤ i → tm.get 0 = some (.slice a0 b.length c0) → tm.get 5 = some vo → tm.get 6 = some (.int .i64 i) → Row h0 h 44 6 vo acc.length (cellsI acc) → Kept h0 h →
   ∃ tm', exR (EV tab) deLoopR ⟨false, 37, tm, h⟩ = some (.exit 0, ⟨false, 37, tm', h⟩) ∧ tm'.get 5 = some vo ∧ decF chkI k b i acc = (acc, 0, 0) := fun i tm h vo acc k hi t0 t5 t6 hr hkp => by
  have hlt : decide (i < b.length) = false := decide_eq_false (by omega)
  generalize he : exR (EV tab) deLoopR ⟨false, 37, tm, h⟩ = r
  rw [deLoopR, exR_loop] at he
  simp only [sS, sevalprocAttr, fF11, tT, t0, t6, iLss, Int.ofNat_lt, hlt] at he
  subst he
  refine ⟨_, rfl, by simp only [Tr.get_set, Nat.reduceEqDiff, ↓reduceIte, t5], ?_⟩
  cases k with
  | zero => rfl
  | succ k => rw [decF, if_pos hi]
 intro k
 induction k with
 | zero =>
  intro i tm h vo acc hk hi ha t0 t5 t6 hr hkp
  obtain ⟨tm', e, x5, xd⟩ := done i tm h vo acc 0 (by omega) t0 t5 t6 hr hkp
  exact ⟨tm', h, hkp, .inl ⟨e, vo, acc, x5, hr, xd⟩⟩
 | succ k ih =>
  intro i tm h vo acc hk hi ha t0 t5 t6 hr hkp
  by_cases q : b.length ≤ i
  ·obtain ⟨tm', e, x5, xd⟩ := done i tm h vo acc (k + 1) q t0 t5 t6 hr hkp
   exact ⟨tm', h, hkp, .inl ⟨e, vo, acc, x5, hr, xd⟩⟩
  ·have hlt : i < b.length := by omega
   have hhn : tab.ng ≤ h.next := Nat.le_trans hng hkp.le
   have hd0 : b.drop i = b[i] :: b.drop (i + 1) := (List.getElem_cons_drop hlt).symm
   obtain ⟨v1, es, bt1⟩ := slice_bt tab (hb.kept hkp) (some i) none hi (Nat.le_refl _)
   simp only [Option.map_none, Option.map_some, natV, Option.getD_some, Option.getD_none, List.take_length] at es bt1
   rw [hd0] at bt1
   obtain ⟨h1, ed, k1⟩ := hD h v1 b[i] (b.drop (i + 1)) hhn bt1 (by rw [List.length_drop]; omega)
   have hdec : decF chkI (k + 1) b i acc = if (decG chkI (b[i] :: b.drop (i + 1))).2.2 ≠ 0 then ([], i, (decG chkI (b[i] :: b.drop (i + 1))).2.2) else decF chkI k b (i + (decG chkI (b[i] :: b.drop (i + 1))).2.1) (acc ++ [(decG chkI (b[i] :: b.drop (i + 1))).1]) := by
    rw [decF, if_neg q, hd0]
   rw [hdec]
   generalize hg : decG chkI (b[i] :: b.drop (i + 1)) = s at ed
   obtain ⟨x, n, e⟩ := s
   have hx : insC x = [.int .i64 x.op, .string ⟨⟨x.t⟩⟩, .string ⟨⟨x.u⟩⟩, .int .u64 (x.num : Nat), .int .i64 x.imm, .int .i64 x.size] := rfl
   simp only [hx] at ed
   have k2 : Kept h0 h1 := hkp.trans k1
   have hn1 : tab.ng ≤ h1.next := Nat.le_trans hng k2.le
   have m1 : ¬ h1.next < tab.ng := by omega
   have k3 : Kept h0 ((h1.push (.cells 44 6 [.int .i64 0, .string ⟨#[]⟩, .string ⟨#[]⟩, .int .u64 0, .int .i64 0, .int .i64 0])).put h1.next (.cells 44 6 [.int .i64 x.op, .string ⟨⟨x.t⟩⟩, .string ⟨⟨x.u⟩⟩, .int .u64 (x.num : Nat), .int .i64 x.imm, .int .i64 x.size])) := (k2.push _).put _ k2.le
   by_cases q2 : e = 0
   ·subst q2
    have z : ((0 : Int) != 0) = false := rfl
    obtain ⟨-, -, -, c4, c5⟩ := decG_inv hg
    rw [← hd0, List.length_drop] at c5
    have s1 : iAdd .i64 (i : Int) (n : Int) = some (.int .i64 ((i + n : Nat) : Int)) := by unfold iAdd; rw [IntWalk.i64_in _ (by omega)]; rfl
    have hr3 : Row h0 (((h1.push (.cells 44 6 [.int .i64 0, .string ⟨#[]⟩, .string ⟨#[]⟩, .int .u64 0, .int .i64 0, .int .i64 0])).put h1.next (.cells 44 6 [.int .i64 x.op, .string ⟨⟨x.t⟩⟩, .string ⟨⟨x.u⟩⟩, .int .u64 (x.num : Nat), .int .i64 x.imm, .int .i64 x.size])).push (.cells 44 6 (insC x))) 44 6 vo acc.length (cellsI acc) := by
     rcases hr.kept k1 with r | ⟨qb, r1, r2, r3, r4, r5⟩
     ·exact .inl r
     ·refine .inr ⟨qb, r1, r2, by simp only [H.next_push, H.next_put]; omega, ?_, r5⟩
      rw [H.get_push_lt _ _ (by simp only [H.next_push, H.next_put]; omega), H.get_put, if_neg (by omega), H.get_push_lt _ _ r3]; exact r4
    obtain ⟨v2, h2, ea, rr, kk⟩ := append_row (E := EV tab) (t := 22) (ti22 tab) rfl (ti44 tab) rfl (by rw [bt_eq]; show 44 ≠ 94; decide) hng hr3 (k3.push _)
     (new_ins tab 44 (((h1.push (.cells 44 6 [.int .i64 0, .string ⟨#[]⟩, .string ⟨#[]⟩, .int .u64 0, .int .i64 0, .int .i64 0])).put h1.next (.cells 44 6 [.int .i64 x.op, .string ⟨⟨x.t⟩⟩, .string ⟨⟨x.u⟩⟩, .int .u64 (x.num : Nat), .int .i64 x.imm, .int .i64 x.size])).push (.cells 44 6 (insC x))) x (h1.next + 1) 3 (by omega) (by simp only [H.get_push, H.next_put, H.next_push, if_true]) _) (insC_one _) (by decide) (by omega) rfl
    have ec : cellsI acc ++ insC x = cellsI (acc ++ [x]) := by simp [cellsI]
    rw [ec] at rr
    simp only [hx] at ea
    obtain ⟨tm1, e1, b0, b5, b6⟩ : ∃ tm1, exR (EV tab) deLoopR ⟨false, 37, tm, h⟩ = exR (EV tab) deLoopR ⟨false, 37, tm1, h2⟩ ∧ tm1.get 0 = some (.slice a0 b.length c0) ∧ tm1.get 5 = some v2 ∧ tm1.get 6 = some (.int .i64 ((i + n : Nat) : Int)) := by
     generalize he : exR (EV tab) deLoopR ⟨false, 37, tm, h⟩ = r
     rw [deLoopR, exR_loop] at he
     simp only [sS, sevalprocAttr, fF11, tT, sN, sO, isub6, ng_eq, tabL_ng, t0, t5, t6, iLss, Int.ofNat_lt, hlt, decide_true, oSlice, optO, es, ed, m1, iNeq, z, ea, s1] at he
     subst he
     refine ⟨_, rfl, ?_, ?_, ?_⟩ <;> simp only [Tr.get_set, Nat.reduceEqDiff, ↓reduceIte, t0]
    obtain ⟨tm', h', y1, y2⟩ := ih (i + n) tm1 h2 v2 (acc ++ [x]) (by omega) (by omega) (by simp; omega) b0 b5 b6 (by rw [List.length_append]; exact rr) kk
    rw [if_neg (by simp), e1]
    exact ⟨tm', h', y1, y2⟩
   ·have z : (e != 0) = true := by simpa using q2
    generalize he : exR (EV tab) deLoopR ⟨false, 37, tm, h⟩ = r
    rw [deLoopR, exR_loop] at he
    simp only [sS, sevalprocAttr, fF11, tT, sN, sO, isub6, ng_eq, tabL_ng, t0, t5, t6, iLss, Int.ofNat_lt, hlt, decide_true, oSlice, optO, es, ed, m1, iNeq, z] at he
    subst he
    rw [if_pos q2]
    refine ⟨_, _, k3, .inr ⟨rfl, i, e, ?_, ?_, ?_, rfl⟩⟩ <;> simp only [Tr.get_set, Nat.reduceEqDiff, ↓reduceIte]
theorem Decode_runR (tab : Tab) (hx : ∀ l, callExt (EV tab) 11 l = none) (hD : DecPR tab) (h : H) (hng : tab.ng ≤ h.next) (v : Value) (b : List UInt8) (hb : BT tab h v b) (hl : b.length < 100000) :
  ∃ v' h', callR (EV tab) 11 [v] h = some (.tuple ⟨[v', .int .i64 ((decL b).2.1 : Nat), .int .i64 (decL b).2.2]⟩, h') ∧ Row h h' 44 6 v' (decL b).1.length (cellsI (decL b).1) ∧ Kept h h' := by
 unfold decL
 by_cases q : 65536 < b.length
 ·have d1 : decide ((65536 : Int) < (b.length : Nat)) = true := decide_eq_true (by omega)
  obtain ⟨a0, c0, rfl⟩ := hb.len
  rw [if_pos q]
  generalize he : callR _ _ _ _ = r
  rw [enter11 _ _ _ (hx _) rfl] at he
  simp only [sS, sevalprocAttr, fF11, tT, iGtr, gt_iff_lt, d1] at he
  subst he
  exact ⟨_, _, rfl, Row.nil _ _ _ _, Kept.refl _⟩
 ·have d1 : decide ((65536 : Int) < (b.length : Nat)) = false := decide_eq_false (by omega)
  have key : ∀ tm h1, (h1 = h ∧ tm.get 0 = some v ∧ tm.get 5 = some (.slice none 0 0) ∧ tm.get 6 = some (.int .i64 0)) → ∃ x s', exR (EV tab) deLoopR ⟨false, 37, tm, h1⟩ = some (x, s') ∧
    (∃ tm' h', Kept h h' ∧ s' = ⟨false, 37, tm', h'⟩ ∧ ((x = .exit 0 ∧ ∃ vo' l, tm'.get 5 = some vo' ∧ Row h h' 44 6 vo' l.length (cellsI l) ∧ decF chkI b.length b 0 [] = (l, 0, 0)) ∨
     (x = .ret ∧ ∃ (j : Nat) (e : Int), tm'.get 2 = some (.slice none 0 0) ∧ tm'.get 3 = some (.int .i64 j) ∧ tm'.get 4 = some (.int .i64 e) ∧ decF chkI b.length b 0 [] = ([], j, e)))) := fun tm h1 p => by
   obtain ⟨rfl, p0, p5, p6⟩ := p
   obtain ⟨tm', h', y1, ⟨y2, y3⟩ | ⟨y2, y3⟩⟩ := de_loopR tab hD h1 hng v b hb hl b.length 0 tm h1 (.slice none 0 0) [] (by omega) (by omega) (by simp) p0 p5 p6 (Row.nil _ _ _ _) (Kept.refl h1)
   ·exact ⟨_, _, y2, tm', h', y1, rfl, .inl ⟨rfl, y3⟩⟩
   ·exact ⟨_, _, y2, tm', h', y1, rfl, .inr ⟨rfl, y3⟩⟩
  obtain ⟨a0, c0, rfl⟩ := hb.len
  rw [if_neg q]
  generalize he : callR _ _ _ _ = r
  rw [enter11 _ _ _ (hx _) rfl] at he
  simp only [sS, sevalprocAttr, r11_0, r11_1, r11_3, r11_4, tT, iGtr, gt_iff_lt, d1] at he
  obtain ⟨x1, s1, ⟨tm', h', y1, rfl, ⟨rfl, vo, l, y5, y6, y7⟩ | ⟨rfl, j, e, y2, y3, y4, y7⟩⟩, he⟩ := use_run key (fun o => finish (EV tab) [ResultVar.tmp 2, ResultVar.tmp 3, ResultVar.tmp 4] (andThen (unblock 0 o) (exR (EV tab) (.seq (Rg 11 11) .ret)))) he (by
   refine ⟨rfl, ?_, ?_, ?_⟩ <;> simp only [Tr.get_set, Nat.reduceEqDiff, ↓reduceIte])
  ·simp only [sS, sevalprocAttr, fF11, tT, y5] at he
   subst he
   rw [y7]
   exact ⟨vo, h', rfl, y6, y1⟩
  ·simp only [sS, sevalprocAttr, fF11, tT, y2, y3, y4] at he
   subst he
   rw [y7]
   exact ⟨_, h', rfl, Row.nil _ _ _ _, y1⟩
structure CoX (tab : Tab) : Prop where
 x0 : ∀ l, callExt (EV tab) 3 l = none
 xs : ∀ l, callExt (EV tab) 4 l = none
 xt : ∀ l, callExt (EV tab) 7 l = none
 xd : ∀ l, callExt (EV tab) 14 l = none
 xm : ∀ l, callExt (EV tab) 13 l = none
 xo : ∀ l, callExt (EV tab) 10 l = none
 xb : ∀ l, callExt (EV tab) 12 l = none
 xc : ∀ l, callExt (EV tab) 9 l = none
 xe : ∀ l, callExt (EV tab) 8 l = none
 xl : ∀ l, callExt (EV tab) 25 l = none
 xg : ∀ l, callExt (EV tab) 11 l = none
 en : EnX tab
 br : BrX tab
 ck : CheckP tab 41
 de : DecP tab
 dr : DecPR tab
 aw : ∀ h, callR (EV tab) 5 [] h = some (.bool true, h)
theorem decF_len : ∀ (k : Nat) (b : List UInt8) (i : Nat) (acc : List Ins), (decF chkI k b i acc).1.length ≤ acc.length + k
 | 0, _, _, acc => Nat.le_refl _
 | k + 1, b, i, acc => by
  rw [decF]
  split
  ·show acc.length ≤ _; omega
  ·split
   ·exact Nat.zero_le _
   ·have := decF_len k b (i + (decG chkI (b.drop i)).2.1) (acc ++ [(decG chkI (b.drop i)).1])
    simp only [List.length_append, List.length_cons, List.length_nil] at this
    omega
theorem decL_len (b : List UInt8) : (decL b).1.length ≤ 65536 := by
 unfold decL
 split
 ·exact Nat.zero_le _
 ·have := decF_len b.length b 0 []
  simp at this
  omega
theorem codes_run (tab : Tab) (hX : CoX tab) (h : H) (hng : tab.ng ≤ h.next) (v w : Value) (l : List Ins) (b : List UInt8) (hv : InS tab h v 44 l) (hw : BT tab h w b) (hnum : ∀ x ∈ l, x.num < 18446744073709551616) :
  ∃ h', callR (EV tab) 3 [v, w] h = some (.bool true, h') := by
 obtain ⟨x0, xs, xt, xd, xm, xo, xb, xc, xe, xl, xg, en, br, ck, de, dr, aw⟩ := hX
 obtain ⟨h1, e1, k1⟩ := short_run tab xs h hng v l hv
 obtain ⟨aw0, cw0, hwv⟩ := hw.len
 by_cases q1 : shortB l = false
 ·rw [q1] at e1
  generalize he : callR _ _ _ _ = r
  rw [enter3 _ _ _ (x0 _) rfl] at he
  simp only [sS, sevalprocAttr, fF3, tT, sN, sO, e1, aw] at he
  subst he
  exact ⟨_, rfl⟩
 have q1 : shortB l = true := by simpa using q1
 rw [q1] at e1
 by_cases q2 : 2000 < b.length ∧ b.length ≠ 65537
 ·have d2 : decide ((2000 : Int) < (b.length : Nat)) = true := decide_eq_true (by omega)
  have d3 : (((b.length : Nat) : Int) != 65537) = true := by simp; omega
  generalize he : callR _ _ _ _ = r
  rw [enter3 _ _ _ (x0 _) rfl] at he
  subst hwv
  simp only [sS, sevalprocAttr, fF3, tT, sN, sO, e1, aw, iGtr, iNeq, gt_iff_lt, d2, d3, Bool.not_true] at he
  subst he
  exact ⟨_, rfl⟩
 have hbl : b.length < 100000 := by omega
 have hll := short_le q1
 have n1 : tab.ng ≤ h1.next := Nat.le_trans hng k1.le
 obtain ⟨v2, h2, e2, r2, k2⟩ := cv_runT tab xt h1 n1 v l (hv.kept k1) (by omega)
 have n2 : tab.ng ≤ h2.next := Nat.le_trans n1 k2.le
 obtain ⟨v3, h3, e3, r3, k3⟩ := encode_run tab en h2 n2 v2 l (r2.ins n1) (by omega) hnum
 have n3 : tab.ng ≤ h3.next := Nat.le_trans n2 k3.le
 have k03 : Kept h h3 := (k1.trans k2).trans k3
 obtain ⟨v4, h4, e4, r4, k4⟩ := encode26_run tab br xe xl ck h3 n3 v l (hv.kept k03) (by omega) hnum
 have n4 : tab.ng ≤ h4.next := Nat.le_trans n3 k4.le
 obtain ⟨v5, h5, e5, r5, k5⟩ := own_run tab xo h4 n4 w b (hw.bs.kept (k03.trans k4)) (by omega)
 have n5 : tab.ng ≤ h5.next := Nat.le_trans n4 k5.le
 obtain ⟨v6, h6, e6, r6, k6⟩ := Decode_run tab xc de h5 n5 v5 b (r5.bt rfl n4) (by omega)
 have n6 : tab.ng ≤ h6.next := Nat.le_trans n5 k6.le
 have k06 : Kept h h6 := ((k03.trans k4).trans k5).trans k6
 obtain ⟨v7, h7, e7, r7, k7⟩ := Decode_runR tab xg dr h6 n6 w b (hw.kept k06) (by omega)
 have n7 : tab.ng ≤ h7.next := Nat.le_trans n6 k7.le
 have e8 := same_run tab xb h7 v3 v4 _ _ ((r3.bs (tab := tab) rfl n2).kept (((k4.trans k5).trans k6).trans k7)) ((r4.bs (tab := tab) rfl n3).kept ((k5.trans k6).trans k7))
 rw [beq_self_eq_true] at e8
 have hdl := decL_len b
 obtain ⟨v8, h8, e9, r8, k8⟩ := cv_runD tab xd h7 n7 v6 (decL b).1 ((r6.ins n5).kept k7) (by omega)
 have e10 := sameI_run tab xm h8 v8 v7 (decL b).1 (decL b).1 (r8.ins n7) ((r7.ins n6).kept k8) (by omega)
 rw [sameB_t rfl] at e10
 have z1 : ((allI l : Int) == allI l) = true := beq_self_eq_true _
 have z2 : (((decL b).2.1 : Int) == ((decL b).2.1 : Int)) = true := beq_self_eq_true _
 have z3 : ((decL b).2.2 == (decL b).2.2) = true := beq_self_eq_true _
 by_cases q3 : 2000 < b.length
 ·have d2 : decide ((2000 : Int) < (b.length : Nat)) = true := decide_eq_true (by omega)
  have d3 : (((b.length : Nat) : Int) != 65537) = false := by simp; omega
  generalize he : callR _ _ _ _ = r
  rw [enter3 _ _ _ (x0 _) rfl] at he
  subst hwv
  simp only [sS, sevalprocAttr, fF3, tT, sN, sO, e1, aw, iGtr, iNeq, iEql, gt_iff_lt, d2, d3, e2, e3, e4, e5, e6, e7, e8, e9, e10, z1, z2, z3, Bool.not_true] at he
  subst he
  exact ⟨_, rfl⟩
 ·have d2 : decide ((2000 : Int) < (b.length : Nat)) = false := decide_eq_false (by omega)
  generalize he : callR _ _ _ _ = r
  rw [enter3 _ _ _ (x0 _) rfl] at he
  subst hwv
  simp only [sS, sevalprocAttr, fF3, tT, sN, sO, e1, aw, iGtr, iNeq, iEql, gt_iff_lt, d2, e2, e3, e4, e5, e6, e7, e8, e9, e10, z1, z2, z3, Bool.not_true] at he
  subst he
  exact ⟨_, rfl⟩
end Go.D
