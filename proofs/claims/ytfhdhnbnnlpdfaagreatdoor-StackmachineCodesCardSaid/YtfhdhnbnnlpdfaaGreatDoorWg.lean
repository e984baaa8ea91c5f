/- The functions of the law, one after the other: what a run of D answers. -/
import Derived.Test.YtfhdhnbnnlpdfaaGreatDoorWf
import Derived.Test.YtfhdhnbnnlpdfaaGreatDoorFull
import Derived.Test.YtfhdhnbnnlpdfaaGreatDoorW0
import Derived.Laws.RangeString
import Derived.Laws.RangeAny
import Derived.Laws.StructEq
namespace Go.D
open Go.Proofs
set_option maxRecDepth 100000
set_option linter.unusedVariables false
set_option linter.unusedSimpArgs false
def eqIns (x y : Ins) : Bool := x.op == y.op && (x.t == y.t && (x.u == y.u && (x.num == y.num && (x.imm == y.imm && x.size == y.size))))
theorem eq36 (tab : Tab) (x y : Ins) : eqD (EV tab) 44 (.agg ⟨insC x⟩) (.agg ⟨insC y⟩) = some (eqIns x y) := by
 have hq : (EV tab).eqf 44 = true := rfl
 have hn : (((x.num : Nat) : Int) == ((y.num : Nat) : Int)) = (x.num == y.num) := by rw [Bool.eq_iff_iff, beq_iff_eq, beq_iff_eq]; omega
 have hb : ∀ a b : List UInt8, (({ data := ⟨a⟩ } : ByteArray) == { data := ⟨b⟩ }) = (a == b) := fun a b => by rw [beq_toListBytes, bs_beq]
 simp only [eqD, ti44, hq, insC, insL, sameKinds, beq_self_eq_true, Bool.and_self, if_true, eqCells, hb, hn, eqIns]
 cases x.op == y.op <;> cases x.t == y.t <;> cases x.u == y.u <;> cases x.num == y.num <;> cases x.imm == y.imm <;> cases x.size == y.size <;> simp
theorem insC_veq (x : Ins) : veq 3 (.agg ⟨insC x⟩) (.agg ⟨insC x⟩) = true := insL_veq ..
theorem eqIns_iff (x y : Ins) : eqIns x y = true ↔ x = y := by
 cases x; cases y
 simp [eqIns]
noncomputable def saLoop : Code := .loop (.seq (Rg 13 4) (.seq (.cond (Operand.tmp 14) .skip (Code.exit 0)) (.seq (.block 1 (.seq (Rg 13 5) (.seq (Rg 13 6) (.cond (Operand.tmp 24) (.seq (Rg 13 7) .ret) .skip)))) (Rg 13 8))))
theorem sa_loop (tab : Tab) (h : H) (b o c b2 o2 c2 : Nat) (l m : List Ins) (hm1 : Mem tab h b o (cellsI l)) (hm2 : Mem tab h b2 o2 (cellsI m)) (hl : m.length = l.length) (hn : l.length ≤ 1000000) :
  ∀ (k i : Nat) (tm : Tr Value), i + k = l.length → tm.get 0 = some (.slice (some ⟨b, o, none⟩) l.length c) → tm.get 1 = some (.slice (some ⟨b2, o2, none⟩) l.length c2) → tm.get 12 = some (.int .i64 l.length) → tm.get 13 = some (.int .i64 i) →
  ∃ tm', (exR (EV tab) saLoop ⟨false, 26, tm, h⟩ = some (.exit 0, ⟨false, 26, tm', h⟩) ∧ l.drop i = m.drop i) ∨ (exR (EV tab) saLoop ⟨false, 26, tm, h⟩ = some (.ret, ⟨false, 26, tm', h⟩) ∧ l.drop i ≠ m.drop i ∧ tm'.get 4 = some (.bool false)) := by
 intro k
 induction k with
 | zero =>
  intro i tm hk t0 t1 t12 t13
  have hlt : ¬ i < l.length := by omega
  generalize he : exR (EV tab) saLoop ⟨false, 26, tm, h⟩ = r
  rw [saLoop, exR_loop] at he
  simp only [sS, sevalprocAttr, fF13, tT, t12, t13, iLss, Int.ofNat_lt, hlt, decide_false] at he
  subst he
  exact ⟨_, .inl ⟨rfl, by rw [List.drop_eq_nil_of_le (by omega), List.drop_eq_nil_of_le (by omega)]⟩⟩
 | succ k ih =>
  intro i tm hk t0 t1 t12 t13
  have hlt : i < l.length := by omega
  have hlt2 : i < m.length := by omega
  have hd : l.drop i = l[i] :: l.drop (i + 1) := (List.getElem_cons_drop hlt).symm
  have hd2 : m.drop i = m[i] :: m.drop (i + 1) := (List.getElem_cons_drop hlt2).symm
  have s1 := hm1.ins i hlt
  have s2 := hm2.ins i hlt2
  have e := eq36 tab l[i] m[i]
  have v1 := insC_veq l[i]
  have v2 := insC_veq m[i]
  rw [hd, hd2]
  cases q : eqIns l[i] m[i] with
  | true =>
   have hq := (eqIns_iff _ _).1 q
   obtain ⟨tm1, e1, a0, a1, a12, a13⟩ : ∃ tm1, exR (EV tab) saLoop ⟨false, 26, tm, h⟩ = exR (EV tab) saLoop ⟨false, 26, tm1, h⟩ ∧ tm1.get 0 = some (.slice (some ⟨b, o, none⟩) l.length c) ∧ tm1.get 1 = some (.slice (some ⟨b2, o2, none⟩) l.length c2) ∧ tm1.get 12 = some (.int .i64 l.length) ∧ tm1.get 13 = some (.int .i64 ((i + 1 : Nat) : Int)) := by
    generalize he : exR (EV tab) saLoop ⟨false, 26, tm, h⟩ = r
    rw [saLoop, exR_loop] at he
    simp only [sS, sevalprocAttr, fF13, tT, sN, sO, ng_eq, tabL_ng, t0, t1, t12, t13, iLss, Int.ofNat_lt, hlt, decide_true, Int.natCast_nonneg, and_self, Int.toNat_natCast, s1, s2, eqBin, eqOut, e, q, v1, v2, if_true, Bool.not_true, add1 i (by omega)] at he
    subst he
    refine ⟨_, rfl, ?_, ?_, ?_, ?_⟩ <;> simp only [Tr.get_set, Nat.reduceEqDiff, ↓reduceIte, t0, t1, t12]
   obtain ⟨tm', x⟩ := ih (i + 1) tm1 (by omega) a0 a1 a12 a13
   rw [e1]
   refine ⟨tm', x.imp (fun x => ⟨x.1, by rw [hq, x.2]⟩) (fun x => ⟨x.1, fun hh => x.2.1 (List.cons.inj hh).2, x.2.2⟩)⟩
  | false =>
   generalize he : exR (EV tab) saLoop ⟨false, 26, tm, h⟩ = r
   rw [saLoop, exR_loop] at he
   simp only [sS, sevalprocAttr, fF13, tT, sN, sO, ng_eq, tabL_ng, t0, t1, t12, t13, iLss, Int.ofNat_lt, hlt, decide_true, Int.natCast_nonneg, and_self, Int.toNat_natCast, s1, s2, eqBin, eqOut, e, q, v1, v2, if_true, Bool.not_false] at he
   subst he
   exact ⟨_, .inr ⟨rfl, fun hh => absurd ((eqIns_iff _ _).2 (List.cons.inj hh).1) (by rw [q]; decide), by simp only [Tr.get_set, Nat.reduceEqDiff, ↓reduceIte]⟩⟩
open Classical in
noncomputable def sameB (l m : List Ins) : Bool := decide (l = m)
theorem sameB_t {l m : List Ins} (h : l = m) : sameB l m = true := by simp [sameB, h]
theorem sameB_f {l m : List Ins} (h : ¬ l = m) : sameB l m = false := by simp [sameB, h]
theorem sameI_run (tab : Tab) (hx : ∀ l, callExt (EV tab) 13 l = none) (h : H) (v w : Value) (l m : List Ins) (hv : InS tab h v 44 l) (hw : InS tab h w 44 m) (hn : l.length ≤ 1000000) :
  callR (EV tab) 13 [v, w] h = some (.bool (sameB l m), h) := by
 have lv : ∃ a c, v = .slice a l.length c := by
  rcases hv with ⟨rfl, rfl⟩ | ⟨b, o, c, rfl, _⟩
  ·exact ⟨_, _, rfl⟩
  ·exact ⟨_, _, rfl⟩
 have lw : ∃ a c, w = .slice a m.length c := by
  rcases hw with ⟨rfl, rfl⟩ | ⟨b, o, c, rfl, _⟩
  ·exact ⟨_, _, rfl⟩
  ·exact ⟨_, _, rfl⟩
 by_cases q : l.length = m.length
 ·have z : (((l.length : Nat) : Int) != ((m.length : Nat) : Int)) = false := by rw [q, bne_self_eq_false]
  by_cases q0 : l = []
  ·subst q0
   have hm : m = [] := List.eq_nil_of_length_eq_zero q.symm
   subst hm
   obtain ⟨a, c, rfl⟩ := lv
   obtain ⟨a2, c2, rfl⟩ := lw
   have z0 : ((0 : Int) != 0) = false := rfl
   generalize he : callR _ _ _ _ = r
   rw [enter13 _ _ _ (hx _) rfl] at he
   simp only [sS, sevalprocAttr, fF13, tT, sN, sM, exR_loop, ng_eq, tabL_ng, iLss, iNeq, z0, Int.cast_ofNat_Int, Int.reduceLT, decide_false, Int.lt_irrefl] at he
   subst he
   rw [sameB_t rfl]
  ·rcases hv with ⟨_, rfl⟩ | ⟨b, o, c, rfl, hm1⟩
   ·exact absurd rfl q0
   ·rcases hw with ⟨_, rfl⟩ | ⟨b3, o3, c3, rfl, hm2⟩
    ·exact absurd (List.eq_nil_of_length_eq_zero q) q0
    ·have key : ∀ tm h1, (h1 = h ∧ tm.get 0 = some (.slice (some ⟨b, o, none⟩) l.length c) ∧ tm.get 1 = some (.slice (some ⟨b3, o3, none⟩) l.length c3) ∧ tm.get 12 = some (.int .i64 l.length) ∧ tm.get 13 = some (.int .i64 0)) → ∃ x s', exR (EV tab) saLoop ⟨false, 26, tm, h1⟩ = some (x, s') ∧
       ((x = .exit 0 ∧ ∃ tm', s' = ⟨false, 26, tm', h⟩ ∧ l = m) ∨ (x = .ret ∧ ∃ tm', s' = ⟨false, 26, tm', h⟩ ∧ l ≠ m ∧ tm'.get 4 = some (.bool false))) := fun tm h1 p => by
      obtain ⟨rfl, p0, p1, p2, p3⟩ := p
      obtain ⟨tm', ⟨e, x⟩ | ⟨e, x, y⟩⟩ := sa_loop tab h1 b o c b3 o3 c3 l m hm1 hm2 q.symm hn l.length 0 tm (by omega) p0 p1 p2 p3
      ·exact ⟨_, _, e, .inl ⟨rfl, tm', rfl, by simpa using x⟩⟩
      ·exact ⟨_, _, e, .inr ⟨rfl, tm', rfl, by simpa using x, y⟩⟩
     rw [← q]
     rw [← q] at z
     generalize he : callR _ _ _ _ = r
     rw [enter13 _ _ _ (hx _) rfl] at he
     simp only [sS, sevalprocAttr, r13_0, r13_1, r13_3, tT, iNeq, z] at he
     obtain ⟨x1, s1, ⟨rfl, tm', rfl, y⟩ | ⟨rfl, tm', rfl, y, y2⟩, he⟩ := use_run key (fun o => finish (EV tab) [ResultVar.tmp 4] (andThen (unblock 0 o) (exR (EV tab) (.seq (Rg 13 9) .ret)))) he (by
      refine ⟨rfl, ?_, ?_, ?_, ?_⟩ <;> simp only [Tr.get_set, Nat.reduceEqDiff, ↓reduceIte])
     ·simp only [sS, sevalprocAttr, fF13, tT] at he
      subst he
      rw [sameB_t y]
     ·simp only [sS, sevalprocAttr, fF13, tT, y2] at he
      subst he
      rw [sameB_f y]
 ·have z : (((l.length : Nat) : Int) != ((m.length : Nat) : Int)) = true := by rw [bne_iff_ne]; omega
  obtain ⟨a, c, rfl⟩ := lv
  obtain ⟨a2, c2, rfl⟩ := lw
  generalize he : callR _ _ _ _ = r
  rw [enter13 _ _ _ (hx _) rfl] at he
  simp only [sS, sevalprocAttr, fF13, tT, sN, sM, ng_eq, tabL_ng, iNeq, z] at he
  subst he
  rw [sameB_f (fun h => q (by rw [h]))]
theorem bs_get (l : List UInt8) (i : Nat) (hi : i < l.length) : (bs l)[i]? = some (.int .u8 (l[i].toNat : Nat)) := by
 rw [bs, List.getElem?_map, List.getElem?_eq_getElem hi]; rfl
def Cut (tab : Tab) (h : H) (b c n : Nat) : Prop := (b < tab.ng ∧ c ≠ 0 ∧ n ≤ c / 2) ∨ (tab.ng ≤ b ∧ (∃ ob, h.get b = some ob ∧ ob.row = some (5, 1)) ∧ (c = 0 ∨ n ≤ c / 2))
def BT (tab : Tab) (h : H) (v : Value) (l : List UInt8) : Prop :=
 (v = .slice none 0 0 ∧ l = []) ∨ ∃ (b o c : Nat), v = .slice (some ⟨b, o, none⟩) l.length c ∧ Mem tab h b o (bs l) ∧ Cut tab h b c l.length
def NB (h : H) (p : Nat) : Prop := ∀ ob, h.get p = some ob → ob.row ≠ some (5, 1)
theorem nb_cells {h : H} {p e z : Nat} {l : List Value} (hg : h.get p = some (.cells e z l)) (hz : ¬ (e = 5 ∧ z = 1)) : NB h p := fun ob ho hr => by
 rw [hg] at ho
 cases ho
 simp only [Obj.row, Option.some.injEq, Prod.mk.injEq] at hr
 exact hz hr
theorem nb_iter {h : H} {p : Nat} {t : ByteArray} {i : Nat} (hg : h.get p = some (.iter t i)) : NB h p := fun ob ho hr => by
 rw [hg] at ho
 cases ho
 cases hr
structure KeptX (p : Nat) (h h' : H) : Prop where
 le : h.next ≤ h'.next
 get : ∀ c, c < h.next → c ≠ p → h'.get c = h.get c
theorem KeptX.refl (p : Nat) (h : H) : KeptX p h h := ⟨Nat.le_refl _, fun _ _ _ => rfl⟩
theorem KeptX.trans {p : Nat} {a b c : H} (x : KeptX p a b) (y : KeptX p b c) : KeptX p a c := ⟨Nat.le_trans x.le y.le, fun d hd hp => (y.get d (Nat.lt_of_lt_of_le hd x.le) hp).trans (x.get d hd hp)⟩
theorem Kept.x {h h' : H} (k : Kept h h') (p : Nat) : KeptX p h h' := ⟨k.le, fun c hc _ => k.get c hc⟩
theorem KeptX.put {p : Nat} {h h' : H} (k : KeptX p h h') (o : Obj) : KeptX p h (h'.put p o) := ⟨k.le, fun c hc hp => by rw [H.get_put, if_neg (Ne.symm hp)]; exact k.get c hc hp⟩
theorem KeptX.push {p : Nat} {h h' : H} (k : KeptX p h h') (o : Obj) : KeptX p h (h'.push o) := ⟨by rw [H.next_push]; exact Nat.le_succ_of_le k.le, fun c hc hp => by rw [H.get_push_lt h' o (Nat.lt_of_lt_of_le hc k.le)]; exact k.get c hc hp⟩
theorem KeptX.kept {p : Nat} {h0 h h' : H} (k : KeptX p h h') (k0 : Kept h0 h) (hp : h0.next ≤ p) : Kept h0 h' :=
 ⟨Nat.le_trans k0.le k.le, fun c hc => (k.get c (Nat.lt_of_lt_of_le hc k0.le) (by omega)).trans (k0.get c hc)⟩
theorem BT.keptX {tab : Tab} {h h' : H} {v : Value} {l : List UInt8} (i : BT tab h v l) {p : Nat} (k : KeptX p h h') (hp : NB h p) : BT tab h' v l := by
 rcases i with i | ⟨b, o, c, i1, m, t⟩
 ·exact .inl i
 ·rcases t with ⟨t1, t2⟩ | ⟨t1, ⟨ob, t2, t3⟩, t4⟩
  ·exact .inr ⟨b, o, c, i1, ⟨.inl t1, fun i v hv => by have := m.at_ i v hv; unfold cellAt at this ⊢; rw [if_pos t1] at this ⊢; exact this⟩, .inl ⟨t1, t2⟩⟩
  ·have hne : b ≠ p := by rintro rfl; exact hp ob t2 t3
   rcases m.al with q | ⟨q, q2⟩
   ·omega
   ·have e := k.get b q hne
    exact .inr ⟨b, o, c, i1, ⟨.inr ⟨Nat.lt_of_lt_of_le q k.le, by rw [e]; exact q2⟩, fun i v hv => by have := m.at_ i v hv; unfold cellAt at this ⊢; rw [e]; exact this⟩, .inr ⟨t1, ⟨ob, by rw [e]; exact t2, t3⟩, t4⟩⟩
theorem BT.kept {tab : Tab} {h h' : H} {v : Value} {l : List UInt8} (i : BT tab h v l) (k : Kept h h') : BT tab h' v l := by
 rcases i with i | ⟨b, o, c, i1, m, t⟩
 ·exact .inl i
 ·refine .inr ⟨b, o, c, i1, m.kept k, ?_⟩
  rcases t with t | ⟨t1, ⟨ob, t2, t3⟩, t4⟩
  ·exact .inl t
  ·rcases m.al with q | ⟨q, _⟩
   ·omega
   ·exact .inr ⟨t1, ⟨ob, by rw [k.get b q]; exact t2, t3⟩, t4⟩
theorem BT.len {tab : Tab} {h : H} {v : Value} {l : List UInt8} (i : BT tab h v l) : ∃ a c, v = .slice a l.length c := by
 rcases i with ⟨rfl, rfl⟩ | ⟨b, o, c, rfl, _⟩
 ·exact ⟨_, _, rfl⟩
 ·exact ⟨_, _, rfl⟩
theorem bt_cells {tab : Tab} {h : H} {b c : Nat} {l : List UInt8} (hb : tab.ng ≤ b) (hlt : b < h.next) (hg : h.get b = some (.cells 5 1 (bs l))) (hc : c = 0 ∨ l.length ≤ c / 2) : BT tab h (.slice (some ⟨b, 0, none⟩) l.length c) l :=
 .inr ⟨b, 0, c, rfl, mem_cells hb hlt hg, .inr ⟨hb, ⟨_, hg, rfl⟩, hc⟩⟩
theorem BT.bs {tab : Tab} {h : H} {v : Value} {l : List UInt8} (i : BT tab h v l) : BS tab h v l := by
 rcases i with i | ⟨b, o, c, i1, m, _⟩
 ·exact .inl i
 ·exact .inr ⟨b, o, c, i1, m⟩
theorem Row.bt {tab : Tab} {h0 h : H} {v : Value} {l : List UInt8} {n : Nat} (hn : n = l.length) (r : Row h0 h 5 1 v n (Go.D.bs l)) (hng : tab.ng ≤ h0.next) : BT tab h v l := by
 subst hn
 rcases r with ⟨r1, r2, _⟩ | ⟨b, rfl, r2, r3, r4, _⟩
 ·exact .inl ⟨r1, List.eq_nil_of_length_eq_zero r2⟩
 ·exact bt_cells (by omega) r3 r4 (.inl rfl)
def natV (n : Nat) : Value := .int .i64 (n : Int)
theorem slice_bt (tab : Tab) {h : H} {v : Value} {l : List UInt8} (i : BT tab h v l) (lo hi : Option Nat) (h1 : lo.getD 0 ≤ hi.getD l.length) (h2 : hi.getD l.length ≤ l.length) :
  ∃ v', sliceD (EV tab) h 23 v (lo.map natV) (hi.map natV) none = some v' ∧ BT tab h v' ((l.take (hi.getD l.length)).drop (lo.getD 0)) := by
 have bo : ∀ (o : Option Nat) (y d : Nat), o.getD d ≤ y → boundO (o.map natV) y d = some (o.getD d) := fun o y d hd => by
  cases o with
  | none => rfl
  | some n =>
   show boundD (.int .i64 (n : Nat)) y = some n
   have : (0 : Int) ≤ n ∧ (n : Int) ≤ y := by simp at hd; omega
   simp only [boundD]
   rw [if_pos this, Int.toNat_natCast]
 have boN : ∀ y d, boundO none y d = some d := fun _ _ => rfl
 rcases i with ⟨rfl, rfl⟩ | ⟨b, o, c, rfl, m, t⟩
 ·simp only [List.length_nil, Nat.le_zero] at h1 h2
  rw [h2, Nat.le_zero] at h1
  refine ⟨.slice none 0 0, ?_, .inl ⟨rfl, by simp⟩⟩
  have b1 := bo hi 0 0 (by omega)
  have b2 := bo lo 0 0 (by omega)
  simp only [sliceD, ti23, ti5, sliceOf, sliceNil, b1, b2]
  rfl
 ·have e0 : sliceD (EV tab) h 23 (.slice (some ⟨b, o, none⟩) l.length c) (lo.map natV) (hi.map natV) none = sliceRow b o l.length c 1 (lo.map natV) (hi.map natV) none := by
   rcases t with ⟨t1, t2, t3⟩ | ⟨t1, ⟨ob, t2, t3⟩, t4⟩
   ·simp only [sliceD, ti23, ti5, sliceOf, ng_eq, if_pos t1, if_neg t2]
   ·simp only [sliceD, ti23, ti5, sliceOf, ng_eq, if_neg (Nat.not_lt.2 t1), t2, t3, if_true]
  have i6 : c = 0 ∨ l.length ≤ c / 2 := by
   rcases t with ⟨_, _, t3⟩ | ⟨_, _, t4⟩
   ·exact .inr t3
   ·exact t4
  have hcutt : ∀ c' n', (c' = 0 → c = 0) → (c' = 0 ∨ n' ≤ c' / 2) → Cut tab h b c' n' := fun c' n' hc1 hc2 => by
   rcases t with ⟨t1, t2, t3⟩ | ⟨t1, t2, t4⟩
   ·have hne : c' ≠ 0 := fun h0 => t2 (hc1 h0)
    exact .inl ⟨t1, hne, hc2.resolve_left hne⟩
   ·exact .inr ⟨t1, t2, hc2⟩
  generalize ht : hi.getD l.length = t0 at h1 h2 ⊢
  generalize hs : lo.getD 0 = s at h1 ⊢
  have hl : ((l.take t0).drop s).length = t0 - s := by rw [List.length_drop, List.length_take]; omega
  have hcut : l = l.take s ++ (((l.take t0).drop s) ++ l.drop t0) := by
   have e1 : l.take s = (l.take t0).take s := by rw [List.take_take, Nat.min_eq_left h1]
   rw [← List.append_assoc, e1, List.take_append_drop, List.take_append_drop]
  have mm : Mem tab h b (o + s * 1) (bs ((l.take t0).drop s)) := by
   have m' := m
   rw [hcut, bs_append, bs_append] at m'
   exact m'.part (by rw [bs_length, List.length_take]; omega)
  rw [e0]
  unfold sliceRow
  by_cases q : c = 0
  ·have b1 := bo hi l.length l.length (by omega)
   have b2 := bo lo t0 0 (by omega)
   simp only [if_pos q, boN, b1, ht, b2, hs]
   subst q
   exact ⟨_, rfl, .inr ⟨b, o + s * 1, 0, by rw [hl], mm, hcutt 0 _ (fun _ => rfl) (.inl rfl)⟩⟩
  ·have hc : l.length ≤ c / 2 := by omega
   have b1 := bo hi (c / 2) l.length (by omega)
   have b2 := bo lo t0 0 (by omega)
   have z : (c = 0 && Option.isNone (none : Option Value)) = false := by simp [q]
   simp only [if_neg q, boN, b1, ht, b2, hs, Option.isSome_none, Bool.false_and, Bool.false_eq_true, if_false, z]
   by_cases q2 : c / 2 = s
   ·rw [if_pos q2]
    have hl0 : (l.take t0).drop s = [] := List.eq_nil_of_length_eq_zero (by omega)
    refine ⟨_, rfl, .inr ⟨b, o, _, by rw [hl], ?_, hcutt _ _ (fun h0 => by omega) (.inr (by rw [hl]; omega))⟩⟩
    rw [hl0]
    exact ⟨m.al, fun i v hv => by cases hv⟩
   ·rw [if_neg q2]
    exact ⟨_, rfl, .inr ⟨b, o + s * 1, _, by rw [hl], mm, hcutt _ _ (fun h0 => by omega) (.inr (by rw [hl]; omega))⟩⟩
theorem Mem.byte {tab : Tab} {h : H} {b o : Nat} {l : List UInt8} (m : Mem tab h b o (bs l)) (i : Nat) (hi : i < l.length) : subD (EV tab) h b (o + i) 1 = some [.int .u8 (l[i].toNat : Nat)] := by
 have e : l = l.take i ++ ([l[i]] ++ l.drop (i + 1)) := by
  show l = l.take i ++ (l[i] :: l.drop (i + 1))
  rw [List.getElem_cons_drop hi, List.take_append_drop]
 have m' := m
 rw [e, bs_append, bs_append] at m'
 exact (m'.part (by rw [bs_length, List.length_take]; omega)).all
def RD (N ty : Nat) (h : H) (p : Nat) (v : Value) (e : Int) : Prop := N ≤ p ∧ p < h.next ∧ h.get p = some (.cells ty 2 [v, .int .i64 e])
theorem repl_u8 : ∀ n, repl [Value.int .u8 0] n = bs (List.replicate n 0)
 | 0 => rfl
 | n + 1 => by rw [repl, repl_u8 n]; simp [bs, List.replicate_succ]
abbrev Rd := List UInt8 × Int
def dec2 (n : Nat) : List UInt8 := if n < 10 then [UInt8.ofNat (48 + n)] else [UInt8.ofNat (48 + n / 10), UInt8.ofNat (48 + n % 10)]
def typS (c : Nat) : Option (List UInt8) :=
 if c ≤ 64 then some (117 :: dec2 c) else if c ≤ 128 then some (105 :: dec2 (c - 64)) else if c = 129 then some F32 else if c = 130 then some F64 else if c = 131 then some PTR else if c = 255 then some [] else none
def takeR (n : Nat) (r : Rd) : List UInt8 × Rd :=
 if r.2 ≠ 0 ∨ r.1.length < n then (List.replicate n 0, (r.1, if r.2 = 0 then 39 else r.2)) else (r.1.take n, (r.1.drop n, 0))
def numG : List UInt8 → Nat → Nat → Nat × Rd
 | [], _, _ => (0, ([], 39))
 | b :: l, i, out => if (i = 9 ∧ 1 < b.toNat) ∨ (0 < i ∧ b.toNat = 0) then (0, (l, 1)) else
  if b.toNat < 128 then (out + b.toNat * 128 ^ i, (l, 0)) else numG l (i + 1) (out + (b.toNat - 128) * 128 ^ i)
def numI (r : Rd) : Nat × Rd := if r.2 ≠ 0 then (0, r) else numG r.1 0 0
def smallI (r : Rd) : Nat × Rd := if 2 ^ 62 < (numI r).1 then (0, ((numI r).2.1, if (numI r).2.2 = 0 then 1 else (numI r).2.2)) else numI r
def leN : List UInt8 → Nat
 | [] => 0
 | b :: l => b.toNat + 256 * leN l
def fixI (k : Nat) (r : Rd) : Nat × Rd := (leN (takeR k r).1, (takeR k r).2)
def sgnN (n : Nat) : Int := if n % 2 = 1 then -((n / 2 + 1 : Nat) : Int) else ((n / 2 : Nat) : Int)
def signI (r : Rd) : Int × Rd := (sgnN (smallI r).1, (smallI r).2)
def typI (r : Rd) : List UInt8 × Rd :=
 if (takeR 1 r).2.2 ≠ 0 then ([], (takeR 1 r).2) else match typS ((takeR 1 r).1.headD 0).toNat with
  | some s => (s, (takeR 1 r).2)
  | none => ([], ((takeR 1 r).2.1, 12))
def s32 (n : Nat) : Int := if n % 4294967296 < 2147483648 then ((n % 4294967296 : Nat) : Int) else ((n % 4294967296 : Nat) : Int) - 4294967296
def readI (c : Nat) (x : Ins) (r : Rd) : Ins × Rd :=
 if c = 84 then ({ x with t := (typI r).1 }, (typI r).2) else if c = 85 then ({ x with u := (typI r).1 }, (typI r).2) else
 if c = 110 ∨ c = 76 then ({ x with num := (numI r).1 }, (numI r).2) else if c = 115 then ({ x with imm := (signI r).1 }, (signI r).2) else
 if c = 100 then ({ x with imm := s32 (fixI 4 r).1 }, (fixI 4 r).2) else if c = 119 then ({ x with num := (fixI 8 r).1 }, (fixI 8 r).2) else
 if c = 80 then ({ x with imm := ((smallI r).1 : Nat) }, (smallI r).2) else ({ x with size := ((smallI r).1 : Nat) }, (smallI r).2)
def foldI : List UInt8 → Ins × Rd → Ins × Rd
 | [], s => s
 | c :: us, s => foldI us (readI c.toNat s.1 s.2)
theorem numL_small {n : Nat} (h : n < 128) : numL n = [UInt8.ofNat n] := by rw [numL, if_pos h]
theorem numL_big {n : Nat} (h : ¬ n < 128) : numL n = UInt8.ofNat (n % 128 + 128) :: numL (n / 128) := by rw [numL, if_neg h]
theorem ofNat_toNat {n : Nat} (h : n < 256) : (UInt8.ofNat n).toNat = n := by simp [Nat.mod_eq_of_lt h]
theorem numG_numL (rest : List UInt8) : ∀ (k n i out : Nat), n < 128 ^ (k + 1) → i ≤ 9 → n * 128 ^ i < 2 ^ 64 → (0 < i → n ≠ 0) → numG (numL n ++ rest) i out = (out + n * 128 ^ i, (rest, 0))
 | k, n, i, out, hk, hi, hn, h0 => by
  by_cases q : n < 128
  ·rw [numL_small q]
   show numG (UInt8.ofNat n :: rest) i out = _
   have e : (UInt8.ofNat n).toNat = n := ofNat_toNat (by omega)
   rw [numG, e, if_neg, if_pos q]
   rintro (⟨rfl, h⟩ | ⟨h1, h2⟩)
   ·have : n * 128 ^ 9 ≥ 2 * 128 ^ 9 := Nat.mul_le_mul_right _ (by omega)
    have : (2 : Nat) * 128 ^ 9 = 2 ^ 64 := by decide
    omega
   ·exact h0 h1 h2
  ·cases k with
   | zero => exact absurd hk (by simpa using q)
   | succ k =>
    rw [numL_big q]
    show numG (UInt8.ofNat (n % 128 + 128) :: (numL (n / 128) ++ rest)) i out = _
    have e : (UInt8.ofNat (n % 128 + 128)).toNat = n % 128 + 128 := ofNat_toNat (by omega)
    have hi9 : i ≠ 9 := by
     rintro rfl
     have : n * 128 ^ 9 ≥ 128 * 128 ^ 9 := Nat.mul_le_mul_right _ (by omega)
     have : (128 : Nat) * 128 ^ 9 > 2 ^ 64 := by decide
     omega
    have hp : n / 128 * 128 ^ (i + 1) ≤ n * 128 ^ i := by
     rw [Nat.pow_succ, Nat.mul_comm (128 ^ i) 128, ← Nat.mul_assoc]
     exact Nat.mul_le_mul_right _ (Nat.div_mul_le_self n 128)
    rw [numG, e, if_neg (by omega), if_neg (by omega), numG_numL rest k (n / 128) (i + 1) _ (by rw [Nat.pow_succ] at hk; omega) (by omega) (by omega) (by omega)]
    have key : out + (n % 128 + 128 - 128) * 128 ^ i + n / 128 * 128 ^ (i + 1) = out + n * 128 ^ i := by
     have h1 : n % 128 + 128 - 128 = n % 128 := by omega
     have h2 : n / 128 * (128 ^ i * 128) = (n / 128 * 128) * 128 ^ i := by rw [Nat.mul_comm (128 ^ i) 128, ← Nat.mul_assoc]
     have h3 : n % 128 + n / 128 * 128 = n := by omega
     rw [h1, Nat.pow_succ, Nat.add_assoc, h2, ← Nat.add_mul, h3]
    rw [key]
theorem numI_numL (n : Nat) (hn : n < 2 ^ 64) (rest : List UInt8) : numI (numL n ++ rest, 0) = (n, (rest, 0)) := by
 unfold numI
 rw [if_neg (by simp)]
 have := numG_numL rest 9 n 0 0 (Nat.lt_of_lt_of_le hn (by decide)) (by omega) (by rw [Nat.pow_zero, Nat.mul_one]; exact hn) (by omega)
 rw [Nat.pow_zero, Nat.mul_one, Nat.zero_add] at this
 exact this
theorem numG_inv : ∀ (l : List UInt8) (i out n : Nat) (l' : List UInt8), numG l i out = (n, (l', 0)) → ∃ m, l = numL m ++ l' ∧ n = out + m * 128 ^ i ∧ (0 < i → m ≠ 0) ∧ (i = 9 → m < 2)
 | [], i, out, n, l', h => by
  rw [numG] at h
  have := congrArg (fun p => p.2.2) h
  exact absurd this (by show ¬ (39 : Int) = 0; decide)
 | b :: l, i, out, n, l', h => by
  rw [numG] at h
  by_cases q1 : (i = 9 ∧ 1 < b.toNat) ∨ (0 < i ∧ b.toNat = 0)
  ·rw [if_pos q1] at h
   have := congrArg (fun p => p.2.2) h
   exact absurd this (by show ¬ (1 : Int) = 0; decide)
  ·rw [if_neg q1] at h
   by_cases q2 : b.toNat < 128
   ·rw [if_pos q2] at h
    have h1 : out + b.toNat * 128 ^ i = n := congrArg (fun p => p.1) h
    have h2 : l = l' := congrArg (fun p => p.2.1) h
    refine ⟨b.toNat, ?_, h1.symm, fun hi hb => q1 (.inr ⟨hi, hb⟩), fun hi => ?_⟩
    ·rw [numL_small q2, h2]; simp
    ·have : ¬ 1 < b.toNat := fun hb => q1 (.inl ⟨hi, hb⟩)
     omega
   ·rw [if_neg q2] at h
    obtain ⟨m, e1, e2, e3, e4⟩ := numG_inv l (i + 1) _ n l' h
    have hm := e3 (by omega)
    have hb : b.toNat < 256 := b.toNat_lt
    refine ⟨(b.toNat - 128) + 128 * m, ?_, ?_, fun _ => by omega, fun hi => by exfalso; exact q1 (.inl ⟨hi, by omega⟩)⟩
    ·have hn : ¬ (b.toNat - 128) + 128 * m < 128 := by omega
     have h3 : ((b.toNat - 128) + 128 * m) % 128 + 128 = b.toNat := by omega
     have h4 : ((b.toNat - 128) + 128 * m) / 128 = m := by omega
     rw [numL_big hn, h3, h4, e1]
     simp
    ·rw [e2, Nat.pow_succ, Nat.add_mul, Nat.add_assoc]
     congr 2
     rw [Nat.mul_comm (128 ^ i) 128, ← Nat.mul_assoc, Nat.mul_comm m 128]
theorem numG_lt : ∀ (l : List UInt8) (i out : Nat), i ≤ 9 → out < 128 ^ i → (numG l i out).1 < 2 ^ 64
 | [], i, out, _, _ => by rw [numG]; exact Nat.two_pow_pos 64
 | b :: l, i, out, hi, ho => by
  rw [numG]
  have hb : b.toNat < 256 := b.toNat_lt
  by_cases q1 : (i = 9 ∧ 1 < b.toNat) ∨ (0 < i ∧ b.toNat = 0)
  ·rw [if_pos q1]; exact Nat.two_pow_pos 64
  ·rw [if_neg q1]
   by_cases q2 : b.toNat < 128
   ·rw [if_pos q2]
    show out + b.toNat * 128 ^ i < 2 ^ 64
    by_cases q9 : i = 9
    ·subst q9
     have : b.toNat ≤ 1 := by
      have : ¬ 1 < b.toNat := fun hb => q1 (.inl ⟨rfl, hb⟩)
      omega
     have : b.toNat * 128 ^ 9 ≤ 1 * 128 ^ 9 := Nat.mul_le_mul_right _ this
     have : (128 : Nat) ^ 9 = 2 ^ 63 := by decide
     omega
    ·have h2 : b.toNat * 128 ^ i ≤ 127 * 128 ^ i := Nat.mul_le_mul_right _ (by omega)
     have h3 : (128 : Nat) ^ i ≤ 128 ^ 8 := Nat.pow_le_pow_right (by decide) (by omega)
     have h4 : (128 : Nat) ^ 8 = 2 ^ 56 := by decide
     omega
   ·rw [if_neg q2]
    by_cases q9 : i = 9
    ·exact absurd (Or.inl ⟨q9, by omega⟩) q1
    ·refine numG_lt l (i + 1) _ (by omega) ?_
     have h2 : (b.toNat - 128) * 128 ^ i ≤ 127 * 128 ^ i := Nat.mul_le_mul_right _ (by omega)
     rw [Nat.pow_succ]
     omega
theorem numI_lt (r : Rd) : (numI r).1 < 2 ^ 64 := by
 unfold numI
 split
 ·show 0 < 2 ^ 64; decide
 ·exact numG_lt _ _ _ (by omega) (by simp)
theorem numI_inv {l l' : List UInt8} {n : Nat} (h : numI (l, 0) = (n, (l', 0))) : l = numL n ++ l' := by
 unfold numI at h
 rw [if_neg (by simp)] at h
 obtain ⟨m, e1, e2, _, _⟩ := numG_inv _ _ _ _ _ h
 have : n = m := by simpa using e2
 subst this
 exact e1
theorem smallI_inv {l l' : List UInt8} {n : Nat} (h : smallI (l, 0) = (n, (l', 0))) : l = numL n ++ l' ∧ n ≤ 2 ^ 62 := by
 unfold smallI at h
 by_cases q : 2 ^ 62 < (numI (l, 0)).1
 ·rw [if_pos q] at h
  have h2 := congrArg (fun p => p.2.2) h
  simp only at h2
  split at h2
  ·cases h2
  ·contradiction
 ·rw [if_neg q] at h
  have := numI_inv h
  rw [h] at q
  exact ⟨this, by simpa using q⟩
theorem smallI_numL (n : Nat) (hn : n ≤ 2 ^ 62) (rest : List UInt8) : smallI (numL n ++ rest, 0) = (n, (rest, 0)) := by
 unfold smallI
 rw [numI_numL n (by omega) rest, if_neg (by omega)]
theorem sgn_zz (s : Int) : sgnN (zz s) = s := by
 unfold zz sgnN
 split
 ·rw [if_pos (by omega)]; omega
 ·rw [if_neg (by omega)]; omega
theorem zz_sgn (n : Nat) : zz (sgnN n) = n := by
 unfold zz sgnN
 split <;> split <;> omega
theorem zz_le (s : Int) (h : -2147483648 ≤ s ∧ s < 2147483648) : zz s ≤ 2 ^ 62 := by
 unfold zz; split <;> omega
theorem takeR_ok {n : Nat} {l : List UInt8} (h : n ≤ l.length) : takeR n (l, 0) = (l.take n, (l.drop n, 0)) := by
 unfold takeR
 rw [if_neg (by simp; omega)]
theorem takeR_inv {n : Nat} {l o l' : List UInt8} (h : takeR n (l, 0) = (o, (l', 0))) : l = o ++ l' ∧ o.length = n := by
 unfold takeR at h
 by_cases q : (l, (0 : Int)).2 ≠ 0 ∨ (l, (0 : Int)).1.length < n
 ·rw [if_pos q] at h
  have := congrArg (fun p => p.2.2) h
  exact absurd this (by show ¬ (39 : Int) = 0; decide)
 ·rw [if_neg q] at h
  have h1 : l.take n = o := congrArg (fun p => p.1) h
  have h2 : l.drop n = l' := congrArg (fun p => p.2.1) h
  subst h1 h2
  simp only [not_or] at q
  refine ⟨(List.take_append_drop n l).symm, ?_⟩
  rw [List.length_take]
  have h3 : ¬ l.length < n := q.2
  omega
theorem fixL_len' : ∀ k n, (fixL n k).length = k
 | 0, _ => rfl
 | k + 1, n => by simp [fixL, fixL_len' k]
theorem leN_fixL : ∀ (k n : Nat), leN (fixL n k) = n % 256 ^ k
 | 0, n => by simp [fixL, leN]; omega
 | k + 1, n => by
  rw [fixL, leN, leN_fixL k, ofNat_toNat (by omega), Nat.pow_succ, Nat.mul_comm (256 ^ k) 256, Nat.mod_mul]
theorem fixL_leN : ∀ (l : List UInt8), fixL (leN l) l.length = l
 | [] => rfl
 | b :: l => by
  have hb : b.toNat < 256 := b.toNat_lt
  rw [List.length_cons, fixL, leN]
  have h1 : (b.toNat + 256 * leN l) % 256 = b.toNat := by omega
  have h2 : (b.toNat + 256 * leN l) / 256 = leN l := by omega
  rw [h1, h2, fixL_leN l]
  simp
theorem leN_lt : ∀ (l : List UInt8), leN l < 256 ^ l.length
 | [] => by simp [leN]
 | b :: l => by
  have hb : b.toNat < 256 := b.toNat_lt
  have := leN_lt l
  rw [List.length_cons, leN, Nat.pow_succ]
  omega
theorem fixI_fixL (k n : Nat) (rest : List UInt8) : fixI k (fixL n k ++ rest, 0) = (n % 256 ^ k, (rest, 0)) := by
 unfold fixI
 have h : k ≤ (fixL n k ++ rest).length := by rw [List.length_append, fixL_len']; omega
 rw [takeR_ok h, List.take_left' (fixL_len' k n), List.drop_left' (fixL_len' k n), leN_fixL]
theorem fixI_inv {k n : Nat} {l l' : List UInt8} (h : fixI k (l, 0) = (n, (l', 0))) : l = fixL n k ++ l' ∧ n < 256 ^ k := by
 unfold fixI at h
 have h1 : leN (takeR k (l, 0)).1 = n := congrArg (fun p => p.1) h
 have h2 : (takeR k (l, 0)).2 = (l', 0) := congrArg (fun p => p.2) h
 obtain ⟨a, b⟩ := takeR_inv (o := (takeR k (l, 0)).1) (l' := l') (n := k) (l := l) (by rw [← h2])
 refine ⟨?_, ?_⟩
 ·rw [← h1]
  have := fixL_leN (takeR k (l, 0)).1
  rw [b] at this
  rw [this]; exact a
 ·rw [← h1]
  have := leN_lt (takeR k (l, 0)).1
  rwa [b] at this
theorem s32_u64 (s : Int) (h : -2147483648 ≤ s ∧ s < 2147483648) : s32 (u64 s % 256 ^ 4) = s := by
 have e : (256 : Nat) ^ 4 = 4294967296 := by decide
 rw [e]
 unfold s32 u64
 split <;> omega
theorem fixL_mod : ∀ (k n m : Nat), n % 256 ^ k = m % 256 ^ k → fixL n k = fixL m k
 | 0, _, _, _ => rfl
 | k + 1, n, m, h => by
  rw [Nat.pow_succ, Nat.mul_comm, Nat.mod_mul, Nat.mod_mul] at h
  generalize ha : n / 256 % 256 ^ k = a at h
  generalize hb : m / 256 % 256 ^ k = b at h
  have h1 : n % 256 = m % 256 := by omega
  have h2 : n / 256 % 256 ^ k = m / 256 % 256 ^ k := by omega
  rw [fixL, fixL, h1, fixL_mod k _ _ h2]
theorem u64_s32 (n : Nat) (h : n < 256 ^ 4) : fixL (u64 (s32 n)) 4 = fixL n 4 := by
 have e : (256 : Nat) ^ 4 = 4294967296 := by decide
 apply fixL_mod
 rw [e] at h ⊢
 unfold s32 u64
 split <;> omega
theorem typS_code : (List.range 256).all (fun c => match typS c with | some s => decide (codeT s = (((c : Nat) : Int), 0)) | none => true) = true := by decide +kernel
theorem code_of_typ {c : Nat} {s : List UInt8} (hc : c < 256) (h : typS c = some s) : codeT s = (((c : Nat) : Int), 0) := by
 have := List.all_eq_true.1 typS_code c (List.mem_range.2 hc)
 rw [h] at this
 exact of_decide_eq_true this
theorem digits_of (d : List UInt8) (h : digB d = true) (hl : d.length ≤ 3) (hv : valA 0 d ≤ 64) : d = dec2 (valA 0 d) := by
 have hd : ∀ c : UInt8, isD c = true → ∃ k, k < 10 ∧ c = UInt8.ofNat (48 + k) := fun c hc => by
  simp only [isD, Bool.and_eq_true, decide_eq_true_eq] at hc
  exact ⟨c.toNat - 48, by omega, by rw [show 48 + (c.toNat - 48) = c.toNat by omega]; simp⟩
 have fin1 : ∀ a, a < 10 → digB [UInt8.ofNat (48 + a)] = true → valA 0 [UInt8.ofNat (48 + a)] ≤ 64 → [UInt8.ofNat (48 + a)] = dec2 (valA 0 [UInt8.ofNat (48 + a)]) := by decide +kernel
 have fin2 : ∀ a, a < 10 → ∀ b, b < 10 → digB [UInt8.ofNat (48 + a), UInt8.ofNat (48 + b)] = true → valA 0 [UInt8.ofNat (48 + a), UInt8.ofNat (48 + b)] ≤ 64 →
   [UInt8.ofNat (48 + a), UInt8.ofNat (48 + b)] = dec2 (valA 0 [UInt8.ofNat (48 + a), UInt8.ofNat (48 + b)]) := by decide +kernel
 have h' := h
 unfold digB at h'
 simp only [Bool.and_eq_true] at h'
 obtain ⟨⟨h1, h2⟩, h3⟩ := h'
 rcases d with _ | ⟨a, _ | ⟨b, _ | ⟨c, _ | ⟨e, l⟩⟩⟩⟩
 ·simp at h2
 ·simp only [List.all_cons, List.all_nil, Bool.and_true] at h1
  obtain ⟨k, hk, rfl⟩ := hd a h1
  exact fin1 k hk h hv
 ·simp only [List.all_cons, List.all_nil, Bool.and_true, Bool.and_eq_true] at h1
  obtain ⟨k, hk, ek⟩ := hd a h1.1
  obtain ⟨m, hm, em⟩ := hd b h1.2
  subst ek em
  clear h1 h2 h3 hd fin1 hl
  exact fin2 k hk m hm h hv
 ·exfalso
  simp only [List.all_cons, List.all_nil, Bool.and_true, Bool.and_eq_true] at h1
  have ha := h1.1
  simp only [isD, Bool.and_eq_true, decide_eq_true_eq] at ha
  have hz : a.toNat ≠ 48 := by
   intro q
   have e : a = 48 := UInt8.toNat_inj.1 q
   rw [e] at h3
   exact absurd h3 (by simp)
  clear h h1 h2 h3 fin1 fin2 hd
  have hv2 : valA 0 [a, b, c] = ((0 * 10 + (a.toNat - 48)) * 10 + (b.toNat - 48)) * 10 + (c.toNat - 48) := rfl
  rw [hv2] at hv
  omega
 ·simp at hl
theorem typ_of_code {s : List UInt8} (h : (codeT s).2 = 0) : typS (codeT s).1.toNat = some s ∧ 0 ≤ (codeT s).1 ∧ (codeT s).1 < 256 := by
 unfold codeT at h ⊢
 by_cases q1 : s = F32
 ·subst q1; exact ⟨by decide, by decide, by decide⟩
 by_cases q2 : s = F64
 ·subst q2; exact ⟨by decide, by decide, by decide⟩
 by_cases q3 : s = PTR
 ·subst q3; exact ⟨by decide, by decide, by decide⟩
 by_cases q4 : s = []
 ·subst q4; exact ⟨by decide, by decide, by decide⟩
 rw [if_neg q1, if_neg q2, if_neg q3, if_neg q4] at h ⊢
 by_cases q5 : (opsW s).2 = 0
 ·rw [if_pos q5]
  unfold opsW at q5 ⊢
  rw [if_neg q1, if_neg q2, if_neg q3] at q5 ⊢
  cases s with
  | nil => exact absurd rfl q4
  | cons c d =>
   simp only at q5 ⊢
   by_cases q6 : (rdTy (c :: d)).2.2 = 0
   ·by_cases q7 : (c = 117 ∨ c = 105) ∧ digB d = true ∧ d.length ≤ 3
    ·have e : rdTy (c :: d) = (if 64 < valA 0 d ∨ (valA 0 d = 0 ∧ c = 105) then ((0 : Int), false, (3 : Int)) else (((valA 0 d : Nat) : Int), c == 105, 0)) := by rw [rdTy, if_pos q7]
     by_cases q8 : 64 < valA 0 d ∨ (valA 0 d = 0 ∧ c = 105)
     ·rw [e, if_pos q8] at q6; cases q6
     ·rw [e, if_neg q8]
      have hv : valA 0 d ≤ 64 := Nat.le_of_not_lt fun hh => q8 (.inl hh)
      have hd := digits_of d q7.2.1 q7.2.2 hv
      have hc : (c :: d).head? = some c := rfl
      rw [hc]
      simp only
      have q71 := q7.1
      have hv0 : c = 105 → valA 0 d ≠ 0 := fun h1 h2 => q8 (.inr ⟨h2, h1⟩)
      clear q8 q7 e q6 q5 q1 q2 q3 q4 h
      rcases q71 with rfl | rfl
      ·rw [if_neg (by decide)]
       refine ⟨?_, by omega, by omega⟩
       have : ((valA 0 d : Int) + 0).toNat = valA 0 d := by omega
       rw [this, typS, if_pos (by omega), ← hd]
      ·have hv1 := hv0 rfl
       rw [if_pos rfl]
       refine ⟨?_, by omega, by omega⟩
       have : ((valA 0 d : Int) + 64).toNat = valA 0 d + 64 := by omega
       rw [this, typS, if_neg (by omega), if_pos (by omega)]
       have : valA 0 d + 64 - 64 = valA 0 d := by omega
       rw [this, ← hd]
    ·rw [rdTy, if_neg q7] at q6; cases q6
   ·rw [if_neg q6] at q5; cases q5
 ·rw [if_neg q5] at h; cases h
theorem typI_code {t : List UInt8} (h : (codeT t).2 = 0) (rest : List UInt8) : typI ([UInt8.ofNat (codeT t).1.toNat] ++ rest, 0) = (t, (rest, 0)) := by
 obtain ⟨h1, h2, h3⟩ := typ_of_code h
 unfold typI
 rw [takeR_ok (by simp)]
 simp only [ne_eq, not_true_eq_false, if_false]
 have e : (List.headD (List.take 1 ([UInt8.ofNat (codeT t).1.toNat] ++ rest)) 0).toNat = (codeT t).1.toNat := by
  show (UInt8.ofNat (codeT t).1.toNat).toNat = _
  exact ofNat_toNat (by omega)
 rw [e, h1]
 rfl
theorem typI_inv {l l' t : List UInt8} (h : typI (l, 0) = (t, (l', 0))) : l = [UInt8.ofNat (codeT t).1.toNat] ++ l' := by
 unfold typI at h
 by_cases q : (takeR 1 (l, 0)).2.2 ≠ 0
 ·rw [if_pos q] at h
  have := congrArg (fun p => p.2.2) h
  exact absurd this q
 ·rw [if_neg q] at h
  have q0 : (takeR 1 (l, 0)).2.2 = 0 := Decidable.of_not_not q
  obtain ⟨a, b⟩ := takeR_inv (o := (takeR 1 (l, 0)).1) (l' := (takeR 1 (l, 0)).2.1) (n := 1) (l := l) (by
   exact Prod.ext rfl (Prod.ext rfl q0))
  obtain ⟨c, hc⟩ : ∃ c, (takeR 1 (l, 0)).1 = [c] := List.length_eq_one_iff.1 b
  rw [hc] at h a
  cases ht : typS (List.headD [c] 0).toNat with
  | none =>
   rw [ht] at h
   have := congrArg (fun p => p.2.2) h
   exact absurd this (by show ¬ (12 : Int) = 0; decide)
  | some s =>
   rw [ht] at h
   have h1 : s = t := congrArg (fun p => p.1) h
   have h2 : (takeR 1 (l, 0)).2.1 = l' := congrArg (fun p => p.2.1) h
   subst h1
   have hcc := code_of_typ (c := c.toNat) c.toNat_lt ht
   rw [hcc, a, h2]
   simp
def opX (c : Nat) (x : Ins) : List UInt8 := opB c x.t x.u x.num x.imm x.size
def fld (c : Nat) : Nat := if c = 84 then 0 else if c = 85 then 1 else if c = 110 ∨ c = 76 ∨ c = 119 then 2 else if c = 115 ∨ c = 100 ∨ c = 80 then 3 else 4
def setF (f : Nat) (x y : Ins) : Ins :=
 if f = 0 then { y with t := x.t } else if f = 1 then { y with u := x.u } else if f = 2 then { y with num := x.num } else if f = 3 then { y with imm := x.imm } else { y with size := x.size }
structure Fit (x : Ins) : Prop where
 t : (codeT x.t).2 = 0
 u : (codeT x.u).2 = 0
 num : x.num < 2 ^ 64
 imm : -2147483648 ≤ x.imm ∧ x.imm < 2147483648
 size : 0 ≤ x.size ∧ x.size ≤ 65536
theorem fix8 (n : Nat) (h : n < 2 ^ 64) : n % 256 ^ 8 = n := Nat.mod_eq_of_lt (Nat.lt_of_lt_of_le h (by decide))
theorem readI_opX (c : Nat) (x y : Ins) (rest : List UInt8) (f : Fit x) (hp : c = 80 → 0 ≤ x.imm) : readI c y (opX c x ++ rest, 0) = (setF (fld c) x y, (rest, 0)) := by
 unfold readI opX opB fld
 by_cases c1 : c = 84
 ·simp only [if_pos c1]; rw [typI_code f.t]; rfl
 by_cases c2 : c = 85
 ·subst c2; simp only [if_true, if_neg c1]; rw [typI_code f.u]; rfl
 by_cases c3 : c = 110 ∨ c = 76
 ·have c3' : c = 110 ∨ c = 76 ∨ c = 119 := c3.imp id .inl
  simp only [if_neg c1, if_neg c2, if_pos c3, if_pos c3']; rw [numI_numL _ f.num]; rfl
 by_cases c4 : c = 115
 ·subst c4
  simp only [if_neg c1, if_neg c2, if_neg c3, if_true]
  unfold signI
  rw [smallI_numL _ (zz_le _ f.imm)]
  simp only [sgn_zz]; rfl
 by_cases c5 : c = 100
 ·subst c5
  simp only [if_neg c1, if_neg c2, if_neg c3, if_neg c4, if_true]
  rw [fixI_fixL]
  simp only [s32_u64 _ f.imm]; rfl
 by_cases c6 : c = 119
 ·subst c6
  simp only [if_neg c1, if_neg c2, if_neg c3, if_neg c4, if_neg c5, if_true]
  rw [fixI_fixL]
  simp only [fix8 _ f.num]; rfl
 have n3 : ¬ (c = 110 ∨ c = 76 ∨ c = 119) := fun h => h.elim (fun h => c3 (.inl h)) fun h => h.elim (fun h => c3 (.inr h)) c6
 by_cases c7 : c = 80
 ·have h0 := hp c7
  have hi := f.imm
  subst c7
  simp only [if_neg c1, if_neg c2, if_neg c3, if_neg c4, if_neg c5, if_neg c6, if_true]
  rw [smallI_numL _ (by omega)]
  dsimp only
  rw [Int.toNat_of_nonneg h0]; rfl
 ·have n4 : ¬ (c = 115 ∨ c = 100 ∨ c = 80) := fun h => h.elim c4 fun h => h.elim c5 c7
  have hs := f.size
  simp only [if_neg c1, if_neg c2, if_neg c3, if_neg c4, if_neg c5, if_neg c6, if_neg c7, if_neg n3, if_neg n4]
  rw [smallI_numL _ (by omega)]
  dsimp only
  rw [Int.toNat_of_nonneg hs.1]; rfl
def setA : List UInt8 → Ins → Ins → Ins
 | [], _, y => y
 | c :: us, x, y => setA us x (setF (fld c.toNat) x y)
def opsX (us : List UInt8) (x : Ins) : List UInt8 := us.flatMap fun c => opX c.toNat x
theorem foldI_ops (x : Ins) (f : Fit x) (rest : List UInt8) : ∀ (us : List UInt8) (y : Ins), (∀ c ∈ us, c.toNat = 80 → 0 ≤ x.imm) → foldI us (y, (opsX us x ++ rest, 0)) = (setA us x y, (rest, 0))
 | [], y, _ => rfl
 | c :: us, y, hp => by
  have e : opsX (c :: us) x ++ rest = opX c.toNat x ++ (opsX us x ++ rest) := by simp [opsX]
  rw [e, foldI, readI_opX _ _ _ _ f (hp c (List.mem_cons_self ..)), setA]
  exact foldI_ops x f rest us _ fun d hd => hp d (List.mem_cons_of_mem _ hd)
theorem takeR_err (n : Nat) (l : List UInt8) (e : Int) (he : e ≠ 0) : takeR n (l, e) = (List.replicate n 0, (l, e)) := by
 unfold takeR
 rw [if_pos (.inl he), if_neg he]
theorem numI_err (l : List UInt8) (e : Int) (he : e ≠ 0) : numI (l, e) = (0, (l, e)) := by
 unfold numI; rw [if_pos he]
theorem smallI_err (l : List UInt8) (e : Int) (he : e ≠ 0) : smallI (l, e) = (0, (l, e)) := by
 unfold smallI; rw [numI_err l e he, if_neg (by show ¬ 2 ^ 62 < 0; decide)]
theorem readI_err (c : Nat) (y : Ins) (l : List UInt8) (e : Int) (he : e ≠ 0) : (readI c y (l, e)).2 = (l, e) := by
 unfold readI signI fixI typI
 rw [numI_err l e he, smallI_err l e he, takeR_err 1 l e he, takeR_err 4 l e he, takeR_err 8 l e he, if_pos he]
 split
 ·rfl
 split
 ·rfl
 split
 ·rfl
 split
 ·rfl
 split
 ·rfl
 split
 ·rfl
 split <;> rfl
theorem foldI_err : ∀ (us : List UInt8) (y : Ins) (l : List UInt8) (e : Int), e ≠ 0 → (foldI us (y, (l, e))).2 = (l, e)
 | [], y, l, e, _ => rfl
 | c :: us, y, l, e, he => by
  rw [foldI]
  have h := readI_err c.toNat y l e he
  have h2 : readI c.toNat (y, ((l, e) : Rd)).1 (y, ((l, e) : Rd)).2 = ((readI c.toNat y (l, e)).1, (l, e)) := Prod.ext rfl h
  rw [h2]
  exact foldI_err us _ l e he
theorem readI_inv (c : Nat) (y z : Ins) (l l' : List UInt8) (h : readI c y (l, 0) = (z, (l', 0))) : l = opX c z ++ l' ∧ z = setF (fld c) z y := by
 unfold readI at h
 unfold opX opB fld
 by_cases c1 : c = 84
 ·simp only [if_pos c1] at h ⊢
  have h1 := congrArg (fun p => p.1) h
  have h2 : (typI (l, 0)).2 = (l', 0) := congrArg (fun p => p.2) h
  simp only at h1
  subst h1
  exact ⟨typI_inv (Prod.ext rfl h2), rfl⟩
 by_cases c2 : c = 85
 ·simp only [if_neg c1, if_pos c2] at h ⊢
  have h1 := congrArg (fun p => p.1) h
  have h2 : (typI (l, 0)).2 = (l', 0) := congrArg (fun p => p.2) h
  simp only at h1
  subst h1
  exact ⟨typI_inv (Prod.ext rfl h2), rfl⟩
 by_cases c3 : c = 110 ∨ c = 76
 ·have c3' : c = 110 ∨ c = 76 ∨ c = 119 := c3.imp id .inl
  simp only [if_neg c1, if_neg c2, if_pos c3, if_pos c3'] at h ⊢
  have h1 := congrArg (fun p => p.1) h
  have h2 : (numI (l, 0)).2 = (l', 0) := congrArg (fun p => p.2) h
  simp only at h1
  subst h1
  exact ⟨numI_inv (Prod.ext rfl h2), rfl⟩
 by_cases c4 : c = 115
 ·subst c4
  simp only [if_neg c1, if_neg c2, if_neg c3, if_true] at h ⊢
  have h1 := congrArg (fun p => p.1) h
  have h2 : (smallI (l, 0)).2 = (l', 0) := congrArg (fun p => p.2) h
  simp only at h1
  subst h1
  have := (smallI_inv (Prod.ext rfl h2)).1
  refine ⟨?_, rfl⟩
  show l = numL (zz (sgnN (smallI (l, 0)).1)) ++ l'
  rw [zz_sgn]; exact this
 by_cases c5 : c = 100
 ·subst c5
  simp only [if_neg c1, if_neg c2, if_neg c3, if_neg c4, if_true] at h ⊢
  have h1 := congrArg (fun p => p.1) h
  have h2 : (fixI 4 (l, 0)).2 = (l', 0) := congrArg (fun p => p.2) h
  simp only at h1
  subst h1
  obtain ⟨a, b⟩ := fixI_inv (Prod.ext rfl h2 : fixI 4 (l, 0) = ((fixI 4 (l, 0)).1, (l', 0)))
  refine ⟨?_, rfl⟩
  show l = fixL (u64 (s32 (fixI 4 (l, 0)).1)) 4 ++ l'
  rw [u64_s32 _ b]; exact a
 by_cases c6 : c = 119
 ·subst c6
  simp only [if_neg c1, if_neg c2, if_neg c3, if_neg c4, if_neg c5, if_true] at h ⊢
  have h1 := congrArg (fun p => p.1) h
  have h2 : (fixI 8 (l, 0)).2 = (l', 0) := congrArg (fun p => p.2) h
  simp only at h1
  subst h1
  exact ⟨(fixI_inv (Prod.ext rfl h2)).1, rfl⟩
 have n3 : ¬ (c = 110 ∨ c = 76 ∨ c = 119) := fun h => h.elim (fun h => c3 (.inl h)) fun h => h.elim (fun h => c3 (.inr h)) c6
 by_cases c7 : c = 80
 ·subst c7
  simp only [if_neg c1, if_neg c2, if_neg c3, if_neg c4, if_neg c5, if_neg c6, if_true] at h ⊢
  have h1 := congrArg (fun p => p.1) h
  have h2 : (smallI (l, 0)).2 = (l', 0) := congrArg (fun p => p.2) h
  simp only at h1
  subst h1
  exact ⟨(smallI_inv (Prod.ext rfl h2)).1, rfl⟩
 ·have n4 : ¬ (c = 115 ∨ c = 100 ∨ c = 80) := fun h => h.elim c4 fun h => h.elim c5 c7
  simp only [if_neg c1, if_neg c2, if_neg c3, if_neg c4, if_neg c5, if_neg c6, if_neg c7, if_neg n3, if_neg n4] at h ⊢
  have h1 := congrArg (fun p => p.1) h
  have h2 : (smallI (l, 0)).2 = (l', 0) := congrArg (fun p => p.2) h
  simp only at h1
  subst h1
  exact ⟨(smallI_inv (Prod.ext rfl h2)).1, rfl⟩
theorem opX_set (c f : Nat) (z y : Ins) (h : fld c ≠ f) (h5 : f < 5) : opX c (setF f z y) = opX c y := by
 unfold setF
 unfold fld at h
 unfold opX opB
 by_cases c1 : c = 84
 ·simp only [if_pos c1] at h ⊢
  rw [if_neg (Ne.symm h)]
  repeat' split
  all_goals rfl
 by_cases c2 : c = 85
 ·simp only [if_neg c1, if_pos c2] at h ⊢
  repeat' split
  all_goals first | rfl | (exfalso; omega)
 by_cases c3 : c = 110 ∨ c = 76
 ·have c3' : c = 110 ∨ c = 76 ∨ c = 119 := c3.imp id .inl
  simp only [if_neg c1, if_neg c2, if_pos c3, if_pos c3'] at h ⊢
  repeat' split
  all_goals first | rfl | (exfalso; omega)
 by_cases c4 : c = 115
 ·subst c4
  simp at h
  simp only [if_neg c1, if_neg c2, if_neg c3, if_true]
  repeat' split
  all_goals first | rfl | (exfalso; omega)
 by_cases c5 : c = 100
 ·subst c5
  simp at h
  simp only [if_neg c1, if_neg c2, if_neg c3, if_neg c4, if_true]
  repeat' split
  all_goals first | rfl | (exfalso; omega)
 by_cases c6 : c = 119
 ·subst c6
  simp at h
  simp only [if_neg c1, if_neg c2, if_neg c3, if_neg c4, if_neg c5, if_true]
  repeat' split
  all_goals first | rfl | (exfalso; omega)
 have n3 : ¬ (c = 110 ∨ c = 76 ∨ c = 119) := fun h => h.elim (fun h => c3 (.inl h)) fun h => h.elim (fun h => c3 (.inr h)) c6
 by_cases c7 : c = 80
 ·subst c7
  simp at h
  simp only [if_neg c1, if_neg c2, if_neg c3, if_neg c4, if_neg c5, if_neg c6, if_true]
  repeat' split
  all_goals first | rfl | (exfalso; omega)
 ·have n4 : ¬ (c = 115 ∨ c = 100 ∨ c = 80) := fun h => h.elim c4 fun h => h.elim c5 c7
  simp only [if_neg c1, if_neg c2, if_neg n3, if_neg n4] at h
  simp only [if_neg c1, if_neg c2, if_neg c3, if_neg c4, if_neg c5, if_neg c6, if_neg c7]
  repeat' split
  all_goals first | rfl | (exfalso; omega)
theorem fld_lt (c : Nat) : fld c < 5 := by
 unfold fld
 repeat' split
 all_goals decide
theorem setF_op (f : Nat) (z y : Ins) : (setF f z y).op = y.op := by
 unfold setF
 repeat' split
 all_goals rfl
theorem foldI_inv : ∀ (us : List UInt8) (y x : Ins) (l l' : List UInt8), (us.map fun c => fld c.toNat).Nodup → foldI us (y, (l, 0)) = (x, (l', 0)) →
  l = opsX us x ++ l' ∧ (∀ c, fld c ∉ us.map (fun c => fld c.toNat) → opX c x = opX c y) ∧ x.op = y.op
 | [], y, x, l, l', _, h => by
  cases h
  exact ⟨rfl, fun _ _ => rfl, rfl⟩
 | c :: us, y, x, l, l', hn, h => by
  rw [foldI] at h
  generalize hr : readI c.toNat (y, ((l, 0) : Rd)).1 (y, ((l, 0) : Rd)).2 = s at h
  obtain ⟨z, l1, e1⟩ := s
  by_cases he : e1 = 0
  ·subst he
   obtain ⟨a1, a2⟩ := readI_inv _ _ _ _ _ hr
   rw [List.map_cons, List.nodup_cons] at hn
   obtain ⟨b1, b2, b3⟩ := foldI_inv us z x l1 l' hn.2 h
   refine ⟨?_, fun d hd => ?_, ?_⟩
   ·rw [a1, b1]
    have : opsX (c :: us) x = opX c.toNat x ++ opsX us x := by simp [opsX]
    rw [this, b2 c.toNat hn.1, List.append_assoc]
   ·rw [List.map_cons, List.mem_cons, not_or] at hd
    rw [b2 d hd.2, a2, opX_set d _ z y hd.1 (fld_lt _)]
   ·rw [b3, a2, setF_op]
  ·have := foldI_err us z l1 e1 he
   rw [h] at this
   exact absurd (congrArg (fun p => p.2) this).symm he
theorem readI_num (c : Nat) (y : Ins) (r : Rd) (hy : y.num < 2 ^ 64) : (readI c y r).1.num < 2 ^ 64 := by
 unfold readI
 split
 ·exact hy
 split
 ·exact hy
 split
 ·exact numI_lt r
 split
 ·exact hy
 split
 ·exact hy
 split
 ·show leN (takeR 8 r).1 < 2 ^ 64
  have h1 := leN_lt (takeR 8 r).1
  have h2 : (takeR 8 r).1.length = 8 := by
   unfold takeR
   split
   ·rfl
   ·rename_i q
    rw [not_or] at q
    show (r.1.take 8).length = 8
    rw [List.length_take]; omega
  rw [h2] at h1
  have : (256 : Nat) ^ 8 = 2 ^ 64 := by decide
  omega
 split <;> exact hy
theorem foldI_num : ∀ (us : List UInt8) (y : Ins) (r : Rd), y.num < 2 ^ 64 → (foldI us (y, r)).1.num < 2 ^ 64
 | [], _, _, h => h
 | c :: us, y, r, h => by
  rw [foldI]
  exact foldI_num us _ _ (readI_num c.toNat y r h)
section
variable (chk : Ins → Int)
def decG (b : List UInt8) : Ins × Nat × Int :=
 match b with
 | [] => (insZ, 0, 39)
 | o :: l => match kindAt (o.toNat : Int) with
  | none => (insZ, 0, 11)
  | some r =>
   if (foldI r.uses ({ insZ with op := o.toNat }, (l, 0))).2.2 ≠ 0 then (insZ, 0, (foldI r.uses ({ insZ with op := o.toNat }, (l, 0))).2.2) else
   if chk (foldI r.uses ({ insZ with op := o.toNat }, (l, 0))).1 ≠ 0 then (insZ, 0, chk (foldI r.uses ({ insZ with op := o.toNat }, (l, 0))).1) else
   ((foldI r.uses ({ insZ with op := o.toNat }, (l, 0))).1, l.length + 1 - (foldI r.uses ({ insZ with op := o.toNat }, (l, 0))).2.1.length, 0)
def decF : Nat → List UInt8 → Nat → List Ins → List Ins × Nat × Int
 | 0, _, _, acc => (acc, 0, 0)
 | k + 1, b, i, acc => if b.length ≤ i then (acc, 0, 0) else
  if (decG chk (b.drop i)).2.2 ≠ 0 then ([], i, (decG chk (b.drop i)).2.2) else decF k b (i + (decG chk (b.drop i)).2.1) (acc ++ [(decG chk (b.drop i)).1])
end
def bytX (x : Ins) : List UInt8 := bytesL x.op.toNat (usesAt x.op) x.t x.u x.num x.imm x.size
structure Sound (chk : Ins → Int) : Prop where
 ok : ∀ x, chk x = 0 → x.num < 2 ^ 64 → Fit x ∧ ∃ k r, x.op = (k : Nat) ∧ kindT[k]? = some r ∧ (∀ c ∈ r.uses, c.toNat = 80 → 0 ≤ x.imm) ∧
  (0 ∉ r.uses.map (fun c => fld c.toNat) → x.t = []) ∧ (1 ∉ r.uses.map (fun c => fld c.toNat) → x.u = []) ∧ (2 ∉ r.uses.map (fun c => fld c.toNat) → x.num = 0) ∧ (3 ∉ r.uses.map (fun c => fld c.toNat) → x.imm = 0) ∧
  (4 ∉ r.uses.map (fun c => fld c.toNat) → x.size = 0)
theorem kindAt_nat (k : Nat) : kindAt (k : Int) = kindT[k]? := by
 unfold kindAt
 rw [if_pos (by omega)]; rfl
theorem kindT_29 {k : Nat} {r : KindR} (h : kindT[k]? = some r) : k < 29 := by
 have := (List.getElem?_eq_some_iff.1 h).1
 exact this
theorem setA_get : ∀ (us : List UInt8) (x y : Ins),
  (setA us x y).op = y.op ∧ (setA us x y).t = (if 0 ∈ us.map (fun c => fld c.toNat) then x.t else y.t) ∧ (setA us x y).u = (if 1 ∈ us.map (fun c => fld c.toNat) then x.u else y.u) ∧
  (setA us x y).num = (if 2 ∈ us.map (fun c => fld c.toNat) then x.num else y.num) ∧ (setA us x y).imm = (if 3 ∈ us.map (fun c => fld c.toNat) then x.imm else y.imm) ∧
  (setA us x y).size = (if 4 ∈ us.map (fun c => fld c.toNat) then x.size else y.size)
 | [], x, y => by simp [setA]
 | c :: us, x, y => by
  obtain ⟨h1, h2, h3, h4, h5, h6⟩ := setA_get us x (setF (fld c.toNat) x y)
  have hf := fld_lt c.toNat
  rw [setA, h1, h2, h3, h4, h5, h6]
  simp only [List.map_cons, List.mem_cons]
  generalize fld c.toNat = f at hf
  match f, hf with
  | 0, _ => simp [setF]
  | 1, _ => simp [setF]
  | 2, _ => simp [setF]
  | 3, _ => simp [setF]
  | 4, _ => simp [setF]
theorem Ins.ext' {x y : Ins} (h1 : x.op = y.op) (h2 : x.t = y.t) (h3 : x.u = y.u) (h4 : x.num = y.num) (h5 : x.imm = y.imm) (h6 : x.size = y.size) : x = y := by
 cases x; cases y
 simp only at h1 h2 h3 h4 h5 h6
 subst h1 h2 h3 h4 h5 h6
 rfl
theorem usesAt_nat {k : Nat} {r : KindR} (h : kindT[k]? = some r) : usesAt (k : Int) = r.uses := by
 unfold usesAt
 rw [kindAt_nat, h]
theorem decG_bytes {chk : Ins → Int} (hs : Sound chk) {x : Ins} (hx : chk x = 0) (hn : x.num < 2 ^ 64) (rest : List UInt8) : decG chk (bytX x ++ rest) = (x, (bytX x).length, 0) := by
 obtain ⟨f, k, r, ho, hk, hp, z0, z1, z2, z3, z4⟩ := hs.ok x hx hn
 have h29 := kindT_29 hk
 have e1 : bytX x = UInt8.ofNat k :: opsX r.uses x := by
  unfold bytX bytesL
  rw [ho, usesAt_nat hk]
  rfl
 have e2 : (UInt8.ofNat k).toNat = k := ofNat_toNat (by omega)
 rw [e1, List.cons_append, decG]
 simp only [e2, kindAt_nat, hk]
 rw [foldI_ops x f rest r.uses _ hp]
 have e3 : setA r.uses x { insZ with op := (k : Nat) } = x := by
  obtain ⟨h1, h2, h3, h4, h5, h6⟩ := setA_get r.uses x { insZ with op := (k : Nat) }
  refine Ins.ext' (by rw [h1, ho]) ?_ ?_ ?_ ?_ ?_
  ·rw [h2]; split
   ·rfl
   ·exact (z0 (by assumption)).symm
  ·rw [h3]; split
   ·rfl
   ·exact (z1 (by assumption)).symm
  ·rw [h4]; split
   ·rfl
   ·exact (z2 (by assumption)).symm
  ·rw [h5]; split
   ·rfl
   ·exact (z3 (by assumption)).symm
  ·rw [h6]; split
   ·rfl
   ·exact (z4 (by assumption)).symm
 rw [e3]
 simp only [hx, ne_eq, not_true_eq_false, if_false, List.length_append, List.length_cons]
 congr 2
 omega
theorem kindT_nodup : kindT.all (fun r => decide (r.uses.map fun c => fld c.toNat).Nodup) = true := by decide +kernel
theorem decG_inv {chk : Ins → Int} {b : List UInt8} {x : Ins} {n : Nat} (h : decG chk b = (x, n, 0)) : chk x = 0 ∧ x.num < 2 ^ 64 ∧ bytX x = b.take n ∧ 0 < n ∧ n ≤ b.length := by
 unfold decG at h
 cases b with
 | nil =>
  have := congrArg (fun p => p.2.2) h
  exact absurd this (by show ¬ (39 : Int) = 0; decide)
 | cons o l =>
  simp only at h
  cases hk : kindAt (o.toNat : Int) with
  | none =>
   rw [hk] at h
   have := congrArg (fun p => p.2.2) h
   exact absurd this (by show ¬ (11 : Int) = 0; decide)
  | some r =>
   rw [hk] at h
   simp only at h
   generalize hf : foldI r.uses ({ insZ with op := o.toNat }, (l, 0)) = s at h
   have hnum := foldI_num r.uses { insZ with op := o.toNat } (l, 0) (by show 0 < 2 ^ 64; decide)
   rw [hf] at hnum
   obtain ⟨z, l1, e1⟩ := s
   simp only at h hnum
   by_cases q1 : e1 = 0
   ·rw [if_neg (by simp [q1])] at h
    by_cases q2 : chk z = 0
    ·rw [if_neg (by simp [q2])] at h
     subst q1
     have hz : z = x := congrArg (fun p => p.1) h
     have hnn : l.length + 1 - l1.length = n := congrArg (fun p => p.2.1) h
     subst hz
     rw [kindAt_nat] at hk
     have hd := of_decide_eq_true (List.all_eq_true.1 kindT_nodup r (List.mem_of_getElem? hk))
     obtain ⟨a1, _, a3⟩ := foldI_inv _ _ _ _ _ hd hf
     have e : bytX z = o :: opsX r.uses z := by
      unfold bytX bytesL
      rw [a3]
      show UInt8.ofNat ((o.toNat : Nat) : Int).toNat :: opsL (usesAt ((o.toNat : Nat) : Int)) _ _ _ _ _ = _
      rw [usesAt_nat hk, Int.toNat_natCast, UInt8.ofNat_toNat]
      rfl
     have hl : l.length = (opsX r.uses z).length + l1.length := by
      have := congrArg List.length a1
      rwa [List.length_append] at this
     have hn2 : n = (opsX r.uses z).length + 1 := by omega
     refine ⟨q2, hnum, ?_, by omega, by rw [List.length_cons]; omega⟩
     rw [e, hn2, List.take_succ_cons]
     congr 1
     conv => rhs; rw [a1]
     exact (List.take_left' rfl).symm
    ·rw [if_pos (by simpa using q2)] at h
     have := congrArg (fun p => p.2.2) h
     exact absurd this q2
   ·rw [if_pos (by simpa using q1)] at h
    have := congrArg (fun p => p.2.2) h
    exact absurd this q1
def encX (l : List Ins) : List UInt8 := (l.map bytX).flatten
theorem encX_cons (x : Ins) (l : List Ins) : encX (x :: l) = bytX x ++ encX l := rfl
theorem encX_snoc (l : List Ins) (x : Ins) : encX (l ++ [x]) = encX l ++ bytX x := by simp [encX]
theorem bytX_pos (x : Ins) : 0 < (bytX x).length := by simp [bytX, bytesL]
theorem decF_enc {chk : Ins → Int} (hs : Sound chk) : ∀ (k : Nat) (l : List Ins) (b : List UInt8) (i : Nat) (acc : List Ins), (∀ x ∈ l, chk x = 0 ∧ x.num < 2 ^ 64) → i ≤ b.length → b.drop i = encX l → l.length ≤ k → decF chk k b i acc = (acc ++ l, 0, 0)
 | 0, l, b, i, acc, _, _, _, hk => by
  have : l = [] := List.eq_nil_of_length_eq_zero (by omega)
  subst this
  simp [decF]
 | k + 1, [], b, i, acc, _, hi, hb, _ => by
  have : (b.drop i).length = 0 := by rw [hb]; rfl
  rw [List.length_drop] at this
  rw [decF, if_pos (by omega)]
  simp
 | k + 1, x :: l, b, i, acc, ha, hi, hb, hk => by
  have hx := ha x (List.mem_cons_self ..)
  have h1 : (b.drop i).length = (bytX x).length + (encX l).length := by rw [hb, encX_cons, List.length_append]
  rw [List.length_drop] at h1
  have h2 := bytX_pos x
  rw [decF, if_neg (by omega), hb, encX_cons, decG_bytes hs hx.1 hx.2]
  simp only [ne_eq, not_true_eq_false, if_false]
  rw [decF_enc hs k l b (i + (bytX x).length) (acc ++ [x]) (fun y hy => ha y (List.mem_cons_of_mem _ hy)) (by omega) ?_ (by simp at hk; omega)]
  ·simp
  ·rw [← List.drop_drop, hb, encX_cons, List.drop_left' rfl]
theorem decF_inv {chk : Ins → Int} : ∀ (k : Nat) (b : List UInt8) (i : Nat) (acc l : List Ins) (p : Nat), i ≤ b.length → b.take i = encX acc → (∀ x ∈ acc, chk x = 0 ∧ x.num < 2 ^ 64) → b.length ≤ i + k → decF chk k b i acc = (l, p, 0) →
  b = encX l ∧ p = 0 ∧ ∀ x ∈ l, chk x = 0 ∧ x.num < 2 ^ 64
 | 0, b, i, acc, l, p, hi, hb, ha, hk, h => by
  simp only [decF, Prod.mk.injEq] at h
  obtain ⟨rfl, rfl, _⟩ := h
  exact ⟨by rw [← hb, List.take_of_length_le (by omega)], rfl, ha⟩
 | k + 1, b, i, acc, l, p, hi, hb, ha, hk, h => by
  rw [decF] at h
  by_cases q : b.length ≤ i
  ·rw [if_pos q] at h
   simp only [Prod.mk.injEq] at h
   obtain ⟨rfl, rfl, _⟩ := h
   exact ⟨by rw [← hb, List.take_of_length_le q], rfl, ha⟩
  ·rw [if_neg q] at h
   generalize hg : decG chk (b.drop i) = s at h
   obtain ⟨x, n, e⟩ := s
   simp only at h
   by_cases q2 : e = 0
   ·subst q2
    simp only [ne_eq, not_true_eq_false, if_false] at h
    obtain ⟨c1, c2, c3, c4, c5⟩ := decG_inv hg
    rw [List.length_drop] at c5
    refine decF_inv k b (i + n) (acc ++ [x]) l p (by omega) ?_ ?_ (by omega) h
    ·rw [List.take_add, hb, encX_snoc, c3]
    ·intro y hy
     rcases List.mem_append.1 hy with hy | hy
     ·exact ha y hy
     ·rw [List.mem_singleton] at hy; subst hy; exact ⟨c1, c2⟩
   ·rw [if_pos (by simpa using q2)] at h
    have := congrArg (fun p => p.2.2) h
    exact absurd this q2
abbrev FirstP (tab : Tab) : Prop := ∀ (h : H) (b c n : Nat) (l : List Int), tab.ng ≤ b → h.get b = some (.cells 26 1 (l.map (.int .i64))) → l.length = n → n < 1000000 → callR (EV tab) 37 [.slice (some ⟨b, 0, none⟩) n c] h = some (.int .i64 (firstI l), h)
structure TkX (tab : Tab) : Prop where
 x1 : ∀ l, callExt (EV tab) 113 l = none
 fi : FirstP tab
abbrev RDp (tab : Tab) (h : H) (p : Nat) (v : Value) (e : Int) : Prop := RD tab.ng 126 h p v e
theorem take_run (tab : Tab) (hX : TkX tab) (h : H) (hng : tab.ng ≤ h.next) (p : Nat) (v : Value) (l : List UInt8) (e : Int) (n : Nat) (hn : n ≤ 8) (hr : RDp tab h p v e) (hb : BT tab h v l) (hl : l.length < 1000000) :
  ∃ w h' v', callR (EV tab) 113 [.pointer (some ⟨p, 0, none⟩), .int .i64 n] h = some (w, h') ∧ BT tab h' w (takeR n (l, e)).1 ∧ RDp tab h' p v' (takeR n (l, e)).2.2 ∧ BT tab h' v' (takeR n (l, e)).2.1 ∧ KeptX p h h' := by
 obtain ⟨x1, fi⟩ := hX
 obtain ⟨r1, r2, r3⟩ := hr
 have hnp : ¬ p < tab.ng := by omega
 have hpc : NB h p := nb_cells r3 (by decide)
 by_cases q : e ≠ 0 ∨ l.length < n
 ·have t1 : takeR n (l, e) = (List.replicate n 0, (l, if e = 0 then 39 else e)) := by unfold takeR; rw [if_pos q]
  rw [t1]
  obtain ⟨a, c, rfl⟩ := hb.len
  have hne : (e != 0) = true ∨ ((e != 0) = false ∧ decide ((l.length : Int) < (n : Int)) = true) := by
   by_cases q0 : e = 0
   ·right
    refine ⟨by rw [q0]; rfl, ?_⟩
    have : l.length < n := q.resolve_left (by simp [q0])
    exact decide_eq_true (by omega)
   ·left; simpa using q0
  have hbt : BT tab (h.push (.cells 26 1 [.int .i64 e, .int .i64 39])) (.slice a l.length c) l := hb.kept ((Kept.refl h).push _)
  have hnn : ¬ h.next < tab.ng := by omega
  have hpn : ¬ h.next = p := by omega
  have ef := fi (h.push (.cells 26 1 [.int .i64 e, .int .i64 39])) h.next 5 2 [e, 39] hng (H.get_push_self _ _) rfl (by decide)
  have f1 : firstI [e, 39] = if e = 0 then 39 else e := by simp only [firstI]; split <;> rfl
  rw [f1] at ef
  have hm : (0 : Int) ≤ n ∧ (n : Int) ≤ n ∧ (n : Int) ≤ 1000000 ∧ 1 ≤ 1000 := by omega
  have hm2 : Nat.ble n 64 = true := Nat.ble_eq_true_of_le (by omega)
  have mk : makeD 5 ⟨.int .u8, 1, 1, [.int .u8 0]⟩ n n = some (.cells 5 1 (bs (List.replicate n 0)), rowTo n (2 * n + 1)) := by
   unfold makeD
   simp only [if_pos hm, Int.toNat_natCast, hm2, if_true, repl_u8]
  have fin : ∀ h2, h2 = ((h.push (.cells 26 1 [.int .i64 e, .int .i64 39])).put p (.cells 126 2 [.slice a l.length c, .int .i64 (if e = 0 then 39 else e)])).push (.cells 5 1 (bs (List.replicate n 0))) →
    BT tab h2 (.slice (some ⟨h.next + 1, 0, none⟩) n (2 * n + 1)) (List.replicate n 0) ∧ RDp tab h2 p (.slice a l.length c) (if e = 0 then 39 else e) ∧ BT tab h2 (.slice a l.length c) l ∧ KeptX p h h2 := fun h2 e2 => by
   have k : KeptX p h h2 := by rw [e2]; exact (((KeptX.refl p h).push _).put _).push _
   have hbt2 : BT tab h2 (.slice (some ⟨h.next + 1, 0, none⟩) (List.replicate n (0 : UInt8)).length (2 * n + 1)) (List.replicate n 0) :=
    bt_cells (by omega) (by rw [e2]; simp only [H.next_push, H.next_put]; omega) (by rw [e2]; simp only [H.get_push, H.next_push, H.next_put, if_true]) (.inr (by rw [List.length_replicate]; omega))
   rw [List.length_replicate] at hbt2
   refine ⟨hbt2, ⟨r1, Nat.lt_of_lt_of_le r2 k.le, ?_⟩, hb.keptX k hpc, k⟩
   ·rw [e2]
    simp only [H.get_push, H.next_push, H.next_put, H.get_put]
    rw [if_neg (by omega), if_pos trivial]
  rcases hne with hne | ⟨hne, hlt⟩
  ·generalize he : callR _ _ _ _ = x
   rw [enter113 _ _ _ (x1 _) rfl] at he
   simp only [sS, sevalprocAttr, fF113, tT, sN, sM, ng_eq, tabL_ng, hnp, hnn, hpn, r3, iNeq, hne, ef, mk, oMake, veq_slice, op_nil] at he
   subst he
   obtain ⟨g1, g2, g3, g4⟩ := fin _ rfl
   exact ⟨_, _, _, rfl, g1, g2, g3, g4⟩
  ·generalize he : callR _ _ _ _ = x
   rw [enter113 _ _ _ (x1 _) rfl] at he
   simp only [sS, sevalprocAttr, fF113, tT, sN, sM, ng_eq, tabL_ng, hnp, hnn, hpn, r3, iNeq, iLss, hne, hlt, ef, mk, oMake, veq_slice, op_nil] at he
   subst he
   obtain ⟨g1, g2, g3, g4⟩ := fin _ rfl
   exact ⟨_, _, _, rfl, g1, g2, g3, g4⟩
 ·rw [not_or] at q
  have q0 : e = 0 := Decidable.of_not_not q.1
  subst q0
  have hnl : n ≤ l.length := by omega
  have t1 : takeR n (l, 0) = (l.take n, (l.drop n, 0)) := by unfold takeR; rw [if_neg (by simp; omega)]
  rw [t1]
  have hlt : decide ((l.length : Int) < (n : Int)) = false := decide_eq_false (by omega)
  obtain ⟨w, ew, bw⟩ := slice_bt tab hb none (some n) (Nat.zero_le _) hnl
  obtain ⟨v', ev', bv⟩ := slice_bt tab hb (some n) none hnl (Nat.le_refl _)
  simp only [Option.map_none, Option.map_some, natV, Option.getD_some, Option.getD_none, List.drop_zero, List.take_length] at ew ev' bw bv
  have hne : ((0 : Int) != 0) = false := rfl
  obtain ⟨a, c, rfl⟩ := hb.len
  obtain ⟨a2, c2, rfl⟩ := bv.len
  generalize he : callR _ _ _ _ = x
  rw [enter113 _ _ _ (x1 _) rfl] at he
  simp only [sS, sevalprocAttr, fF113, tT, sN, sM, ng_eq, tabL_ng, hnp, r3, iNeq, iLss, hne, hlt, oSlice, optO, ew, ev', veq_slice, op_nil] at he
  subst he
  have k : KeptX p h (h.put p (.cells 126 2 [.slice a2 (l.drop n).length c2, .int .i64 0])) := (KeptX.refl p h).put _
  exact ⟨_, _, _, rfl, bw.keptX k hpc, ⟨r1, r2, by rw [H.get_put, if_pos rfl]⟩, bv.keptX k hpc, k⟩
theorem and127 (b : UInt8) : iAnd .u8 (b.toNat : Int) 127 = some (.int .u8 ((b.toNat % 128 : Nat) : Int)) := by
 have key : ∀ m : Fin 256, (BitVec.ofInt 8 (m.val : Int) &&& BitVec.ofInt 8 127).toNat = m.val % 128 := by decide
 have hm : (BitVec.ofInt 8 (b.toNat : Int) &&& BitVec.ofInt 8 127).toNat = b.toNat % 128 := key ⟨b.toNat, b.toNat_lt⟩
 unfold iAnd
 show some (Value.int .u8 (IntKind.u8.wrap ((BitVec.ofInt 8 (b.toNat : Int) &&& BitVec.ofInt 8 127).toNat : Int))) = _
 rw [hm, IntKind.wrap_u8]
 congr 2
 omega
theorem rdsub0 {ty : Nat} {v w : Value} : Obj.sub (.cells ty 2 [v, w]) 0 1 = some [v] := rfl
theorem rdsub1 {ty : Nat} {v w : Value} : Obj.sub (.cells ty 2 [v, w]) 1 1 = some [w] := rfl
theorem RD.s1 {tab : Tab} {ty : Nat} {h : H} {p : Nat} {v : Value} {e : Int} (r : RD tab.ng ty h p v e) : subD (EV tab) h p 1 1 = some [.int .i64 e] := by
 unfold subD
 rw [ng_eq, if_neg (Nat.not_lt.2 r.1), r.2.2]; rfl
theorem RD.s0 {tab : Tab} {ty : Nat} {h : H} {p : Nat} {v : Value} {e : Int} (r : RD tab.ng ty h p v e) : subD (EV tab) h p 0 1 = some [v] := by
 unfold subD
 rw [ng_eq, if_neg (Nat.not_lt.2 r.1), r.2.2]; rfl
theorem pow7 (i : Nat) : (2 : Nat) ^ (7 * i) = 128 ^ i := by rw [Nat.pow_mul]
theorem shl7 (g i : Nat) (hi : i ≤ 9) (hg : g * 128 ^ i < 18446744073709551616) : iShl .u64 (g : Int) ((7 * i : Nat) : Int) = some (.int .u64 ((g * 128 ^ i : Nat) : Int)) := by
 unfold iShl
 rw [if_neg (by omega)]
 have h1 : min ((7 * i : Nat) : Int).toNat IntKind.u64.bits = 7 * i := by rw [Int.toNat_natCast]; exact Nat.min_eq_left (by show 7 * i ≤ 64; omega)
 have h2 : (g : Int) * 2 ^ (7 * i) = ((g * 128 ^ i : Nat) : Int) := by rw [← pow7]; simp
 rw [h1, h2, u64_nat _ hg]
theorem or_add (o g i : Nat) (ho : o < 128 ^ i) (hg : o + g * 128 ^ i < 18446744073709551616) : iOr .u64 (o : Int) ((g * 128 ^ i : Nat) : Int) = some (.int .u64 ((o + g * 128 ^ i : Nat) : Int)) := by
 have h1 : o ||| g * 128 ^ i = o + g * 128 ^ i := by
  rw [Nat.mul_comm, ← pow7, Nat.or_comm, ← Nat.two_pow_add_eq_or_of_lt (by rw [pow7]; exact ho), Nat.add_comm]
 have h2 : (BitVec.ofInt 64 (o : Int) ||| BitVec.ofInt 64 ((g * 128 ^ i : Nat) : Int)).toNat = o + g * 128 ^ i := by
  rw [BitVec.toNat_or, BitVec.ofInt_natCast, BitVec.ofInt_natCast, BitVec.toNat_ofNat, BitVec.toNat_ofNat, Nat.mod_eq_of_lt (by omega), Nat.mod_eq_of_lt (by omega), h1]
 unfold iOr
 show some (Value.int .u64 (IntKind.u64.wrap ((BitVec.ofInt 64 (o : Int) ||| BitVec.ofInt 64 ((g * 128 ^ i : Nat) : Int)).toNat : Int))) = _
 rw [h2, u64_nat _ hg]
theorem add7 (i : Nat) (hi : i ≤ 9) : iAdd .i64 ((7 * i : Nat) : Int) 7 = some (.int .i64 ((7 * (i + 1) : Nat) : Int)) := by
 unfold iAdd
 rw [IntWalk.i64_in _ (by omega)]
 congr 2
abbrev TakeP (tab : Tab) : Prop := ∀ (h : H) (p : Nat) (v : Value) (l : List UInt8) (e : Int) (n : Nat), tab.ng ≤ h.next → n ≤ 8 → RDp tab h p v e → BT tab h v l → l.length < 1000000 →
 ∃ w h' v', callR (EV tab) 113 [.pointer (some ⟨p, 0, none⟩), .int .i64 n] h = some (w, h') ∧ BT tab h' w (takeR n (l, e)).1 ∧ RDp tab h' p v' (takeR n (l, e)).2.2 ∧ BT tab h' v' (takeR n (l, e)).2.1 ∧ KeptX p h h'
theorem take1 (tab : Tab) (hT : TakeP tab) (h : H) (p : Nat) (v : Value) (l : List UInt8) (e : Int) (hng : tab.ng ≤ h.next) (hr : RDp tab h p v e) (hb : BT tab h v l) (hl : l.length < 1000000) :
  ∃ b o c h' v', callR (EV tab) 113 [.pointer (some ⟨p, 0, none⟩), .int .i64 1] h = some (.slice (some ⟨b, o, none⟩) 1 c, h') ∧ subD (EV tab) h' b o 1 = some [.int .u8 (((takeR 1 (l, e)).1.headD 0).toNat : Nat)] ∧
   RDp tab h' p v' (takeR 1 (l, e)).2.2 ∧ BT tab h' v' (takeR 1 (l, e)).2.1 ∧ KeptX p h h' := by
 obtain ⟨w, h', v', e1, b1, r1, c1, k1⟩ := hT h p v l e 1 hng (by decide) hr hb hl
 have hlen : (takeR 1 (l, e)).1.length = 1 := by
  unfold takeR
  split
  ·rfl
  ·rename_i q
   rw [not_or] at q
   show (l.take 1).length = 1
   rw [List.length_take]; simp only at q; omega
 rcases b1 with ⟨_, z⟩ | ⟨b, o, c, rfl, m, _⟩
 ·rw [z] at hlen; cases hlen
 ·have hs := m.byte 0 (by omega)
  have hq : ∀ (q : List UInt8) (z : 0 < q.length), q.headD 0 = q[0] := fun q z => by
   cases q with
   | nil => cases z
   | cons a q => rfl
  have hh : (takeR 1 (l, e)).1.headD 0 = (takeR 1 (l, e)).1[0]'(by omega) := hq _ _
  rw [hlen] at e1
  exact ⟨b, o, c, h', v', e1, by rw [hh]; exact hs, r1, c1, k1⟩
noncomputable def nmLoop : Code := (.loop (.seq (.block 1 (.seq (Rg 81 4) (.seq (.seq (Rg 81 5) (.cond (Operand.tmp 17) (.seq (Rg 81 6) .ret) .skip)) (.seq (Rg 81 7) (.seq (.seq (Rg 81 8) (.cond (Operand.tmp 34) (.seq (Rg 81 9) (.seq (Rg 81 10) .ret)) .skip)) (.seq (Rg 81 11) (.seq (Rg 81 12) (.cond (Operand.tmp 44) (.seq (Rg 81 13) .ret) .skip)))))))) (Rg 81 3)))
theorem nm_err (tab : Tab) (hT : TakeP tab) (l : List UInt8) (e : Int) (he0 : (takeR 1 (l, e)).2.2 ≠ 0) (tm : Tr Value) (h : H) (p : Nat) (v : Value) (hng : tab.ng ≤ h.next) (hr : RDp tab h p v e) (hb : BT tab h v l) (hl : l.length < 1000000) (t0 : tm.get 0 = some (.pointer (some ⟨p, 0, none⟩))) :
  ∃ tm' h' v', exR (EV tab) nmLoop ⟨false, 46, tm, h⟩ = some (.ret, ⟨false, 46, tm', h'⟩) ∧ tm'.get 2 = some (.int .u64 0) ∧ RDp tab h' p v' (takeR 1 (l, e)).2.2 ∧ BT tab h' v' (takeR 1 (l, e)).2.1 ∧ KeptX p h h' := by
 obtain ⟨b, o, c, h', v', e1, hs, r1, c1, k1⟩ := take1 tab hT h p v l e hng hr hb hl
 have hnp : ¬ p < tab.ng := by have := hr.1; omega
 have r3 := r1.2.2
 have rs := r1.s1
 have z : ((takeR 1 (l, e)).2.2 != 0) = true := by simpa using he0
 generalize he : exR (EV tab) nmLoop ⟨false, 46, tm, h⟩ = r
 rw [nmLoop, exR_loop] at he
 simp only [sS, sevalprocAttr, fF81, tT, sN, sO, ng_eq, tabL_ng, t0, e1, hs, hnp, r3, rs, iNeq, z, op_nil] at he
 subst he
 exact ⟨_, h', v', rfl, by simp only [Tr.get_set, Nat.reduceEqDiff, ↓reduceIte], r1, c1, k1⟩
theorem nm_loop (tab : Tab) (hT : TakeP tab) (p : Nat) : ∀ (l : List UInt8) (i out : Nat) (tm : Tr Value) (h : H) (v : Value), i ≤ 9 → out < 128 ^ i → tab.ng ≤ h.next → RDp tab h p v 0 → BT tab h v l → l.length < 1000000 →
  tm.get 0 = some (.pointer (some ⟨p, 0, none⟩)) → tm.get 3 = some (.int .u64 (out : Nat)) → tm.get 4 = some (.int .i64 ((7 * i : Nat) : Int)) →
  ∃ tm' h' v', exR (EV tab) nmLoop ⟨false, 46, tm, h⟩ = some (.ret, ⟨false, 46, tm', h'⟩) ∧ tm'.get 2 = some (.int .u64 ((numG l i out).1 : Nat)) ∧ RDp tab h' p v' (numG l i out).2.2 ∧ BT tab h' v' (numG l i out).2.1 ∧ KeptX p h h' := by
 intro l
 induction l with
 | nil =>
  intro i out tm h v hi ho hng hr hb hl t0 t3 t4
  obtain ⟨tm', h', v', e1, a1, a2, a3, a4⟩ := nm_err tab hT [] 0 (by decide) tm h p v hng hr hb hl t0
  exact ⟨tm', h', v', e1, a1, a2, a3, a4⟩
 | cons b l ih =>
  intro i out tm h v hi ho hng hr hb hl t0 t3 t4
  obtain ⟨bk, o, c, h1, v1, e1, hs, r1, c1, k1⟩ := take1 tab hT h p v (b :: l) 0 hng hr hb hl
  have ht : takeR 1 (b :: l, 0) = ([b], (l, 0)) := takeR_ok (by simp)
  rw [ht] at hs r1 c1
  simp only [List.headD_cons] at hs r1 c1
  have hnp : ¬ p < tab.ng := by have := hr.1; omega
  have r3 := r1.2.2
  have rs := r1.s1
  have z : ((0 : Int) != 0) = false := rfl
  have hbl : b.toNat < 256 := b.toNat_lt
  have hpc : NB h1 p := nb_cells r3 (by decide)
  have cv : IntKind.u64.wrap ((b.toNat % 128 : Nat) : Int) = ((b.toNat % 128 : Nat) : Int) := u64_nat _ (by omega)
  have a127 := and127 b
  by_cases q1 : (i = 9 ∧ 1 < b.toNat) ∨ (0 < i ∧ b.toNat = 0)
  ·have hG : numG (b :: l) i out = (0, (l, 1)) := by rw [numG, if_pos q1]
   rw [hG]
   have k2 : KeptX p h (h1.put p (.cells 126 2 [v1, .int .i64 1])) := k1.put _
   have fin : RDp tab (h1.put p (.cells 126 2 [v1, .int .i64 1])) p v1 1 ∧ BT tab (h1.put p (.cells 126 2 [v1, .int .i64 1])) v1 l := ⟨⟨hr.1, r1.2.1, by rw [H.get_put, if_pos rfl]⟩, c1.keptX ((KeptX.refl p h1).put _) hpc⟩
   by_cases q9 : i = 9
   ·have g1 : ((((7 * i : Nat) : Int)) == 63) = true := by rw [beq_iff_eq]; omega
    by_cases qb : 1 < b.toNat
    ·have g2 : decide ((1 : Int) < (b.toNat : Int)) = true := decide_eq_true (by omega)
     generalize he : exR (EV tab) nmLoop ⟨false, 46, tm, h⟩ = r
     rw [nmLoop, exR_loop] at he
     simp only [sS, sevalprocAttr, fF81, tT, sN, sO, ng_eq, tabL_ng, t0, t3, t4, e1, hs, hnp, r3, rs, iNeq, iEql, iGtr, iLss, gt_iff_lt, z, op_nil, a127, cv, g1, g2] at he
     subst he
     exact ⟨_, _, v1, rfl, by simp only [Tr.get_set, Nat.reduceEqDiff, ↓reduceIte]; rfl, fin.1, fin.2, k2⟩
    ·have g2 : decide ((1 : Int) < (b.toNat : Int)) = false := decide_eq_false (by omega)
     have g3 : decide ((0 : Int) < ((7 * i : Nat) : Int)) = true := decide_eq_true (by omega)
     have g4 : ((b.toNat : Int) == 0) = true := by rw [beq_iff_eq]; omega
     generalize he : exR (EV tab) nmLoop ⟨false, 46, tm, h⟩ = r
     rw [nmLoop, exR_loop] at he
     simp only [sS, sevalprocAttr, fF81, tT, sN, sO, ng_eq, tabL_ng, t0, t3, t4, e1, hs, hnp, r3, rs, iNeq, iEql, iGtr, iLss, gt_iff_lt, z, op_nil, a127, cv, g1, g2, g3, g4] at he
     subst he
     exact ⟨_, _, v1, rfl, by simp only [Tr.get_set, Nat.reduceEqDiff, ↓reduceIte]; rfl, fin.1, fin.2, k2⟩
   ·have g1 : ((((7 * i : Nat) : Int)) == 63) = false := by rw [beq_eq_false_iff_ne]; omega
    have g3 : decide ((0 : Int) < ((7 * i : Nat) : Int)) = true := decide_eq_true (by omega)
    have g4 : ((b.toNat : Int) == 0) = true := by rw [beq_iff_eq]; omega
    generalize he : exR (EV tab) nmLoop ⟨false, 46, tm, h⟩ = r
    rw [nmLoop, exR_loop] at he
    simp only [sS, sevalprocAttr, fF81, tT, sN, sO, ng_eq, tabL_ng, t0, t3, t4, e1, hs, hnp, r3, rs, iNeq, iEql, iGtr, iLss, gt_iff_lt, z, op_nil, a127, cv, g1, g3, g4] at he
    subst he
    exact ⟨_, _, v1, rfl, by simp only [Tr.get_set, Nat.reduceEqDiff, ↓reduceIte]; rfl, fin.1, fin.2, k2⟩
  ·have hG : numG (b :: l) i out = if b.toNat < 128 then (out + b.toNat * 128 ^ i, (l, 0)) else numG l (i + 1) (out + (b.toNat - 128) * 128 ^ i) := by rw [numG, if_neg q1]
   rw [hG]
   rw [not_or] at q1
   obtain ⟨q2, q3⟩ := q1
   have hlim : b.toNat % 128 * 128 ^ i < 18446744073709551616 ∧ out + b.toNat % 128 * 128 ^ i < 18446744073709551616 := by
    by_cases q9 : i = 9
    ·subst q9
     have h2 : b.toNat % 128 * 128 ^ 9 ≤ 1 * 128 ^ 9 := Nat.mul_le_mul_right _ (by omega)
     have h3 : (128 : Nat) ^ 9 = 9223372036854775808 := by decide
     omega
    ·have h2 : b.toNat % 128 * 128 ^ i ≤ 127 * 128 ^ i := Nat.mul_le_mul_right _ (by omega)
     have h3 : (128 : Nat) ^ i ≤ 128 ^ 8 := Nat.pow_le_pow_right (by decide) (by omega)
     have h4 : (128 : Nat) ^ 8 = 72057594037927936 := by decide
     omega
   have s1 := shl7 (b.toNat % 128) i hi hlim.1
   have s2 := or_add out (b.toNat % 128) i ho hlim.2
   by_cases q9 : i = 9
   ·have g1 : ((((7 * i : Nat) : Int)) == 63) = true := by rw [beq_iff_eq]; omega
    have g2 : decide ((1 : Int) < (b.toNat : Int)) = false := decide_eq_false (by omega)
    have g3 : decide ((0 : Int) < ((7 * i : Nat) : Int)) = true := decide_eq_true (by omega)
    have g4 : ((b.toNat : Int) == 0) = false := by rw [beq_eq_false_iff_ne]; omega
    by_cases qb : b.toNat < 128
    ·have hm : b.toNat % 128 = b.toNat := Nat.mod_eq_of_lt qb
     have kb : decide ((b.toNat : Int) < 128) = true := decide_eq_true (by omega)
     rw [hm] at s1 s2 cv a127
     rw [if_pos qb]
     generalize he : exR (EV tab) nmLoop ⟨false, 46, tm, h⟩ = r
     rw [nmLoop, exR_loop] at he
     simp only [sS, sevalprocAttr, fF81, tT, sN, sO, ng_eq, tabL_ng, t0, t3, t4, e1, hs, hnp, r3, rs, iNeq, iEql, iGtr, iLss, gt_iff_lt, z, op_nil, a127, cv, g1, g2, g3, g4, s1, s2, kb] at he
     subst he
     exact ⟨_, h1, v1, rfl, by simp only [Tr.get_set, Nat.reduceEqDiff, ↓reduceIte], r1, c1, k1⟩
    ·have hm : b.toNat % 128 = b.toNat - 128 := by omega
     have kb : decide ((b.toNat : Int) < 128) = false := decide_eq_false (by omega)
     have hi9 : i < 9 := by omega
     rw [hm] at s1 s2 cv a127 hlim
     rw [if_neg qb]
     obtain ⟨tm1, e2, b0, b3, b4⟩ : ∃ tm1, exR (EV tab) nmLoop ⟨false, 46, tm, h⟩ = exR (EV tab) nmLoop ⟨false, 46, tm1, h1⟩ ∧ tm1.get 0 = some (.pointer (some ⟨p, 0, none⟩)) ∧ tm1.get 3 = some (.int .u64 ((out + (b.toNat - 128) * 128 ^ i : Nat) : Int)) ∧ tm1.get 4 = some (.int .i64 ((7 * (i + 1) : Nat) : Int)) := by
      generalize he : exR (EV tab) nmLoop ⟨false, 46, tm, h⟩ = r
      rw [nmLoop, exR_loop] at he
      simp only [sS, sevalprocAttr, fF81, tT, sN, sO, ng_eq, tabL_ng, t0, t3, t4, e1, hs, hnp, r3, rs, iNeq, iEql, iGtr, iLss, gt_iff_lt, z, op_nil, a127, cv, g1, g2, g3, g4, s1, s2, kb, add7 i hi] at he
      subst he
      refine ⟨_, rfl, ?_, ?_, ?_⟩ <;> simp only [Tr.get_set, Nat.reduceEqDiff, ↓reduceIte, t0]
     obtain ⟨tm', h', v', x1, x2, x3, x4, x5⟩ := ih (i + 1) (out + (b.toNat - 128) * 128 ^ i) tm1 h1 v1 (by omega) (by
      have : (b.toNat - 128) * 128 ^ i ≤ 127 * 128 ^ i := Nat.mul_le_mul_right _ (by omega)
      rw [Nat.pow_succ]; omega) (Nat.le_trans hng k1.le) r1 c1 (by simp at hl; omega) b0 b3 b4
     exact ⟨tm', h', v', by rw [e2]; exact x1, x2, x3, x4, k1.trans x5⟩
   ·have g1 : ((((7 * i : Nat) : Int)) == 63) = false := by rw [beq_eq_false_iff_ne]; omega
    by_cases qi : 0 < i
    ·have g3 : decide ((0 : Int) < ((7 * i : Nat) : Int)) = true := decide_eq_true (by omega)
     have g4 : ((b.toNat : Int) == 0) = false := by rw [beq_eq_false_iff_ne]; omega
     by_cases qb : b.toNat < 128
     ·have hm : b.toNat % 128 = b.toNat := Nat.mod_eq_of_lt qb
      have kb : decide ((b.toNat : Int) < 128) = true := decide_eq_true (by omega)
      rw [hm] at s1 s2 cv a127
      rw [if_pos qb]
      generalize he : exR (EV tab) nmLoop ⟨false, 46, tm, h⟩ = r
      rw [nmLoop, exR_loop] at he
      simp only [sS, sevalprocAttr, fF81, tT, sN, sO, ng_eq, tabL_ng, t0, t3, t4, e1, hs, hnp, r3, rs, iNeq, iEql, iGtr, iLss, gt_iff_lt, z, op_nil, a127, cv, g1, g3, g4, s1, s2, kb] at he
      subst he
      exact ⟨_, h1, v1, rfl, by simp only [Tr.get_set, Nat.reduceEqDiff, ↓reduceIte], r1, c1, k1⟩
     ·have hm : b.toNat % 128 = b.toNat - 128 := by omega
      have kb : decide ((b.toNat : Int) < 128) = false := decide_eq_false (by omega)
      have hi9 : i < 9 := by omega
      rw [hm] at s1 s2 cv a127 hlim
      rw [if_neg qb]
      obtain ⟨tm1, e2, b0, b3, b4⟩ : ∃ tm1, exR (EV tab) nmLoop ⟨false, 46, tm, h⟩ = exR (EV tab) nmLoop ⟨false, 46, tm1, h1⟩ ∧ tm1.get 0 = some (.pointer (some ⟨p, 0, none⟩)) ∧ tm1.get 3 = some (.int .u64 ((out + (b.toNat - 128) * 128 ^ i : Nat) : Int)) ∧ tm1.get 4 = some (.int .i64 ((7 * (i + 1) : Nat) : Int)) := by
       generalize he : exR (EV tab) nmLoop ⟨false, 46, tm, h⟩ = r
       rw [nmLoop, exR_loop] at he
       simp only [sS, sevalprocAttr, fF81, tT, sN, sO, ng_eq, tabL_ng, t0, t3, t4, e1, hs, hnp, r3, rs, iNeq, iEql, iGtr, iLss, gt_iff_lt, z, op_nil, a127, cv, g1, g3, g4, s1, s2, kb, add7 i hi] at he
       subst he
       refine ⟨_, rfl, ?_, ?_, ?_⟩ <;> simp only [Tr.get_set, Nat.reduceEqDiff, ↓reduceIte, t0]
      obtain ⟨tm', h', v', x1, x2, x3, x4, x5⟩ := ih (i + 1) (out + (b.toNat - 128) * 128 ^ i) tm1 h1 v1 (by omega) (by
       have : (b.toNat - 128) * 128 ^ i ≤ 127 * 128 ^ i := Nat.mul_le_mul_right _ (by omega)
       rw [Nat.pow_succ]; omega) (Nat.le_trans hng k1.le) r1 c1 (by simp at hl; omega) b0 b3 b4
      exact ⟨tm', h', v', by rw [e2]; exact x1, x2, x3, x4, k1.trans x5⟩
    ·have g3 : decide ((0 : Int) < ((7 * i : Nat) : Int)) = false := decide_eq_false (by omega)
     by_cases qb : b.toNat < 128
     ·have hm : b.toNat % 128 = b.toNat := Nat.mod_eq_of_lt qb
      have kb : decide ((b.toNat : Int) < 128) = true := decide_eq_true (by omega)
      rw [hm] at s1 s2 cv a127
      rw [if_pos qb]
      generalize he : exR (EV tab) nmLoop ⟨false, 46, tm, h⟩ = r
      rw [nmLoop, exR_loop] at he
      simp only [sS, sevalprocAttr, fF81, tT, sN, sO, ng_eq, tabL_ng, t0, t3, t4, e1, hs, hnp, r3, rs, iNeq, iEql, iGtr, iLss, gt_iff_lt, z, op_nil, a127, cv, g1, g3, s1, s2, kb] at he
      subst he
      exact ⟨_, h1, v1, rfl, by simp only [Tr.get_set, Nat.reduceEqDiff, ↓reduceIte], r1, c1, k1⟩
     ·have hm : b.toNat % 128 = b.toNat - 128 := by omega
      have kb : decide ((b.toNat : Int) < 128) = false := decide_eq_false (by omega)
      have hi9 : i < 9 := by omega
      rw [hm] at s1 s2 cv a127 hlim
      rw [if_neg qb]
      obtain ⟨tm1, e2, b0, b3, b4⟩ : ∃ tm1, exR (EV tab) nmLoop ⟨false, 46, tm, h⟩ = exR (EV tab) nmLoop ⟨false, 46, tm1, h1⟩ ∧ tm1.get 0 = some (.pointer (some ⟨p, 0, none⟩)) ∧ tm1.get 3 = some (.int .u64 ((out + (b.toNat - 128) * 128 ^ i : Nat) : Int)) ∧ tm1.get 4 = some (.int .i64 ((7 * (i + 1) : Nat) : Int)) := by
       generalize he : exR (EV tab) nmLoop ⟨false, 46, tm, h⟩ = r
       rw [nmLoop, exR_loop] at he
       simp only [sS, sevalprocAttr, fF81, tT, sN, sO, ng_eq, tabL_ng, t0, t3, t4, e1, hs, hnp, r3, rs, iNeq, iEql, iGtr, iLss, gt_iff_lt, z, op_nil, a127, cv, g1, g3, s1, s2, kb, add7 i hi] at he
       subst he
       refine ⟨_, rfl, ?_, ?_, ?_⟩ <;> simp only [Tr.get_set, Nat.reduceEqDiff, ↓reduceIte, t0]
      obtain ⟨tm', h', v', x1, x2, x3, x4, x5⟩ := ih (i + 1) (out + (b.toNat - 128) * 128 ^ i) tm1 h1 v1 (by omega) (by
       have : (b.toNat - 128) * 128 ^ i ≤ 127 * 128 ^ i := Nat.mul_le_mul_right _ (by omega)
       rw [Nat.pow_succ]; omega) (Nat.le_trans hng k1.le) r1 c1 (by simp at hl; omega) b0 b3 b4
      exact ⟨tm', h', v', by rw [e2]; exact x1, x2, x3, x4, k1.trans x5⟩
theorem number_run (tab : Tab) (hx : ∀ l, callExt (EV tab) 81 l = none) (hT : TakeP tab) (h : H) (p : Nat) (v : Value) (l : List UInt8) (e : Int) (hng : tab.ng ≤ h.next) (hr : RDp tab h p v e) (hb : BT tab h v l) (hl : l.length < 1000000) :
  ∃ h' v', callR (EV tab) 81 [.pointer (some ⟨p, 0, none⟩)] h = some (.int .u64 ((numI (l, e)).1 : Nat), h') ∧ RDp tab h' p v' (numI (l, e)).2.2 ∧ BT tab h' v' (numI (l, e)).2.1 ∧ KeptX p h h' := by
 have key : ∀ tm h1, (h1 = h ∧ tm.get 0 = some (.pointer (some ⟨p, 0, none⟩)) ∧ tm.get 3 = some (.int .u64 ((0 : Nat) : Int)) ∧ tm.get 4 = some (.int .i64 ((7 * 0 : Nat) : Int))) → ∃ x s', exR (EV tab) nmLoop ⟨false, 46, tm, h1⟩ = some (x, s') ∧
   (x = .ret ∧ ∃ tm' h' v', s' = ⟨false, 46, tm', h'⟩ ∧ tm'.get 2 = some (.int .u64 ((numI (l, e)).1 : Nat)) ∧ RDp tab h' p v' (numI (l, e)).2.2 ∧ BT tab h' v' (numI (l, e)).2.1 ∧ KeptX p h h') := fun tm h1 q => by
  obtain ⟨rfl, p0, p3, p4⟩ := q
  by_cases q : e = 0
  ·subst q
   have hI : numI (l, 0) = numG l 0 0 := by unfold numI; rw [if_neg (by simp)]
   rw [hI]
   obtain ⟨tm', h', v', x1, x2, x3, x4, x5⟩ := nm_loop tab hT p l 0 0 tm h1 v (by decide) (by decide) hng hr hb hl p0 p3 p4
   exact ⟨_, _, x1, rfl, tm', h', v', rfl, x2, x3, x4, x5⟩
  ·rw [numI_err l e q]
   have he := takeR_err 1 l e q
   obtain ⟨tm', h', v', x1, x2, x3, x4, x5⟩ := nm_err tab hT l e (by rw [he]; exact q) tm h1 p v hng hr hb hl p0
   rw [he] at x3 x4
   exact ⟨_, _, x1, rfl, tm', h', v', rfl, x2, x3, x4, x5⟩
 generalize he : callR _ _ _ _ = r
 rw [enter81 _ _ _ (hx _) rfl] at he
 simp only [sS, sevalprocAttr, r81_0, r81_1, r81_2, tT] at he
 obtain ⟨x1, s1, ⟨rfl, tm', h', v', rfl, x2, x3, x4, x5⟩, he⟩ := use_run key (fun o => finish (EV tab) [ResultVar.tmp 2] (unblock 0 o)) he (by
  refine ⟨rfl, ?_, ?_, ?_⟩ <;> simp only [Tr.get_set, Nat.reduceEqDiff, ↓reduceIte] <;> rfl)
 simp only [sS, sevalprocAttr, x2] at he
 subst he
 exact ⟨h', v', rfl, x3, x4, x5⟩
end Go.D
