/- The functions of the law, one after the other: what a run of D answers. -/
import Derived.Test.YtmjdhbenplpinaaGreatDoorWp
import Derived.Test.YtmjdhbenplpinaaGreatDoorFull
import Derived.Test.YtmjdhbenplpinaaGreatDoorW0
import Derived.Laws.RangeString
import Derived.Laws.RangeAny
import Derived.Laws.StructEq
namespace Go.D
open Go.Proofs
set_option maxRecDepth 100000
set_option linter.unusedVariables false
set_option linter.unusedSimpArgs false
theorem enc_dig (d : Nat) (h : d < 10) : Utf8.encode (48 + (d : Int)) = ⟨⟨[UInt8.ofNat (48 + d)]⟩⟩ := by
 have : d = 0 ∨ d = 1 ∨ d = 2 ∨ d = 3 ∨ d = 4 ∨ d = 5 ∨ d = 6 ∨ d = 7 ∨ d = 8 ∨ d = 9 := by omega
 rcases this with rfl | rfl | rfl | rfl | rfl | rfl | rfl | rfl | rfl | rfl <;> rfl
theorem dig_add (d : Nat) (h : d < 10) : iAdd .i64 48 (d : Int) = some (.int .i64 (48 + (d : Int))) := by unfold iAdd; rw [IntWalk.i64_in _ (by omega)]
theorem dig_i64 (d : Nat) (h : d < 10) : IntKind.i64.wrap (d : Int) = d := IntWalk.i64_in _ (by omega)
theorem dig_i32 (d : Nat) (h : d < 10) : IntKind.i32.wrap (48 + (d : Int)) = 48 + (d : Int) := by rw [IntKind.wrap_i32]; omega
theorem nat_run (tab : Tab) (x0 : ∀ l, callExt (EV tab) 86 l = none) : ∀ (n : Nat) (h : H), n < 18446744073709551616 → callR (EV tab) 86 [.int .u64 n] h = some (.string ⟨⟨decB n⟩⟩, h) := by
 intro n
 induction n using Nat.strongRecOn with
 | _ n ih =>
 intro h hn
 by_cases q : n < 10
 ·have hq : decide ((n : Int) < 10) = true := decide_eq_true (by omega)
  have hd : decB n = [UInt8.ofNat (48 + n)] := by unfold decB; rw [Lib.decDigits, dif_pos q]
  rw [hd]
  generalize he : callR _ _ _ _ = r
  rw [enter86 _ _ _ (x0 _) rfl] at he
  simp only [sS, sevalprocAttr, fF86, tT, iLss, hq, dig_i64 n q, dig_add n q, dig_i32 n q, enc_dig n q] at he
  subst he
  rfl
 ·have hq : decide ((n : Int) < 10) = false := decide_eq_false (by omega)
  have e := ih (n / 10) (by omega) h (by omega)
  have hm : n % 10 < 10 := Nat.mod_lt _ (by decide)
  have d1 : iQuo .u64 (n : Int) 10 = some (.int .u64 ((n / 10 : Nat) : Int)) := by
   unfold iQuo
   rw [if_neg (by decide)]
   have : (n : Int).tdiv 10 = ((n / 10 : Nat) : Int) := rfl
   rw [this, IntWalk.u64_in _ (by omega)]
  have d2 : iRem .u64 (n : Int) 10 = some (.int .u64 ((n % 10 : Nat) : Int)) := by
   unfold iRem
   rw [if_neg (by decide)]
   rfl
  have hl : (decB (n / 10)).length ≤ 20 := decB_len (by omega)
  have ha := s_app (decB (n / 10)) [UInt8.ofNat (48 + n % 10)] (by simp; omega)
  have hd : decB n = decB (n / 10) ++ [UInt8.ofNat (48 + n % 10)] := by
   show Lib.decDigits n = Lib.decDigits (n / 10) ++ _
   rw [Lib.decDigits, dif_neg q]
  rw [hd]
  generalize he : callR _ _ _ _ = r
  rw [enter86 _ _ _ (x0 _) rfl] at he
  simp only [sS, sevalprocAttr, fF86, tT, iLss, hq, d1, d2, e, dig_i64 _ hm, dig_add _ hm, dig_i32 _ hm, enc_dig _ hm, binStr, strBin, ha] at he
  subst he
  rfl
theorem natural_run (tab : Tab) (x0 : ∀ l, callExt (EV tab) 86 l = none) (x1 : ∀ l, callExt (EV tab) 53 l = none) (n : Nat) (h : H) (hn : n < 18446744073709551616) : callR (EV tab) 53 [.int .u64 n] h = some (.string ⟨⟨decB n⟩⟩, h) := by
 have e := nat_run tab x0 n h hn
 generalize he : callR _ _ _ _ = r
 rw [enter53 _ _ _ (x1 _) rfl] at he
 simp only [sS, sevalprocAttr, fF53, tT, e] at he
 subst he
 rfl
theorem decimal_run (tab : Tab) (x0 : ∀ l, callExt (EV tab) 86 l = none) (x1 : ∀ l, callExt (EV tab) 54 l = none) (n : Int) (h : H) (h1 : -9223372036854775808 ≤ n) (h2 : n ≤ 9223372036854775807) : callR (EV tab) 54 [.int .i64 n] h = some (.string ⟨⟨itoaB n⟩⟩, h) := by
 by_cases q : n < 0
 ·obtain ⟨u, rfl⟩ : ∃ u : Nat, n = -(u : Int) := ⟨n.natAbs, by omega⟩
  have e := nat_run tab x0 u h (by omega)
  have hl : (decB u).length ≤ 20 := decB_len (by omega)
  have hq : decide (-(u : Int) < 0) = true := decide_eq_true q
  have ha := s_app [45] (decB u) (by simp; omega)
  have ha' : sAdd ⟨#[45]⟩ ⟨⟨decB u⟩⟩ = some (.string ⟨⟨45 :: decB u⟩⟩) := ha
  have hi : itoaB (-(u : Int)) = 45 :: decB u := Lib.itoa_neg u (by omega)
  have w : ∀ k, iSub .i64 0 (-(u : Int)) = some (.int .i64 k) → IntKind.u64.wrap k = (u : Int) := fun k hk => by
   unfold iSub at hk
   cases hk
   have hw : ∀ m : Int, IntKind.u64.wrap m = m % 18446744073709551616 := fun m => by simp [IntKind.wrap, IntKind.bits, IntKind.signed]
   rw [IntKind.wrap_i64, hw]
   omega
  obtain ⟨k, hk⟩ : ∃ k, iSub .i64 0 (-(u : Int)) = some (.int .i64 k) := ⟨_, rfl⟩
  rw [hi]
  generalize he : callR _ _ _ _ = r
  rw [enter54 _ _ _ (x1 _) rfl] at he
  simp only [sS, sevalprocAttr, fF54, tT, iLss, hq, hk, w k hk, e, binStr, strBin, ha'] at he
  subst he
  rfl
 ·obtain ⟨u, rfl⟩ : ∃ u : Nat, n = u := ⟨n.toNat, by omega⟩
  have e := nat_run tab x0 u h (by omega)
  have hq : decide ((u : Int) < 0) = false := decide_eq_false q
  have w : IntKind.u64.wrap (u : Int) = (u : Int) := IntWalk.u64_in _ (by omega)
  have hi : itoaB (u : Int) = decB u := Lib.itoa_nonneg u
  rw [hi]
  generalize he : callR _ _ _ _ = r
  rw [enter54 _ _ _ (x1 _) rfl] at he
  simp only [sS, sevalprocAttr, fF54, tT, iLss, hq, w, e] at he
  subst he
  rfl
def refS (c : Nat) (t u : List UInt8) (num : Nat) (imm size : Int) : List UInt8 :=
 if c = 116 then 32 :: t else if c = 117 then 32 :: u else if c = 110 ∨ c = 119 then 32 :: decB num else if c = 115 ∨ c = 100 then 32 :: itoaB imm else
 if c = 101 then 32 :: (itoaB imm ++ 32 :: (decB num ++ 32 :: itoaB size)) else []
theorem kindT_ref : ∀ (k : Nat) (r : KindR), kindT[k]? = some r → ∀ (t u : List UInt8) (num : Nat) (imm size : Int), (usesR r.uses).flatMap (fun c => refS c.toNat t u num imm size) = partsL r.uses t u num imm size := by
 intro k r hk t u num imm size
 have hm := List.mem_of_getElem? hk
 simp only [kindT, List.mem_cons, List.mem_nil_iff, or_false] at hm
 rcases hm with rfl | rfl | rfl | rfl | rfl | rfl | rfl | rfl | rfl | rfl | rfl | rfl | rfl | rfl | rfl | rfl | rfl | rfl | rfl | rfl | rfl | rfl | rfl | rfl | rfl | rfl | rfl | rfl | rfl <;> simp [usesR, partsL, partS, refS]
theorem kindT_let : kindT.all (fun r => (usesR r.uses).all (fun c => [116, 117, 110, 119, 115, 100, 101].contains c.toNat) && decide ((usesR r.uses).length ≤ 10)) = true := by decide
structure LnX (tab : Tab) : Prop where
 x0 : ∀ l, callExt (EV tab) 86 l = none
 x1 : ∀ l, callExt (EV tab) 53 l = none
 x2 : ∀ l, callExt (EV tab) 54 l = none
 xl : ∀ l, callExt (EV tab) 30 l = none
 xp : ∀ l, callExt (EV tab) 10 l = none
 xc : ∀ l, callExt (EV tab) 29 l = none
 row : RowOf tab
 ck : CheckP tab 16
noncomputable def lnLoop : Code := .loop (.seq (.seq (Rg 30 4) (.cond (Operand.tmp 15) .skip (Code.exit 0))) (.seq (.block 1 (.seq (Rg 30 6) (.block 2 (.seq (Rg 30 7) (.cond (Operand.tmp 22) (Rg 30 8) (.seq (Rg 30 9) (.cond (Operand.tmp 29) (Rg 30 10) (.seq (.seq (Rg 30 11) (.cond (Operand.tmp 36) .skip (Rg 30 12))) (.cond (Operand.tmp 36) (Rg 30 13) (.seq (.seq (Rg 30 14) (.cond (Operand.tmp 45) .skip (Rg 30 15))) (.cond (Operand.tmp 45) (Rg 30 16) (.seq (Rg 30 17) (.cond (Operand.tmp 54) (Rg 30 18) .skip))))))))))))) (Rg 30 5)))
theorem ln_loop (tab : Tab) (hX : LnX tab) {h : H} {q c3 : Nat} (hq : tab.ng ≤ q) (hc3 : tab.ng ≤ c3) (op : Int) (t u : List UInt8) (num : Nat) (imm size : Int) (hn : num < 18446744073709551616) (hi : -9223372036854775808 ≤ imm ∧ imm ≤ 9223372036854775807) (hs : -9223372036854775808 ≤ size ∧ size ≤ 9223372036854775807)
  (ht : t.length ≤ 101) (hut : u.length ≤ 101) (gq : h.get q = some (.cells 36 6 (insL op t u num imm size))) (name us : List UInt8) (pops puts : Int) (g3 : h.get c3 = some (.cells 77 4 [.string ⟨⟨name⟩⟩, .string ⟨⟨us⟩⟩, .int .i64 pops, .int .i64 puts]))
  (hu : ∀ c ∈ us, c.toNat ∈ [116, 117, 110, 119, 115, 100, 101]) (hul : us.length ≤ 10) :
  ∀ (k i : Nat) (tm : Tr Value) (acc : List UInt8), i + k = us.length → acc.length + 400 * k ≤ 500000 → tm.get 1 = some (.pointer (some ⟨q, 0, none⟩)) → tm.get 3 = some (.pointer (some ⟨c3, 0, none⟩)) → tm.get 4 = some (.string ⟨⟨acc⟩⟩) → tm.get 5 = some (.int .i64 i) →
  ∃ tm', exR (EV tab) lnLoop ⟨false, 74, tm, h⟩ = some (.exit 0, ⟨false, 74, tm', h⟩) ∧ tm'.get 4 = some (.string ⟨⟨acc ++ (us.drop i).flatMap (fun c => refS c.toNat t u num imm size)⟩⟩) := by
 have hqn : ¬ q < tab.ng := by omega
 have hcn : ¬ c3 < tab.ng := by omega
 have hsz : (ByteArray.mk ⟨us⟩).size = us.length := rfl
 have hl1 := decB_len hn
 have hl2 := itoaB_len hi.1 hi.2
 have hl3 := itoaB_len hs.1 hs.2
 intro k
 induction k with
 | zero =>
  intro i tm acc hik hl t1 t3 t4 t5
  have hlt : ¬ i < us.length := by omega
  generalize he : exR (EV tab) lnLoop ⟨false, 74, tm, h⟩ = r
  rw [lnLoop, exR_loop] at he
  simp only [sS, sevalprocAttr, fF30, tT, sN, sM, ng_eq, tabL_ng, t3, t5, g3, hcn, lenD, lenOfD, hsz, iLss, Int.ofNat_lt, hlt, decide_false] at he
  subst he
  refine ⟨_, rfl, ?_⟩
  rw [List.drop_eq_nil_of_le (by omega)]
  simp only [Tr.get_set, Nat.reduceEqDiff, ↓reduceIte, t4, List.flatMap_nil, List.append_nil]
 | succ k ih =>
  intro i tm acc hik hl t1 t3 t4 t5
  have hlt : i < us.length := by omega
  have hd : us.drop i = us[i] :: us.drop (i + 1) := (List.getElem_cons_drop hlt).symm
  have hc := hu us[i] (List.getElem_mem hlt)
  have hg : us[i]? = some us[i] := List.getElem?_eq_getElem hlt
  have en := natural_run tab hX.x0 hX.x1 num h hn
  have ei := decimal_run tab hX.x0 hX.x2 imm h hi.1 hi.2
  have es := decimal_run tab hX.x0 hX.x2 size h hs.1 hs.2
  have gq' := gq
  simp only [insL] at gq'
  have sp : ∀ a : List UInt8, a.length ≤ 600000 → sAdd ⟨⟨a⟩⟩ ⟨#[32]⟩ = some (.string ⟨⟨a ++ [32]⟩⟩) := fun a ha => s_app a [32] (by simp; omega)
  have ap : ∀ a b : List UInt8, a.length ≤ 600000 → b.length ≤ 600000 → sAdd ⟨⟨a⟩⟩ ⟨⟨b⟩⟩ = some (.string ⟨⟨a ++ b⟩⟩) := fun a b ha hb => s_app a b (by omega)
  obtain ⟨tm1, y, a1, a3, a4, a5⟩ : ∃ tm1, exR (EV tab) lnLoop ⟨false, 74, tm, h⟩ = exR (EV tab) lnLoop ⟨false, 74, tm1, h⟩ ∧ tm1.get 1 = some (.pointer (some ⟨q, 0, none⟩)) ∧ tm1.get 3 = some (.pointer (some ⟨c3, 0, none⟩)) ∧ tm1.get 4 = some (.string ⟨⟨acc ++ refS us[i].toNat t u num imm size⟩⟩) ∧ tm1.get 5 = some (.int .i64 ((i + 1 : Nat) : Int)) := by
   have f1 := sp acc (by omega)
   have f2 := ap (acc ++ [32]) t (by simp; omega) (by omega)
   have f3 := ap (acc ++ [32]) u (by simp; omega) (by omega)
   have f4 := ap (acc ++ [32]) (decB num) (by simp; omega) (by omega)
   have f5 := ap (acc ++ [32]) (itoaB imm) (by simp; omega) (by omega)
   have f6 := sp (acc ++ [32] ++ itoaB imm) (by simp; omega)
   have f7 := ap (acc ++ [32] ++ itoaB imm ++ [32]) (decB num) (by simp; omega) (by omega)
   have f8 := sp (acc ++ [32] ++ itoaB imm ++ [32] ++ decB num) (by simp; omega)
   have f9 := ap (acc ++ [32] ++ itoaB imm ++ [32] ++ decB num ++ [32]) (itoaB size) (by simp; omega) (by omega)
   generalize us[i] = cc at hg hc
   generalize he : exR (EV tab) lnLoop ⟨false, 74, tm, h⟩ = r
   rw [lnLoop, exR_loop] at he
   have hcc : ∀ n : Nat, cc.toNat = n → (cc.toNat : Int) = (n : Int) := fun n h => by rw [h]
   simp only [List.mem_cons, List.mem_nil_iff, or_false] at hc
   rcases hc with hc | hc | hc | hc | hc | hc | hc
   all_goals
    simp only [sS, sevalprocAttr, fF30, tT, sN, sM, ng_eq, tabL_ng, t1, t3, t4, t5, g3, gq', hcn, hqn, lenD, lenOfD, hsz, iLss, Int.ofNat_lt, hlt, decide_true, oIndex, indexD, Int.natCast_nonneg, Int.toNat_natCast, hg, hc, iEql, binStr, strBin, f1, f2, f3, f4, f5, f6, f7, f8, f9, en, ei, es, readCall_len, op_nil, add1 i (by omega)] at he
    subst he
    refine ⟨_, rfl, ?_, ?_, ?_, ?_⟩
    all_goals simp only [Tr.get_set, Nat.reduceEqDiff, ↓reduceIte, t1, t3, hc, refS, or_true, true_or, or_self, or_false, false_or, List.append_assoc, List.cons_append, List.nil_append]
  obtain ⟨tm', z1, z2⟩ := ih (i + 1) tm1 (acc ++ refS us[i].toNat t u num imm size) (by omega) (by
   have : (refS us[i].toNat t u num imm size).length ≤ 400 := by
    unfold refS
    split
    ·simp; omega
    ·split
     ·simp; omega
     ·split
      ·simp; omega
      ·split
       ·simp; omega
       ·split
        ·simp; omega
        ·simp
   rw [List.length_append]; omega) a1 a3 a4 a5
  refine ⟨tm', by rw [y]; exact z1, ?_⟩
  rw [hd, List.flatMap_cons, ← List.append_assoc]
  exact z2
theorem line_run (tab : Tab) (hX : LnX tab) (h : H) (hng : tab.ng ≤ h.next) (x : Ins) (hx : OkP x) :
  ∃ h', callR (EV tab) 30 [.agg ⟨insC x⟩] h = some (.string ⟨⟨lineX x⟩⟩, h') ∧ Kept h h' := by
 obtain ⟨⟨k, r, hop, hk1, hk2⟩, xn, xi, xs, xt, xu⟩ := hx
 have hnm := List.all_eq_true.1 kindT_name r (List.mem_of_getElem? hk1)
 simp only [Bool.and_eq_true, decide_eq_true_eq] at hnm
 have hll := List.all_eq_true.1 kindT_let r (List.mem_of_getElem? hk1)
 simp only [Bool.and_eq_true, decide_eq_true_eq, List.all_eq_true] at hll
 obtain ⟨op, t, u, num, imm, size⟩ := x
 simp only at hop hk2 xn xi xs xt xu
 have er := fun h' => hX.row op r h' hk2
 have hlx : lineX ⟨op, t, u, num, imm, size⟩ = r.name ++ partsL r.uses t u num imm size ++ [10] := by unfold lineX; simp only [hk2]; rfl
 have hhn : ¬ h.next < tab.ng := by omega
 have hhn1 : ¬ h.next + 1 < tab.ng := by omega
 have hne : ¬ h.next + 1 = h.next := by omega
 have hpl := partsL_len (x := ⟨op, t, u, num, imm, size⟩) ⟨⟨k, r, hop, hk1, hk2⟩, xn, xi, xs, xt, xu⟩ r.uses
 have hu5 := List.all_eq_true.1 kindT_uses r (List.mem_of_getElem? hk1)
 simp only [Bool.and_eq_true, decide_eq_true_eq, List.all_eq_true] at hu5
 have key : ∀ tm hh, (Kept h hh ∧ hh.get h.next = some (.cells 36 6 (insL op t u num imm size)) ∧ hh.get (h.next + 1) = some (.cells 77 4 (rowL r)) ∧ tm.get 1 = some (.pointer (some ⟨h.next, 0, none⟩)) ∧ tm.get 3 = some (.pointer (some ⟨h.next + 1, 0, none⟩)) ∧
   tm.get 4 = some (.string ⟨⟨r.name⟩⟩) ∧ tm.get 5 = some (.int .i64 0)) → ∃ x s', exR (EV tab) lnLoop ⟨false, 74, tm, hh⟩ = some (x, s') ∧ (x = .exit 0 ∧ ∃ tm' h', s' = ⟨false, 74, tm', h'⟩ ∧ tm'.get 4 = some (.string ⟨⟨r.name ++ partsL r.uses t u num imm size⟩⟩) ∧ Kept h h') := fun tm hh p => by
  obtain ⟨p1, p2, p3, p4, p5, p6, p7⟩ := p
  obtain ⟨tm', y1, y2⟩ := ln_loop tab hX (h := hh) (q := h.next) (c3 := h.next + 1) hng (by omega) op t u num imm size xn xi xs xt xu p2 r.name (usesR r.uses) r.pops r.puts p3 (fun c hc => by have := hll.1 c hc; simpa using this) hll.2
   (usesR r.uses).length 0 tm r.name (by omega) (by omega) p4 p5 p6 p7
  rw [List.drop_zero, kindT_ref k r hk1] at y2
  exact ⟨_, _, y1, rfl, tm', hh, rfl, y2, p1⟩
 have fa : sAdd ⟨⟨r.name ++ partsL r.uses t u num imm size⟩⟩ ⟨#[10]⟩ = some (.string ⟨⟨r.name ++ partsL r.uses t u num imm size ++ [10]⟩⟩) := s_app _ [10] (by simp only [List.length_append, List.length_cons, List.length_nil]; have := hu5.1; simp only at hpl; omega)
 rw [hlx]
 generalize he : callR _ _ _ _ = y
 rw [enter30 _ _ _ (hX.xl _) rfl] at he
 simp only [insC, insL] at he
 simp only [rowL] at er key
 simp only [insL] at key
 simp only [sS, sevalprocAttr, r30_0, r30_1, r30_2, r30_3, tT, sN, sM, ng_eq, tabL_ng, er, hhn, hhn1, hne] at he
 obtain ⟨x1, s1, ⟨rfl, tm', h', rfl, y4, y5⟩, he⟩ := use_run key (fun o => finish (EV tab) [ResultVar.tmp 2] (andThen (unblock 0 o) (exR (EV tab) (.seq (Rg 30 19) .ret)))) he (by
  refine ⟨((Kept.refl h).push _ |>.push _).put _ (by omega), ?_, ?_, ?_, ?_, ?_, ?_⟩
  all_goals simp only [Tr.get_set, Nat.reduceEqDiff, ↓reduceIte, H.get_push, H.get_put, H.next_push, H.next_put, hne, Nat.add_right_cancel_iff]
  try rfl)
 simp only [sS, sevalprocAttr, fF30, tT, y4, binStr, strBin, fa] at he
 subst he
 exact ⟨h', rfl, y5⟩
noncomputable def p26Loop : Code := .loop (.seq (.seq (Rg 10 6) (.cond (Operand.tmp 15) .skip (Code.exit 0))) (.seq (.block 1 (Rg 10 8)) (Rg 10 7)))
theorem p26_loop (tab : Tab) (hX : LnX tab) {h0 : H} (hng : tab.ng ≤ h0.next) {b o c : Nat} (l : List Ins) (hm : Mem tab h0 b o (cellsI l)) (hn : l.length ≤ 200) (hx : ∀ x ∈ l, OkP x) :
  ∀ (k i : Nat) (tm : Tr Value) (h : H), i + k = l.length → tm.get 0 = some (.slice (some ⟨b, o, none⟩) l.length c) → tm.get 5 = some (.string ⟨⟨printL (l.take i)⟩⟩) → tm.get 6 = some (.int .i64 i) → (printL (l.take i)).length ≤ 1000 * i → Kept h0 h →
  ∃ tm' h', exR (EV tab) p26Loop ⟨false, 26, tm, h⟩ = some (.exit 0, ⟨false, 26, tm', h'⟩) ∧ tm'.get 5 = some (.string ⟨⟨printL l⟩⟩) ∧ Kept h0 h' := by
 intro k
 induction k with
 | zero =>
  intro i tm h hk t0 t5 t6 hl hkp
  have hlt : ¬ i < l.length := by omega
  generalize he : exR (EV tab) p26Loop ⟨false, 26, tm, h⟩ = r
  rw [p26Loop, exR_loop] at he
  simp only [sS, sevalprocAttr, fF10, tT, t0, t6, lenD, lenOfD, iLss, Int.ofNat_lt, hlt, decide_false] at he
  subst he
  rw [List.take_of_length_le (by omega)] at t5
  exact ⟨_, h, rfl, by simp only [Tr.get_set, Nat.reduceEqDiff, ↓reduceIte, t5], hkp⟩
 | succ k ih =>
  intro i tm h hk t0 t5 t6 hl hkp
  have hlt : i < l.length := by omega
  have hsub := (hm.kept hkp).ins i hlt
  obtain ⟨h1, e1, k1⟩ := line_run tab hX h (Nat.le_trans hng hkp.le) l[i] (hx _ (List.getElem_mem hlt))
  have ht : printL (l.take (i + 1)) = printL (l.take i) ++ lineX l[i] := by
   have q : l.take (i + 1) = l.take i ++ [l[i]] := by rw [List.take_add_one, List.getElem?_eq_getElem hlt]; rfl
   rw [q, printL, List.flatMap_append]
   simp [printL]
  have hll := lineX_len (hx l[i] (List.getElem_mem hlt))
  have fa : sAdd ⟨⟨printL (l.take i)⟩⟩ ⟨⟨lineX l[i]⟩⟩ = some (.string ⟨⟨printL (l.take (i + 1))⟩⟩) := by rw [ht]; exact s_app _ _ (by omega)
  simp only [insC, insL] at hsub e1
  obtain ⟨tm1, y, a0, a5, a6⟩ : ∃ tm1, exR (EV tab) p26Loop ⟨false, 26, tm, h⟩ = exR (EV tab) p26Loop ⟨false, 26, tm1, h1⟩ ∧ tm1.get 0 = some (.slice (some ⟨b, o, none⟩) l.length c) ∧ tm1.get 5 = some (.string ⟨⟨printL (l.take (i + 1))⟩⟩) ∧ tm1.get 6 = some (.int .i64 ((i + 1 : Nat) : Int)) := by
   generalize he : exR (EV tab) p26Loop ⟨false, 26, tm, h⟩ = r
   rw [p26Loop, exR_loop] at he
   simp only [sS, sevalprocAttr, fF10, tT, sN, sO, ng_eq, tabL_ng, t0, t5, t6, lenD, lenOfD, iLss, Int.ofNat_lt, hlt, decide_true, Int.natCast_nonneg, and_self, Int.toNat_natCast, hsub, e1, binStr, strBin, fa, add1 i (by omega)] at he
   subst he
   refine ⟨_, rfl, ?_, ?_, ?_⟩ <;> simp only [Tr.get_set, Nat.reduceEqDiff, ↓reduceIte, t0]
  obtain ⟨tm', h', z1, z2, z3⟩ := ih (i + 1) tm1 h1 (by omega) a0 a5 a6 (by rw [ht, List.length_append]; omega) (hkp.trans k1)
  exact ⟨tm', h', by rw [y]; exact z1, z2, z3⟩
theorem print26_run (tab : Tab) (hX : LnX tab) (h : H) (hng : tab.ng ≤ h.next) (v : Value) (l : List Ins) (hv : InS tab h v 36 l) (hn : l.length ≤ 200 ∨ l.length = 4001) (hnum : ∀ x ∈ l, x.num < 18446744073709551616) (hty : ∀ x ∈ l, x.t.length ≤ 101 ∧ x.u.length ≤ 101) :
  ∃ h', callR (EV tab) 10 [v] h = some (.tuple ⟨[.string ⟨⟨if allI l = 0 then printL l else []⟩⟩, .int .i64 (allI l)]⟩, h') ∧ Kept h h' := by
 have e1 := checkList_run tab hX.xc hX.ck h v l hv (by omega)
 by_cases q : allI l = 0
 ·rw [if_pos q]
  rw [q] at e1
  obtain ⟨hl, hz⟩ := allI_zero q
  have hx : ∀ x ∈ l, OkP x := fun x hx => by
   obtain ⟨k, r, a1, a2, a3, _, _, _, _, _, a4, a5, _⟩ := check_ok (hz x hx) (by have := hnum x hx; omega)
   exact ⟨⟨k, r, a1, a2, a3⟩, hnum x hx, ⟨by omega, by omega⟩, ⟨by omega, by omega⟩, (hty x hx).1, (hty x hx).2⟩
  have z : ((0 : Int) != 0) = false := rfl
  rcases hv with ⟨rfl, rfl⟩ | ⟨b, o, c, rfl, hm⟩
  ·generalize he : callR _ _ _ _ = r
   rw [enter10 _ _ _ (hX.xp _) rfl] at he
   simp only [sS, sevalprocAttr, fF10, tT, sN, sM, exR_loop, ng_eq, tabL_ng, lenD, lenOfD, iLss, iNeq, e1, z, Int.cast_ofNat_Int, Int.reduceLT, decide_false, Int.lt_irrefl] at he
   subst he
   rw [q]
   exact ⟨_, rfl, Kept.refl h⟩
  ·have key : ∀ tm hh, (hh = h ∧ tm.get 0 = some (.slice (some ⟨b, o, none⟩) l.length c) ∧ tm.get 5 = some (.string ⟨⟨[]⟩⟩) ∧ tm.get 6 = some (.int .i64 0)) →
     ∃ x s', exR (EV tab) p26Loop ⟨false, 26, tm, hh⟩ = some (x, s') ∧ (x = .exit 0 ∧ ∃ tm' h', s' = ⟨false, 26, tm', h'⟩ ∧ tm'.get 5 = some (.string ⟨⟨printL l⟩⟩) ∧ Kept h h') := fun tm hh p => by
    obtain ⟨rfl, p0, p5, p6⟩ := p
    obtain ⟨tm', h', y1, y2, y3⟩ := p26_loop tab hX hng l hm (by omega) hx l.length 0 tm hh (by omega) p0 p5 p6 (Nat.zero_le _) (Kept.refl _)
    exact ⟨_, _, y1, rfl, tm', h', rfl, y2, y3⟩
   generalize he : callR _ _ _ _ = r
   rw [enter10 _ _ _ (hX.xp _) rfl] at he
   simp only [sS, sevalprocAttr, r10_0, r10_1, r10_2, r10_4, r10_5, tT, e1, iNeq, z] at he
   obtain ⟨x1, s1, ⟨rfl, tm', h', rfl, y5, y6⟩, he⟩ := use_run key (fun o => finish (EV tab) [ResultVar.tmp 2, ResultVar.tmp 3] (andThen (unblock 0 o) (exR (EV tab) (.seq (Rg 10 9) .ret)))) he (by
    refine ⟨rfl, ?_, ?_, ?_⟩ <;> simp only [Tr.get_set, Nat.reduceEqDiff, ↓reduceIte])
   simp only [sS, sevalprocAttr, fF10, tT, y5] at he
   subst he
   rw [q]
   exact ⟨_, rfl, y6⟩
 ·rw [if_neg q]
  have z : (allI l != 0) = true := by simpa using q
  generalize he : callR _ _ _ _ = r
  rw [enter10 _ _ _ (hX.xp _) rfl] at he
  simp only [sS, sevalprocAttr, fF10, tT, e1, iNeq, z] at he
  subst he
  exact ⟨_, rfl, Kept.refl h⟩
end Go.D
