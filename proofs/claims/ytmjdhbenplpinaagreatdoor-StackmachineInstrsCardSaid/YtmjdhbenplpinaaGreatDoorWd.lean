/- The functions of the law, one after the other: what a run of D answers. -/
import Derived.Test.YtmjdhbenplpinaaGreatDoorWc
import Derived.Test.YtmjdhbenplpinaaGreatDoorFull
import Derived.Test.YtmjdhbenplpinaaGreatDoorW0
import Derived.Laws.RangeString
import Derived.Laws.RangeAny
import Derived.Laws.StructEq
namespace Go.D
open Go.Proofs
set_option maxRecDepth 100000
set_option linter.unusedVariables false
set_option linter.unusedSimpArgs false
def usesR (l : List UInt8) : List UInt8 := if l = [80, 76, 70] then [101] else l.map fun c => if c = 84 then 116 else if c = 85 then 117 else c
def rowL (r : KindR) : List Value := [.string ⟨⟨r.name⟩⟩, .string ⟨⟨usesR r.uses⟩⟩, .int .i64 r.pops, .int .i64 r.puts]
theorem row_sub : ∀ (k : Nat) (r : KindR), kindT[k]? = some r → Obj.sub (.cells 77 4 [.string ⟨#[99, 111, 110, 115, 116]⟩, .string ⟨#[110]⟩, .int .i64 0, .int .i64 1, .string ⟨#[119, 111, 114, 100]⟩, .string ⟨#[119]⟩, .int .i64 0, .int .i64 1, .string ⟨#[103, 101, 116]⟩, .string ⟨#[110]⟩, .int .i64 0, .int .i64 1, .string ⟨#[115, 101, 116]⟩, .string ⟨#[110]⟩, .int .i64 1, .int .i64 0, .string ⟨#[116, 101, 101]⟩, .string ⟨#[110]⟩, .int .i64 1, .int .i64 1, .string ⟨#[100, 114, 111, 112]⟩, .string ⟨#[]⟩, .int .i64 1, .int .i64 0, .string ⟨#[117, 110, 97, 114, 121]⟩, .string ⟨#[116, 110]⟩, .int .i64 1, .int .i64 1, .string ⟨#[98, 105, 110, 97, 114, 121]⟩, .string ⟨#[116, 110]⟩, .int .i64 2, .int .i64 1, .string ⟨#[99, 111, 110, 118, 101, 114, 116]⟩, .string ⟨#[116, 117, 110]⟩, .int .i64 1, .int .i64 1, .string ⟨#[108, 111, 97, 100]⟩, .string ⟨#[116, 115]⟩, .int .i64 1, .int .i64 1, .string ⟨#[115, 116, 111, 114, 101]⟩, .string ⟨#[116, 115]⟩, .int .i64 2, .int .i64 0, .string ⟨#[108, 101, 97]⟩, .string ⟨#[115]⟩, .int .i64 1, .int .i64 1, .string ⟨#[105, 110, 100, 101, 120]⟩, .string ⟨#[115]⟩, .int .i64 2, .int .i64 1, .string ⟨#[99, 111, 112, 121]⟩, .string ⟨#[110]⟩, .int .i64 2, .int .i64 0, .string ⟨#[97, 108, 108, 111, 99]⟩, .string ⟨#[110]⟩, .int .i64 1, .int .i64 1, .string ⟨#[102, 114, 101, 101]⟩, .string ⟨#[]⟩, .int .i64 1, .int .i64 0, .string ⟨#[111, 117, 116]⟩, .string ⟨#[116]⟩, .int .i64 1, .int .i64 0, .string ⟨#[112, 114, 105, 110, 116]⟩, .string ⟨#[]⟩, .int .i64 2, .int .i64 0, .string ⟨#[116, 114, 97, 99, 101]⟩, .string ⟨#[]⟩, .int .i64 0, .int .i64 0, .string ⟨#[102, 111, 114, 103, 101, 116]⟩, .string ⟨#[]⟩, .int .i64 0, .int .i64 0, .string ⟨#[106, 117, 109, 112]⟩, .string ⟨#[100]⟩, .int .i64 0, .int .i64 0, .string ⟨#[98, 114, 97, 110, 99, 104]⟩, .string ⟨#[100]⟩, .int .i64 1, .int .i64 0, .string ⟨#[99, 97, 115, 101]⟩, .string ⟨#[116, 119, 100]⟩, .int .i64 1, .int .i64 1, .string ⟨#[99, 97, 108, 108]⟩, .string ⟨#[100]⟩, .int .i64 0, .int .i64 0, .string ⟨#[101, 110, 116, 101, 114]⟩, .string ⟨#[101]⟩, .int .i64 0, .int .i64 0, .string ⟨#[114, 101, 116, 117, 114, 110]⟩, .string ⟨#[110]⟩, .int .i64 0, .int .i64 0, .string ⟨#[102, 114, 97, 109, 101]⟩, .string ⟨#[110]⟩, .int .i64 0, .int .i64 1, .string ⟨#[116, 114, 97, 112]⟩, .string ⟨#[110]⟩, .int .i64 0, .int .i64 0, .string ⟨#[99, 114, 97, 115, 104]⟩, .string ⟨#[110]⟩, .int .i64 0, .int .i64 0]) (k * 4) 4 = some (rowL r)
 | 0, r, h => by cases h; rfl
 | 1, r, h => by cases h; rfl
 | 2, r, h => by cases h; rfl
 | 3, r, h => by cases h; rfl
 | 4, r, h => by cases h; rfl
 | 5, r, h => by cases h; rfl
 | 6, r, h => by cases h; rfl
 | 7, r, h => by cases h; rfl
 | 8, r, h => by cases h; rfl
 | 9, r, h => by cases h; rfl
 | 10, r, h => by cases h; rfl
 | 11, r, h => by cases h; rfl
 | 12, r, h => by cases h; rfl
 | 13, r, h => by cases h; rfl
 | 14, r, h => by cases h; rfl
 | 15, r, h => by cases h; rfl
 | 16, r, h => by cases h; rfl
 | 17, r, h => by cases h; rfl
 | 18, r, h => by cases h; rfl
 | 19, r, h => by cases h; rfl
 | 20, r, h => by cases h; rfl
 | 21, r, h => by cases h; rfl
 | 22, r, h => by cases h; rfl
 | 23, r, h => by cases h; rfl
 | 24, r, h => by cases h; rfl
 | 25, r, h => by cases h; rfl
 | 26, r, h => by cases h; rfl
 | 27, r, h => by cases h; rfl
 | 28, r, h => by cases h; rfl
 | k + 29, r, h => by
  have := (List.getElem?_eq_some_iff.1 h).1
  have h2 : kindT.length = 29 := rfl
  omega
def rowOfV : Spec
 | [.int .i64 op] => match kindAt op with
  | some r => some (.agg ⟨rowL r⟩)
  | none => none
 | _ => none
theorem f_rowOf {T : List (Nat × Spec)} (hT : Fine T) (hx : ∀ l, callExt (EV (tabL T)) 24 l = none) : Fine ((24, rowOfV) :: T) :=
 hT.step (F := Tryz.f24) (by kernel_rfl) (by kernel_rfl) hx fun args v hv => by
  unfold rowOfV at hv
  split at hv
  ·rename_i op
   rcases kindAt_cases op with ⟨hk, ho⟩ | ⟨k, rfl, r, hk, hk2⟩
   ·rw [hk] at hv; cases hv
   ·rw [hk2] at hv
    cases hv
    refine ⟨rfl, rfl, ?_⟩
    have hlt : k < 29 := by
     have := (List.getElem?_eq_some_iff.1 hk).1
     have h2 : kindT.length = 29 := rfl
     omega
    have hsub := row_sub k r hk
    have hi : (0 : Int) ≤ (k : Int) ∧ (k : Int) < 29 := by omega
    have hi3 : (k : Int) < 29 := by omega
    generalize he : callR _ _ _ _ = r0
    rw [enter24 _ _ _ (hx _) rfl] at he
    simp only [sS, sevalprocAttr, fF24, tT, sN, subD, ng_eq, tabL_ng, h0_next, hi3, Int.natCast_nonneg, Int.toNat_natCast, Int.cast_ofNat_Int, hsub, rowL] at he
    subst he
    exact ⟨_, rfl⟩
  ·cases hv
def hasR (u : List UInt8) (c : Int) : Bool := u.any fun x => ((x.toNat : Nat) : Int) == c
def hasV : Spec
 | [.agg ⟨[.string ⟨⟨_⟩⟩, .string ⟨⟨u⟩⟩, .int .i64 _, .int .i64 _]⟩, .int .u8 c] => if u.length < 1000 then some (.bool (hasR u c)) else none
 | _ => none
noncomputable def hasLoop : Code := .loop (.seq (.seq (Rg 38 2) (.cond (Operand.tmp 10) .skip (Code.exit 0))) (.seq (.block 1 (.seq (Rg 38 4) (.cond (Operand.tmp 18) (.seq (Rg 38 5) .ret) .skip))) (Rg 38 3)))
theorem has_loop (tab : Tab) (n u : List UInt8) (a d : Int) (hu : u.length < 1000) (c : Int) (h : H) (b : Nat) (hb : ¬ b < tab.ng) (hg : h.get b = some (.cells 77 4 [.string ⟨⟨n⟩⟩, .string ⟨⟨u⟩⟩, .int .i64 a, .int .i64 d])) :
  ∀ (k i : Nat) (tm : Tr Value), i + k = u.length → tm.get 2 = some (.pointer (some ⟨b, 0, none⟩)) → tm.get 1 = some (.int .u8 c) → tm.get 5 = some (.int .i64 i) →
  ∃ tm', (exR (EV tab) hasLoop ⟨false, 19, tm, h⟩ = some (.exit 0, ⟨false, 19, tm', h⟩) ∧ hasR (u.drop i) c = false) ∨
   (exR (EV tab) hasLoop ⟨false, 19, tm, h⟩ = some (.ret, ⟨false, 19, tm', h⟩) ∧ hasR (u.drop i) c = true ∧ tm'.get 4 = some (.bool true)) := by
 intro k
 have hsz : (ByteArray.mk ⟨u⟩).size = u.length := rfl
 induction k with
 | zero =>
  intro i tm hk t2 t1 t5
  have hi : ¬ i < u.length := by omega
  generalize he : exR (EV tab) hasLoop ⟨false, 19, tm, h⟩ = r
  rw [hasLoop, exR_loop] at he
  simp only [sS, sevalprocAttr, fF38, tT, sN, sM, ng_eq, tabL_ng, t1, t2, t5, hb, hg, iLss, hsz, Int.ofNat_lt, hi, decide_false] at he
  subst he
  exact ⟨_, .inl ⟨rfl, by rw [List.drop_eq_nil_of_le (by omega)]; rfl⟩⟩
 | succ k ih =>
  intro i tm hk t2 t1 t5
  have hi : i < u.length := by omega
  have hget : u[i]? = some u[i] := by simp
  have hd : u.drop i = u[i] :: u.drop (i + 1) := (List.getElem_cons_drop hi).symm
  cases hc : (((u[i].toNat : Nat) : Int) == c) with
  | true =>
   generalize he : exR (EV tab) hasLoop ⟨false, 19, tm, h⟩ = r
   rw [hasLoop, exR_loop] at he
   simp only [sS, sevalprocAttr, fF38, tT, sN, sM, ng_eq, tabL_ng, t1, t2, t5, hb, hg, iLss, hsz, Int.ofNat_lt, hi, decide_true, oIndex, indexD, Int.natCast_nonneg, Int.toNat_natCast, hget, iEql, hc] at he
   subst he
   exact ⟨_, .inr ⟨rfl, by rw [hd]; simp only [hasR, List.any_cons, hc, Bool.true_or], by simp only [Tr.get_set, Nat.reduceEqDiff, ↓reduceIte]⟩⟩
  | false =>
   obtain ⟨tm1, e1, a2, a1, a5⟩ : ∃ tm1, exR (EV tab) hasLoop ⟨false, 19, tm, h⟩ = exR (EV tab) hasLoop ⟨false, 19, tm1, h⟩ ∧ tm1.get 2 = some (.pointer (some ⟨b, 0, none⟩)) ∧ tm1.get 1 = some (.int .u8 c) ∧ tm1.get 5 = some (.int .i64 ((i + 1 : Nat) : Int)) := by
    generalize he : exR (EV tab) hasLoop ⟨false, 19, tm, h⟩ = r
    rw [hasLoop, exR_loop] at he
    simp only [sS, sevalprocAttr, fF38, tT, sN, sM, ng_eq, tabL_ng, t1, t2, t5, hb, hg, iLss, hsz, Int.ofNat_lt, hi, decide_true, oIndex, indexD, Int.natCast_nonneg, Int.toNat_natCast, hget, iEql, hc, add1 i (by omega)] at he
    subst he
    refine ⟨_, rfl, ?_, ?_, ?_⟩ <;> simp only [Tr.get_set, Nat.reduceEqDiff, ↓reduceIte, t1, t2]
   obtain ⟨tm', ⟨e, z⟩ | ⟨e, z, z2⟩⟩ := ih (i + 1) tm1 (by omega) a2 a1 a5
   ·exact ⟨tm', .inl ⟨by rw [e1]; exact e, by rw [hd]; simp only [hasR, List.any_cons, hc, Bool.false_or]; exact z⟩⟩
   ·exact ⟨tm', .inr ⟨by rw [e1]; exact e, by rw [hd]; simp only [hasR, List.any_cons, hc, Bool.false_or]; exact z, z2⟩⟩
theorem f_has {T : List (Nat × Spec)} (hT : Fine T) (hx : ∀ l, callExt (EV (tabL T)) 38 l = none) : Fine ((38, hasV) :: T) :=
 hT.step (F := Tryz.f38) (by kernel_rfl) (by kernel_rfl) hx fun args v hv => by
  unfold hasV at hv
  split at hv
  ·rename_i n u a d c
   split at hv
   ·rename_i hu
    cases hv
    refine ⟨rfl, rfl, ?_⟩
    have key : ∀ tm h, (h.get 17 = some (.cells 77 4 [.string ⟨⟨n⟩⟩, .string ⟨⟨u⟩⟩, .int .i64 a, .int .i64 d]) ∧ tm.get 2 = some (.pointer (some ⟨17, 0, none⟩)) ∧ tm.get 1 = some (.int .u8 c) ∧ tm.get 5 = some (.int .i64 0)) → ∃ x s', exR (EV (tabL T)) hasLoop ⟨false, 19, tm, h⟩ = some (x, s') ∧
      ((x = .exit 0 ∧ ∃ tm', s' = ⟨false, 19, tm', h⟩ ∧ hasR u c = false) ∨ (x = .ret ∧ ∃ tm', s' = ⟨false, 19, tm', h⟩ ∧ hasR u c = true ∧ tm'.get 4 = some (.bool true))) := fun tm h p => by
     obtain ⟨tm', ⟨e, z⟩ | ⟨e, z, z2⟩⟩ := has_loop (tabL T) n u a d hu c h 17 (by show ¬ 17 < 17; decide) p.1 u.length 0 tm (by omega) p.2.1 p.2.2.1 p.2.2.2
     ·exact ⟨_, _, e, .inl ⟨rfl, tm', rfl, by rw [List.drop_zero] at z; exact z⟩⟩
     ·exact ⟨_, _, e, .inr ⟨rfl, tm', rfl, by rw [List.drop_zero] at z; exact z, z2⟩⟩
    generalize he : callR _ _ _ _ = r
    rw [enter38 _ _ _ (hx _) rfl] at he
    simp only [sS, sevalprocAttr, r38_0, r38_1, tT, sN, sM, ng_eq, tabL_ng, h0_next] at he
    obtain ⟨x1, s1, ⟨rfl, tm', rfl, z⟩ | ⟨rfl, tm', rfl, z, z2⟩, he⟩ := use_run key (fun o => finish (EV (tabL T)) [ResultVar.tmp 4] (andThen (unblock 0 o) (exR (EV (tabL T)) (.seq (Rg 38 6) .ret)))) he (by
     refine ⟨H.get_push_self _ _, ?_, ?_, ?_⟩ <;> simp only [Tr.get_set, Nat.reduceEqDiff, ↓reduceIte])
    ·rw [z]
     simp only [sS, sevalprocAttr, fF38, tT] at he
     subst he
     exact ⟨_, rfl⟩
    ·rw [z]
     simp only [sS, sevalprocAttr, fF38, tT, z2] at he
     subst he
     exact ⟨_, rfl⟩
   ·cases hv
  ·cases hv
def operV : Spec
 | [.agg ⟨[.int .i64 op, .string ⟨⟨t⟩⟩, .string ⟨⟨u⟩⟩, .int .u64 num, .int .i64 imm, .int .i64 size]⟩] => some (.int .i64 (if !(existsB op t u num) then 11 else 0))
 | _ => none
theorem f_oper {T : List (Nat × Spec)} (hT : Fine T) (hx : ∀ l, callExt (EV (tabL T)) 42 l = none)
  (h1 : ∀ op h, callR (EV (tabL T)) 68 [.int .i64 op] h = some (.tuple ⟨[.int .i64 (formE op).1, .int .i64 (formE op).2]⟩, h))
  (h2 : ∀ op s h, 0 ≤ op → op < 70 → callR (EV (tabL T)) 69 [.int .i64 op, .string ⟨⟨s⟩⟩] h = some (.bool (takesB op.toNat s), h))
  (h3 : ∀ op s t h, callR (EV (tabL T)) 70 [.int .i64 op, .string ⟨⟨s⟩⟩, .string ⟨⟨t⟩⟩] h = some (.bool (convB op s t), h))
  (h4 : ∀ b e h, callR (EV (tabL T)) 65 [.bool b, .int .i64 e] h = some (.int .i64 (if b then e else 0), h)) : Fine ((42, operV) :: T) :=
 hT.step (F := Tryz.f42) (by kernel_rfl) (by kernel_rfl) hx fun args v hv => by
  unfold operV at hv
  split at hv
  ·rename_i op t u num imm size
   cases hv
   refine ⟨rfl, rfl, ?_⟩
   have jt : ∀ k : Int, op = k → (op == k) = true := fun k h => by rw [beq_iff_eq]; exact h
   have jf : ∀ k : Int, op ≠ k → (op == k) = false := fun k h => by rw [beq_eq_false_iff_ne]; exact h
   have nb : ∀ x : Int, (x != 0) = !(x == 0) := fun x => rfl
   generalize he : callR _ _ _ _ = r
   rw [enter42 _ _ _ (hx _) rfl] at he
   by_cases q1 : op < 6
   ·have d1 : decide (op < 6) = true := decide_eq_true q1
    have hex : existsB op t u num = true := by unfold existsB; rw [if_neg (by omega), if_neg (by omega), if_neg (by omega)]
    rw [hex]
    simp only [sS, sevalprocAttr, fF42, tT, sN, sM, ng_eq, tabL_ng, h0_next, iLss, d1] at he
    subst he
    exact ⟨_, rfl⟩
   ·have d1 : decide (op < 6) = false := decide_eq_false q1
    by_cases q2 : 8 < op
    ·have d2 : decide (8 < op) = true := decide_eq_true q2
     have hex : existsB op t u num = true := by unfold existsB; rw [if_neg (by omega), if_neg (by omega), if_neg (by omega)]
     rw [hex]
     simp only [sS, sevalprocAttr, fF42, tT, sN, sM, ng_eq, tabL_ng, h0_next, iLss, iGtr, gt_iff_lt, d1, d2] at he
     subst he
     exact ⟨_, rfl⟩
    ·have d2 : decide (8 < op) = false := decide_eq_false q2
     cases a1 : ((formE (IntKind.i64.wrap num)).2 == 0) with
     | false =>
      simp only [sS, sevalprocAttr, fF42, tT, sN, sM, ng_eq, tabL_ng, h0_next, iLss, iGtr, gt_iff_lt, d1, d2, h1, iNeq, nb, a1, Bool.not_false] at he
      subst he
      have hex : existsB op t u num = false := by
       unfold existsB
       rw [a1]
       by_cases q6 : op = 6
       ·rw [if_pos q6]; rfl
       ·by_cases q7 : op = 7
        ·rw [if_neg q6, if_pos q7]; rfl
        ·rw [if_neg q6, if_neg q7, if_pos (by omega)]; rfl
      rw [hex]
      exact ⟨_, rfl⟩
     | true =>
      unfold existsB
      rw [a1]
      have e := fun s h => h2 (IntKind.i64.wrap num) s h (formE_ok a1).1 (formE_ok a1).2
      by_cases q6 : op = 6
      ·rw [if_pos q6]
       have j6 := jt 6 q6
       cases a2 : ((formE (IntKind.i64.wrap num)).1 == 1) <;>
       ·simp only [sS, sevalprocAttr, fF42, tT, sN, sM, ng_eq, tabL_ng, h0_next, iLss, iGtr, gt_iff_lt, d1, d2, h1, h4, iNeq, iEql, nb, a1, a2, e, j6, Bool.not_true] at he
        subst he
        exact ⟨_, rfl⟩
      ·rw [if_neg q6]
       have j6 := jf 6 q6
       by_cases q7 : op = 7
       ·rw [if_pos q7]
        have j7 := jt 7 q7
        cases a2 : ((formE (IntKind.i64.wrap num)).1 == 2) <;> cases a3 : ((formE (IntKind.i64.wrap num)).1 == 3) <;>
        ·simp only [sS, sevalprocAttr, fF42, tT, sN, sM, ng_eq, tabL_ng, h0_next, iLss, iGtr, gt_iff_lt, d1, d2, h1, h4, iNeq, iEql, nb, a1, a2, a3, e, j6, j7, Bool.not_true] at he
         subst he
         exact ⟨_, rfl⟩
       ·have q8 : op = 8 := by omega
        rw [if_neg q7, if_pos q8]
        have j7 := jf 7 q7
        have j8 := jt 8 q8
        cases a2 : ((formE (IntKind.i64.wrap num)).1 == 4) <;>
        ·simp only [sS, sevalprocAttr, fF42, tT, sN, sM, ng_eq, tabL_ng, h0_next, iLss, iGtr, gt_iff_lt, d1, d2, h1, h3, h4, iNeq, iEql, nb, a1, a2, j6, j7, j8, Bool.not_true] at he
         subst he
         exact ⟨_, rfl⟩
  ·cases hv
abbrev RowOf (tab : Tab) : Prop := ∀ (op : Int) (r : KindR) (h : H), kindAt op = some r → callR (EV tab) 24 [.int .i64 op] h = some (.agg ⟨rowL r⟩, h)
abbrev Has (tab : Tab) : Prop := ∀ (n u : List UInt8) (a d c : Int) (h : H), u.length < 1000 → callR (EV tab) 38 [.agg ⟨[.string ⟨⟨n⟩⟩, .string ⟨⟨u⟩⟩, .int .i64 a, .int .i64 d]⟩, .int .u8 c] h = some (.bool (hasR u c), h)
def rangesV : Spec
 | [.agg ⟨[.int .i64 op, .string ⟨⟨_⟩⟩, .string ⟨⟨_⟩⟩, .int .u64 num, .int .i64 imm, .int .i64 size]⟩] => match kindAt op with
  | some r => if 0 ≤ num then some (.int .i64 (if !(rightB num imm size r.right) then 3 else 0)) else none
  | none => none
 | _ => none
theorem kindT_len : kindT.all (fun r => decide ((usesR r.uses).length < 1000)) = true := by decide
theorem f_ranges {T : List (Nat × Spec)} (hT : Fine T) (hx : ∀ l, callExt (EV (tabL T)) 41 l = none) (h1 : RowOf (tabL T)) (h2 : Has (tabL T))
  (h3 : ∀ n h, callR (EV (tabL T)) 66 [.int .i64 n] h = some (.bool (nearB n), h))
  (h4 : ∀ b e h, callR (EV (tabL T)) 65 [.bool b, .int .i64 e] h = some (.int .i64 (if b then e else 0), h))
  (h5 : ∀ n h, callR (EV (tabL T)) 67 [.int .i64 n] h = some (.bool (alignB n), h)) : Fine ((41, rangesV) :: T) :=
 hT.step (F := Tryz.f41) (by kernel_rfl) (by kernel_rfl) hx fun args v hv => by
  unfold rangesV at hv
  split at hv
  ·rename_i op t u num imm size
   rcases kindAt_cases op with ⟨hk, ho⟩ | ⟨k, rfl, r, hk, hk2⟩
   ·rw [hk] at hv; cases hv
   ·rw [hk2] at hv
    simp only at hv
    split at hv
    ·rename_i hnum
     cases hv
     refine ⟨rfl, rfl, ?_⟩
     have e1 := fun h => h1 (k : Int) r h hk2
     have hu : (usesR r.uses).length < 1000 := of_decide_eq_true (List.all_eq_true.1 kindT_len r (List.mem_of_getElem? hk))
     have e2 := fun c h => h2 r.name (usesR r.uses) r.pops r.puts c h hu
     have hgt : ∀ n : Int, decide (n < num) = !decide (num ≤ n) := fun n => by by_cases h : num ≤ n <;> simp [h] <;> omega
     have hg13 : decide ((13 : Int) ≤ num) = !decide (num ≤ 12) := by by_cases h : num ≤ 12 <;> simp [h] <;> omega
     have hg19 : decide ((19 : Int) ≤ num) = !decide (num ≤ 18) := by by_cases h : num ≤ 18 <;> simp [h] <;> omega
     simp only [rowL] at e1
     have hlt : k < 29 := by
      have := (List.getElem?_eq_some_iff.1 hk).1
      have h2 : kindT.length = 29 := rfl
      omega
     generalize he : callR _ _ _ _ = x
     rw [enter41 _ _ _ (hx _) rfl] at he
     clear hk2 hu
     match k, hlt, hk with
     | 0, _, hk =>
      have hs : hasR (usesR r.uses) 115 = false := by cases hk; rfl
      have hd : hasR (usesR r.uses) 100 = false := by cases hk; rfl
      have hr : r.right = .free := by cases hk; rfl
      rw [hr]
      simp only [Int.cast_ofNat_Int] at e1
      simp only [sS, sevalprocAttr, fF41, tT, sN, sM, ng_eq, tabL_ng, h0_next, Int.cast_ofNat_Int, Int.reduceBEq, e1, e2, hs, hd, h4, iEql, iGtr, iGeq, iLss, gt_iff_lt, ge_iff_le] at he
      subst he
      exact ⟨_, rfl⟩
     | 1, _, hk =>
      have hs : hasR (usesR r.uses) 115 = false := by cases hk; rfl
      have hd : hasR (usesR r.uses) 100 = false := by cases hk; rfl
      have hr : r.right = .free := by cases hk; rfl
      rw [hr]
      simp only [Int.cast_ofNat_Int] at e1
      simp only [sS, sevalprocAttr, fF41, tT, sN, sM, ng_eq, tabL_ng, h0_next, Int.cast_ofNat_Int, Int.reduceBEq, e1, e2, hs, hd, h4, iEql, iGtr, iGeq, iLss, gt_iff_lt, ge_iff_le] at he
      subst he
      exact ⟨_, rfl⟩
     | 2, _, hk =>
      have hs : hasR (usesR r.uses) 115 = false := by cases hk; rfl
      have hd : hasR (usesR r.uses) 100 = false := by cases hk; rfl
      have hr : r.right = .below 0 9999 := by cases hk; rfl
      rw [hr]
      simp only [Int.cast_ofNat_Int] at e1
      simp only [sS, sevalprocAttr, fF41, tT, sN, sM, ng_eq, tabL_ng, h0_next, Int.cast_ofNat_Int, Int.reduceBEq, e1, e2, hs, hd, h4, iEql, iGtr, iGeq, iLss, gt_iff_lt, ge_iff_le, hgt, hg13, hg19] at he
      subst he
      exact ⟨_, rfl⟩
     | 3, _, hk =>
      have hs : hasR (usesR r.uses) 115 = false := by cases hk; rfl
      have hd : hasR (usesR r.uses) 100 = false := by cases hk; rfl
      have hr : r.right = .below 1 9999 := by cases hk; rfl
      rw [hr]
      simp only [Int.cast_ofNat_Int] at e1
      simp only [sS, sevalprocAttr, fF41, tT, sN, sM, ng_eq, tabL_ng, h0_next, Int.cast_ofNat_Int, Int.reduceBEq, e1, e2, hs, hd, h4, iEql, iGtr, iGeq, iLss, gt_iff_lt, ge_iff_le, hgt, hg13, hg19] at he
      subst he
      exact ⟨_, rfl⟩
     | 4, _, hk =>
      have hs : hasR (usesR r.uses) 115 = false := by cases hk; rfl
      have hd : hasR (usesR r.uses) 100 = false := by cases hk; rfl
      have hr : r.right = .below 2 9999 := by cases hk; rfl
      rw [hr]
      simp only [Int.cast_ofNat_Int] at e1
      simp only [sS, sevalprocAttr, fF41, tT, sN, sM, ng_eq, tabL_ng, h0_next, Int.cast_ofNat_Int, Int.reduceBEq, e1, e2, hs, hd, h4, iEql, iGtr, iGeq, iLss, gt_iff_lt, ge_iff_le, hgt, hg13, hg19] at he
      subst he
      exact ⟨_, rfl⟩
     | 5, _, hk =>
      have hs : hasR (usesR r.uses) 115 = false := by cases hk; rfl
      have hd : hasR (usesR r.uses) 100 = false := by cases hk; rfl
      have hr : r.right = .free := by cases hk; rfl
      rw [hr]
      simp only [Int.cast_ofNat_Int] at e1
      simp only [sS, sevalprocAttr, fF41, tT, sN, sM, ng_eq, tabL_ng, h0_next, Int.cast_ofNat_Int, Int.reduceBEq, e1, e2, hs, hd, h4, iEql, iGtr, iGeq, iLss, gt_iff_lt, ge_iff_le] at he
      subst he
      exact ⟨_, rfl⟩
     | 6, _, hk =>
      have hs : hasR (usesR r.uses) 115 = false := by cases hk; rfl
      have hd : hasR (usesR r.uses) 100 = false := by cases hk; rfl
      have hr : r.right = .below 3 255 := by cases hk; rfl
      rw [hr]
      simp only [Int.cast_ofNat_Int] at e1
      simp only [sS, sevalprocAttr, fF41, tT, sN, sM, ng_eq, tabL_ng, h0_next, Int.cast_ofNat_Int, Int.reduceBEq, e1, e2, hs, hd, h4, iEql, iGtr, iGeq, iLss, gt_iff_lt, ge_iff_le, hgt, hg13, hg19] at he
      subst he
      exact ⟨_, rfl⟩
     | 7, _, hk =>
      have hs : hasR (usesR r.uses) 115 = false := by cases hk; rfl
      have hd : hasR (usesR r.uses) 100 = false := by cases hk; rfl
      have hr : r.right = .below 4 255 := by cases hk; rfl
      rw [hr]
      simp only [Int.cast_ofNat_Int] at e1
      simp only [sS, sevalprocAttr, fF41, tT, sN, sM, ng_eq, tabL_ng, h0_next, Int.cast_ofNat_Int, Int.reduceBEq, e1, e2, hs, hd, h4, iEql, iGtr, iGeq, iLss, gt_iff_lt, ge_iff_le, hgt, hg13, hg19] at he
      subst he
      exact ⟨_, rfl⟩
     | 8, _, hk =>
      have hs : hasR (usesR r.uses) 115 = false := by cases hk; rfl
      have hd : hasR (usesR r.uses) 100 = false := by cases hk; rfl
      have hr : r.right = .below 5 255 := by cases hk; rfl
      rw [hr]
      simp only [Int.cast_ofNat_Int] at e1
      simp only [sS, sevalprocAttr, fF41, tT, sN, sM, ng_eq, tabL_ng, h0_next, Int.cast_ofNat_Int, Int.reduceBEq, e1, e2, hs, hd, h4, iEql, iGtr, iGeq, iLss, gt_iff_lt, ge_iff_le, hgt, hg13, hg19] at he
      subst he
      exact ⟨_, rfl⟩
     | 9, _, hk =>
      have hs : hasR (usesR r.uses) 115 = true := by cases hk; rfl
      have hd : hasR (usesR r.uses) 100 = false := by cases hk; rfl
      have hr : r.right = .near := by cases hk; rfl
      rw [hr]
      simp only [Int.cast_ofNat_Int] at e1
      cases q : nearB imm <;>
      ·simp only [sS, sevalprocAttr, fF41, tT, sN, sM, ng_eq, tabL_ng, h0_next, Int.cast_ofNat_Int, Int.reduceBEq, e1, e2, hs, hd, h4, iEql, iGtr, iGeq, iLss, gt_iff_lt, ge_iff_le, h3, q, Bool.not_true, Bool.not_false] at he
       subst he
       simp only [rightB, q]
       exact ⟨_, rfl⟩
     | 10, _, hk =>
      have hs : hasR (usesR r.uses) 115 = true := by cases hk; rfl
      have hd : hasR (usesR r.uses) 100 = false := by cases hk; rfl
      have hr : r.right = .near := by cases hk; rfl
      rw [hr]
      simp only [Int.cast_ofNat_Int] at e1
      cases q : nearB imm <;>
      ·simp only [sS, sevalprocAttr, fF41, tT, sN, sM, ng_eq, tabL_ng, h0_next, Int.cast_ofNat_Int, Int.reduceBEq, e1, e2, hs, hd, h4, iEql, iGtr, iGeq, iLss, gt_iff_lt, ge_iff_le, h3, q, Bool.not_true, Bool.not_false] at he
       subst he
       simp only [rightB, q]
       exact ⟨_, rfl⟩
     | 11, _, hk =>
      have hs : hasR (usesR r.uses) 115 = true := by cases hk; rfl
      have hd : hasR (usesR r.uses) 100 = false := by cases hk; rfl
      have hr : r.right = .near := by cases hk; rfl
      rw [hr]
      simp only [Int.cast_ofNat_Int] at e1
      cases q : nearB imm <;>
      ·simp only [sS, sevalprocAttr, fF41, tT, sN, sM, ng_eq, tabL_ng, h0_next, Int.cast_ofNat_Int, Int.reduceBEq, e1, e2, hs, hd, h4, iEql, iGtr, iGeq, iLss, gt_iff_lt, ge_iff_le, h3, q, Bool.not_true, Bool.not_false] at he
       subst he
       simp only [rightB, q]
       exact ⟨_, rfl⟩
     | 12, _, hk =>
      have hs : hasR (usesR r.uses) 115 = true := by cases hk; rfl
      have hd : hasR (usesR r.uses) 100 = false := by cases hk; rfl
      have hr : r.right = .near := by cases hk; rfl
      rw [hr]
      simp only [Int.cast_ofNat_Int] at e1
      cases q : nearB imm <;>
      ·simp only [sS, sevalprocAttr, fF41, tT, sN, sM, ng_eq, tabL_ng, h0_next, Int.cast_ofNat_Int, Int.reduceBEq, e1, e2, hs, hd, h4, iEql, iGtr, iGeq, iLss, gt_iff_lt, ge_iff_le, h3, q, Bool.not_true, Bool.not_false] at he
       subst he
       simp only [rightB, q]
       exact ⟨_, rfl⟩
     | 13, _, hk =>
      have hs : hasR (usesR r.uses) 115 = false := by cases hk; rfl
      have hd : hasR (usesR r.uses) 100 = false := by cases hk; rfl
      have hr : r.right = .below 6 2147483647 := by cases hk; rfl
      rw [hr]
      simp only [Int.cast_ofNat_Int] at e1
      simp only [sS, sevalprocAttr, fF41, tT, sN, sM, ng_eq, tabL_ng, h0_next, Int.cast_ofNat_Int, Int.reduceBEq, e1, e2, hs, hd, h4, iEql, iGtr, iGeq, iLss, gt_iff_lt, ge_iff_le, hgt, hg13, hg19] at he
      subst he
      exact ⟨_, rfl⟩
     | 14, _, hk =>
      have hs : hasR (usesR r.uses) 115 = false := by cases hk; rfl
      have hd : hasR (usesR r.uses) 100 = false := by cases hk; rfl
      have hr : r.right = .aligned := by cases hk; rfl
      rw [hr]
      simp only [Int.cast_ofNat_Int] at e1
      cases q : decide (num ≤ 16) with
      | false =>
       have ha : alignB num = false := by
        have q2 : ¬ num ≤ 16 := of_decide_eq_false q
        unfold alignB; simp only [List.contains_cons, List.contains_nil]
        rw [beq_eq_false_iff_ne.2 (by omega), beq_eq_false_iff_ne.2 (by omega), beq_eq_false_iff_ne.2 (by omega), beq_eq_false_iff_ne.2 (by omega), beq_eq_false_iff_ne.2 (by omega)]; rfl
       simp only [sS, sevalprocAttr, fF41, tT, sN, sM, ng_eq, tabL_ng, h0_next, Int.cast_ofNat_Int, Int.reduceBEq, e1, e2, hs, hd, h4, iEql, iGtr, iGeq, iLss, gt_iff_lt, ge_iff_le, hgt, q, Bool.not_false] at he
       subst he
       simp only [rightB, ha]
       exact ⟨_, rfl⟩
      | true =>
       have hw : IntKind.i64.wrap num = num := IntWalk.i64_in _ ⟨by omega, by have := of_decide_eq_true q; omega⟩
       simp only [sS, sevalprocAttr, fF41, tT, sN, sM, ng_eq, tabL_ng, h0_next, Int.cast_ofNat_Int, Int.reduceBEq, e1, e2, hs, hd, h4, iEql, iGtr, iGeq, iLss, gt_iff_lt, ge_iff_le, hgt, q, hw, h5, Bool.not_true] at he
       subst he
       exact ⟨_, rfl⟩
     | 15, _, hk =>
      have hs : hasR (usesR r.uses) 115 = false := by cases hk; rfl
      have hd : hasR (usesR r.uses) 100 = false := by cases hk; rfl
      have hr : r.right = .free := by cases hk; rfl
      rw [hr]
      simp only [Int.cast_ofNat_Int] at e1
      simp only [sS, sevalprocAttr, fF41, tT, sN, sM, ng_eq, tabL_ng, h0_next, Int.cast_ofNat_Int, Int.reduceBEq, e1, e2, hs, hd, h4, iEql, iGtr, iGeq, iLss, gt_iff_lt, ge_iff_le] at he
      subst he
      exact ⟨_, rfl⟩
     | 16, _, hk =>
      have hs : hasR (usesR r.uses) 115 = false := by cases hk; rfl
      have hd : hasR (usesR r.uses) 100 = false := by cases hk; rfl
      have hr : r.right = .free := by cases hk; rfl
      rw [hr]
      simp only [Int.cast_ofNat_Int] at e1
      simp only [sS, sevalprocAttr, fF41, tT, sN, sM, ng_eq, tabL_ng, h0_next, Int.cast_ofNat_Int, Int.reduceBEq, e1, e2, hs, hd, h4, iEql, iGtr, iGeq, iLss, gt_iff_lt, ge_iff_le] at he
      subst he
      exact ⟨_, rfl⟩
     | 17, _, hk =>
      have hs : hasR (usesR r.uses) 115 = false := by cases hk; rfl
      have hd : hasR (usesR r.uses) 100 = false := by cases hk; rfl
      have hr : r.right = .free := by cases hk; rfl
      rw [hr]
      simp only [Int.cast_ofNat_Int] at e1
      simp only [sS, sevalprocAttr, fF41, tT, sN, sM, ng_eq, tabL_ng, h0_next, Int.cast_ofNat_Int, Int.reduceBEq, e1, e2, hs, hd, h4, iEql, iGtr, iGeq, iLss, gt_iff_lt, ge_iff_le] at he
      subst he
      exact ⟨_, rfl⟩
     | 18, _, hk =>
      have hs : hasR (usesR r.uses) 115 = false := by cases hk; rfl
      have hd : hasR (usesR r.uses) 100 = false := by cases hk; rfl
      have hr : r.right = .free := by cases hk; rfl
      rw [hr]
      simp only [Int.cast_ofNat_Int] at e1
      simp only [sS, sevalprocAttr, fF41, tT, sN, sM, ng_eq, tabL_ng, h0_next, Int.cast_ofNat_Int, Int.reduceBEq, e1, e2, hs, hd, h4, iEql, iGtr, iGeq, iLss, gt_iff_lt, ge_iff_le] at he
      subst he
      exact ⟨_, rfl⟩
     | 19, _, hk =>
      have hs : hasR (usesR r.uses) 115 = false := by cases hk; rfl
      have hd : hasR (usesR r.uses) 100 = false := by cases hk; rfl
      have hr : r.right = .free := by cases hk; rfl
      rw [hr]
      simp only [Int.cast_ofNat_Int] at e1
      simp only [sS, sevalprocAttr, fF41, tT, sN, sM, ng_eq, tabL_ng, h0_next, Int.cast_ofNat_Int, Int.reduceBEq, e1, e2, hs, hd, h4, iEql, iGtr, iGeq, iLss, gt_iff_lt, ge_iff_le] at he
      subst he
      exact ⟨_, rfl⟩
     | 20, _, hk =>
      have hs : hasR (usesR r.uses) 115 = false := by cases hk; rfl
      have hd : hasR (usesR r.uses) 100 = true := by cases hk; rfl
      have hr : r.right = .near := by cases hk; rfl
      rw [hr]
      simp only [Int.cast_ofNat_Int] at e1
      cases q : nearB imm <;>
      ·simp only [sS, sevalprocAttr, fF41, tT, sN, sM, ng_eq, tabL_ng, h0_next, Int.cast_ofNat_Int, Int.reduceBEq, e1, e2, hs, hd, h4, iEql, iGtr, iGeq, iLss, gt_iff_lt, ge_iff_le, h3, q, Bool.not_true, Bool.not_false] at he
       subst he
       simp only [rightB, q]
       exact ⟨_, rfl⟩
     | 21, _, hk =>
      have hs : hasR (usesR r.uses) 115 = false := by cases hk; rfl
      have hd : hasR (usesR r.uses) 100 = true := by cases hk; rfl
      have hr : r.right = .near := by cases hk; rfl
      rw [hr]
      simp only [Int.cast_ofNat_Int] at e1
      cases q : nearB imm <;>
      ·simp only [sS, sevalprocAttr, fF41, tT, sN, sM, ng_eq, tabL_ng, h0_next, Int.cast_ofNat_Int, Int.reduceBEq, e1, e2, hs, hd, h4, iEql, iGtr, iGeq, iLss, gt_iff_lt, ge_iff_le, h3, q, Bool.not_true, Bool.not_false] at he
       subst he
       simp only [rightB, q]
       exact ⟨_, rfl⟩
     | 22, _, hk =>
      have hs : hasR (usesR r.uses) 115 = false := by cases hk; rfl
      have hd : hasR (usesR r.uses) 100 = true := by cases hk; rfl
      have hr : r.right = .near := by cases hk; rfl
      rw [hr]
      simp only [Int.cast_ofNat_Int] at e1
      cases q : nearB imm <;>
      ·simp only [sS, sevalprocAttr, fF41, tT, sN, sM, ng_eq, tabL_ng, h0_next, Int.cast_ofNat_Int, Int.reduceBEq, e1, e2, hs, hd, h4, iEql, iGtr, iGeq, iLss, gt_iff_lt, ge_iff_le, h3, q, Bool.not_true, Bool.not_false] at he
       subst he
       simp only [rightB, q]
       exact ⟨_, rfl⟩
     | 23, _, hk =>
      have hs : hasR (usesR r.uses) 115 = false := by cases hk; rfl
      have hd : hasR (usesR r.uses) 100 = true := by cases hk; rfl
      have hr : r.right = .near := by cases hk; rfl
      rw [hr]
      simp only [Int.cast_ofNat_Int] at e1
      cases q : nearB imm <;>
      ·simp only [sS, sevalprocAttr, fF41, tT, sN, sM, ng_eq, tabL_ng, h0_next, Int.cast_ofNat_Int, Int.reduceBEq, e1, e2, hs, hd, h4, iEql, iGtr, iGeq, iLss, gt_iff_lt, ge_iff_le, h3, q, Bool.not_true, Bool.not_false] at he
       subst he
       simp only [rightB, q]
       exact ⟨_, rfl⟩
     | 24, _, hk =>
      have hs : hasR (usesR r.uses) 115 = false := by cases hk; rfl
      have hd : hasR (usesR r.uses) 100 = false := by cases hk; rfl
      have hr : r.right = .entered := by cases hk; rfl
      rw [hr]
      simp only [Int.cast_ofNat_Int] at e1
      have g2 : decide (imm < 0) = !decide (0 ≤ imm) := by by_cases h : 0 ≤ imm <;> simp [h] <;> omega
      have g3 : decide (num < imm) = !decide (imm ≤ num) := by by_cases h : imm ≤ num <;> simp [h] <;> omega
      have g4 : decide (size < 0) = !decide (0 ≤ size) := by by_cases h : 0 ≤ size <;> simp [h] <;> omega
      have g5 : decide (65536 < size) = !decide (size ≤ 65536) := by by_cases h : size ≤ 65536 <;> simp [h] <;> omega
      rcases Bool.eq_false_or_eq_true (decide (num ≤ 9999)) with q | q
      ·have hw : IntKind.i64.wrap num = num := IntWalk.i64_in _ ⟨by omega, by have := of_decide_eq_true q; omega⟩
       rcases Bool.eq_false_or_eq_true (decide (0 ≤ imm)) with q2 | q2 <;> rcases Bool.eq_false_or_eq_true (decide (imm ≤ num)) with q3 | q3 <;> rcases Bool.eq_false_or_eq_true (decide (0 ≤ size)) with q4 | q4 <;> rcases Bool.eq_false_or_eq_true (decide (size ≤ 65536)) with q5 | q5 <;>
       ·have hen : enterB num imm size = (decide (num ≤ 9999) && decide (0 ≤ imm) && decide (imm ≤ num) && decide (0 ≤ size) && decide (size ≤ 65536)) := rfl
        rw [q, q2, q3, q4, q5] at hen
        simp only [sS, sevalprocAttr, fF41, tT, sN, sM, ng_eq, tabL_ng, h0_next, Int.cast_ofNat_Int, Int.reduceBEq, e1, e2, hs, hd, h4, iEql, iGtr, iGeq, iLss, gt_iff_lt, ge_iff_le, hgt, g2, g3, g4, g5, q, q2, q3, q4, q5, hw, Bool.not_true, Bool.not_false] at he
        subst he
        simp only [rightB, hen, Bool.and_self, Bool.and_true, Bool.true_and, Bool.false_and, Bool.and_false, Bool.not_true, Bool.not_false]
        exact ⟨_, rfl⟩
      ·have hen : enterB num imm size = (decide (num ≤ 9999) && decide (0 ≤ imm) && decide (imm ≤ num) && decide (0 ≤ size) && decide (size ≤ 65536)) := rfl
       rw [q] at hen
       simp only [sS, sevalprocAttr, fF41, tT, sN, sM, ng_eq, tabL_ng, h0_next, Int.cast_ofNat_Int, Int.reduceBEq, e1, e2, hs, hd, h4, iEql, iGtr, iGeq, iLss, gt_iff_lt, ge_iff_le, hgt, q, Bool.not_false] at he
       subst he
       simp only [rightB, hen, Bool.false_and, Bool.not_false]
       exact ⟨_, rfl⟩
     | 25, _, hk =>
      have hs : hasR (usesR r.uses) 115 = false := by cases hk; rfl
      have hd : hasR (usesR r.uses) 100 = false := by cases hk; rfl
      have hr : r.right = .below 7 1 := by cases hk; rfl
      rw [hr]
      simp only [Int.cast_ofNat_Int] at e1
      simp only [sS, sevalprocAttr, fF41, tT, sN, sM, ng_eq, tabL_ng, h0_next, Int.cast_ofNat_Int, Int.reduceBEq, e1, e2, hs, hd, h4, iEql, iGtr, iGeq, iLss, gt_iff_lt, ge_iff_le, hgt, hg13, hg19] at he
      subst he
      exact ⟨_, rfl⟩
     | 26, _, hk =>
      have hs : hasR (usesR r.uses) 115 = false := by cases hk; rfl
      have hd : hasR (usesR r.uses) 100 = false := by cases hk; rfl
      have hr : r.right = .below 8 65536 := by cases hk; rfl
      rw [hr]
      simp only [Int.cast_ofNat_Int] at e1
      simp only [sS, sevalprocAttr, fF41, tT, sN, sM, ng_eq, tabL_ng, h0_next, Int.cast_ofNat_Int, Int.reduceBEq, e1, e2, hs, hd, h4, iEql, iGtr, iGeq, iLss, gt_iff_lt, ge_iff_le, hgt, hg13, hg19] at he
      subst he
      exact ⟨_, rfl⟩
     | 27, _, hk =>
      have hs : hasR (usesR r.uses) 115 = false := by cases hk; rfl
      have hd : hasR (usesR r.uses) 100 = false := by cases hk; rfl
      have hr : r.right = .below 9 12 := by cases hk; rfl
      rw [hr]
      simp only [Int.cast_ofNat_Int] at e1
      simp only [sS, sevalprocAttr, fF41, tT, sN, sM, ng_eq, tabL_ng, h0_next, Int.cast_ofNat_Int, Int.reduceBEq, e1, e2, hs, hd, h4, iEql, iGtr, iGeq, iLss, gt_iff_lt, ge_iff_le, hgt, hg13, hg19] at he
      subst he
      exact ⟨_, rfl⟩
     | 28, _, hk =>
      have hs : hasR (usesR r.uses) 115 = false := by cases hk; rfl
      have hd : hasR (usesR r.uses) 100 = false := by cases hk; rfl
      have hr : r.right = .below 10 18 := by cases hk; rfl
      rw [hr]
      simp only [Int.cast_ofNat_Int] at e1
      simp only [sS, sevalprocAttr, fF41, tT, sN, sM, ng_eq, tabL_ng, h0_next, Int.cast_ofNat_Int, Int.reduceBEq, e1, e2, hs, hd, h4, iEql, iGtr, iGeq, iLss, gt_iff_lt, ge_iff_le, hgt, hg13, hg19] at he
      subst he
      exact ⟨_, rfl⟩
    ·cases hv
  ·cases hv
theorem kindT_has : kindT.all (fun r => (hasR (usesR r.uses) 116 == hasB r.uses [84]) && (hasR (usesR r.uses) 117 == hasB r.uses [85]) &&
  ((hasR (usesR r.uses) 110 || hasR (usesR r.uses) 119 || hasR (usesR r.uses) 101) == hasB r.uses [110, 119, 76]) && ((hasR (usesR r.uses) 115 || hasR (usesR r.uses) 100 || hasR (usesR r.uses) 101) == hasB r.uses [115, 100, 80]) &&
  (hasR (usesR r.uses) 101 == hasB r.uses [70])) = true := by decide
theorem rowL_veq (r : KindR) : veq 3 (.agg ⟨rowL r⟩) (.agg ⟨rowL r⟩) = true :=
 veq_agg (by simp only [rowL, List.all_cons, List.all_nil, veq_str, veq_int, Bool.and_self])
theorem c26_spare (tab : Tab) (h2 : Has tab) (h : H) (tm : Tr Value) (bi bk : Nat) (op : Int) (t u : List UInt8) (num imm size : Int) (r : KindR) (hu : (usesR r.uses).length < 1000)
  (t1 : tm.get 1 = some (.pointer (some ⟨bi, 0, none⟩))) (t3 : tm.get 3 = some (.pointer (some ⟨bk, 0, none⟩))) (t4 : tm.get 4 = some (.bool (hasR (usesR r.uses) 101)))
  (g1 : h.get bi = some (.cells 36 6 (insL op t u num imm size))) (g3 : h.get bk = some (.cells 77 4 (rowL r))) (b1 : ¬ bi < tab.ng) (b3 : ¬ bk < tab.ng) :
  ∃ tm', exR (EV tab) (Rg 16 8) ⟨false, 87, tm, h⟩ = some (.normal, ⟨false, 87, tm', h⟩) ∧ tm'.get 1 = tm.get 1 ∧ tm'.get 3 = tm.get 3 ∧
   tm'.get 79 = some (.bool (((!hasR (usesR r.uses) 110 && !hasR (usesR r.uses) 119 && !hasR (usesR r.uses) 101) && num != 0) || ((!hasR (usesR r.uses) 115 && !hasR (usesR r.uses) 100 && !hasR (usesR r.uses) 101) && imm != 0) || (!hasR (usesR r.uses) 101 && size != 0))) := by
 have e2 := fun c h => h2 r.name (usesR r.uses) r.pops r.puts c h hu
 simp only [rowL] at g3
 simp only [insL] at g1
 generalize hasR (usesR r.uses) 101 = he at *
 cases he with
 | true =>
  cases q1 : hasR (usesR r.uses) 110 with
  | true =>
   cases q3 : hasR (usesR r.uses) 115 with
   | true =>
    generalize hh : exR (EV tab) (Rg 16 8) ⟨false, 87, tm, h⟩ = x
    simp only [sS, sevalprocAttr, r16_8, tT, sN, sM, ng_eq, tabL_ng, t1, t3, t4, g1, g3, b1, b3, e2, iNeq, Bool.not_true, Bool.not_false, q1, q3] at hh
    subst hh
    refine ⟨_, rfl, ?_, ?_, ?_⟩ <;> simp only [Tr.get_set, Nat.reduceEqDiff, ↓reduceIte, Bool.and_self, Bool.and_true, Bool.and_false, Bool.true_and, Bool.false_and, Bool.or_true, Bool.or_false, Bool.true_or, Bool.false_or, Bool.not_true, Bool.not_false, q1, q3]
   | false =>
    cases q4 : hasR (usesR r.uses) 100 with
    | true =>
     generalize hh : exR (EV tab) (Rg 16 8) ⟨false, 87, tm, h⟩ = x
     simp only [sS, sevalprocAttr, r16_8, tT, sN, sM, ng_eq, tabL_ng, t1, t3, t4, g1, g3, b1, b3, e2, iNeq, Bool.not_true, Bool.not_false, q1, q3, q4] at hh
     subst hh
     refine ⟨_, rfl, ?_, ?_, ?_⟩ <;> simp only [Tr.get_set, Nat.reduceEqDiff, ↓reduceIte, Bool.and_self, Bool.and_true, Bool.and_false, Bool.true_and, Bool.false_and, Bool.or_true, Bool.or_false, Bool.true_or, Bool.false_or, Bool.not_true, Bool.not_false, q1, q3, q4]
    | false =>
     generalize hh : exR (EV tab) (Rg 16 8) ⟨false, 87, tm, h⟩ = x
     simp only [sS, sevalprocAttr, r16_8, tT, sN, sM, ng_eq, tabL_ng, t1, t3, t4, g1, g3, b1, b3, e2, iNeq, Bool.not_true, Bool.not_false, q1, q3, q4] at hh
     subst hh
     refine ⟨_, rfl, ?_, ?_, ?_⟩ <;> simp only [Tr.get_set, Nat.reduceEqDiff, ↓reduceIte, Bool.and_self, Bool.and_true, Bool.and_false, Bool.true_and, Bool.false_and, Bool.or_true, Bool.or_false, Bool.true_or, Bool.false_or, Bool.not_true, Bool.not_false, q1, q3, q4]
  | false =>
   cases q2 : hasR (usesR r.uses) 119 with
   | true =>
    cases q3 : hasR (usesR r.uses) 115 with
    | true =>
     generalize hh : exR (EV tab) (Rg 16 8) ⟨false, 87, tm, h⟩ = x
     simp only [sS, sevalprocAttr, r16_8, tT, sN, sM, ng_eq, tabL_ng, t1, t3, t4, g1, g3, b1, b3, e2, iNeq, Bool.not_true, Bool.not_false, q1, q2, q3] at hh
     subst hh
     refine ⟨_, rfl, ?_, ?_, ?_⟩ <;> simp only [Tr.get_set, Nat.reduceEqDiff, ↓reduceIte, Bool.and_self, Bool.and_true, Bool.and_false, Bool.true_and, Bool.false_and, Bool.or_true, Bool.or_false, Bool.true_or, Bool.false_or, Bool.not_true, Bool.not_false, q1, q2, q3]
    | false =>
     cases q4 : hasR (usesR r.uses) 100 with
     | true =>
      generalize hh : exR (EV tab) (Rg 16 8) ⟨false, 87, tm, h⟩ = x
      simp only [sS, sevalprocAttr, r16_8, tT, sN, sM, ng_eq, tabL_ng, t1, t3, t4, g1, g3, b1, b3, e2, iNeq, Bool.not_true, Bool.not_false, q1, q2, q3, q4] at hh
      subst hh
      refine ⟨_, rfl, ?_, ?_, ?_⟩ <;> simp only [Tr.get_set, Nat.reduceEqDiff, ↓reduceIte, Bool.and_self, Bool.and_true, Bool.and_false, Bool.true_and, Bool.false_and, Bool.or_true, Bool.or_false, Bool.true_or, Bool.false_or, Bool.not_true, Bool.not_false, q1, q2, q3, q4]
     | false =>
      generalize hh : exR (EV tab) (Rg 16 8) ⟨false, 87, tm, h⟩ = x
      simp only [sS, sevalprocAttr, r16_8, tT, sN, sM, ng_eq, tabL_ng, t1, t3, t4, g1, g3, b1, b3, e2, iNeq, Bool.not_true, Bool.not_false, q1, q2, q3, q4] at hh
      subst hh
      refine ⟨_, rfl, ?_, ?_, ?_⟩ <;> simp only [Tr.get_set, Nat.reduceEqDiff, ↓reduceIte, Bool.and_self, Bool.and_true, Bool.and_false, Bool.true_and, Bool.false_and, Bool.or_true, Bool.or_false, Bool.true_or, Bool.false_or, Bool.not_true, Bool.not_false, q1, q2, q3, q4]
   | false =>
    cases q3 : hasR (usesR r.uses) 115 with
    | true =>
     generalize hh : exR (EV tab) (Rg 16 8) ⟨false, 87, tm, h⟩ = x
     simp only [sS, sevalprocAttr, r16_8, tT, sN, sM, ng_eq, tabL_ng, t1, t3, t4, g1, g3, b1, b3, e2, iNeq, Bool.not_true, Bool.not_false, q1, q2, q3] at hh
     subst hh
     refine ⟨_, rfl, ?_, ?_, ?_⟩ <;> simp only [Tr.get_set, Nat.reduceEqDiff, ↓reduceIte, Bool.and_self, Bool.and_true, Bool.and_false, Bool.true_and, Bool.false_and, Bool.or_true, Bool.or_false, Bool.true_or, Bool.false_or, Bool.not_true, Bool.not_false, q1, q2, q3]
    | false =>
     cases q4 : hasR (usesR r.uses) 100 with
     | true =>
      generalize hh : exR (EV tab) (Rg 16 8) ⟨false, 87, tm, h⟩ = x
      simp only [sS, sevalprocAttr, r16_8, tT, sN, sM, ng_eq, tabL_ng, t1, t3, t4, g1, g3, b1, b3, e2, iNeq, Bool.not_true, Bool.not_false, q1, q2, q3, q4] at hh
      subst hh
      refine ⟨_, rfl, ?_, ?_, ?_⟩ <;> simp only [Tr.get_set, Nat.reduceEqDiff, ↓reduceIte, Bool.and_self, Bool.and_true, Bool.and_false, Bool.true_and, Bool.false_and, Bool.or_true, Bool.or_false, Bool.true_or, Bool.false_or, Bool.not_true, Bool.not_false, q1, q2, q3, q4]
     | false =>
      generalize hh : exR (EV tab) (Rg 16 8) ⟨false, 87, tm, h⟩ = x
      simp only [sS, sevalprocAttr, r16_8, tT, sN, sM, ng_eq, tabL_ng, t1, t3, t4, g1, g3, b1, b3, e2, iNeq, Bool.not_true, Bool.not_false, q1, q2, q3, q4] at hh
      subst hh
      refine ⟨_, rfl, ?_, ?_, ?_⟩ <;> simp only [Tr.get_set, Nat.reduceEqDiff, ↓reduceIte, Bool.and_self, Bool.and_true, Bool.and_false, Bool.true_and, Bool.false_and, Bool.or_true, Bool.or_false, Bool.true_or, Bool.false_or, Bool.not_true, Bool.not_false, q1, q2, q3, q4]
 | false =>
  cases q1 : hasR (usesR r.uses) 110 with
  | true =>
   cases q3 : hasR (usesR r.uses) 115 with
   | true =>
    generalize hh : exR (EV tab) (Rg 16 8) ⟨false, 87, tm, h⟩ = x
    simp only [sS, sevalprocAttr, r16_8, tT, sN, sM, ng_eq, tabL_ng, t1, t3, t4, g1, g3, b1, b3, e2, iNeq, Bool.not_true, Bool.not_false, q1, q3] at hh
    subst hh
    refine ⟨_, rfl, ?_, ?_, ?_⟩ <;> simp only [Tr.get_set, Nat.reduceEqDiff, ↓reduceIte, Bool.and_self, Bool.and_true, Bool.and_false, Bool.true_and, Bool.false_and, Bool.or_true, Bool.or_false, Bool.true_or, Bool.false_or, Bool.not_true, Bool.not_false, q1, q3]
   | false =>
    cases q4 : hasR (usesR r.uses) 100 with
    | true =>
     generalize hh : exR (EV tab) (Rg 16 8) ⟨false, 87, tm, h⟩ = x
     simp only [sS, sevalprocAttr, r16_8, tT, sN, sM, ng_eq, tabL_ng, t1, t3, t4, g1, g3, b1, b3, e2, iNeq, Bool.not_true, Bool.not_false, q1, q3, q4] at hh
     subst hh
     refine ⟨_, rfl, ?_, ?_, ?_⟩ <;> simp only [Tr.get_set, Nat.reduceEqDiff, ↓reduceIte, Bool.and_self, Bool.and_true, Bool.and_false, Bool.true_and, Bool.false_and, Bool.or_true, Bool.or_false, Bool.true_or, Bool.false_or, Bool.not_true, Bool.not_false, q1, q3, q4]
    | false =>
     cases z2 : (imm != 0) with
     | true =>
      generalize hh : exR (EV tab) (Rg 16 8) ⟨false, 87, tm, h⟩ = x
      simp only [sS, sevalprocAttr, r16_8, tT, sN, sM, ng_eq, tabL_ng, t1, t3, t4, g1, g3, b1, b3, e2, iNeq, Bool.not_true, Bool.not_false, q1, q3, q4, z2] at hh
      subst hh
      refine ⟨_, rfl, ?_, ?_, ?_⟩ <;> simp only [Tr.get_set, Nat.reduceEqDiff, ↓reduceIte, Bool.and_self, Bool.and_true, Bool.and_false, Bool.true_and, Bool.false_and, Bool.or_true, Bool.or_false, Bool.true_or, Bool.false_or, Bool.not_true, Bool.not_false, q1, q3, q4, z2]
     | false =>
      generalize hh : exR (EV tab) (Rg 16 8) ⟨false, 87, tm, h⟩ = x
      simp only [sS, sevalprocAttr, r16_8, tT, sN, sM, ng_eq, tabL_ng, t1, t3, t4, g1, g3, b1, b3, e2, iNeq, Bool.not_true, Bool.not_false, q1, q3, q4, z2] at hh
      subst hh
      refine ⟨_, rfl, ?_, ?_, ?_⟩ <;> simp only [Tr.get_set, Nat.reduceEqDiff, ↓reduceIte, Bool.and_self, Bool.and_true, Bool.and_false, Bool.true_and, Bool.false_and, Bool.or_true, Bool.or_false, Bool.true_or, Bool.false_or, Bool.not_true, Bool.not_false, q1, q3, q4, z2]
  | false =>
   cases q2 : hasR (usesR r.uses) 119 with
   | true =>
    cases q3 : hasR (usesR r.uses) 115 with
    | true =>
     generalize hh : exR (EV tab) (Rg 16 8) ⟨false, 87, tm, h⟩ = x
     simp only [sS, sevalprocAttr, r16_8, tT, sN, sM, ng_eq, tabL_ng, t1, t3, t4, g1, g3, b1, b3, e2, iNeq, Bool.not_true, Bool.not_false, q1, q2, q3] at hh
     subst hh
     refine ⟨_, rfl, ?_, ?_, ?_⟩ <;> simp only [Tr.get_set, Nat.reduceEqDiff, ↓reduceIte, Bool.and_self, Bool.and_true, Bool.and_false, Bool.true_and, Bool.false_and, Bool.or_true, Bool.or_false, Bool.true_or, Bool.false_or, Bool.not_true, Bool.not_false, q1, q2, q3]
    | false =>
     cases q4 : hasR (usesR r.uses) 100 with
     | true =>
      generalize hh : exR (EV tab) (Rg 16 8) ⟨false, 87, tm, h⟩ = x
      simp only [sS, sevalprocAttr, r16_8, tT, sN, sM, ng_eq, tabL_ng, t1, t3, t4, g1, g3, b1, b3, e2, iNeq, Bool.not_true, Bool.not_false, q1, q2, q3, q4] at hh
      subst hh
      refine ⟨_, rfl, ?_, ?_, ?_⟩ <;> simp only [Tr.get_set, Nat.reduceEqDiff, ↓reduceIte, Bool.and_self, Bool.and_true, Bool.and_false, Bool.true_and, Bool.false_and, Bool.or_true, Bool.or_false, Bool.true_or, Bool.false_or, Bool.not_true, Bool.not_false, q1, q2, q3, q4]
     | false =>
      cases z2 : (imm != 0) with
      | true =>
       generalize hh : exR (EV tab) (Rg 16 8) ⟨false, 87, tm, h⟩ = x
       simp only [sS, sevalprocAttr, r16_8, tT, sN, sM, ng_eq, tabL_ng, t1, t3, t4, g1, g3, b1, b3, e2, iNeq, Bool.not_true, Bool.not_false, q1, q2, q3, q4, z2] at hh
       subst hh
       refine ⟨_, rfl, ?_, ?_, ?_⟩ <;> simp only [Tr.get_set, Nat.reduceEqDiff, ↓reduceIte, Bool.and_self, Bool.and_true, Bool.and_false, Bool.true_and, Bool.false_and, Bool.or_true, Bool.or_false, Bool.true_or, Bool.false_or, Bool.not_true, Bool.not_false, q1, q2, q3, q4, z2]
      | false =>
       generalize hh : exR (EV tab) (Rg 16 8) ⟨false, 87, tm, h⟩ = x
       simp only [sS, sevalprocAttr, r16_8, tT, sN, sM, ng_eq, tabL_ng, t1, t3, t4, g1, g3, b1, b3, e2, iNeq, Bool.not_true, Bool.not_false, q1, q2, q3, q4, z2] at hh
       subst hh
       refine ⟨_, rfl, ?_, ?_, ?_⟩ <;> simp only [Tr.get_set, Nat.reduceEqDiff, ↓reduceIte, Bool.and_self, Bool.and_true, Bool.and_false, Bool.true_and, Bool.false_and, Bool.or_true, Bool.or_false, Bool.true_or, Bool.false_or, Bool.not_true, Bool.not_false, q1, q2, q3, q4, z2]
   | false =>
    cases z1 : (num != 0) with
    | true =>
     generalize hh : exR (EV tab) (Rg 16 8) ⟨false, 87, tm, h⟩ = x
     simp only [sS, sevalprocAttr, r16_8, tT, sN, sM, ng_eq, tabL_ng, t1, t3, t4, g1, g3, b1, b3, e2, iNeq, Bool.not_true, Bool.not_false, q1, q2, z1] at hh
     subst hh
     refine ⟨_, rfl, ?_, ?_, ?_⟩ <;> simp only [Tr.get_set, Nat.reduceEqDiff, ↓reduceIte, Bool.and_self, Bool.and_true, Bool.and_false, Bool.true_and, Bool.false_and, Bool.or_true, Bool.or_false, Bool.true_or, Bool.false_or, Bool.not_true, Bool.not_false, q1, q2, z1]
    | false =>
     cases q3 : hasR (usesR r.uses) 115 with
     | true =>
      generalize hh : exR (EV tab) (Rg 16 8) ⟨false, 87, tm, h⟩ = x
      simp only [sS, sevalprocAttr, r16_8, tT, sN, sM, ng_eq, tabL_ng, t1, t3, t4, g1, g3, b1, b3, e2, iNeq, Bool.not_true, Bool.not_false, q1, q2, z1, q3] at hh
      subst hh
      refine ⟨_, rfl, ?_, ?_, ?_⟩ <;> simp only [Tr.get_set, Nat.reduceEqDiff, ↓reduceIte, Bool.and_self, Bool.and_true, Bool.and_false, Bool.true_and, Bool.false_and, Bool.or_true, Bool.or_false, Bool.true_or, Bool.false_or, Bool.not_true, Bool.not_false, q1, q2, z1, q3]
     | false =>
      cases q4 : hasR (usesR r.uses) 100 with
      | true =>
       generalize hh : exR (EV tab) (Rg 16 8) ⟨false, 87, tm, h⟩ = x
       simp only [sS, sevalprocAttr, r16_8, tT, sN, sM, ng_eq, tabL_ng, t1, t3, t4, g1, g3, b1, b3, e2, iNeq, Bool.not_true, Bool.not_false, q1, q2, z1, q3, q4] at hh
       subst hh
       refine ⟨_, rfl, ?_, ?_, ?_⟩ <;> simp only [Tr.get_set, Nat.reduceEqDiff, ↓reduceIte, Bool.and_self, Bool.and_true, Bool.and_false, Bool.true_and, Bool.false_and, Bool.or_true, Bool.or_false, Bool.true_or, Bool.false_or, Bool.not_true, Bool.not_false, q1, q2, z1, q3, q4]
      | false =>
       cases z2 : (imm != 0) with
       | true =>
        generalize hh : exR (EV tab) (Rg 16 8) ⟨false, 87, tm, h⟩ = x
        simp only [sS, sevalprocAttr, r16_8, tT, sN, sM, ng_eq, tabL_ng, t1, t3, t4, g1, g3, b1, b3, e2, iNeq, Bool.not_true, Bool.not_false, q1, q2, z1, q3, q4, z2] at hh
        subst hh
        refine ⟨_, rfl, ?_, ?_, ?_⟩ <;> simp only [Tr.get_set, Nat.reduceEqDiff, ↓reduceIte, Bool.and_self, Bool.and_true, Bool.and_false, Bool.true_and, Bool.false_and, Bool.or_true, Bool.or_false, Bool.true_or, Bool.false_or, Bool.not_true, Bool.not_false, q1, q2, z1, q3, q4, z2]
       | false =>
        generalize hh : exR (EV tab) (Rg 16 8) ⟨false, 87, tm, h⟩ = x
        simp only [sS, sevalprocAttr, r16_8, tT, sN, sM, ng_eq, tabL_ng, t1, t3, t4, g1, g3, b1, b3, e2, iNeq, Bool.not_true, Bool.not_false, q1, q2, z1, q3, q4, z2] at hh
        subst hh
        refine ⟨_, rfl, ?_, ?_, ?_⟩ <;> simp only [Tr.get_set, Nat.reduceEqDiff, ↓reduceIte, Bool.and_self, Bool.and_true, Bool.and_false, Bool.true_and, Bool.false_and, Bool.or_true, Bool.or_false, Bool.true_or, Bool.false_or, Bool.not_true, Bool.not_false, q1, q2, z1, q3, q4, z2]
theorem lastI_eq (w1 w2 spare : Bool) (op : Int) (t u : List UInt8) (num imm size : Int) (r : Right) :
  lastI (w1 || w2) spare op t u num imm size r = if (w1 || w2) = true then 12 else if spare = true then 1 else if (!rightB num imm size r) = true then 3 else if (!existsB op t u num) = true then 11 else 0 := by
 unfold lastI
 cases w1 <;> cases w2 <;> cases spare <;> cases rightB num imm size r <;> cases existsB op t u num <;> rfl
theorem f_Check26 {T : List (Nat × Spec)} (hT : Fine T) (hx : ∀ l, callExt (EV (tabL T)) 16 l = none) (hxf : ∀ l, callExt (EV (tabL T)) 39 l = none) (h1 : RowOf (tabL T)) (h2 : Has (tabL T))
  (h3 : ∀ s b h, callR (EV (tabL T)) 40 [.string ⟨⟨s⟩⟩, .bool b] h = some (.int .i64 (if wrongB s b then 12 else 0), h))
  (h4 : ∀ op t u num imm size r h, kindAt op = some r → 0 ≤ num → callR (EV (tabL T)) 41 [insV op t u num imm size] h = some (.int .i64 (if !(rightB num imm size r.right) then 3 else 0), h))
  (h5 : ∀ op t u num imm size h, callR (EV (tabL T)) 42 [insV op t u num imm size] h = some (.int .i64 (if !(existsB op t u num) then 11 else 0), h)) : Fine ((16, checkV) :: T) :=
 hT.step (F := Tryz.f16) (by kernel_rfl) (by kernel_rfl) hx fun args v hv => by
  unfold checkV at hv
  split at hv
  ·rename_i op t u num imm size
   split at hv
   ·rename_i hnum
    cases hv
    refine ⟨rfl, rfl, ?_⟩
    unfold checkI
    rcases kindAt_cases op with ⟨hk, ho⟩ | ⟨k, rfl, r, hk, hk2⟩
    ·rw [hk]
     generalize he : callR _ _ _ _ = x
     rw [enter16 _ _ _ (hx _) rfl] at he
     by_cases q : op < 0
     ·have d1 : decide (op < 0) = true := decide_eq_true q
      simp only [sS, sevalprocAttr, fF16, tT, sN, sM, ng_eq, tabL_ng, h0_next, iLss, d1] at he
      subst he
      exact ⟨_, rfl⟩
     ·have d1 : decide (op < 0) = false := decide_eq_false q
      have d2 : decide (29 ≤ op) = true := decide_eq_true (by omega)
      simp only [sS, sevalprocAttr, fF16, tT, sN, sM, ng_eq, tabL_ng, h0_next, iLss, iGeq, ge_iff_le, d1, d2] at he
      subst he
      exact ⟨_, rfl⟩
    ·rw [hk2]
     simp only
     have hlt : k < 29 := by
      have := (List.getElem?_eq_some_iff.1 hk).1
      have h2 : kindT.length = 29 := rfl
      omega
     have d1 : decide ((k : Int) < 0) = false := decide_eq_false (by omega)
     have d2 : decide ((29 : Int) ≤ k) = false := decide_eq_false (by omega)
     have hu : (usesR r.uses).length < 1000 := of_decide_eq_true (List.all_eq_true.1 kindT_len r (List.mem_of_getElem? hk))
     have hh := List.all_eq_true.1 kindT_has r (List.mem_of_getElem? hk)
     simp only [Bool.and_eq_true, beq_iff_eq] at hh
     obtain ⟨⟨⟨⟨k1, k2⟩, k3⟩, k4⟩, k5⟩ := hh
     have e1 := fun h => h1 (k : Int) r h hk2
     have e2 := fun c h => h2 r.name (usesR r.uses) r.pops r.puts c h hu
     have e4 := fun h => h4 (k : Int) t u num imm size r h hk2 hnum
     have e5 := fun h => h5 (k : Int) t u num imm size h
     have hv := rowL_veq r
     have ef := fun (h : H) (c : Nat) (x y : Int) (hg : h.get 19 = some (.cells 3 1 [.int .i64 x, .int .i64 y])) => first2_run (tabL T) hxf h 19 c x y (tng T (by decide)) hg
     have f1 := fun h c hg => ef h c 12 12 hg
     have f2 := fun h c hg => ef h c 12 0 hg
     have f3 := fun h c hg => ef h c 0 12 hg
     have f4 := fun h c hg => ef h c 0 0 hg
     have hsp : ((!hasR (usesR r.uses) 110 && !hasR (usesR r.uses) 119 && !hasR (usesR r.uses) 101) && num != 0 || (!hasR (usesR r.uses) 115 && !hasR (usesR r.uses) 100 && !hasR (usesR r.uses) 101) && imm != 0 || !hasR (usesR r.uses) 101 && size != 0) = spareB r.uses num imm size := by
      unfold spareB
      rw [← k3, ← k4, ← k5]
      cases hasR (usesR r.uses) 110 <;> cases hasR (usesR r.uses) 119 <;> cases hasR (usesR r.uses) 101 <;> cases hasR (usesR r.uses) 115 <;> cases hasR (usesR r.uses) 100 <;> cases num != 0 <;> cases imm != 0 <;> cases size != 0 <;> rfl
     have key : ∀ tm h, (tm.get 1 = some (.pointer (some ⟨17, 0, none⟩)) ∧ tm.get 3 = some (.pointer (some ⟨18, 0, none⟩)) ∧ tm.get 4 = some (.bool (hasR (usesR r.uses) 101)) ∧ h.get 17 = some (.cells 36 6 (insL k t u num imm size)) ∧ h.get 18 = some (.cells 77 4 (rowL r))) →
       ∃ x s', exR (EV (tabL T)) (Rg 16 8) ⟨false, 87, tm, h⟩ = some (x, s') ∧ (x = .normal ∧ ∃ tm', s' = ⟨false, 87, tm', h⟩ ∧ tm'.get 1 = some (.pointer (some ⟨17, 0, none⟩)) ∧ tm'.get 79 = some (.bool (spareB r.uses num imm size)) ∧ h.get 17 = some (.cells 36 6 (insL k t u num imm size))) := fun tm h p => by
      obtain ⟨p1, p3, p4, p5, p6⟩ := p
      obtain ⟨tm', e, a, b, c⟩ := c26_spare (tabL T) h2 h tm 17 18 k t u num imm size r hu p1 p3 p4 p5 p6 (by show ¬ 17 < 17; decide) (by show ¬ 18 < 17; decide)
      exact ⟨_, _, e, rfl, tm', rfl, a.trans p1, by rw [c, hsp], p5⟩
     rw [lastI_eq, ← k1, ← k2]
     simp only [rowL] at e1 hv
     simp only [insV, insL] at e4 e5
     generalize hx26 : callR _ _ _ _ = x
     rw [enter16 _ _ _ (hx _) rfl] at hx26
     cases w1 : wrongB t (hasR (usesR r.uses) 116) with
     | true =>
      cases w2 : wrongB u (hasR (usesR r.uses) 117) <;>
      ·simp only [sS, sevalprocAttr, fF16, tT, sN, sM, ng_eq, tabL_ng, h0_next, iLss, iGeq, ge_iff_le, d1, d2, e1, e2, hv, veq_str, h3, w1, w2, if_true, f1, f2, f3, f4, firstI, iNeq, Int.reduceEq, Int.reduceBNe, Bool.false_eq_true, if_false] at hx26
       subst hx26
       exact ⟨_, rfl⟩
     | false =>
      cases w2 : wrongB u (hasR (usesR r.uses) 117) with
      | true =>
       simp only [sS, sevalprocAttr, fF16, tT, sN, sM, ng_eq, tabL_ng, h0_next, iLss, iGeq, ge_iff_le, d1, d2, e1, e2, hv, veq_str, h3, w1, w2, if_true, f1, f2, f3, f4, firstI, iNeq, Int.reduceEq, Int.reduceBNe, Bool.false_eq_true, if_false] at hx26
       subst hx26
       exact ⟨_, rfl⟩
      | false =>
       simp only [sS, sevalprocAttr, r16_0, r16_1, r16_3, r16_4, r16_5, r16_6,
        tT, sN, sM, ng_eq, tabL_ng, h0_next, iLss, iGeq, ge_iff_le, d1, d2, e1, e2, hv, veq_str, h3, w1, w2, if_true, f1, f2, f3, f4, firstI, iNeq, Int.reduceEq, Int.reduceBNe, Bool.false_eq_true, if_false] at hx26
       obtain ⟨x1, s1, ⟨rfl, tm1, rfl, p1, p79, p17⟩, hx26⟩ := use_run key (fun o => finish (EV (tabL T)) [ResultVar.tmp 2] (andThen (andThen o (exR (EV (tabL T)) (.cond (Operand.tmp 79) (.seq (Rg 16 9) .ret) .skip))) (exR (EV (tabL T)) (.seq (.seq (Rg 16 10) (.seq (Rg 16 11) (.cond (Operand.tmp 83) (.seq (Rg 16 12) .ret) .skip))) (.seq (Rg 16 13) .ret))))) hx26 (by
        refine ⟨?_, ?_, ?_, ?_, ?_⟩
        ·simp only [Tr.get_set, Nat.reduceEqDiff, ↓reduceIte]
        ·simp only [Tr.get_set, Nat.reduceEqDiff, ↓reduceIte]
        ·simp only [Tr.get_set, Nat.reduceEqDiff, ↓reduceIte]
        ·simp only [H.get_push, H.get_put, H.next_push, H.next_put, h0_next, Nat.reduceEqDiff, Nat.reduceAdd, ↓reduceIte, insL]
        ·simp only [H.get_push, H.get_put, H.next_push, H.next_put, h0_next, Nat.reduceEqDiff, Nat.reduceAdd, ↓reduceIte, rowL])
       simp only [insL] at p17
       have j1 : ((3 : Int) != 0) = true := rfl
       have j0 : ((0 : Int) != 0) = false := rfl
       cases z1 : spareB r.uses num imm size with
       | true =>
        rw [z1] at p79
        simp only [sS, sevalprocAttr, r16_9, tT, sN, sM, ng_eq, tabL_ng, p79] at hx26
        subst hx26
        exact ⟨_, rfl⟩
       | false =>
        rw [z1] at p79
        cases z2 : rightB num imm size r.right with
        | false =>
         simp only [z2, Bool.not_false, if_true] at e4
         simp only [sS, sevalprocAttr, r16_9, r16_10, r16_11, r16_12, r16_13, tT, sN, sM, ng_eq, tabL_ng, p79, p1, p17, e4, iNeq, j1] at hx26
         subst hx26
         exact ⟨_, rfl⟩
        | true =>
         simp only [z2, Bool.not_true, Bool.false_eq_true, if_false] at e4
         simp only [sS, sevalprocAttr, r16_9, r16_10, r16_11, r16_12, r16_13, tT, sN, sM, ng_eq, tabL_ng, p79, p1, p17, e4, e5, iNeq, j0] at hx26
         subst hx26
         exact ⟨_, rfl⟩
   ·cases hv
  ·cases hv
end Go.D
