/- D: a deterministic interpreter of the model's code, and the proof that a run of it is a run of the program. -/
import Derived.Test.YtmjdhbenplpinaaGreatDoorDa
import GoSem.Extern.MathBitsCarry
import Derived.Laws.Strings
import Derived.IntWalk
import Derived.Laws.RangeString
import Derived.Laws.RangeAny
import Derived.Laws.StructEq
set_option linter.unusedVariables false
set_option linter.unusedSimpArgs false
set_option linter.defProp false
namespace Go.D
set_option maxRecDepth 100000
section
variable {P : Program} {E : Env} {B : Nat} {μ : Mu} {h h' : H} {w : World} {tm : Tr Value} {ρ : Operand → Value} {cl yl : CallD}
def Out (F : Fence) (n : Nat) (P : Program) (ρ : Operand → Value) (o : Oper) (w : World) (R : Value → World → Prop) : Prop :=
 (∃ v w', (execOp ρ o).run P w = .ok (.value v) w' ∧ R v w') ∨
 (∃ w', (execOp ρ o).run P w = .ok .skip w' ∧ R undef w') ∨
 (∃ f args, (execOp ρ o).run P w = .ok (.enter f args) w ∧ CallsIn F (n - 1) P f args w (fun e w' => ∃ v, e = .returned v ∧ R v w')) ∨
 (∃ l f tmps as body, (execOp ρ o).run P w = .ok (.round l f tmps as body) w ∧ RoundIn F (n - 1) P l f tmps as body w (fun e w' => ∃ v, e = .returned v ∧ R v w'))
theorem Out.wpIn {F : Fence} {n : Nat} (hF : Wide F) {o : Oper} {a : Act} {R : Value → World → Prop} {K : Act → World → Prop} {Q : Exit → Act → World → Prop} (ho : ∀ c, o.op ≠ .defer c)
  (h : Out F n P a.eval o w R) (hK : ∀ v w', R v w' → K (a.put o.dst v) w') : o.wpIn F n P a w K Q := by
 refine ⟨fun f _ => hF.fn f, ?_⟩
 rw [Oper.semAt_eq _ _ _ ho]
 have hd : F.depth.isSome = true → 1 ≤ n := fun h => by rw [hF.depth] at h; cases h
 rcases h with ⟨v, w', h1, h2⟩ | ⟨w', h1, h2⟩ | ⟨f, args, h1, h2⟩ | ⟨l, f, tmps, as, body, h1, h2⟩
 ·rw [h1]; exact hK _ _ h2
 ·rw [h1]; exact hK _ _ h2
 ·rw [h1]
  refine ⟨hd, h2.mono fun e w'' hr => ?_⟩
  obtain ⟨v, rfl, hr⟩ := hr
  exact hK _ _ hr
 ·rw [h1]
  refine ⟨hd, h2.mono fun e w'' hr => ?_⟩
  obtain ⟨v, rfl, hr⟩ := hr
  exact hK _ _ hr
theorem Out.congr {F : Fence} {n : Nat} {ρ' : Operand → Value} {o : Oper} {R : Value → World → Prop} (he : execOp ρ o = execOp ρ' o) (h : Out F n P ρ o w R) : Out F n P ρ' o w R := by
 unfold Out at *
 rw [← he]; exact h
def CallOk (P : Program) (E : Env) (cl : CallD) : Prop :=
 ∀ (F : Fence) (n B : Nat) (μ : Mu) (h : H) (w : World) (f : Nat) (args args' : List Value) (v : Value) (h' : H), Wide F → HR E B μ h w → LR E.ng μ args args' → cl f args h = some (v, h') →
  Does F n P f ⟨args'⟩ w (fun e w' => ∃ v', e = .returned v' ∧ StepOk E B μ h w h' w' v v')
def YieldOk (P : Program) (E : Env) (yl : CallD) : Prop :=
 ∀ (F : Fence) (n B : Nat) (μ : Mu) (h : H) (w : World) (l : Nat) (m : Rb) (args args' : List Value) (v : Value) (h' : H), Wide F → HR E B μ h w → μ l = some m → LR E.ng μ args args' → yl l args h = some (v, h') →
  ∃ f tmps as body, (Instr.yield m.r ⟨args'⟩).run P w = .ok (.round m.r f tmps as body) w ∧ RoundIn F n P m.r f tmps as body w (fun e w' => ∃ v', e = .returned v' ∧ StepOk E B μ h w h' w' v v')
theorem Out.value {F : Fence} {n : Nat} {o : Oper} {s : Sem Value} {v : Value} (he : execOp ρ o = (do pure (.value (← s)))) (hx : ∃ v' w', s.run P w = .ok v' w' ∧ StepOk E B μ h w h' w' v v') :
  Out F n P ρ o w (fun v' w' => StepOk E B μ h w h' w' v v') := by
 obtain ⟨v', w', h1, h2⟩ := hx
 refine .inl ⟨v', w', ?_, h2⟩
 rw [he]; simp only [Sem.run_bind, h1, Result.andThen_ok, Sem.run_pure]
theorem Out.unit {F : Fence} {n : Nat} {o : Oper} {s : Sem Unit} (he : execOp ρ o = (do s; pure .skip)) (hx : ∃ w', s.run P w = .ok () w' ∧ HR E B μ h' w' ∧ Ext μ h w μ h' w') :
  Out F n P ρ o w (fun v' w' => StepOk E B μ h w h' w' undef v') := by
 obtain ⟨w', h1, h2, h3⟩ := hx
 refine .inr (.inl ⟨w', ?_, μ, VR.undef, h2, h3⟩)
 rw [he]; simp only [Sem.run_bind, h1, Result.andThen_ok, Sem.run_pure]
theorem VR.func_inv {ng : Nat} {f : FuncId} {a b : Array Value} {v' : Value} (h : VR ng μ (.func (.func f) a b) v') : ∃ a' b', v' = .func (.func f) a' b' ∧ LR ng μ a.toList a'.toList ∧ LR ng μ b.toList b'.toList := by
 cases h with
 | func _ hl h hk h2 => exact ⟨_, _, rfl, ⟨hl, h⟩, ⟨hk, h2⟩⟩
theorem VR.yield_inv {ng : Nat} {l : Nat} {a b : Array Value} {v' : Value} (h : VR ng μ (.func (.yield l) a b) v') : ∃ m, μ l = some m ∧ v' = .func (.yield m.r) #[] #[] := by
 cases h with
 | yld hb hm => exact ⟨_, hm, rfl⟩
variable (hE : EnvOk2 P E)
include hE
theorem loudD_sim {F : Fence} (n : Nat) (hF : Wide F) (hcl : CallOk P E cl) (hyl : YieldOk P E yl) (hh : HR E B μ h w) (hT : TR E.ng μ tm ρ) {o : Oper} {v : Value} (hr : loudD E cl yl h tm o.op = some (v, h')) :
  Out F n P ρ o w (fun v' w' => StepOk E B μ h w h' w' v v') := by
 obtain ⟨dst, op, type, pos, after, guard⟩ := o
 cases op <;> simp only [loudD, reduceCtorEq] at hr
 case store t a x =>
  unfold oStore at hr
  split at hr
  ·rename_i a v ha hv
   split at hr
   ·rename_i h2 hs
    simp only [Option.some.injEq, Prod.mk.injEq] at hr
    obtain ⟨rfl, rfl⟩ := hr
    exact Out.unit rfl (storeD_sim hE hh hs (ev_sim hT ha) (ev_sim hT hv))
   ·cases hr
  ·cases hr
 case insert t m k x =>
  unfold oUpdate at hr
  split at hr
  ·rename_i a b v ha hb hv
   split at hr
   ·rename_i h2 hs
    simp only [Option.some.injEq, Prod.mk.injEq] at hr
    obtain ⟨rfl, rfl⟩ := hr
    exact Out.unit rfl (updateD_sim hE hh hs (ev_sim hT ha) (ev_sim hT hb) (ev_sim hT hv))
   ·cases hr
  ·cases hr
 case mapUpdate t m k x =>
  unfold oUpdate at hr
  split at hr
  ·rename_i a b v ha hb hv
   split at hr
   ·rename_i h2 hs
    simp only [Option.some.injEq, Prod.mk.injEq] at hr
    obtain ⟨rfl, rfl⟩ := hr
    exact Out.unit rfl (updateD_sim hE hh hs (ev_sim hT ha) (ev_sim hT hb) (ev_sim hT hv))
   ·cases hr
  ·cases hr
 case next it is =>
  unfold oNext at hr
  split at hr
  ·rename_i a ha
   obtain ⟨v', w', q1, q2, q3, q4⟩ := nextD_sim (P := P) (ty := type) hh hr (ev_sim hT ha)
   exact Out.value rfl ⟨v', w', q1, μ, q2, q3, q4⟩
  ·cases hr
 case call c =>
  obtain ⟨callee, cargs, argTypes⟩ := c
  unfold oLoudCall at hr
  split at hr
  ·cases hr
  ·rename_i args hargs
   have hL := evs_sim hT hargs
   split at hr
   ·rename_i b hb
    simp only at hb; subst hb
    simp only at hargs hL hr
    have he : ∀ (s : Sem Value), builtin b argTypes type (cargs.map fun | .const _ => true | _ => false) (cargs.map ρ) = (do pure (.value (← s))) →
      execOp ρ ⟨dst, .call ⟨.builtin b, cargs, argTypes⟩, type, pos, after, guard⟩ = (do pure (.value (← s))) := by
     intro s hs
     rw [← hs]; rfl
    have hm : ∀ l', l' = cargs.toList.map ρ → cargs.map ρ = ⟨l'⟩ := fun l' hl => by
     apply Array.toList_inj.1; simp [hl]
    generalize hlg : cargs.toList.map ρ = l' at hL
    have hma := hm l' hlg.symm
    have hat : ∀ l, argTypes.toList = l → argTypes = ⟨l⟩ := fun l hl => by apply Array.toList_inj.1; simp [hl]
    unfold oLoudB at hr
    split at hr
    ·unfold oAppend at hr
     split at hr
     ·rename_i t t2 s x hts
      split at hr
      ·rename_i i2 hi2
       obtain ⟨s', l2, rfl, hs, hL2⟩ := hL.cons_inv
       obtain ⟨x', l3, rfl, hx, hL3⟩ := hL2.cons_inv
       obtain rfl := hL3.nil_inv
       refine Out.value (he _ rfl) ?_
       rw [hma, hat _ hts]
       exact appendD_sim hE hh hi2 hr hs hx
      ·cases hr
     ·cases hr
    ·unfold oCopy at hr
     split at hr
     ·rename_i t ts d x hts
      obtain ⟨s', l2, rfl, hs, hL2⟩ := hL.cons_inv
      obtain ⟨x', l3, rfl, hx, hL3⟩ := hL2.cons_inv
      obtain rfl := hL3.nil_inv
      refine Out.value (he _ rfl) ?_
      rw [hma, hat _ hts]
      exact copyD_sim hE hh hr hs hx
     ·cases hr
    ·unfold oText at hr
     split at hr
     ·rename_i t ts p k hts
      obtain ⟨s', l2, rfl, hs, hL2⟩ := hL.cons_inv
      obtain ⟨x', l3, rfl, hx, hL3⟩ := hL2.cons_inv
      obtain rfl := hL3.nil_inv
      obtain rfl := hx.int_inv
      refine Out.value (he _ rfl) ?_
      rw [hma, hat _ hts]
      exact textD_sim hE hh hr hs
     ·cases hr
    ·cases hr
   ·rename_i f hf
    simp only at hf; subst hf
    simp only at hargs hL hr
    have hma : cargs.map ρ = ⟨cargs.toList.map ρ⟩ := by apply Array.toList_inj.1; simp
    unfold oCall at hr
    split at hr
    ·rename_i fv hfv
     have hV := ev_sim hT hfv
     unfold oCallV at hr
     split at hr
     ·rename_i g a b
      obtain ⟨a', b', he, ha, hb⟩ := hV.func_inv
      have hd := hcl F (n - 1) B μ h w g _ _ v h' hF hh ((ha.append hL).append hb) hr
      have hx : (execOp ρ ⟨dst, .call ⟨.value f, cargs, argTypes⟩, type, pos, after, guard⟩).run P w = (callFunc g ⟨a'.toList ++ cargs.toList.map ρ ++ b'.toList⟩).run P w := by
       have e1 : (a' ++ cargs.map ρ) ++ b' = ⟨a'.toList ++ cargs.toList.map ρ ++ b'.toList⟩ := by
        apply Array.toList_inj.1; simp
       rw [← e1]
       simp only [execOp, resolve, he, Deferred.ofValue, Sem.run_bind, Sem.run_pure, Result.andThen_ok, invoke]
      rcases hd with ⟨q1, q2⟩ | ⟨v', q1, q2⟩
      ·exact .inr (.inr (.inl ⟨g, _, by rw [hx, q1], q2⟩))
      ·obtain ⟨v2, e2, q2⟩ := q2
       cases e2
       exact .inl ⟨v', w, by rw [hx, q1], q2⟩
     ·rename_i l
      obtain ⟨m, hm, he⟩ := hV.yield_inv
      obtain ⟨f', tmps, as, body, q1, q2⟩ := hyl F (n - 1) B μ h w l m _ _ v h' hF hh hm hL hr
      refine .inr (.inr (.inr ⟨m.r, f', tmps, as, body, ?_, q2⟩))
      have e1 : #[] ++ cargs.map ρ = ⟨cargs.toList.map ρ⟩ := by
       apply Array.toList_inj.1; simp
      simp only [execOp, resolve, he, Deferred.ofValue, Sem.run_bind, Sem.run_pure, Result.andThen_ok, invoke, e1]
      exact q1
     ·cases hr
    ·cases hr
   ·cases hr
end
end Go.D
namespace Go.D
set_option maxRecDepth 100000
section
variable {P : Program} {E : Env} {B N0 : Nat} {μ : Mu} {h h' : H} {w : World} {tm : Tr Value} {ρ : Operand → Value} {cl yl : CallD}
theorem opD_sim (hE : EnvOk2 P E) {F : Fence} (n : Nat) (hF : Wide F) (hcl : CallOk P E cl) (hyl : YieldOk P E yl) (hh : HR E B μ h w) (hT : TR E.ng μ tm ρ) {o : Oper} {v : Value} (hr : opD E cl yl h tm o.op = some (v, h')) :
  Out F n P ρ o w (fun v' w' => StepOk E B μ h w h' w' v v') := by
 rw [opD_cls] at hr
 generalize hc : cls E o.op = c at hr
 match c, hr with
 | 0, hr =>
  simp only [byCls, same] at hr
  split at hr
  ·rename_i v0 hp
   simp only [Option.some.injEq, Prod.mk.injEq] at hr
   obtain ⟨rfl, rfl⟩ := hr
   obtain ⟨v', h1, h2⟩ := pureD_sim hE (w := w) hT hp
   exact .inl ⟨v', w, h1, μ, h2, hh, Ext.refl _ _ _⟩
  ·cases hr
 | 1, hr =>
  simp only [byCls, same] at hr
  split at hr
  ·rename_i v0 hp
   simp only [Option.some.injEq, Prod.mk.injEq] at hr
   obtain ⟨rfl, rfl⟩ := hr
   obtain ⟨v', h1, h2⟩ := readD_sim hE hh hT hc hp
   exact .inl ⟨v', w, h1, μ, h2, hh, Ext.refl _ _ _⟩
  ·cases hr
 | 2, hr =>
  simp only [byCls, pushed] at hr
  split at hr
  ·rename_i ob mk hp
   simp only [Option.some.injEq, Prod.mk.injEq] at hr
   obtain ⟨rfl, rfl⟩ := hr
   obtain ⟨s, e1, ro, k, v', N, e, z, h1, h2⟩ := allocD_sim (w := w) hE hT hc hp
   let m : Rb := ⟨w.heap.size, 0, N, e, z⟩
   have hle := hh.le_set (m := m) (hh.unmapped (Nat.le_refl h.next))
   obtain ⟨q1, q2⟩ := h2 _ hle h.next hh.ngn (Mu.set_same μ h.next m)
   obtain ⟨u1, u2⟩ := hh.new (k := k) (m := m) rfl q2 (fun _ => rfl)
   exact Out.value e1 ⟨v', _, h1, _, q1, u1, u2⟩
  ·cases hr
 | 3, hr => exact loudD_sim hE n hF hcl hyl hh hT hr
 | _ + 4, hr => simp [byCls] at hr
theorem opD_plain {op : Op} {r : Value × H} (hr : opD E cl yl h tm op = some r) : (∀ c, op ≠ .defer c) ∧ ∀ cs b, op ≠ .select cs b :=
 ⟨fun c e => by subst e; simp [opD] at hr, fun cs b e => by subst e; simp [opD] at hr⟩
structure MarkOk (N0 : Nat) (μ : Mu) (w : World) (ds : List Deferred) : Prop where
 each : ∀ d ∈ ds, ∃ r, d.target = .collected r ∧ N0 ≤ r ∧ w.heap[r]? = some (.deferred (some [])) ∧ ∀ b m, μ b = some m → m.r ≠ r
 apart : ds.Pairwise (fun d d' => ∀ r, d.target = .collected r → d'.target ≠ .collected r)
theorem MarkOk.nil : MarkOk N0 μ w [] := ⟨fun d h => by simp at h, List.Pairwise.nil⟩
theorem Ext.off {μ' : Mu} {w' : World} (hx : Ext μ h w μ' h' w') {r : Nat} (hr : r < w.heap.size) (hn : ∀ b m, μ b = some m → m.r ≠ r) : ∀ b m, μ' b = some m → m.r ≠ r := fun b m hm e => by
 rcases hx.img b m hm with ⟨b0, m0, h0, e0⟩ | h1
 ·exact hn b0 m0 h0 (e0.trans e)
 ·omega
theorem MarkOk.ext {μ' : Mu} {w' : World} {ds : List Deferred} (hm : MarkOk N0 μ w ds) (hx : Ext μ h w μ' h' w') : MarkOk N0 μ' w' ds := by
 refine ⟨fun d hd => ?_, hm.apart⟩
 obtain ⟨r, h1, h2, h3, h4⟩ := hm.each d hd
 have hr : r < w.heap.size := (Array.getElem?_eq_some_iff.1 h3).1
 exact ⟨r, h1, h2, by rw [hx.kept r hr h4]; exact h3, hx.off hr h4⟩
structure St (E : Env) (B N0 : Nat) (F : Fence) (μ : Mu) (s : S) (a : Act) (w : World) : Prop where
 hr : HR E B μ s.h w
 sz : a.tmps.size = s.n
 tm : ∀ i, VR E.ng μ ((s.tm.get i).getD undef) (a.tmps.getD i undef)
 rd : s.rd = false → F.round = none
 marks : MarkOk N0 μ w a.defers
 hN : N0 ≤ w.heap.size
theorem St.TR {F : Fence} {s : S} {a : Act} (hs : St E B N0 F μ s a w) : TR E.ng μ s.tm a.eval := ⟨hs.tm, fun _ => rfl, fun _ => rfl, fun _ => rfl⟩
theorem S.put_fields {s s' : S} {d : Option Tmp} {v : Value} {h1 : H} (hp : s.put d v h1 = some s') : s'.rd = s.rd ∧ s'.n = s.n ∧ s'.h = h1 ∧
  (∀ t, s'.tm.get t = if d = some t then some v else s.tm.get t) ∧ (∀ t, d = some t → t < s.n) := by
 obtain ⟨rd, n, tm, h0⟩ := s
 cases d with
 | none =>
  simp only [S.put, Option.some.injEq] at hp; subst hp
  exact ⟨rfl, rfl, rfl, fun t => by simp, fun t ht => by cases ht⟩
 | some d =>
  simp only [S.put] at hp
  cases hb : Nat.blt d n with
  | false => rw [hb] at hp; cases hp
  | true =>
   rw [hb] at hp
   simp only [cond_true, Option.some.injEq] at hp; subst hp
   refine ⟨rfl, rfl, rfl, fun t => ?_, fun t ht => by cases ht; exact Nat.le_of_ble_eq_true hb⟩
   rw [Tr.get_set]
   simp
theorem put_size (a : Act) (d : Option Tmp) (v : Value) : (a.put d v).tmps.size = a.tmps.size := by cases d <;> simp [Act.put]
theorem put_getD (a : Act) (d : Option Tmp) (v : Value) (t : Nat) (hd : ∀ t, d = some t → t < a.tmps.size) : (a.put d v).tmps.getD t undef = if d = some t then v else a.tmps.getD t undef := by
 cases d with
 | none => simp [Act.put]
 | some d =>
  have hlt := hd d rfl
  simp only [Act.put, Option.some.injEq]
  by_cases e : d = t
  ·subst e; simp [Array.getD, hlt]
  ·simp only [if_neg e, Array.getD_eq_getD_getElem?, Array.getElem?_setIfInBounds_ne e]
theorem put_defers (a : Act) (d : Option Tmp) (v : Value) : (a.put d v).defers = a.defers := by cases d <;> rfl
theorem St.step {F : Fence} {s s' : S} {a : Act} {d : Option Tmp} {v v' : Value} {w' : World} (hs : St E B N0 F μ s a w) (hp : s.put d v h' = some s') (ho : StepOk E B μ s.h w h' w' v v') :
  ∃ μ', St E B N0 F μ' s' (a.put d v') w' ∧ Ext μ s.h w μ' s'.h w' := by
 obtain ⟨μ', h1, h2, h3⟩ := ho
 obtain ⟨p1, p2, p3, p4, p5⟩ := S.put_fields hp
 refine ⟨μ', ⟨by rw [p3]; exact h2, by rw [put_size, hs.sz, p2], fun i => ?_, by rw [p1]; exact hs.rd, by rw [put_defers]; exact hs.marks.ext h3, Nat.le_trans hs.hN h3.size⟩, by rw [p3]; exact h3⟩
 rw [p4, put_getD _ _ _ _ (fun t ht => by rw [hs.sz]; exact p5 t ht)]
 split
 ·exact h1
 ·exact (hs.tm i).mono h3.mono
theorem yield_sim {ops : List Oper} {a : Act} {tm : Tr Value} {j : Nat} (hd : ∀ oj d, ops[j]? = some oj → oj.dst = some d → VR E.ng μ ((tm.get d).getD undef) (a.tmps.getD d undef)) :
  yielded ⟨ops⟩ a.tmps j = yieldD ops tm j := by
 unfold yielded yieldD
 have e0 : (⟨ops⟩ : Array Oper)[j]? = ops[j]? := by simp
 rw [e0]
 cases ho : ops[j]? with
 | none => rfl
 | some oj =>
  simp only [Option.bind_some]
  cases hdst : oj.dst with
  | none => rfl
  | some d =>
   simp only [Option.bind_some]
   have hv := hd oj d ho hdst
   have hg : a.tmps.getD d undef = (a.tmps[d]?).getD undef := by simp [Array.getD_eq_getD_getElem?]
   rw [hg] at hv
   cases ht : tm.get d with
   | none =>
    rw [ht] at hv
    cases hr : a.tmps[d]? with
    | none => rfl
    | some x =>
     rw [hr] at hv
     simp only [Option.getD_none, Option.getD_some, undef] at hv
     cases hv
     rfl
   | some x =>
    rw [ht] at hv
    simp only [Option.getD_some] at hv
    cases hr : a.tmps[d]? with
    | none =>
     rw [hr] at hv
     simp only [Option.getD_none, undef] at hv
     cases hv
     rfl
    | some y =>
     rw [hr] at hv
     simp only [Option.getD_some] at hv
     cases hv <;> rfl
theorem wanted_sim {ops : List Oper} {a : Act} {tm : Tr Value} {o : Oper} (hd : ∀ j b oj d, o.guard = some (j, b) → ops[j]? = some oj → oj.dst = some d → VR E.ng μ ((tm.get d).getD undef) (a.tmps.getD d undef)) :
  Region.wanted o (yielded ⟨ops⟩ a.tmps) = wantedD ops o tm := by
 unfold Region.wanted wantedD
 cases hg : o.guard with
 | none => rfl
 | some p =>
  obtain ⟨j, b⟩ := p
  simp only
  rw [yield_sim (fun oj d h1 h2 => hd j b oj d hg h1 h2)]
theorem seqD_sim (hE : EnvOk2 P E) {F : Fence} {n : Nat} (hF : Wide F) (hcl : CallOk P E cl) (hyl : YieldOk P E yl) {ops : List Oper} {Q : Exit → Act → World → Prop} : ∀ (l : List Oper) (i : Nat) (s s' : S) (a : Act) (w : World) (μ : Mu),
  (∀ j, l[j]? = ops[i + j]?) → seqD E cl yl ops l s = some s' → St E B N0 F μ s a w →
  (∀ μ' a' w', St E B N0 F μ' s' a' w' → Ext μ s.h w μ' s'.h w' → Q .normal a' w') → wpOpsIn F n P ⟨ops⟩ Q (List.range' i l.length) a w
 | [], i, s, s', a, w, μ, _, hr, hs, hQ => by
  simp only [seqD, Option.some.injEq] at hr; subst hr
  exact hQ μ a w hs (Ext.refl _ _ _)
 | o :: l, i, s, s', a, w, μ, hl, hr, hs, hQ => by
  simp only [seqD] at hr
  split at hr
  ·rename_i s1 h1
   have ho : (⟨ops⟩ : Array Oper)[i]? = some o := by
    have := hl 0; simp at this; simp [← this]
   have hl' : ∀ j, l[j]? = ops[i + 1 + j]? := fun j => by
    have := hl (j + 1)
    simp only [List.getElem?_cons_succ] at this
    rw [this]; congr 1; omega
   simp only [List.length_cons, List.range'_succ, wpOpsIn, ho]
   have hw : Region.wanted o (yielded ⟨ops⟩ a.tmps) = wantedD ops o s.tm := wanted_sim (E := E) (μ := μ) (fun j b oj d _ _ _ => hs.tm d)
   rw [hw]
   unfold oneD at h1
   simp only [opDQ_eq] at h1
   split at h1
   ·rename_i hwt
    rw [if_pos hwt]
    split at h1
    ·rename_i v h2 hop
     have hout := opD_sim hE n hF hcl hyl hs.hr hs.TR hop
     refine hout.wpIn hF (opD_plain hop).1 fun v' w' ho' => ?_
     obtain ⟨μ', hs', hx⟩ := hs.step h1 ho'
     exact seqD_sim hE hF hcl hyl l (i + 1) s1 s' _ w' μ' hl' hr hs' fun μ'' a'' w'' h3 h4 => hQ μ'' a'' w'' h3 (hx.trans h4)
    ·cases h1
   ·rename_i hwt
    rw [if_neg hwt]
    refine ⟨fun f _ => hF.fn f, ?_⟩
    obtain ⟨μ', hs', hx⟩ := hs.step (v' := undef) h1 ⟨μ, VR.undef, hs.hr, Ext.refl _ _ _⟩
    exact seqD_sim hE hF hcl hyl l (i + 1) s1 s' _ w μ' hl' hr hs' fun μ'' a'' w'' h3 h4 => hQ μ'' a'' w'' h3 (hx.trans h4)
  ·cases hr
end
end Go.D
namespace Go.D
set_option maxRecDepth 100000
theorem maskOne_bit (ms : List Nat) (i : Nat) : ∀ (l : List Edge) (s : Nat), (maskOne ms l s).testBit i = true ↔ s.testBit i = true ∨ ∃ e ∈ l, Region.binds .any e = true ∧ (e.on = i ∨ (ms.getD e.on 0).testBit i = true)
 | [], s => by simp [maskOne]
 | e :: l, s => by
  simp only [maskOne]
  rw [maskOne_bit ms i l]
  by_cases hb : Region.binds .any e = true
  ·rw [if_pos hb]
   simp only [Nat.testBit_or, Bool.or_eq_true, List.mem_cons, Nat.testBit_two_pow, decide_eq_true_eq]
   constructor
   ·rintro (((h | h) | h) | ⟨e', he', h⟩)
    ·exact .inl h
    ·exact .inr ⟨e, .inl rfl, hb, .inl h⟩
    ·exact .inr ⟨e, .inl rfl, hb, .inr h⟩
    ·exact .inr ⟨e', .inr he', h⟩
   ·rintro (h | ⟨e', (rfl | he'), h1, h2⟩)
    ·exact .inl (.inl (.inl h))
    ·rcases h2 with h2 | h2
     ·exact .inl (.inl (.inr h2))
     ·exact .inl (.inr h2)
    ·exact .inr ⟨e', he', h1, h2⟩
  ·rw [if_neg hb]
   constructor
   ·rintro (h | ⟨e', he', h⟩)
    ·exact .inl h
    ·exact .inr ⟨e', List.mem_cons_of_mem _ he', h⟩
   ·rintro (h | ⟨e', he', h1, h2⟩)
    ·exact .inl h
    ·rcases List.mem_cons.1 he' with rfl | he'
     ·exact absurd h1 hb
     ·exact .inr ⟨e', he', h1, h2⟩
theorem masksF_spec : ∀ (l : List Oper) (acc : List Nat), ∃ r, masksF l acc = acc ++ r ∧ r.length = l.length ∧ ∀ j o, l[j]? = some o → r[j]? = some (maskOne (acc ++ r.take j) o.after.toList 0)
 | [], acc => ⟨[], by simp [masksF], rfl, fun j o h => by simp at h⟩
 | o :: l, acc => by
  obtain ⟨r, h1, h2, h3⟩ := masksF_spec l (acc ++ [maskOne acc o.after.toList 0])
  refine ⟨maskOne acc o.after.toList 0 :: r, ?_, by simp [h2], fun j o' hj => ?_⟩
  ·simp only [masksF, force_eq, h1, List.append_assoc, List.singleton_append]
  ·cases j with
   | zero => simp at hj; subst hj; simp
   | succ j =>
    simp only [List.getElem?_cons_succ] at hj ⊢
    rw [h3 j o' hj]
    simp
theorem backward_spec : ∀ (l : List Oper) (i : Nat), backward l i = true → ∀ j o, l[j]? = some o → ∀ e ∈ o.after.toList, Region.binds .any e = true → e.on < i + j
 | [], i, _, j, o, h => by simp at h
 | o :: l, i, hb, j, o', hj => by
  simp only [backward, Bool.and_eq_true, List.all_eq_true] at hb
  cases j with
  | zero =>
   simp at hj; subst hj
   intro e he hbn
   have := hb.1 e he
   simp only [hbn, Bool.not_true, Bool.false_or] at this
   rw [Nat.blt_eq] at this
   omega
  | succ j =>
   simp only [List.getElem?_cons_succ] at hj
   intro e he hbn
   have := backward_spec l (i + 1) hb.2 j o' hj e he hbn
   omega
section
variable {ops : List Oper} (hbk : backward ops 0 = true)
set_option linter.unusedSectionVars false
set_option linter.unusedVariables false
include hbk
theorem bit_iff {j i : Nat} {o : Oper} (hj : ops[j]? = some o) : bit (masks ops) j i = true ↔ ∃ e ∈ o.after.toList, Region.binds .any e = true ∧ (e.on = i ∨ bit (masks ops) e.on i = true) := by
 obtain ⟨r, h1, h2, h3⟩ := masksF_spec ops []
 simp only [List.nil_append] at h1 h3
 have hm : masks ops = r := h1
 unfold bit
 rw [hm, h3 j o hj]
 simp only [Option.getD_some]
 rw [maskOne_bit]
 simp only [Nat.zero_testBit, Bool.false_eq_true, false_or]
 have hlook : ∀ e ∈ o.after.toList, Region.binds .any e = true → ((r.take j).getD e.on 0) = (r[e.on]?).getD 0 := fun e he hb => by
  have := backward_spec ops 0 hbk j o hj e he hb
  rw [List.getD_eq_getElem?_getD, List.getElem?_take, if_pos (by omega)]
 constructor
 ·rintro ⟨e, he, hb, h⟩
  rw [hlook e he hb] at h
  exact ⟨e, he, hb, h⟩
 ·rintro ⟨e, he, hb, h⟩
  refine ⟨e, he, hb, ?_⟩
  rw [hlook e he hb]; exact h
theorem bit_valid {j i : Nat} (h : bit (masks ops) j i = true) : ∃ o, ops[j]? = some o := by
 obtain ⟨r, h1, h2, h3⟩ := masksF_spec ops []
 have hm : masks ops = r := h1
 unfold bit at h
 rw [hm] at h
 cases ho : ops[j]? with
 | some o => exact ⟨o, rfl⟩
 | none =>
  have hlen : r.length ≤ j := by rw [h2]; exact List.getElem?_eq_none_iff.1 ho
  rw [List.getElem?_eq_none hlen] at h
  simp at h
theorem bit_lt : ∀ (j : Nat) {i : Nat}, bit (masks ops) j i = true → i < j := by
 intro j
 induction j using Nat.strongRecOn with
 | _ j ih =>
  intro i h
  obtain ⟨o, ho⟩ := bit_valid hbk h
  obtain ⟨e, he, hb, h2⟩ := (bit_iff hbk ho).1 h
  have hlt := backward_spec ops 0 hbk j o ho e he hb
  rcases h2 with h2 | h2
  ·omega
  ·have := ih e.on (by omega) h2; omega
theorem bit_trans : ∀ (j : Nat) {i l : Nat}, bit (masks ops) j i = true → bit (masks ops) i l = true → bit (masks ops) j l = true := by
 intro j
 induction j using Nat.strongRecOn with
 | _ j ih =>
  intro i l h h2
  obtain ⟨o, ho⟩ := bit_valid hbk h
  obtain ⟨e, he, hb, h3⟩ := (bit_iff hbk ho).1 h
  have hlt := backward_spec ops 0 hbk j o ho e he hb
  refine (bit_iff hbk ho).2 ⟨e, he, hb, .inr ?_⟩
  rcases h3 with h3 | h3
  ·rw [h3]; exact h2
  ·exact ih e.on (by omega) h3 h2
def Closed (ops : List Oper) (L : Nat → Prop) : Prop := ∀ j o, L j → ops[j]? = some o → ∀ e ∈ o.after.toList, Region.binds .any e = true → L e.on
theorem closed_bit {L : Nat → Prop} (hL : Closed ops L) : ∀ (j : Nat) {i : Nat}, L j → bit (masks ops) j i = true → L i := by
 intro j
 induction j using Nat.strongRecOn with
 | _ j ih =>
  intro i hj h
  obtain ⟨o, ho⟩ := bit_valid hbk h
  obtain ⟨e, he, hb, h3⟩ := (bit_iff hbk ho).1 h
  have hlt := backward_spec ops 0 hbk j o ho e he hb
  have he' := hL j o hj ho e he hb
  rcases h3 with h3 | h3
  ·rw [← h3]; exact he'
  ·exact ih e.on (by omega) he' h3
theorem ready_bit {L : Nat → Prop} (hL : Closed ops L) {j i : Nat} {o : Oper} (ho : ops[j]? = some o) (hr : ∀ e ∈ o.after.toList, Region.binds .any e = true → L e.on) (h : bit (masks ops) j i = true) : L i := by
 obtain ⟨e, he, hb, h3⟩ := (bit_iff hbk ho).1 h
 have he' := hr e he hb
 rcases h3 with h3 | h3
 ·rw [← h3]; exact he'
 ·exact closed_bit hbk hL _ he' h3
theorem chained_head : ∀ {l : List Nat} {a : Nat}, chained (masks ops) (a :: l) = true → ∀ x ∈ l, bit (masks ops) x a = true
 | [], a, _, x, hx => by simp at hx
 | b :: l, a, h, x, hx => by
  simp only [chained, Bool.and_eq_true] at h
  rcases List.mem_cons.1 hx with rfl | hx
  ·exact h.1
  ·exact bit_trans hbk x (chained_head h.2 x hx) h.1
theorem chained_tail {a : Nat} {l : List Nat} (h : chained (masks ops) (a :: l) = true) : chained (masks ops) l = true := by
 cases l with
 | nil => rfl
 | cons b l => simp only [chained, Bool.and_eq_true] at h; exact h.2
theorem chained_pre : ∀ {pre post : List Nat} {l : Nat}, chained (masks ops) (pre ++ l :: post) = true → ∀ x ∈ pre, bit (masks ops) l x = true
 | [], post, l, _, x, hx => by simp at hx
 | a :: pre, post, l, h, x, hx => by
  rcases List.mem_cons.1 hx with rfl | hx
  ·exact chained_head hbk h l (by simp)
  ·exact chained_pre (chained_tail hbk h) x hx
theorem chained_post : ∀ {pre post : List Nat} {l : Nat}, chained (masks ops) (pre ++ l :: post) = true → ∀ x ∈ post, bit (masks ops) x l = true
 | [], post, l, h, x, hx => chained_head hbk h x hx
 | a :: pre, post, l, h, x, hx => chained_post (chained_tail hbk h) x hx
end
theorem filter_len_mono {p q : Nat → Bool} : ∀ (l : List Nat), (∀ x ∈ l, p x = true → q x = true) → (l.filter p).length ≤ (l.filter q).length
 | [], _ => Nat.le_refl _
 | a :: l, h => by
  have ih := filter_len_mono l (fun x hx => h x (List.mem_cons_of_mem _ hx))
  simp only [List.filter_cons]
  cases hp : p a with
  | true =>
   have hq := h a (by simp) hp
   simp [hq, ih]
  | false =>
   cases hq : q a with
   | true => simp; omega
   | false => simpa using ih
structure Tidy (ops : List Oper) (ms : List Nat) : Prop where
 one : ∀ (i j : Nat) (oi oj : Oper) (d : Nat), ops[i]? = some oi → ops[j]? = some oj → oi.dst = some d → oj.dst = some d → i = j
 looks : ∀ (i j : Nat) (oi oj : Oper) (d : Nat), ops[i]? = some oi → ops[j]? = some oj → oi.dst = some d → d ∈ oj.looksAt ⟨ops⟩ → bit ms j i = true
theorem tidy_spec {ops : List Oper} {ms : List Nat} (h : tidy ops ms = true) : Tidy ops ms := by
 simp only [tidy, List.all_eq_true, List.mem_range] at h
 have key : ∀ (i j : Nat) (oi oj : Oper) (d : Nat), ops[i]? = some oi → ops[j]? = some oj → oi.dst = some d → ((i == j || oj.dst != some d) && (!(oj.looksAt ⟨ops⟩).contains d || bit ms j i)) = true := by
  intro i j oi oj d hi hj hd
  have h1 := h i (List.getElem?_eq_some_iff.1 hi).1
  simp only [hi, hd, List.all_eq_true, List.mem_range] at h1
  have h2 := h1 j (List.getElem?_eq_some_iff.1 hj).1
  simpa only [hj] using h2
 constructor
 ·intro i j oi oj d hi hj hd hd'
  have := key i j oi oj d hi hj hd
  simp only [Bool.and_eq_true, Bool.or_eq_true, beq_iff_eq, bne_iff_ne, ne_eq] at this
  rcases this.1 with h1 | h1
  ·exact h1
  ·exact absurd hd' h1
 ·intro i j oi oj d hi hj hd hm
  have := key i j oi oj d hi hj hd
  simp only [Bool.and_eq_true, Bool.or_eq_true, Bool.not_eq_true', List.contains_eq_mem, decide_eq_false_iff_not] at this
  rcases this.2 with h1 | h1
  ·exact absurd hm h1
  ·exact h1
section
variable {E : Env} {tm tm' : Tr Value} {ops : List Oper} {o : Oper}
theorem looks_tmps {t : Nat} (h : t ∈ tmpsOf o.op) : t ∈ o.looksAt ⟨ops⟩ := List.mem_append_left _ h
theorem ev_looks (h : ∀ t ∈ o.looksAt ⟨ops⟩, tm.get t = tm'.get t) : ∀ x ∈ o.op.operands, ev E tm x = ev E tm' x := by
 intro x hx
 cases x with
 | tmp t => simp only [ev]; rw [h t (looks_tmps (mem_tmpsOf.2 hx))]
 | _ => rfl
theorem guard_looks {j d : Nat} {b : Bool} {oj : Oper} (hg : o.guard = some (j, b)) (hj : ops[j]? = some oj) (hd : oj.dst = some d) : d ∈ o.looksAt ⟨ops⟩ := by
 refine List.mem_append_right _ ?_
 have e0 : (⟨ops⟩ : Array Oper)[j]? = ops[j]? := by simp
 simp only [hg, e0, hj, Option.bind_some, hd]
 simp
theorem wantedD_congr (h : ∀ t ∈ o.looksAt ⟨ops⟩, tm.get t = tm'.get t) : wantedD ops o tm = wantedD ops o tm' := by
 unfold wantedD
 cases hg : o.guard with
 | none => rfl
 | some p =>
  obtain ⟨j, b⟩ := p
  simp only
  have : yieldD ops tm j = yieldD ops tm' j := by
   unfold yieldD
   cases hj : ops[j]? with
   | none => rfl
   | some oj =>
    simp only
    cases hd : oj.dst with
    | none => rfl
    | some d => simp only; rw [h d (guard_looks hg hj hd)]
  rw [this]
end
theorem zip_all_eq {R : Value → Value → Bool} (hR : ∀ a b, R a b = true → a = b) : ∀ (l l' : List Value), l.length = l'.length → (l.zip l').all (fun p => R p.1 p.2) = true → l = l'
 | [], [], _, _ => rfl
 | [], _ :: _, h, _ => by simp at h
 | _ :: _, [], h, _ => by simp at h
 | a :: l, b :: l', h, hz => by
  simp only [List.zip_cons_cons, List.all_cons, Bool.and_eq_true] at hz
  rw [hR a b hz.1, zip_all_eq hR l l' (by simpa using h) hz.2]
theorem veq_eq : ∀ (n : Nat) (a b : Value), veq n a b = true → a = b := by
 intro n
 induction n with
 | zero =>
  intro a b h
  cases a <;> cases b <;> simp only [veq, Bool.and_eq_true, beq_iff_eq, Bool.false_eq_true] at h
  case bool.bool => rw [h]
  case int.int => rw [h.1, h.2]
  case string.string => rw [ByteArray.ext (Array.toList_inj.1 h)]
  case pointer.pointer => rw [h]
  case slice.slice => rw [h.1.1, h.1.2, h.2]
  case map.map => rw [h]
  case nilFunc.nilFunc => rfl
  case nilIface.nilIface => rfl
 | succ n ih =>
  intro a b h
  cases a <;> cases b <;> try simp only [veq, Bool.and_eq_true, beq_iff_eq, Bool.false_eq_true] at h
  case bool.bool => rw [h]
  case int.int => rw [h.1, h.2]
  case string.string => rw [ByteArray.ext (Array.toList_inj.1 h)]
  case pointer.pointer => rw [h]
  case slice.slice => rw [h.1.1, h.1.2, h.2]
  case map.map => rw [h]
  case nilFunc.nilFunc => rfl
  case nilIface.nilIface => rfl
  case tuple.tuple x y =>
   have := zip_all_eq ih x.toList y.toList h.1 h.2
   rw [Array.toList_inj.1 this]
  case agg.agg x y =>
   have := zip_all_eq ih x.toList y.toList h.1 h.2
   rw [Array.toList_inj.1 this]
  case func.func f a c g b d =>
   cases f <;> cases g <;> simp only [veq, Bool.and_eq_true, beq_iff_eq, Bool.false_eq_true] at h
   obtain ⟨⟨h1, h2, h3⟩, h4, h5⟩ := h
   rw [h1, Array.toList_inj.1 (zip_all_eq ih _ _ h2 h3), Array.toList_inj.1 (zip_all_eq ih _ _ h4 h5)]
end Go.D
namespace Go.D
set_option maxRecDepth 100000
def Re (E : Env) (ops : List Oper) (F : S) (b : Nat) (o : Oper) (d : Nat) : Prop :=
 d < F.n ∧
 (wantedD ops o F.tm = true →
  (cls E o.op = 0 → ∃ v, pureD E F.tm o.op = some v ∧ F.tm.get d = some v) ∧
  (cls E o.op = 2 → ∃ ob mk, allocD E F.tm o.op = some (ob, mk) ∧ F.tm.get d = some (mk b) ∧ F.h.get b = some ob ∧ E.ng ≤ b ∧ b < F.h.next)) ∧
 (wantedD ops o F.tm = false → F.tm.get d = some undef)
section
variable {E : Env} {ops : List Oper} {cl yl : CallD}
theorem Re.move {F F' : S} {b d : Nat} {o : Oper} (hr : Re E ops F b o d) (hn : F'.n = F.n) (hl : ∀ t ∈ o.looksAt ⟨ops⟩, F'.tm.get t = F.tm.get t) (hd : F'.tm.get d = F.tm.get d)
  (hb : ∀ ob, wantedD ops o F.tm = true → cls E o.op = 2 → F.h.get b = some ob → b < F.h.next → F'.h.get b = some ob ∧ b < F'.h.next) : Re E ops F' b o d := by
 obtain ⟨h1, h2, h3⟩ := hr
 have hw : wantedD ops o F'.tm = wantedD ops o F.tm := wantedD_congr hl
 have hx := ev_looks (E := E) hl
 refine ⟨by rw [hn]; exact h1, fun hwt => ?_, fun hwt => ?_⟩
 ·rw [hw] at hwt
  obtain ⟨q1, q2⟩ := h2 hwt
  refine ⟨fun hc => ?_, fun hc => ?_⟩
  ·obtain ⟨v, u1, u2⟩ := q1 hc
   exact ⟨v, by rw [pureD_congr hx]; exact u1, by rw [hd]; exact u2⟩
  ·obtain ⟨ob, mk, u1, u2, u3, u4, u5⟩ := q2 hc
   obtain ⟨w1, w2⟩ := hb ob hwt hc u3 u5
   exact ⟨ob, mk, by rw [allocD_congr hx]; exact u1, by rw [hd]; exact u2, w1, u4, w2⟩
 ·rw [hw] at hwt
  rw [hd]; exact h3 hwt
structure Grow (E : Env) (s s' : S) : Prop where
 rd : s'.rd = s.rd
 n : s'.n = s.n
 next : s.h.next ≤ s'.h.next
 old : ∀ b, b < s.h.next → s'.h.get b = s.h.get b
 hr : ∀ B μ w, HR E B μ s.h w → HR E B μ s'.h w
theorem Grow.refl (s : S) : Grow E s s := ⟨rfl, rfl, Nat.le_refl _, fun _ _ => rfl, fun _ _ _ h => h⟩
theorem Grow.trans {a b c : S} (x : Grow E a b) (y : Grow E b c) : Grow E a c :=
 ⟨y.rd.trans x.rd, y.n.trans x.n, Nat.le_trans x.next y.next, fun k hk => (y.old k (Nat.lt_of_lt_of_le hk x.next)).trans (x.old k hk), fun B μ w h => y.hr B μ w (x.hr B μ w h)⟩
theorem Grow.ext {s s' : S} (g : Grow E s s') {μ : Mu} {w : World} : Ext μ s.h w μ s'.h w :=
 ⟨Mu.le_refl μ, rfl, rfl, rfl, Nat.le_refl _, fun _ _ _ => rfl, fun b hb hn => ⟨hn, g.old b hb⟩, g.next, fun b m hm => .inl ⟨b, m, hm, rfl⟩⟩
theorem float_one {s s' : S} {o : Oper} {d : Nat} (hc : cls E o.op ≤ 2) (hd : o.dst = some d) (hng : E.ng ≤ s.h.next) (hself : d ∉ o.looksAt ⟨ops⟩) (h1 : oneD E cl yl ops o s = some s') :
  Grow E s s' ∧ (∀ t, t ≠ d → s'.tm.get t = s.tm.get t) ∧ Re E ops s' s.h.next o d ∧ (wantedD ops o s.tm = true → cls E o.op = 2 → s.h.next < s'.h.next) := by
 have hself' : ∀ (v : S), (∀ t, v.tm.get t = if some d = some t then v.tm.get d else s.tm.get t) → ∀ t ∈ o.looksAt ⟨ops⟩, s.tm.get t = v.tm.get t := fun v hv t ht => by
  rw [hv t, if_neg (fun e => by cases e; exact hself ht)]
 unfold oneD at h1
 simp only [opDQ_eq] at h1
 split at h1
 ·rename_i hw
  split at h1
  ·rename_i v h' hop
   obtain ⟨p1, p2, p3, p4, p5⟩ := S.put_fields h1
   rw [hd] at p4 p5
   have hdn := p5 d rfl
   have hdget : s'.tm.get d = some v := by rw [p4 d, if_pos rfl]
   have hoth : ∀ t, t ≠ d → s'.tm.get t = s.tm.get t := fun t ht => by rw [p4 t, if_neg (fun e => ht (by cases e; rfl))]
   have hlk : ∀ t ∈ o.looksAt ⟨ops⟩, s'.tm.get t = s.tm.get t := fun t ht => hoth t (fun e => hself (e ▸ ht))
   have hx := ev_looks (E := E) hlk
   have hw' : wantedD ops o s'.tm = true := by rw [wantedD_congr hlk]; exact hw
   rw [opD_cls] at hop
   generalize hcc : cls E o.op = c at hop hc
   match c, hop, hc with
   | 0, hop, _ =>
    simp only [byCls, same] at hop
    split at hop
    ·rename_i v0 hp
     simp only [Option.some.injEq, Prod.mk.injEq] at hop
     obtain ⟨rfl, rfl⟩ := hop
     refine ⟨⟨p1, p2, by rw [p3]; exact Nat.le_refl _, fun b _ => by rw [p3], fun B μ w h => by rw [p3]; exact h⟩, hoth, ⟨by rw [p2]; exact hdn, fun _ => ⟨fun _ => ⟨v0, by rw [pureD_congr hx]; exact hp, hdget⟩, fun h => (by rw [hcc] at h; cases h)⟩, fun h => (by rw [hw'] at h; cases h)⟩, fun _ h => by cases h⟩
    ·cases hop
   | 1, hop, _ =>
    simp only [byCls, same] at hop
    split at hop
    ·rename_i v0 hp
     simp only [Option.some.injEq, Prod.mk.injEq] at hop
     obtain ⟨rfl, rfl⟩ := hop
     refine ⟨⟨p1, p2, by rw [p3]; exact Nat.le_refl _, fun b _ => by rw [p3], fun B μ w h => by rw [p3]; exact h⟩, hoth, ⟨by rw [p2]; exact hdn, fun _ => ⟨fun h => (by rw [hcc] at h; cases h), fun h => (by rw [hcc] at h; cases h)⟩, fun h => (by rw [hw'] at h; cases h)⟩, fun _ h => by cases h⟩
    ·cases hop
   | 2, hop, _ =>
    simp only [byCls, pushed] at hop
    split at hop
    ·rename_i ob mk hp
     simp only [Option.some.injEq, Prod.mk.injEq] at hop
     obtain ⟨rfl, rfl⟩ := hop
     have hnx : s'.h.next = s.h.next + 1 := by rw [p3]; rfl
     refine ⟨⟨p1, p2, by rw [hnx]; exact Nat.le_succ _, fun b hb => by rw [p3, H.get_push, if_neg (by omega)], fun B μ w h => by rw [p3]; exact h.pushed ob⟩, hoth,
      ⟨by rw [p2]; exact hdn, fun _ => ⟨fun h => (by rw [hcc] at h; cases h), fun _ => ⟨ob, mk, by rw [allocD_congr hx]; exact hp, hdget, by rw [p3]; exact H.get_push_new _ _, hng, by rw [hnx]; exact Nat.lt_succ_self _⟩⟩, fun h => (by rw [hw'] at h; cases h)⟩, fun _ _ => by rw [hnx]; exact Nat.lt_succ_self _⟩
    ·cases hop
   | k + 3, _, hc => omega
  ·cases h1
 ·rename_i hw
  obtain ⟨p1, p2, p3, p4, p5⟩ := S.put_fields h1
  rw [hd] at p4 p5
  have hdget : s'.tm.get d = some undef := by rw [p4 d, if_pos rfl]
  have hoth : ∀ t, t ≠ d → s'.tm.get t = s.tm.get t := fun t ht => by rw [p4 t, if_neg (fun e => ht (by cases e; rfl))]
  have hlk : ∀ t ∈ o.looksAt ⟨ops⟩, s'.tm.get t = s.tm.get t := fun t ht => hoth t (fun e => hself (e ▸ ht))
  have hw' : wantedD ops o s'.tm = wantedD ops o s.tm := wantedD_congr hlk
  refine ⟨⟨p1, p2, by rw [p3]; exact Nat.le_refl _, fun b _ => by rw [p3], fun B μ w h => by rw [p3]; exact h⟩, hoth, ⟨by rw [p2]; exact p5 d rfl, fun h => by rw [hw'] at h; exact absurd h hw, fun _ => hdget⟩, fun h => absurd h hw⟩
variable (hbk : backward ops 0 = true) (ht : Tidy ops (masks ops))
include hbk ht
theorem floatRun_spec : ∀ (l : List Nat) (s F : S), l.Pairwise (· < ·) → (∀ i ∈ l, ∃ o d, ops[i]? = some o ∧ o.dst = some d ∧ cls E o.op ≤ 2) → E.ng ≤ s.h.next → floatRun E cl yl ops l s = some F →
  Grow E s F ∧ (∀ t, (∀ i ∈ l, ∀ o, ops[i]? = some o → o.dst ≠ some t) → F.tm.get t = s.tm.get t) ∧
  ∃ β : Nat → Nat, (∀ i ∈ l, ∀ o d, ops[i]? = some o → o.dst = some d → Re E ops F (β i) o d ∧ s.h.next ≤ β i) ∧
   ∀ i ∈ l, ∀ j ∈ l, ∀ oi oj, ops[i]? = some oi → ops[j]? = some oj → cls E oi.op = 2 → cls E oj.op = 2 → wantedD ops oi F.tm = true → wantedD ops oj F.tm = true → i ≠ j → β i ≠ β j
 | [], s, F, _, _, _, hr => by
  simp only [floatRun, Option.some.injEq] at hr; subst hr
  exact ⟨Grow.refl _, fun _ _ => rfl, fun _ => 0, fun i hi => by simp at hi, fun i hi => by simp at hi⟩
 | i :: l, s, F, hp, hall, hng, hr => by
  simp only [floatRun] at hr
  split at hr
  ·cases hr
  ·rename_i o ho
   split at hr
   ·rename_i s1 h1
    obtain ⟨o', d, ho', hd, hc⟩ := hall i (by simp)
    obtain rfl : o = o' := Option.some.inj (ho.symm.trans ho')
    have hself : d ∉ o.looksAt ⟨ops⟩ := fun hm => by
     have := bit_lt hbk i (ht.looks i i o o d ho ho hd hm)
     omega
    obtain ⟨g1, g2, g3, g4⟩ := float_one (cl := cl) (yl := yl) hc hd hng hself h1
    have hpl := List.pairwise_cons.1 hp
    obtain ⟨k1, k2, β, k3, k4⟩ := floatRun_spec l s1 F hpl.2 (fun j hj => hall j (by simp [hj])) (Nat.le_trans hng g1.next) hr
    have hoff : ∀ t, t ∈ o.looksAt ⟨ops⟩ ∨ t = d → F.tm.get t = s1.tm.get t := fun t htt => k2 t fun j hj oj hoj hdj => by
     have hij := hpl.1 j hj
     rcases htt with h | h
     ·have := bit_lt hbk i (ht.looks j i oj o t hoj ho hdj h)
      omega
     ·subst h
      have := ht.one i j o oj t ho hoj hd hdj
      omega
    have hRe : Re E ops F s.h.next o d := g3.move k1.n (fun t h => hoff t (.inl h)) (hoff d (.inr rfl)) (fun ob _ _ h1 h2 => ⟨by rw [k1.old _ h2]; exact h1, Nat.lt_of_lt_of_le h2 k1.next⟩)
    have hwF : wantedD ops o F.tm = wantedD ops o s.tm := by
     refine wantedD_congr fun t h => ?_
     rw [hoff t (.inl h), g2 t (fun e => hself (e ▸ h))]
    refine ⟨g1.trans k1, fun t hn => ?_, fun j => if j = i then s.h.next else β j, fun j hj oj dj hoj hdj => ?_, fun j hj j' hj' oj oj' hoj hoj' hcj hcj' hwj hwj' hne => ?_⟩
    ·rw [k2 t (fun j hj => hn j (by simp [hj])), g2 t (fun e => hn i (by simp) o ho (by rw [hd, e]))]
    ·by_cases e : j = i
     ·subst e
      obtain rfl : o = oj := Option.some.inj (ho.symm.trans hoj)
      obtain rfl : d = dj := Option.some.inj (hd.symm.trans hdj)
      simp only [if_pos]
      exact ⟨hRe, Nat.le_refl _⟩
     ·simp only [if_neg e]
      have hj' : j ∈ l := by simpa [e] using hj
      obtain ⟨q1, q2⟩ := k3 j hj' oj dj hoj hdj
      exact ⟨q1, Nat.le_trans g1.next q2⟩
    ·have later : ∀ j, j ∈ i :: l → j ≠ i → wantedD ops o s.tm = true → cls E o.op = 2 → ∀ oj dj, ops[j]? = some oj → oj.dst = some dj → s.h.next ≠ β j := fun j hj e hw hc2 oj dj hoj hdj he => by
      have hj' : j ∈ l := by simpa [e] using hj
      have := (k3 j hj' oj dj hoj hdj).2
      have := g4 hw hc2
      omega
     by_cases e : j = i
     ·subst e
      obtain rfl : o = oj := Option.some.inj (ho.symm.trans hoj)
      have e2 : j' ≠ j := fun h => hne h.symm
      simp only [if_pos, if_neg e2]
      obtain ⟨o2, d2, ho2, hd2, _⟩ := hall j' hj'
      exact later j' hj' e2 (by rw [← hwF]; exact hwj) hcj o2 d2 ho2 hd2
     ·by_cases e2 : j' = i
      ·subst e2
       obtain rfl : o = oj' := Option.some.inj (ho.symm.trans hoj')
       simp only [if_pos, if_neg e]
       obtain ⟨o2, d2, ho2, hd2, _⟩ := hall j hj
       exact (later j hj e (by rw [← hwF]; exact hwj') hcj' o2 d2 ho2 hd2).symm
      ·simp only [if_neg e, if_neg e2]
       exact k4 j (by simpa [e] using hj) j' (by simpa [e2] using hj') oj oj' hoj hoj' hcj hcj' hwj hwj' hne
   ·cases hr
end
end Go.D
namespace Go.D
set_option maxRecDepth 100000
def Lst (listed : Array Bool) (i : Nat) : Prop := listed.getD i false = true
theorem Lst.set {listed : Array Bool} {i j : Nat} (hi : i < listed.size) : Lst (listed.setIfInBounds i true) j ↔ j = i ∨ Lst listed j := by
 unfold Lst
 rw [Array.getD_eq_getD_getElem?, Array.getD_eq_getD_getElem?, Array.getElem?_setIfInBounds]
 by_cases e : i = j
 ·subst e; simp [hi]
 ·rw [if_neg e]
  constructor
  ·exact .inr
  ·rintro (h | h)
   ·exact absurd h.symm e
   ·exact h
structure DrawOk (E : Env) (ops : List Oper) : Prop where
 kinds : ∀ (i : Nat) (o : Oper), ops[i]? = some o → cls E o.op = 3 ∨ (cls E o.op ≤ 2 ∧ ∃ d, o.dst = some d)
 bk : backward ops 0 = true
 chain : chained (masks ops) (loudsOf E ops) = true
 tidy : Tidy ops (masks ops)
theorem drawOk_spec {E : Env} {ops : List Oper} (h : drawOk E ops = true) : DrawOk E ops := by
 simp only [drawOk, Bool.and_eq_true, List.all_eq_true, Bool.or_eq_true, beq_iff_eq, Nat.ble_eq] at h
 obtain ⟨⟨⟨h1, h2⟩, h3⟩, h4⟩ := h
 refine ⟨fun i o ho => ?_, h2, h3, tidy_spec h4⟩
 rcases h1 o (List.mem_of_getElem? ho) with h | ⟨h, hd⟩
 ·exact .inl h
 ·exact .inr ⟨h, Option.isSome_iff_exists.1 hd⟩
theorem mem_louds {E : Env} {ops : List Oper} {i : Nat} : i ∈ loudsOf E ops ↔ ∃ o, ops[i]? = some o ∧ cls E o.op = 3 := by
 simp only [loudsOf, List.mem_filter, List.mem_range, isLoud]
 constructor
 ·rintro ⟨h1, h2⟩
  have e : ops[i]? = some ops[i] := by simp [h1]
  rw [e] at h2
  exact ⟨ops[i], e, by simpa using h2⟩
 ·rintro ⟨o, h1, h2⟩
  exact ⟨(List.getElem?_eq_some_iff.1 h1).1, by rw [h1]; simpa using h2⟩
theorem mem_floatsAt {E : Env} {ops : List Oper} {m i : Nat} : i ∈ floatsAt ops (masks ops) (loudsOf E ops) m ↔ i < ops.length ∧ i ∉ loudsOf E ops ∧ lo (masks ops) (loudsOf E ops) i = m := by
 simp [floatsAt, List.mem_filter, List.mem_range]
structure Inv (E : Env) (ops : List Oper) (B : Nat) (s0 : S) (a0 : Act) (μ0 : Mu) (w0 : World) (listed : Array Bool) (dn ls : List Nat) (F : S) (μ : Mu) (β : Nat → Nat) (a : Act) (w : World) (k : Nat) : Prop where
 hr : HR E B μ F.h w
 ext : Ext μ0 s0.h w0 μ F.h w
 n : F.n = s0.n
 rd : F.rd = s0.rd
 sz : a.tmps.size = s0.n
 df : a.defers = a0.defers
 lsz : listed.size = ops.length
 cl : Closed ops (Lst listed)
 lou : loudsOf E ops = dn ++ ls
 ldn : ∀ l ∈ dn, Lst listed l
 lls : ∀ l ∈ ls, ¬ Lst listed l
 tm : ∀ (t : Nat), (∀ (i : Nat) (o : Oper), ops[i]? = some o → o.dst = some t → Lst listed i) → VR E.ng μ ((F.tm.get t).getD undef) (a.tmps.getD t undef)
 re : ∀ (j : Nat) (o : Oper) (d : Nat), ops[j]? = some o → cls E o.op ≤ 2 → o.dst = some d → ¬ Lst listed j → lo (masks ops) (loudsOf E ops) j < k → Re E ops F (β j) o d
 un : ∀ (j : Nat) (o : Oper), ops[j]? = some o → cls E o.op = 2 → wantedD ops o F.tm = true → ¬ Lst listed j → lo (masks ops) (loudsOf E ops) j < k → μ (β j) = none ∧ s0.h.next ≤ β j
 inj : ∀ (j j' : Nat) (o o' : Oper), ops[j]? = some o → ops[j']? = some o' → cls E o.op = 2 → cls E o'.op = 2 → wantedD ops o F.tm = true → wantedD ops o' F.tm = true → ¬ Lst listed j → ¬ Lst listed j' →
  lo (masks ops) (loudsOf E ops) j < k → lo (masks ops) (loudsOf E ops) j' < k → j ≠ j' → β j ≠ β j'
def Cont (E : Env) (cl yl : CallD) (ops : List Oper) (sfin : S) (m : Nat) (F : S) : List Nat → Prop
 | [] => F = sfin
 | l :: ls => ∃ o s3, ops[l]? = some o ∧ oneD E cl yl ops o F = some s3 ∧ drawRun E cl yl ops (masks ops) (loudsOf E ops) ls (m + 1) s3 = some sfin
section
variable {E : Env} {ops : List Oper} {B : Nat} {s0 : S} {a0 : Act} {μ0 : Mu} {w0 : World} {cl yl : CallD} (hok : DrawOk E ops)
include hok
theorem lo_mono {i j : Nat} (h : bit (masks ops) j i = true) : lo (masks ops) (loudsOf E ops) i ≤ lo (masks ops) (loudsOf E ops) j :=
 filter_len_mono _ fun _ _ hx => bit_trans hok.bk j h hx
theorem looks_later {i j : Nat} {oi oj : Oper} {d : Nat} (hi : ops[i]? = some oi) (hj : ops[j]? = some oj) (hd : oi.dst = some d) (hlt : lo (masks ops) (loudsOf E ops) j < lo (masks ops) (loudsOf E ops) i) : d ∉ oj.looksAt ⟨ops⟩ := fun hm => by
 have := lo_mono hok (hok.tidy.looks i j oi oj d hi hj hd hm)
 omega
theorem stage {listed : Array Bool} {dn ls : List Nat} {s2 sfin : S} {μ : Mu} {β : Nat → Nat} {a : Act} {w : World} {m : Nat} (hI : Inv E ops B s0 a0 μ0 w0 listed dn ls s2 μ β a w m)
  (hl : ∀ i o, ops[i]? = some o → cls E o.op ≤ 2 → Lst listed i → lo (masks ops) (loudsOf E ops) i < m)
  (hrun : drawRun E cl yl ops (masks ops) (loudsOf E ops) ls m s2 = some sfin) :
  ∃ F β', Inv E ops B s0 a0 μ0 w0 listed dn ls F μ β' a w (m + 1) ∧ recheck E ops (masks ops) (loudsOf E ops) m F = true ∧ Cont E cl yl ops sfin m F ls := by
 unfold drawRun at hrun
 simp only [recheckQ_eq] at hrun
 split at hrun
 ·cases hrun
 ·rename_i F hF
  split at hrun
  ·rename_i hck
   have hfl : ∀ i ∈ floatsAt ops (masks ops) (loudsOf E ops) m, ∃ o d, ops[i]? = some o ∧ o.dst = some d ∧ cls E o.op ≤ 2 := fun i hi => by
    obtain ⟨h1, h2, h3⟩ := mem_floatsAt.1 hi
    have e : ops[i]? = some ops[i] := by simp [h1]
    rcases hok.kinds i _ e with h | ⟨h, d, hd⟩
    ·exact absurd (mem_louds.2 ⟨_, e, h⟩) h2
    ·exact ⟨_, d, e, hd, h⟩
   have hsort : (floatsAt ops (masks ops) (loudsOf E ops) m).Pairwise (· < ·) := List.Pairwise.filter _ List.pairwise_lt_range
   obtain ⟨g1, g2, β1, g3, g4⟩ := floatRun_spec hok.bk hok.tidy _ s2 F hsort hfl hI.hr.ngn hF
   have hin : ∀ j o, ops[j]? = some o → cls E o.op ≤ 2 → lo (masks ops) (loudsOf E ops) j = m → j ∈ floatsAt ops (masks ops) (loudsOf E ops) m := fun j o ho hc hm =>
    mem_floatsAt.2 ⟨(List.getElem?_eq_some_iff.1 ho).1, fun h => by
     obtain ⟨o', h1, h2⟩ := mem_louds.1 h
     obtain rfl : o = o' := Option.some.inj (ho.symm.trans h1)
     omega, hm⟩
   have hstay : ∀ j o, ops[j]? = some o → cls E o.op ≤ 2 → lo (masks ops) (loudsOf E ops) j < m → ∀ t, (t ∈ o.looksAt ⟨ops⟩ ∨ o.dst = some t) → F.tm.get t = s2.tm.get t := fun j o ho hc hlt t ht => g2 t fun i hi oi hoi hdi => by
    have hmi := (mem_floatsAt.1 hi).2.2
    rcases ht with h | h
    ·exact looks_later hok hoi ho hdi (by omega) h
    ·have := hok.tidy.one i j oi o t hoi ho hdi h
     subst this; omega
   have hwst : ∀ j o, ops[j]? = some o → cls E o.op ≤ 2 → lo (masks ops) (loudsOf E ops) j < m → wantedD ops o F.tm = wantedD ops o s2.tm := fun j o ho hc hlt => wantedD_congr fun t ht => hstay j o ho hc hlt t (.inl ht)
   refine ⟨F, fun j => if lo (masks ops) (loudsOf E ops) j < m then β j else β1 j, ⟨g1.hr _ _ _ hI.hr, hI.ext.trans g1.ext, g1.n.trans hI.n, g1.rd.trans hI.rd, hI.sz, hI.df, hI.lsz, hI.cl, hI.lou, hI.ldn, hI.lls, fun t ht => ?_, fun j o d ho hc hd hn hlo => ?_, fun j o ho hc hw hn hlo => ?_, fun j j' o o' ho ho' hc hc' hw hw' hn hn' hlo hlo' hne => ?_⟩, hck, ?_⟩
   ·rw [g2 t fun i hi oi hoi hdi => ?_]
    ·exact hI.tm t ht
    ·obtain ⟨o2, d2, ho2, hd2, hc2⟩ := hfl i hi
     obtain rfl : oi = o2 := Option.some.inj (hoi.symm.trans ho2)
     have := hl i oi hoi hc2 (ht i oi hoi hdi)
     have := (mem_floatsAt.1 hi).2.2
     omega
   ·split
    ·rename_i hlt
     exact (hI.re j o d ho hc hd hn hlt).move g1.n (fun t ht => hstay j o ho hc hlt t (.inl ht)) (hstay j o ho hc hlt d (.inr hd)) (fun ob _ _ h1 h2 => ⟨by rw [g1.old _ h2]; exact h1, Nat.lt_of_lt_of_le h2 g1.next⟩)
    ·rename_i hlt
     exact (g3 j (hin j o ho hc (by omega)) o d ho hd).1
   ·split
    ·rename_i hlt
     exact hI.un j o ho hc (by rw [← hwst j o ho (by omega) hlt]; exact hw) hn hlt
    ·rename_i hlt
     obtain ⟨_, d, ho', hd, _⟩ := hfl j (hin j o ho (by omega) (by omega))
     obtain rfl := Option.some.inj (ho.symm.trans ho')
     have h2 := (g3 j (hin j o ho (by omega) (by omega)) o d ho hd).2
     exact ⟨hI.hr.unmapped h2, Nat.le_trans hI.ext.next h2⟩
   ·have cross : ∀ j j' o o', ops[j]? = some o → ops[j']? = some o' → cls E o.op = 2 → cls E o'.op = 2 → wantedD ops o F.tm = true → ¬ Lst listed j → lo (masks ops) (loudsOf E ops) j < m → ¬ lo (masks ops) (loudsOf E ops) j' < m → lo (masks ops) (loudsOf E ops) j' < m + 1 → β j ≠ β1 j' := fun j j' o o' ho ho' hc hc' hw hn h1 h2 h3 he => by
     obtain ⟨o2, d, ho2, hd, _⟩ := hfl j' (hin j' o' ho' (by omega) (by omega))
     obtain rfl : o' = o2 := Option.some.inj (ho'.symm.trans ho2)
     have hb1 := (g3 j' (hin j' o' ho' (by omega) (by omega)) o' d ho' hd).2
     rcases hok.kinds j o ho with hk | ⟨_, d1, hd1⟩
     ·omega
     ·obtain ⟨_, q, _⟩ := hI.re j o d1 ho (by omega) hd1 hn h1
      obtain ⟨_, _, _, _, _, _, hb2⟩ := (q (by rw [← hwst j o ho (by omega) h1]; exact hw)).2 hc
      omega
    split
    ·rename_i h1
     split
     ·rename_i h2
      exact hI.inj j j' o o' ho ho' hc hc' (by rw [← hwst j o ho (by omega) h1]; exact hw) (by rw [← hwst j' o' ho' (by omega) h2]; exact hw') hn hn' h1 h2 hne
     ·rename_i h2
      exact cross j j' o o' ho ho' hc hc' hw hn h1 h2 hlo'
    ·rename_i h1
     split
     ·rename_i h2
      exact (cross j' j o' o ho' ho hc' hc hw' hn' h2 h1 hlo).symm
     ·rename_i h2
      exact g4 j (hin j o ho (by omega) (by omega)) j' (hin j' o' ho' (by omega) (by omega)) o o' ho ho' hc hc' hw hw' hne
   ·cases ls with
    | nil => simp only [Option.some.injEq] at hrun; exact hrun
    | cons l ls =>
     simp only at hrun
     split at hrun
     ·cases hrun
     ·rename_i o ho
      split at hrun
      ·cases hrun
      ·rename_i s3 h3
       exact ⟨o, s3, ho, h3, hrun⟩
  ·cases hrun
end
end Go.D
namespace Go.D
set_option maxRecDepth 100000
theorem Ext.bind {E : Env} {B : Nat} {μ0 μ : Mu} {h0 h : H} {w0 w : World} (hx : Ext μ0 h0 w0 μ h w) (hh : HR E B μ h w) {b : Nat} {m : Rb} {ro : Go.Obj} {k : Nat} (hb : μ b = none) (hnx : h0.next ≤ b) (hmr : m.r = w.heap.size) :
  Ext μ0 h0 w0 (μ.set b m) h (pushW w ro k) where
 mono := Mu.le_trans hx.mono (hh.le_set hb)
 os := hx.os
 tape := hx.tape
 output := hx.output
 size := by have := hx.size; simp [pushW]; omega
 kept := fun r hr hn => by
  rw [← hx.kept r hr hn]
  have := hx.size
  simp only [pushW, Array.getElem?_push]
  rw [if_neg (by omega)]
 unm := fun c hc hn => by
  obtain ⟨h1, h2⟩ := hx.unm c hc hn
  exact ⟨by rw [Mu.set_other (by omega)]; exact h1, h2⟩
 next := hx.next
 img := fun c m' hc => by
  by_cases e : c = b
  ·subst e; rw [Mu.set_same] at hc; cases hc
   exact .inr (by rw [hmr]; exact hx.size)
  ·rw [Mu.set_other e] at hc
   exact hx.img c m' hc
section
variable {P : Program} {E : Env} {ops : List Oper} {B : Nat} {s0 : S} {a0 : Act} {μ0 : Mu} {w0 : World} {cl yl : CallD}
theorem Inv.float {listed : Array Bool} {dn ls : List Nat} {F : S} {μ μ' : Mu} {β : Nat → Nat} {a : Act} {w w' : World} {k i d : Nat} {o : Oper} {v' : Value}
  (_ : DrawOk E ops) (hI : Inv E ops B s0 a0 μ0 w0 listed dn ls F μ β a w k) (ho : ops[i]? = some o) (hc : cls E o.op ≤ 2) (hd : o.dst = some d) (hdn : d < F.n)
  (hcl : ∀ e ∈ o.after.toList, Region.binds .any e = true → Lst listed e.on) (hhr : HR E B μ' F.h w') (hext : Ext μ0 s0.h w0 μ' F.h w') (hle : Mu.le μ μ') (hv : VR E.ng μ' ((F.tm.get d).getD undef) v')
  (hun : ∀ (j : Nat) (oj : Oper), ops[j]? = some oj → cls E oj.op = 2 → wantedD ops oj F.tm = true → ¬ Lst listed j → lo (masks ops) (loudsOf E ops) j < k → j ≠ i → μ' (β j) = none) :
  Inv E ops B s0 a0 μ0 w0 (listed.setIfInBounds i true) dn ls F μ' β (a.put (some d) v') w' k := by
 have hi : i < listed.size := by rw [hI.lsz]; exact (List.getElem?_eq_some_iff.1 ho).1
 have hL : ∀ j, Lst (listed.setIfInBounds i true) j ↔ j = i ∨ Lst listed j := fun j => Lst.set hi
 have hdsz : ∀ t, some d = some t → t < a.tmps.size := fun t e => by cases e; rw [hI.sz, ← hI.n]; exact hdn
 refine ⟨hhr, hext, hI.n, hI.rd, by rw [put_size]; exact hI.sz, by rw [put_defers]; exact hI.df, by simp [hI.lsz], fun j oj hj hoj e he hb => ?_, hI.lou, fun l hl => (hL l).2 (.inr (hI.ldn l hl)), fun l hl h => ?_, fun t ht => ?_,
  fun j oj dj hoj hcj hdj hn hlo => hI.re j oj dj hoj hcj hdj (fun h => hn ((hL j).2 (.inr h))) hlo, fun j oj hoj hcj hw hn hlo => ⟨?_, (hI.un j oj hoj hcj hw (fun h => hn ((hL j).2 (.inr h))) hlo).2⟩,
  fun j j' oj oj' hoj hoj' hcj hcj' hw hw' hn hn' hlo hlo' hne => hI.inj j j' oj oj' hoj hoj' hcj hcj' hw hw' (fun h => hn ((hL j).2 (.inr h))) (fun h => hn' ((hL j').2 (.inr h))) hlo hlo' hne⟩
 ·rcases (hL j).1 hj with rfl | h
  ·obtain rfl := Option.some.inj (ho.symm.trans hoj)
   exact (hL _).2 (.inr (hcl e he hb))
  ·exact (hL _).2 (.inr (hI.cl j oj h hoj e he hb))
 ·rcases (hL l).1 h with rfl | h
  ·have : l ∈ loudsOf E ops := by rw [hI.lou]; simp [hl]
   obtain ⟨o', h1, h2⟩ := mem_louds.1 this
   obtain rfl := Option.some.inj (ho.symm.trans h1)
   omega
  ·exact hI.lls l hl h
 ·rw [put_getD _ _ _ _ hdsz]
  split
  ·rename_i e; cases e; exact hv
  ·rename_i e
   refine (hI.tm t fun j oj hoj hdj => ?_).mono hle
   rcases (hL j).1 (ht j oj hoj hdj) with rfl | h
   ·obtain rfl := Option.some.inj (ho.symm.trans hoj)
    exact absurd (hd.symm.trans hdj) e
   ·exact h
 ·exact hun j oj hoj hcj hw (fun h => hn ((hL j).2 (.inr h))) hlo (fun e => hn ((hL j).2 (.inl e)))
theorem recheck_spec {F : S} {m i d : Nat} {o : Oper} (h : recheck E ops (masks ops) (loudsOf E ops) m F = true) (ho : ops[i]? = some o) (hc : cls E o.op = 1) (hd : o.dst = some d)
  (h1 : lo (masks ops) (loudsOf E ops) i ≤ m) (h2 : m ≤ hi (masks ops) (loudsOf E ops) i) (hw : wantedD ops o F.tm = true) : readD E F.h F.tm o.op = some ((F.tm.get d).getD undef) := by
 simp only [recheck, List.all_eq_true, List.mem_range] at h
 have h3 := h i (List.getElem?_eq_some_iff.1 ho).1
 simp only [ho] at h3
 rw [if_pos (by simp [hc, hw, Nat.ble_eq_true_of_le h1, Nat.ble_eq_true_of_le h2])] at h3
 rw [hd] at h3
 split at h3
 ·rename_i d' v hd' hr
  cases hd'
  rw [hr, veq_eq _ _ _ h3]
 ·cases h3
theorem draw_any (hE : EnvOk2 P E) {Fc : Fence} {n : Nat} (hF : Wide Fc) (hcl : CallOk P E cl) (hyl : YieldOk P E yl) (hok : DrawOk E ops) {sfin : S} {Q : Exit → Act → World → Prop}
  (hQ : ∀ μ a w, HR E B μ sfin.h w → Ext μ0 s0.h w0 μ sfin.h w → sfin.n = s0.n → sfin.rd = s0.rd → a.tmps.size = s0.n → a.defers = a0.defers → (∀ t, VR E.ng μ ((sfin.tm.get t).getD undef) (a.tmps.getD t undef)) → Q .normal a w) :
  ∀ (fuel : Nat) (listed : Array Bool) (dn ls : List Nat) (F : S) (μ : Mu) (β : Nat → Nat) (a : Act) (w : World) (U : List Nat), Inv E ops B s0 a0 μ0 w0 listed dn ls F μ β a w (dn.length + 1) →
   recheck E ops (masks ops) (loudsOf E ops) dn.length F = true → Cont E cl yl ops sfin dn.length F ls → U.length ≤ fuel → (∀ i, i < ops.length → ¬ Lst listed i → i ∈ U) → wpAnyIn Fc n P .any ⟨ops⟩ Q fuel listed a w := by
 intro fuel
 have hidx : ∀ i : Nat, (⟨ops⟩ : Array Oper)[i]? = ops[i]? := fun i => by simp
 have hunl : ∀ (listed : Array Bool) (i : Nat), listed.getD i true = false → ¬ Lst listed i := fun listed i h h2 => by
  unfold Lst at h2
  rw [Array.getD_eq_getD_getElem?] at h h2
  cases e : listed[i]? with
  | none => rw [e] at h; simp at h
  | some b => rw [e] at h h2; simp at h h2; rw [h] at h2; cases h2
 have hdone : ∀ (listed : Array Bool) (dn ls : List Nat) (F : S) (μ : Mu) (β : Nat → Nat) (a : Act) (w : World), Inv E ops B s0 a0 μ0 w0 listed dn ls F μ β a w (dn.length + 1) → Cont E cl yl ops sfin dn.length F ls →
   Region.ready .any ⟨ops⟩ listed = [] → Q .normal a w := by
  intro listed dn ls F μ β a w hI hC hr
  have hall : ∀ i, i < ops.length → Lst listed i := by
   intro i
   induction i using Nat.strongRecOn with
   | _ i ih =>
    intro hi
    by_cases hL : Lst listed i
    ·exact hL
    ·exfalso
     have ho : ops[i]? = some ops[i] := by simp [hi]
     have : i ∈ Region.ready .any ⟨ops⟩ listed := by
      refine mem_ready.2 ⟨?_, ops[i], by rw [hidx]; exact ho, fun e he hb => ?_⟩
      ·have hsz : i < listed.size := by rw [hI.lsz]; exact hi
       unfold Lst at hL
       rw [Array.getD_eq_getD_getElem?] at hL ⊢
       rw [Array.getElem?_eq_getElem hsz] at hL ⊢
       simpa using hL
      ·have := backward_spec ops 0 hok.bk i _ ho e (by simpa using he) hb
       exact ih e.on (by omega) (by omega)
     rw [hr] at this
     cases this
  have hls : ls = [] := by
   cases ls with
   | nil => rfl
   | cons l ls =>
    have hm : l ∈ loudsOf E ops := by rw [hI.lou]; simp
    obtain ⟨o, h1, _⟩ := mem_louds.1 hm
    exact absurd (hall l (List.getElem?_eq_some_iff.1 h1).1) (hI.lls l (by simp))
  subst hls
  have hC' : F = sfin := hC
  subst hC'
  exact hQ μ a w hI.hr hI.ext hI.n hI.rd hI.sz hI.df (fun t => hI.tm t fun i o ho _ => hall i (List.getElem?_eq_some_iff.1 ho).1)
 induction fuel with
 | zero =>
  intro listed dn ls F μ β a w U hI hck hC hU hmem
  have hnil : Region.ready .any ⟨ops⟩ listed = [] := by
   cases hr : Region.ready .any ⟨ops⟩ listed with
   | nil => rfl
   | cons i r =>
    have hi : i ∈ Region.ready .any ⟨ops⟩ listed := by rw [hr]; simp
    obtain ⟨h1, o, h2, _⟩ := mem_ready.1 hi
    rw [hidx] at h2
    have := hmem i (List.getElem?_eq_some_iff.1 h2).1 (hunl _ _ h1)
    have hU0 : U = [] := List.length_eq_zero_iff.1 (by omega)
    rw [hU0] at this; cases this
  exact ⟨hnil, hdone listed dn ls F μ β a w hI hC hnil⟩
 | succ fuel ih =>
  intro listed dn ls F μ β a w U hI hck hC hU hmem
  refine ⟨hdone listed dn ls F μ β a w hI hC, fun i hi => ?_⟩
  obtain ⟨h1, o, h2, h3⟩ := mem_ready.1 hi
  have ho := h2
  rw [hidx] at ho
  have hun := hunl _ _ h1
  have hilt := (List.getElem?_eq_some_iff.1 ho).1
  have hisz : i < listed.size := by rw [hI.lsz]; exact hilt
  have hedges : ∀ e ∈ o.after.toList, Region.binds .any e = true → Lst listed e.on := fun e he hb => h3 e (by simpa using he) hb
  have hlook : ∀ t ∈ o.looksAt ⟨ops⟩, VR E.ng μ ((F.tm.get t).getD undef) (a.tmps.getD t undef) := fun t ht =>
   hI.tm t fun j oj hj hdj => ready_bit hok.bk hI.cl ho hedges (hok.tidy.looks j i oj o t hj ho hdj ht)
  have hw : Region.wanted o (yielded ⟨ops⟩ a.tmps) = wantedD ops o F.tm := wanted_sim (E := E) (μ := μ) (fun j b oj d hg hj hd => hlook d (guard_looks hg hj hd))
  have hTR : TR E.ng μ (restr F.tm (tmpsOf o.op)) (restrE a o.op) := TR.restr fun t ht => hlook t (looks_tmps ht)
  have hcls : cls E o.op ≤ 3 := by rcases hok.kinds i o ho with h | h <;> omega
  have hsel : ∀ cs b, o.op ≠ .select cs b := fun cs b e => by rw [e] at hcls; simp [cls] at hcls
  have hdef : ∀ c, o.op ≠ .defer c := fun c e => by rw [e] at hcls; simp [cls] at hcls
  have hexec : execOp (restrE a o.op) o = execOp a.eval o := execOp_congr o hsel fun x hx => restrE_eq hx
  have hxr : ∀ x ∈ o.op.operands, ev E F.tm x = ev E (restr F.tm (tmpsOf o.op)) x := fun x hx => ev_restr hx
  have hUe : (U.erase i).length ≤ fuel := by
   have := List.length_erase_of_mem (hmem i hilt hun)
   omega
  have hUm : ∀ j, j < ops.length → ¬ Lst (listed.setIfInBounds i true) j → j ∈ U.erase i := fun j hj hn => by
   have hne : j ≠ i := fun e => hn ((Lst.set hisz).2 (.inl e))
   exact (List.mem_erase_of_ne hne).2 (hmem j hj fun h => hn ((Lst.set hisz).2 (.inr h)))
  have hloi : lo (masks ops) (loudsOf E ops) i ≤ dn.length := by
   unfold lo
   rw [hI.lou, List.filter_append, List.length_append]
   have : ls.filter (fun l => bit (masks ops) i l) = [] := List.filter_eq_nil_iff.2 fun l hl hb => hI.lls l hl (ready_bit hok.bk hI.cl ho hedges hb)
   rw [this]
   simpa using List.length_filter_le _ dn
  have hhii : dn.length ≤ D.hi (masks ops) (loudsOf E ops) i := by
   unfold D.hi
   rw [hI.lou, List.filter_append, List.length_append]
   have : dn.filter (fun l => !bit (masks ops) l i) = dn := List.filter_eq_self.2 fun l hl => by
    cases hb : bit (masks ops) l i with
    | false => rfl
    | true => exact absurd (closed_bit hok.bk hI.cl l (hI.ldn l hl) hb) hun
   rw [this]
   exact Nat.le_add_right _ _
  unfold wpOpIn
  simp only [h2]
  rw [hw]
  rcases hok.kinds i o ho with hc3 | ⟨hc2, d, hd⟩
  ·
   have hmi : i ∈ dn ++ ls := by rw [← hI.lou]; exact mem_louds.2 ⟨o, ho, hc3⟩
   have hils : i ∈ ls := by
    rcases List.mem_append.1 hmi with h | h
    ·exact absurd (hI.ldn i h) hun
    ·exact h
   cases ls with
   | nil => cases hils
   | cons l ls =>
    have hch : chained (masks ops) (dn ++ l :: ls) = true := by rw [← hI.lou]; exact hok.chain
    have hil : i = l := by
     rcases List.mem_cons.1 hils with h | h
     ·exact h
     ·exact absurd (ready_bit hok.bk hI.cl ho hedges (chained_post hok.bk hch i h)) (hI.lls l (by simp))
    subst hil
    obtain ⟨o', s3, ho', hone, hrest⟩ := hC
    obtain rfl : o = o' := Option.some.inj (ho.symm.trans ho')
    have hafter : ∀ (v v' : Value) (h' : H) (w' : World), F.put o.dst v h' = some s3 → StepOk E B μ F.h w h' w' v v' → wpAnyIn Fc n P .any ⟨ops⟩ Q fuel (listed.setIfInBounds i true) (a.put o.dst v') w' := by
     intro v v' h' w' hput hst
     obtain ⟨μ', q1, q2, q3⟩ := hst
     obtain ⟨p1, p2, p3, p4, p5⟩ := S.put_fields hput
     have hL : ∀ j, Lst (listed.setIfInBounds i true) j ↔ j = i ∨ Lst listed j := fun j => Lst.set hisz
     have hfar : ∀ j oj, ops[j]? = some oj → cls E oj.op ≤ 2 → lo (masks ops) (loudsOf E ops) j < dn.length + 1 → ∀ t, (t ∈ oj.looksAt ⟨ops⟩ ∨ oj.dst = some t) → s3.tm.get t = F.tm.get t := fun j oj hoj hcj hlo t ht => by
      rw [p4 t, if_neg]
      intro hdt
      rcases ht with h | h
      ·have hb := hok.tidy.looks i j o oj t ho hoj hdt h
       have : dn.length + 1 ≤ lo (masks ops) (loudsOf E ops) j := by
        unfold lo
        rw [hI.lou, List.filter_append, List.length_append]
        have h5 : dn.filter (fun l => bit (masks ops) j l) = dn := List.filter_eq_self.2 fun x hx => bit_trans hok.bk j hb (chained_pre hok.bk hch x hx)
        rw [h5, List.filter_cons_of_pos (by simpa using hb)]
        simp
       omega
      ·have := hok.tidy.one i j o oj t ho hoj hdt h
       subst this
       obtain rfl := Option.some.inj (ho.symm.trans hoj)
       omega
     have hwf : ∀ j oj, ops[j]? = some oj → cls E oj.op ≤ 2 → lo (masks ops) (loudsOf E ops) j < dn.length + 1 → wantedD ops oj s3.tm = wantedD ops oj F.tm := fun j oj hoj hcj hlo => wantedD_congr fun t ht => hfar j oj hoj hcj hlo t (.inl ht)
     have hpre : Inv E ops B s0 a0 μ0 w0 (listed.setIfInBounds i true) (dn ++ [i]) ls s3 μ' β (a.put o.dst v') w' (dn.length + 1) := by
      refine ⟨by rw [p3]; exact q2, by rw [p3]; exact hI.ext.trans q3, p2.trans hI.n, p1.trans hI.rd, by rw [put_size]; exact hI.sz, by rw [put_defers]; exact hI.df, by simp [hI.lsz], fun j oj hj hoj e he hb => ?_, by rw [hI.lou]; simp, fun x hx => ?_, fun x hx h => ?_, fun t ht => ?_,
       fun j oj dj hoj hcj hdj hn hlo => ?_, fun j oj hoj hcj hwj hn hlo => ?_, fun j j' oj oj' hoj hoj' hcj hcj' hwj hwj' hn hn' hlo hlo' hne => ?_⟩
      ·rcases (hL j).1 hj with rfl | h
       ·obtain rfl := Option.some.inj (ho.symm.trans hoj)
        exact (hL _).2 (.inr (hedges e he hb))
       ·exact (hL _).2 (.inr (hI.cl j oj h hoj e he hb))
      ·rcases List.mem_append.1 hx with h | h
       ·exact (hL x).2 (.inr (hI.ldn x h))
       ·exact (hL x).2 (.inl (by simpa using h))
      ·rcases (hL x).1 h with rfl | h
       ·have := bit_lt hok.bk x (chained_post hok.bk hch x hx)
        omega
       ·exact hI.lls x (by simp [hx]) h
      ·rw [p4 t, put_getD _ _ _ _ (fun t ht => by rw [hI.sz, ← hI.n]; exact p5 t ht)]
       split
       ·exact q1
       ·rename_i e
        refine (hI.tm t fun j oj hoj hdj => ?_).mono q3.mono
        rcases (hL j).1 (ht j oj hoj hdj) with rfl | h
        ·obtain rfl := Option.some.inj (ho.symm.trans hoj)
         exact absurd hdj e
        ·exact h
      ·have hn' : ¬ Lst listed j := fun h => hn ((hL j).2 (.inr h))
       refine (hI.re j oj dj hoj hcj hdj hn' hlo).move p2 (fun t ht => hfar j oj hoj hcj hlo t (.inl ht)) (hfar j oj hoj hcj hlo dj (.inr hdj)) (fun ob hwt hc u1 u2 => ?_)
       have hu := hI.un j oj hoj hc hwt hn' hlo
       rw [p3]
       exact ⟨by rw [(q3.unm _ u2 hu.1).2]; exact u1, Nat.lt_of_lt_of_le u2 q3.next⟩
      ·have hn' : ¬ Lst listed j := fun h => hn ((hL j).2 (.inr h))
       rw [hwf j oj hoj (by omega) hlo] at hwj
       have hu := hI.un j oj hoj hcj hwj hn' hlo
       rcases hok.kinds j oj hoj with hk | ⟨hk, dj, hdj⟩
       ·omega
       ·obtain ⟨_, r2, _⟩ := hI.re j oj dj hoj hk hdj hn' hlo
        obtain ⟨_, _, _, _, _, _, u2⟩ := (r2 hwj).2 hcj
        exact ⟨(q3.unm _ u2 hu.1).1, hu.2⟩
      ·rw [hwf j oj hoj (by omega) hlo] at hwj
       rw [hwf j' oj' hoj' (by omega) hlo'] at hwj'
       exact hI.inj j j' oj oj' hoj hoj' hcj hcj' hwj hwj' (fun h => hn ((hL j).2 (.inr h))) (fun h => hn' ((hL j').2 (.inr h))) hlo hlo' hne
     have hlfl : ∀ j oj, ops[j]? = some oj → cls E oj.op ≤ 2 → Lst (listed.setIfInBounds i true) j → lo (masks ops) (loudsOf E ops) j < dn.length + 1 := fun j oj hoj hcj hLj => by
      rcases (hL j).1 hLj with rfl | h
      ·obtain rfl := Option.some.inj (ho.symm.trans hoj)
       omega
      ·unfold lo
       rw [hI.lou, List.filter_append, List.length_append]
       have : (i :: ls).filter (fun l => bit (masks ops) j l) = [] := List.filter_eq_nil_iff.2 fun l hl hb => hI.lls l hl (closed_bit hok.bk hI.cl j h hb)
       rw [this]
       have := List.length_filter_le (fun l => bit (masks ops) j l) dn
       simp only [List.length_nil]; omega
     obtain ⟨F', β', hI', hck', hC'⟩ := stage (cl := cl) (yl := yl) hok hpre hlfl hrest
     have hlen : (dn ++ [i]).length = dn.length + 1 := by simp
     exact ih _ (dn ++ [i]) ls F' μ' β' _ w' (U.erase i) (by rw [hlen]; exact hI') (by rw [hlen]; exact hck') (by rw [hlen]; exact hC') hUe hUm
    unfold oneD at hone
    simp only [opDQ_eq] at hone
    split at hone
    ·rename_i hwt
     rw [if_pos hwt]
     split at hone
     ·rename_i v h' hop
      rw [opD_cls, hc3] at hop
      simp only [byCls] at hop
      rw [loudD_congr hxr] at hop
      have hout := (loudD_sim hE n hF hcl hyl hI.hr hTR hop).congr hexec
      exact hout.wpIn hF hdef fun v' w' hst => hafter v v' h' w' hone hst
     ·cases hone
    ·rename_i hwt
     rw [if_neg hwt]
     exact ⟨fun f _ => hF.fn f, hafter undef undef F.h w hone ⟨μ, VR.undef, hI.hr, Ext.refl _ _ _⟩⟩
  ·
   have hre := hI.re i o d ho hc2 hd hun (by omega)
   obtain ⟨r1, r2, r3⟩ := hre
   rw [hd]
   have hfin : ∀ μ' v' w', HR E B μ' F.h w' → Ext μ0 s0.h w0 μ' F.h w' → Mu.le μ μ' → VR E.ng μ' ((F.tm.get d).getD undef) v' →
     (∀ (j : Nat) (oj : Oper), ops[j]? = some oj → cls E oj.op = 2 → wantedD ops oj F.tm = true → ¬ Lst listed j → lo (masks ops) (loudsOf E ops) j < dn.length + 1 → j ≠ i → μ' (β j) = none) →
     wpAnyIn Fc n P .any ⟨ops⟩ Q fuel (listed.setIfInBounds i true) (a.put (some d) v') w' := fun μ' v' w' u1 u2 u3 u4 u5 =>
    ih _ dn ls F μ' β _ w' (U.erase i) (hI.float hok ho hc2 hd r1 hedges u1 u2 u3 u4 u5) hck hC hUe hUm
   cases hwt : wantedD ops o F.tm with
   | false =>
    simp only [Bool.false_eq_true, if_false]
    refine ⟨fun f _ => hF.fn f, hfin μ undef w hI.hr hI.ext (Mu.le_refl μ) (by rw [r3 hwt]; exact VR.undef) fun j oj hoj hcj hwj hn hlo _ => (hI.un j oj hoj hcj hwj hn hlo).1⟩
   | true =>
    simp only [if_true]
    have plain : ∀ v, (F.tm.get d).getD undef = v → ValOk P E μ w (execOp (restrE a o.op) o) v → o.wpIn Fc n P a w (wpAnyIn Fc n P .any ⟨ops⟩ Q fuel (listed.setIfInBounds i true)) Q := fun v hv hval => by
     obtain ⟨v', q1, q2⟩ := hval
     rw [hexec] at q1
     have hout : Out Fc n P a.eval o w (fun x y => x = v' ∧ y = w) := .inl ⟨v', w, q1, rfl, rfl⟩
     refine hout.wpIn hF hdef fun x y hxy => ?_
     obtain ⟨rfl, rfl⟩ := hxy
     rw [hd]
     exact hfin μ x y hI.hr hI.ext (Mu.le_refl μ) (by rw [hv]; exact q2) fun j oj hoj hcj hwj hn hlo _ => (hI.un j oj hoj hcj hwj hn hlo).1
    obtain ⟨r4, r5⟩ := r2 hwt
    have hcases : cls E o.op = 0 ∨ cls E o.op = 1 ∨ cls E o.op = 2 := by omega
    rcases hcases with hc | hc | hc
    ·obtain ⟨v, q1, q2⟩ := r4 hc
     rw [pureD_congr hxr] at q1
     exact plain v (by rw [q2]; rfl) (pureD_sim hE hTR q1)
    ·have q1 := recheck_spec hck ho hc hd hloi hhii hwt
     rw [readD_congr hxr] at q1
     exact plain _ rfl (readD_sim hE hI.hr hTR hc q1)
    ·obtain ⟨ob, mk, q1, q2, q3, q4, q5⟩ := r5 hc
     rw [allocD_congr hxr] at q1
     obtain ⟨hu1, hu2⟩ := hI.un i o ho hc hwt hun (by omega)
     obtain ⟨s, e1, ro, k, v', N, e, z, g1, g2⟩ := allocD_sim (w := w) hE hTR hc q1
     let m : Rb := ⟨w.heap.size, 0, N, e, z⟩
     have hle := hI.hr.le_set (m := m) hu1
     obtain ⟨g3, g4⟩ := g2 _ hle (β i) q4 (Mu.set_same μ (β i) m)
     have hbind := hI.hr.bind (k := k) (m := m) hu1 q5 q4 q3 rfl g4 (fun _ => rfl)
     have hext := hI.ext.bind (ro := ro) (k := k) (m := m) hI.hr hu1 hu2 rfl
     have hout : Out Fc n P a.eval o w (fun x y => x = v' ∧ y = pushW w ro k) := by
      refine .inl ⟨v', pushW w ro k, ?_, rfl, rfl⟩
      rw [← hexec, e1]; simp only [Sem.run_bind, g1, Result.andThen_ok, Sem.run_pure]
     refine hout.wpIn hF hdef fun x y hxy => ?_
     obtain ⟨rfl, rfl⟩ := hxy
     rw [hd]
     refine hfin _ x _ hbind hext hle (by rw [q2]; exact g3) fun j oj hoj hcj hwj hn hlo hne => ?_
     rw [Mu.set_other (hI.inj j i oj o hoj ho hcj hc hwj hwt hn hun hlo (by omega) hne)]
     exact (hI.un j oj hoj hcj hwj hn hlo).1
end
end Go.D
namespace Go.D
set_option maxRecDepth 100000
def X.out : X → Exit
 | .normal => .normal
 | .exit id => .exit id
 | .ret => .ret
def ExecOk (P : Program) (E : Env) (ex : ExecD) : Prop :=
 ∀ (F : Fence) (n B N0 : Nat) (c : Code) (s : S) (x : X) (s' : S) (μ : Mu) (a : Act) (w : World) (Q : Exit → Act → World → Prop), Wide F → St E B N0 F μ s a w → ex c s = some (x, s') →
  (∀ μ' a' w', St E B N0 F μ' s' a' w' → Ext μ s.h w μ' s'.h w' → Q x.out a' w') → c.wpIn F n P Q a w
structure EnvOk3 (P : Program) (E : Env) : Prop extends EnvOk2 P E where
 ext : ∀ f (args : List Value) v, E.chk f = false → callExt E f args = some v → ∀ (F : Fence) (n B : Nat) (μ : Mu) (h : H) (w : World), Wide F → HR E B μ h w →
  Does F n P f ⟨args⟩ w (fun e w' => e = .returned v ∧ HR E B μ h w' ∧ Ext μ h w μ h w')
 chk : ∀ f, E.chk f = true → ∀ (F : Fence) (n B : Nat) (μ : Mu) (h : H) (w : World) (p p' v : Value) (h' : H), Wide F → HR E B μ h w → VR E.ng μ p p' → checkD E h p = some (v, h') →
  Does F n P f ⟨[p']⟩ w (fun e w' => ∃ v', e = .returned v' ∧ StepOk E B μ h w h' w' v v')
section
variable {P : Program} {E : Env} {B N0 : Nat} {μ : Mu} {h h' : H} {w : World} {cl yl : CallD}
theorem Oper.wpIn_exits {F : Fence} {n : Nat} {o : Oper} {a : Act} {w : World} {K : Act → World → Prop} {Q Q' : Exit → Act → World → Prop} (hp : ∀ c a w, Q (.panic c) a w → Q' (.panic c) a w) (ho : LetsOut Q → LetsOut Q')
  (hh : o.wpIn F n P a w K Q) : o.wpIn F n P a w K Q' := by
 unfold Oper.wpIn at *
 refine ⟨hh.1, ?_⟩
 have hh := hh.2
 generalize (o.semAt F.round a.eval).run P w = r at *
 cases r with
 | ok x w' =>
  cases x <;> simp only [Oper.uponIn] at hh ⊢ <;>
   first
    | exact hh
    | exact ⟨hh.1, CallsIn.mono hh.2 (fun e w'' he => by cases e <;> first | exact he | exact hp _ _ _ he | exact ho he)⟩
    | exact ⟨hh.1, RoundIn.mono hh.2 (fun e w'' he => by cases e <;> first | exact he | exact hp _ _ _ he | exact ho he)⟩
 | halt x w' => cases x <;> simp only [Oper.uponIn] at hh ⊢ <;> first | exact hh | exact hp _ _ _ hh
def TailQ (F : Fence) (n : Nat) (P : Program) (ops : List Oper) (k : Nat) (Q : Exit → Act → World → Prop) : Exit → Act → World → Prop
 | .normal, a, w => wpOpIn F n P ⟨ops⟩ Q k (fun a w => Q .normal a w) a w
 | e, a, w => Q e a w
theorem getD_push {l : Array Bool} {i : Nat} {b d : Bool} (hi : i < l.size) : (l.push b).getD i d = l.getD i d := by
 rw [Array.getD_eq_getD_getElem?, Array.getD_eq_getD_getElem?, Array.getElem?_push, if_neg (by omega)]
theorem getD_push_self {l : Array Bool} {b d : Bool} : (l.push b).getD l.size d = b := by
 rw [Array.getD_eq_getD_getElem?, Array.getElem?_push, if_pos rfl]; rfl
theorem set_push {l : Array Bool} {i : Nat} {b : Bool} (hi : i < l.size) : (l.push b).setIfInBounds i true = (l.setIfInBounds i true).push b := by
 apply Array.ext_getElem?
 intro j
 rw [Array.getElem?_setIfInBounds, Array.getElem?_push, Array.getElem?_push, Array.getElem?_setIfInBounds]
 simp only [Array.size_push, Array.size_setIfInBounds]
 by_cases e : i = j
 ·subst e; rw [if_pos rfl, if_pos (by omega), if_neg (by omega), if_pos rfl, if_pos hi]
 ·rw [if_neg e, if_neg e]
theorem any_snoc {Fc : Fence} {n : Nat} {pre : List Oper} {o : Oper} {Q : Exit → Act → World → Prop} (hbk : backward (pre ++ [o]) 0 = true) (hall : ∀ i, i < pre.length → bit (masks (pre ++ [o])) pre.length i = true)
  (hg : ∀ x ∈ pre, ∀ j b, x.guard = some (j, b) → j < pre.length) :
  ∀ (fuel : Nat) (listed : Array Bool) (a : Act) (w : World), listed.size = pre.length → Closed (pre ++ [o]) (Lst (listed.push false)) → wpAnyIn Fc n P .any ⟨pre⟩ (TailQ Fc n P (pre ++ [o]) pre.length Q) fuel listed a w →
   wpAnyIn Fc n P .any ⟨pre ++ [o]⟩ Q (fuel + 1) (listed.push false) a w := by
 have hpre : ∀ i, i < pre.length → (pre ++ [o])[i]? = pre[i]? := fun i hi => List.getElem?_append_left hi
 have hlast : (pre ++ [o])[pre.length]? = some o := by rw [List.getElem?_append_right (Nat.le_refl _)]; simp
 have idx : ∀ (l : List Oper) (i : Nat), (⟨l⟩ : Array Oper)[i]? = l[i]? := fun l i => by simp
 have rdy : ∀ (listed : Array Bool) i, listed.size = pre.length → i < pre.length → (i ∈ Region.ready .any ⟨pre ++ [o]⟩ (listed.push false) ↔ i ∈ Region.ready .any ⟨pre⟩ listed) := by
  intro listed i hsz hi
  rw [mem_ready, mem_ready, getD_push (by omega), idx, idx, hpre i hi]
  refine and_congr Iff.rfl ⟨?_, ?_⟩ <;> rintro ⟨x, hx, he⟩ <;> refine ⟨x, hx, fun e h1 h2 => ?_⟩
  ·have hb := backward_spec _ 0 hbk i x (by rw [hpre i hi]; exact hx) e (by simpa using h1) h2
   rw [← getD_push (b := false) (by omega)]; exact he e h1 h2
  ·have hb := backward_spec _ 0 hbk i x (by rw [hpre i hi]; exact hx) e (by simpa using h1) h2
   rw [getD_push (by omega)]; exact he e h1 h2
 have lstP : ∀ (listed : Array Bool) i, i < listed.size → (Lst (listed.push false) i ↔ Lst listed i) := fun listed i hi => by unfold Lst; rw [getD_push hi]
 have full : ∀ (listed : Array Bool), listed.size = pre.length → Closed (pre ++ [o]) (Lst (listed.push false)) → pre.length ∈ Region.ready .any ⟨pre ++ [o]⟩ (listed.push false) → ∀ i, i < pre.length → Lst listed i := by
  intro listed hsz hcl hr i hi
  obtain ⟨_, x, hx, he⟩ := mem_ready.1 hr
  rw [idx, hlast] at hx
  cases hx
  exact (lstP listed i (by omega)).1 (ready_bit hbk hcl hlast (fun e h1 h2 => he e (by simpa using h1) h2) (hall i hi))
 have none_ready : ∀ (listed : Array Bool), listed.size = pre.length → (∀ i, i < pre.length → Lst listed i) → Region.ready .any ⟨pre⟩ listed = [] := by
  intro listed hsz hl
  cases hr : Region.ready .any ⟨pre⟩ listed with
  | nil => rfl
  | cons i r =>
   have hi : i ∈ Region.ready .any ⟨pre⟩ listed := by rw [hr]; simp
   obtain ⟨h1, x, hx, _⟩ := mem_ready.1 hi
   rw [idx] at hx
   have hlt := (List.getElem?_eq_some_iff.1 hx).1
   have h2 := hl i hlt
   unfold Lst at h2
   rw [Array.getD_eq_getD_getElem?, Array.getElem?_eq_getElem (by omega)] at h1 h2
   simp only [Option.getD_some] at h1 h2
   rw [h1] at h2; cases h2
 have all_of_none : ∀ (listed : Array Bool), listed.size = pre.length → Closed (pre ++ [o]) (Lst (listed.push false)) → Region.ready .any ⟨pre⟩ listed = [] → ∀ i, i < pre.length → Lst listed i := by
  intro listed hsz hcl hr i
  induction i using Nat.strongRecOn with
  | _ i ih =>
   intro hi
   by_cases hL : Lst listed i
   ·exact hL
   ·exfalso
    have ho : pre[i]? = some pre[i] := by simp [hi]
    have : i ∈ Region.ready .any ⟨pre⟩ listed := by
     refine mem_ready.2 ⟨?_, pre[i], by rw [idx]; exact ho, fun e he hb => ?_⟩
     ·unfold Lst at hL
      rw [Array.getD_eq_getD_getElem?, Array.getElem?_eq_getElem (by omega)] at hL ⊢
      simpa using hL
     ·have := backward_spec _ 0 hbk i _ (by rw [hpre i hi]; exact ho) e (by simpa using he) hb
      exact ih e.on (by omega) (by omega)
    rw [hr] at this
    cases this
 have last_ready : ∀ (listed : Array Bool), listed.size = pre.length → (∀ i, i < pre.length → Lst listed i) → pre.length ∈ Region.ready .any ⟨pre ++ [o]⟩ (listed.push false) := by
  intro listed hsz hl
  refine mem_ready.2 ⟨by rw [← hsz]; exact getD_push_self, o, by rw [idx]; exact hlast, fun e he hb => ?_⟩
  have hb' := backward_spec _ 0 hbk pre.length o hlast e (by simpa using he) hb
  rw [getD_push (by omega)]
  exact hl e.on (by omega)
 have done : ∀ (listed : Array Bool) (fuel : Nat) (a : Act) (w : World), listed.size = pre.length → (∀ i, i < pre.length → Lst listed i) → Q .normal a w → wpAnyIn Fc n P .any ⟨pre ++ [o]⟩ Q fuel ((listed.push false).setIfInBounds pre.length true) a w := by
  intro listed fuel a w hsz hl hq
  have hnil : Region.ready .any ⟨pre ++ [o]⟩ ((listed.push false).setIfInBounds pre.length true) = [] := by
   cases hr : Region.ready .any ⟨pre ++ [o]⟩ ((listed.push false).setIfInBounds pre.length true) with
   | nil => rfl
   | cons i r =>
    have hi : i ∈ Region.ready .any ⟨pre ++ [o]⟩ ((listed.push false).setIfInBounds pre.length true) := by rw [hr]; simp
    obtain ⟨h1, x, hx, _⟩ := mem_ready.1 hi
    rw [idx] at hx
    have hlt : i < pre.length + 1 := by have := (List.getElem?_eq_some_iff.1 hx).1; simpa using this
    rw [Array.getD_eq_getD_getElem?, Array.getElem?_setIfInBounds] at h1
    by_cases e : pre.length = i
    ·rw [if_pos e, if_pos (by simp; omega)] at h1; cases h1
    ·rw [if_neg e, ← Array.getD_eq_getD_getElem?, getD_push (by omega)] at h1
     have h2 := hl i (by omega)
     unfold Lst at h2
     rw [Array.getD_eq_getD_getElem?, Array.getElem?_eq_getElem (by omega)] at h1 h2
     simp only [Option.getD_some] at h1 h2
     rw [h1] at h2; cases h2
  cases fuel with
  | zero => exact ⟨hnil, hq⟩
  | succ k => exact ⟨fun _ => hq, fun i hi => by rw [hnil] at hi; cases hi⟩
 have move : ∀ (i : Nat) (K : Act → World → Prop) (a : Act) (w : World), i < pre.length → wpOpIn Fc n P ⟨pre⟩ (TailQ Fc n P (pre ++ [o]) pre.length Q) i K a w → wpOpIn Fc n P ⟨pre ++ [o]⟩ Q i K a w := by
  intro i K a w hi h
  unfold wpOpIn at *
  have e : pre[i]? = some pre[i] := by simp [hi]
  rw [idx, e] at h
  rw [idx, hpre i hi, e]
  simp only at h ⊢
  have hw : Region.wanted pre[i] (yielded ⟨pre ++ [o]⟩ a.tmps) = Region.wanted pre[i] (yielded ⟨pre⟩ a.tmps) := by
   unfold Region.wanted
   cases hgd : pre[i].guard with
   | none => rfl
   | some q =>
    obtain ⟨j, b⟩ := q
    have hj := hg _ (List.getElem_mem hi) j b hgd
    simp only [yielded, idx, hpre j hj]
  rw [hw]
  split at h
  ·rename_i hwt
   rw [if_pos hwt]
   exact Oper.wpIn_exits (fun c a w h => h) (fun ⟨a, w, h⟩ => ⟨a, w, h⟩) h
  ·rename_i hwt
   rw [if_neg hwt]; exact h
 intro fuel
 induction fuel with
 | zero =>
  intro listed a w hsz hcl h
  obtain ⟨h1, h2⟩ := h
  have hl := all_of_none listed hsz hcl h1
  refine ⟨fun he => ?_, fun i hi => ?_⟩
  ·have := last_ready listed hsz hl
   rw [he] at this; cases this
  ·by_cases q : i < pre.length
   ·have := (rdy listed i hsz q).1 hi
    rw [h1] at this; cases this
   ·obtain ⟨_, x, hx, _⟩ := mem_ready.1 hi
    rw [idx] at hx
    have hlt : i < pre.length + 1 := by have := (List.getElem?_eq_some_iff.1 hx).1; simpa using this
    obtain rfl : i = pre.length := by omega
    exact wpOpIn_mono (fun a w hq => done listed 0 a w hsz hl hq) h2
 | succ fuel ih =>
  intro listed a w hsz hcl h
  obtain ⟨h1, h2⟩ := h
  refine ⟨fun he => ?_, fun i hi => ?_⟩
  ·exfalso
   cases hr : Region.ready .any ⟨pre⟩ listed with
   | nil =>
    have := last_ready listed hsz (all_of_none listed hsz hcl hr)
    rw [he] at this; cases this
   | cons i r =>
    have hi : i ∈ Region.ready .any ⟨pre⟩ listed := by rw [hr]; simp
    obtain ⟨_, x, hx, _⟩ := mem_ready.1 hi
    rw [idx] at hx
    have := (rdy listed i hsz (List.getElem?_eq_some_iff.1 hx).1).2 hi
    rw [he] at this; cases this
  ·by_cases q : i < pre.length
   ·have hi' := (rdy listed i hsz q).1 hi
    refine move i _ a w q (wpOpIn_mono (fun a w hk => ?_) (h2 i hi'))
    rw [set_push (by omega)]
    refine ih _ a w (by simp [hsz]) (fun j x hj hx e he hb => ?_) hk
    rw [← set_push (by omega)] at hj ⊢
    have hL : ∀ t, Lst ((listed.push false).setIfInBounds i true) t ↔ t = i ∨ Lst (listed.push false) t := fun t => Lst.set (by simp; omega)
    rcases (hL j).1 hj with rfl | hj'
    ·obtain ⟨_, y, hy, hye⟩ := mem_ready.1 hi
     rw [idx, hx] at hy
     cases hy
     exact (hL _).2 (.inr (hye e (by simpa using he) hb))
    ·exact (hL _).2 (.inr (hcl j x hj' hx e he hb))
   ·obtain ⟨_, x, hx, _⟩ := mem_ready.1 hi
    rw [idx] at hx
    have hlt : i < pre.length + 1 := by have := (List.getElem?_eq_some_iff.1 hx).1; simpa using this
    obtain rfl : i = pre.length := by omega
    have hl := full listed hsz hcl hi
    exact wpOpIn_mono (fun a w hq => done listed (fuel + 1) a w hsz hl hq) (h1 (none_ready listed hsz hl))
theorem tailOk_spec {E : Env} {ops : List Oper} {o : Oper} (h : tailOk E ops = true) (ho : ops.getLast? = some o) :
  drawOk E ops.dropLast = true ∧ ops = ops.dropLast ++ [o] ∧ backward (ops.dropLast ++ [o]) 0 = true ∧ (∀ i, i < ops.dropLast.length → bit (masks (ops.dropLast ++ [o])) ops.dropLast.length i = true) ∧ ∀ x ∈ ops.dropLast, ∀ j b, x.guard = some (j, b) → j < ops.dropLast.length := by
 have e : ops.dropLast ++ [o] = ops := by
  rw [List.getLast?_eq_some_iff] at ho
  obtain ⟨l, rfl⟩ := ho
  rw [List.dropLast_concat]
 simp only [tailOk, Bool.and_eq_true, List.all_eq_true, List.mem_range] at h
 obtain ⟨⟨⟨h1, h2⟩, h3⟩, h4⟩ := h
 rw [e]
 refine ⟨h1, rfl, h2, fun i hi => ?_, fun x hx j b hg => ?_⟩
 ·rw [List.length_dropLast] at hi ⊢
  exact h3 i hi
 ·have := h4 x hx
  rw [hg] at this
  rw [List.length_dropLast]
  exact Nat.le_of_ble_eq_true this
theorem drawD_sim (hE : EnvOk2 P E) {F : Fence} {n : Nat} (hF : Wide F) (hcl : CallOk P E cl) (hyl : YieldOk P E yl) {ops : List Oper} {id : Nat} {s s' : S} {a : Act} {Q : Exit → Act → World → Prop}
  (hr : drawD E cl yl ops s = some s') (hs : St E B N0 F μ s a w) (hQ : ∀ μ' a' w', St E B N0 F μ' s' a' w' → Ext μ s.h w μ' s'.h w' → Q .normal a' w') : (Code.region id ⟨ops⟩ true).wpIn F n P Q a w := by
 unfold drawD at hr
 split at hr
 ·rename_i hd
  have hok := drawOk_spec hd
  refine wpIn_region_any hE.mixed ?_
  let w0 : World := { w with drawn := w.drawn + 1 }
  have hpre : Inv E ops B s a μ w0 (Array.replicate ops.length false) [] (loudsOf E ops) s μ (fun _ => 0) a w0 0 := by
   refine ⟨hs.hr.drawn _, Ext.refl _ _ _, rfl, rfl, hs.sz, rfl, by simp, fun j o hj => ?_, rfl, fun l hl => by simp at hl, fun l _ hl => ?_, fun t _ => hs.tm t, fun j o d _ _ _ _ hlo => by omega, fun j o _ _ _ _ hlo => by omega, fun j j' o o' _ _ _ _ _ _ _ _ hlo => by omega⟩
   ·unfold Lst at hj; rw [Array.getD_eq_getD_getElem?, Array.getElem?_replicate] at hj; split at hj <;> simp at hj
   ·unfold Lst at hl; rw [Array.getD_eq_getD_getElem?, Array.getElem?_replicate] at hl; split at hl <;> simp at hl
  have hnl : ∀ i o, ops[i]? = some o → cls E o.op ≤ 2 → Lst (Array.replicate ops.length false) i → lo (masks ops) (loudsOf E ops) i < 0 := fun i o _ _ hl => by
   unfold Lst at hl; rw [Array.getD_eq_getD_getElem?, Array.getElem?_replicate] at hl; split at hl <;> simp at hl
  obtain ⟨F1, β', hI, hck, hC⟩ := stage (cl := cl) (yl := yl) hok hpre hnl hr
  refine draw_any hE hF hcl hyl hok (fun μ' a' w' q1 q2 q3 q4 q5 q6 q7 => ?_) _ _ [] _ F1 μ β' a w0 (List.range ops.length) hI hck hC (by simp) (fun i hi _ => List.mem_range.2 hi)
  have hx : Ext μ s.h w μ' s'.h w' := (Ext.drawn (w.drawn + 1)).trans q2
  refine hQ μ' a' w' ⟨q1, by rw [q5, q3], q7, fun hrd => hs.rd (by rw [← q4]; exact hrd), ?_, Nat.le_trans hs.hN hx.size⟩ hx
  rw [q6]
  exact hs.marks.ext hx
 ·split at hr
  ·rename_i _ ht
   split at hr
   ·rename_i s1 h1
    split at hr
    ·rename_i o ho
     obtain ⟨hd, hop, hbk, hall, hgd⟩ := tailOk_spec ht ho
     have hok := drawOk_spec hd
     refine wpIn_region_any hE.mixed ?_
     generalize hpre : ops.dropLast = pre at *
     subst hop
     let w0 : World := { w with drawn := w.drawn + 1 }
     have hrep : Array.replicate (⟨pre ++ [o]⟩ : Array Oper).size false = (Array.replicate pre.length false).push false := by
      have : (⟨pre ++ [o]⟩ : Array Oper).size = pre.length + 1 := by simp
      rw [this, Array.replicate_succ]
     have hnf : ∀ i, ¬ Lst ((Array.replicate pre.length false).push false) i := fun i hl => by
      unfold Lst at hl
      rw [← Array.replicate_succ, Array.getD_eq_getD_getElem?, Array.getElem?_replicate] at hl
      split at hl <;> simp at hl
     have hnf' : ∀ i, ¬ Lst (Array.replicate pre.length false) i := fun i hl => by
      unfold Lst at hl
      rw [Array.getD_eq_getD_getElem?, Array.getElem?_replicate] at hl
      split at hl <;> simp at hl
     rw [hrep, show (⟨pre ++ [o]⟩ : Array Oper).size = pre.length + 1 by simp]
     refine any_snoc hbk hall hgd _ _ a w0 (by simp) (fun j x hj => absurd hj (hnf j)) ?_
     have hI0 : Inv E pre B s a μ w0 (Array.replicate pre.length false) [] (loudsOf E pre) s μ (fun _ => 0) a w0 0 := by
      refine ⟨hs.hr.drawn _, Ext.refl _ _ _, rfl, rfl, hs.sz, rfl, by simp, fun j o hj => absurd hj (hnf' j), rfl, fun l hl => by simp at hl, fun l _ hl => absurd hl (hnf' l), fun t _ => hs.tm t, fun j o d _ _ _ _ hlo => by omega, fun j o _ _ _ _ hlo => by omega, fun j j' o o' _ _ _ _ _ _ _ _ hlo => by omega⟩
     obtain ⟨F1, β', hI, hck, hC⟩ := stage (cl := cl) (yl := yl) hok hI0 (fun i o _ _ hl => absurd hl (hnf' i)) h1
     refine draw_any hE hF hcl hyl hok (fun μ' a' w' q1 q2 q3 q4 q5 q6 q7 => ?_) _ _ [] _ F1 μ β' a w0 (List.range pre.length) hI hck hC (by simp) (fun i hi _ => List.mem_range.2 hi)
     have hx : Ext μ s.h w μ' s1.h w' := (Ext.drawn (w.drawn + 1)).trans q2
     have hs1 : St E B N0 F μ' s1 a' w' := ⟨q1, by rw [q5, q3], q7, fun hrd => hs.rd (by rw [← q4]; exact hrd), by rw [q6]; exact hs.marks.ext hx, Nat.le_trans hs.hN hx.size⟩
     have hseq := seqD_sim hE (n := n) hF hcl hyl (ops := pre ++ [o]) (Q := Q) [o] pre.length s1 s' a' w' μ' (fun j => by
      rw [List.getElem?_append_right (Nat.le_add_right _ _), Nat.add_sub_cancel_left]) hr hs1 (fun μ2 a2 w2 g1 g2 => hQ μ2 a2 w2 g1 (hx.trans g2))
     have hseq' : wpOpsIn F n P ⟨pre ++ [o]⟩ Q [pre.length] a' w' := hseq
     rw [wpOpsIn_cons] at hseq'
     exact hseq'
    ·cases hr
   ·cases hr
  ·cases hr
theorem HR.rawPush (hh : HR E B μ h w) (ro : Go.Obj) : HR E B μ h (pushW w ro 0) ∧ Ext μ h w μ h (pushW w ro 0) := by
 have hsz : (pushW w ro 0).heap.size = w.heap.size + 1 := by simp [pushW]
 have hold : ∀ r, r < w.heap.size → (pushW w ro 0).heap[r]? = w.heap[r]? := fun r hr => by
  simp only [pushW, Array.getElem?_push]; rw [if_neg (by omega)]
 refine ⟨⟨by rw [hsz]; exact Nat.le_succ_of_le hh.base, hh.ngB, hh.ngn, fun c m hc => ?_, fun c m oc hc hg => ?_, hh.inj, fun g o v hv => ?_, hh.fresh, hh.own⟩,
  ⟨Mu.le_refl μ, rfl, rfl, rfl, by rw [hsz]; exact Nat.le_succ _, fun r hr _ => hold r hr, fun c hc hn => ⟨hn, rfl⟩, Nat.le_refl _, fun c m hc => .inl ⟨c, m, hc, rfl⟩⟩⟩
 ·obtain ⟨q1, q2, q3, q4⟩ := hh.dom c m hc
  exact ⟨q1, q2, q3, by rw [hsz]; exact Nat.lt_succ_of_lt q4⟩
 ·obtain ⟨ro2, q1, q2⟩ := hh.obj c m oc hc hg
  exact ⟨ro2, by rw [hold _ (hh.dom c m hc).2.2.2]; exact q1, q2⟩
 ·obtain ⟨q1, v', q2, q3⟩ := hh.glob g o v hv
  refine ⟨q1, v', q2, ?_⟩
  simp only [World.cell?] at q3 ⊢
  rw [hold g (by have := hh.ngB; have := hh.base; omega)]; exact q3
theorem HR.rawSet (hh : HR E B μ h w) {r : Nat} {ro : Go.Obj} (hB : B ≤ r) (hn : ∀ b m, μ b = some m → m.r ≠ r) : HR E B μ h (wset w r ro) := by
 refine ⟨by simpa [wset] using hh.base, hh.ngB, hh.ngn, fun c m hc => ?_, fun c m oc hc hg => ?_, hh.inj, fun g o v hv => ?_, hh.fresh, hh.own⟩
 ·obtain ⟨q1, q2, q3, q4⟩ := hh.dom c m hc
  exact ⟨q1, q2, q3, by simpa [wset] using q4⟩
 ·obtain ⟨ro2, q1, q2⟩ := hh.obj c m oc hc hg
  exact ⟨ro2, by rw [wset_other (hn c m hc)]; exact q1, q2⟩
 ·obtain ⟨q1, v', q2, q3⟩ := hh.glob g o v hv
  refine ⟨q1, v', q2, ?_⟩
  have : g ≠ r := by have := hh.ngB; omega
  simp only [World.cell?] at q3 ⊢
  rw [wset_other this]; exact q3
theorem Ext.rawSet {μ0 : Mu} {h0 : H} {w0 : World} (hx : Ext μ0 h0 w0 μ h w) {r : Nat} {ro : Go.Obj} (hr : w0.heap.size ≤ r) : Ext μ0 h0 w0 μ h (wset w r ro) :=
 ⟨hx.mono, hx.os, hx.tape, hx.output, by simpa [wset] using hx.size, fun k hk hn => by rw [wset_other (by omega)]; exact hx.kept k hk hn, hx.unm, hx.next, hx.img⟩
def resS (tmps : Array Value) : ResultVar → Sem Value
 | .tmp t => pure (tmps.getD t undef)
 | .cell a t => do loadVar t (← asAddr (tmps.getD a undef))
theorem results_list (hE : EnvOk2 P E) {s : S} {tmps : Array Value} (hh : HR E B μ s.h w) (ht : ∀ i, VR E.ng μ ((s.tm.get i).getD undef) (tmps.getD i undef)) :
  ∀ (rs : List ResultVar) (vs : List Value), resultsD E rs s = some vs → ∃ vs', LR E.ng μ vs vs' ∧ (rs.mapM (resS tmps)).run P w = .ok vs' w
 | [], vs, hr => by
  simp only [resultsD, optAll, Option.some.injEq] at hr; subst hr
  exact ⟨[], LR.nil, rfl⟩
 | r :: rs, vs, hr => by
  simp only [resultsD, optAll] at hr
  split at hr
  ·cases hr
  ·rename_i v hv
   split at hr
   ·cases hr
   ·rename_i vs2 hvs
    simp only [Option.some.injEq] at hr; subst hr
    obtain ⟨vs', q1, q2⟩ := results_list hE hh ht rs vs2 hvs
    have hone : ∃ v', VR E.ng μ v v' ∧ (resS tmps r).run P w = .ok v' w := by
     cases r with
     | tmp t =>
      simp only [Option.some.injEq] at hv; subst hv
      exact ⟨_, ht t, rfl⟩
     | cell a t =>
      simp only at hv
      obtain ⟨v', u1, u2⟩ := loadD_sim (P := P) hE hh hv (ht a)
      refine ⟨v', u2, ?_⟩
      simp only [resS]
      generalize hp : (s.tm.get a).getD undef = p at hv
      have hpv := ht a
      rw [hp] at hpv
      unfold loadD at hv
      split at hv
      ·rename_i b o
       rcases hpv.ptr_inv with ⟨o', he, hg, h1⟩ | ⟨m, o', he, hg, hm, h1⟩
       ·rw [h1] at u1 ⊢
        exact u1
       ·rw [h1] at u1 ⊢
        exact u1
      ·cases hv
    obtain ⟨v', u1, u2⟩ := hone
    refine ⟨v' :: vs', LR.cons u1 q1, ?_⟩
    simp only [List.mapM_cons, Sem.run_bind, u2, Result.andThen_ok, q2, Sem.run_pure]
def resV : List Value → Value
 | [v] => v
 | l => .tuple ⟨l⟩
theorem results_sim (hE : EnvOk2 P E) {s : S} {tmps : Array Value} (hh : HR E B μ s.h w) (ht : ∀ i, VR E.ng μ ((s.tm.get i).getD undef) (tmps.getD i undef)) {fn : Func} {vs : List Value} (hr : resultsD E fn.results.toList s = some vs) :
  ∃ v', VR E.ng μ (resV vs) v' ∧ (results fn tmps).run P w = .ok v' w := by
 obtain ⟨vs', q1, q2⟩ := results_list (P := P) hE hh ht fn.results.toList vs hr
 have hm : (fn.results.mapM (resS tmps)).run P w = .ok ⟨vs'⟩ w := by
  rw [Array.mapM_eq_mapM_toList]
  simp only [Sem.run_map, q2]
  rfl
 have hres : (results fn tmps).run P w = .ok (if h : (⟨vs'⟩ : Array Value).size = 1 then (⟨vs'⟩ : Array Value)[0] else .tuple ⟨vs'⟩) w := by
  have e : results fn tmps = (do
   let vs ← fn.results.mapM (resS tmps)
   pure (if h : vs.size = 1 then vs[0] else .tuple vs)) := rfl
  rw [e]
  simp only [Sem.run_bind]
  rw [hm]
  simp only [Result.andThen_ok, Sem.run_pure]
 cases vs with
 | nil =>
  have := q1.nil_inv; subst this
  exact ⟨_, .tuple (l := []) (l' := []) rfl (fun i v v' h => by simp at h), hres⟩
 | cons v vs =>
  obtain ⟨v', l', rfl, u1, u2⟩ := q1.cons_inv
  cases vs with
  | nil =>
   have := u2.nil_inv; subst this
   exact ⟨v', u1, hres⟩
  | cons v2 vs =>
   obtain ⟨v2', l2, rfl, _, _⟩ := u2.cons_inv
   exact ⟨.tuple ⟨v' :: v2' :: l2⟩, .tuple q1.1 q1.2, hres⟩
end
end Go.D
namespace Go.D
set_option maxRecDepth 100000
section
variable {P : Program} {E : Env} {B N0 : Nat} {μ : Mu} {h h' : H} {w : World} {cl yl : CallD}
theorem ofArgs_get : ∀ (args : List Value) (k : Nat) (t : Tr Value) (i : Nat), (ofArgs args k t).get i = if k ≤ i ∧ i < k + args.length then args[i - k]? else t.get i
 | [], k, t, i => by rw [if_neg (by simp only [List.length_nil]; omega)]; rfl
 | v :: l, k, t, i => by
  simp only [ofArgs]
  rw [ofArgs_get l (k + 1) (t.set k v) i, Tr.get_set]
  simp only [List.length_cons]
  by_cases h1 : k + 1 ≤ i ∧ i < k + 1 + l.length
  ·rw [if_pos h1, if_pos (by omega), show i - k = (i - (k + 1)) + 1 by omega]; simp
  ·rw [if_neg h1]
   by_cases h2 : k = i
   ·subst h2; rw [if_pos rfl, if_pos (by omega)]; simp
   ·rw [if_neg h2, if_neg (by omega)]
theorem leaves {F : Fence} {n : Nat} {fn : Func} {tmps : Array Value} {R : Ending → World → Prop} {μ0 : Mu} {h0 : H} {w0 : World} (hBN : B ≤ N0) (hw0 : w0.heap.size ≤ N0) :
  ∀ (ds : List Deferred) (w : World), MarkOk N0 μ w ds → HR E B μ h w → Ext μ0 h0 w0 μ h w →
   (∀ w', HR E B μ h w' → Ext μ0 h0 w0 μ h w' → ∃ v, (results fn tmps).run P w' = .ok v w' ∧ R (.returned v) w') → LeavesInM F n P fn tmps R ds .returning w
 | [], w, _, hh, hx, hR => hR w hh hx
 | d :: ds, w, hm, hh, hx, hR => by
  obtain ⟨r, h1, h2, h3, h4⟩ := hm.each d (by simp)
  have hr : r < w.heap.size := (Array.getElem?_eq_some_iff.1 h3).1
  have hap := List.pairwise_cons.1 hm.apart
  refine ⟨by simp, .inl ⟨r, wset w r (.deferred none), h1, run_takeDeferred h3, ?_⟩⟩
  refine leaves hBN hw0 ds _ ⟨fun d' hd' => ?_, hap.2⟩ (hh.rawSet (by omega) h4) (hx.rawSet (by omega)) hR
  obtain ⟨r', q1, q2, q3, q4⟩ := hm.each d' (by simp [hd'])
  have hne : r' ≠ r := fun e => hap.1 d' hd' r h1 (by rw [q1, e])
  exact ⟨r', q1, q2, by rw [wset_other hne]; exact q3, q4⟩
theorem call_enter (hE : EnvOk2 P E) {ex : ExecD} (hx : ExecOk P E ex) {F : Fence} (n : Nat) (hF : Wide F) {f : Nat} {Fn : Func} {args args' : List Value} {v : Value} (hf : E.fn f = some Fn) (hc : E.chk f = false) (hce : callExt E f args = none)
  (hh : HR E B μ h w) (hL : LR E.ng μ args args') (hr : callD E ex f args h = some (v, h')) :
  (callFunc f ⟨args'⟩).run P w = .ok (.enter f ⟨args'⟩) w ∧ CallsIn F n P f ⟨args'⟩ w (fun e w' => ∃ v', e = .returned v' ∧ StepOk E B μ h w h' w' v v') := by
 obtain ⟨hPf, hname⟩ := hE.fn f Fn hf
 unfold callD at hr
 rw [hc, hf, hce] at hr
 simp only [Bool.false_eq_true, if_false] at hr
 split at hr
 ·cases hr
 ·rename_i c hbody
  split at hr
  ·rename_i hlen
   have hlen := Nat.le_of_ble_eq_true hlen
   refine ⟨?_, ?_⟩
   ·simp only [callFunc, Sem.run_bind, run_program, Result.andThen_ok, hPf, hname, Bool.false_eq_true, if_false, hbody, Option.isNone_some, Sem.run_pure]
   ·show CallsIn F.plain n P f ⟨args'⟩ w _
    have hFp : Wide F.plain := ⟨hF.fn, hF.depth, hF.alive⟩
    split at hr
    ·cases hr
    ·rename_i x s hnex hex
     have hfin : ∀ vs, resultsD E Fn.results.toList s = some vs → v = resV vs → h' = s.h → CallsIn F.plain n P f ⟨args'⟩ w (fun e w' => ∃ v', e = .returned v' ∧ StepOk E B μ h w h' w' v v') := by
      intro vs hvs hv hh'
      subst hv; subst hh'
      have hst : St E B w.heap.size F.plain μ ⟨false, Fn.ntmps, ofArgs args 0 .leaf, h⟩ { tmps := (⟨args'⟩ : Array Value) ++ Array.replicate (Fn.ntmps - (⟨args'⟩ : Array Value).size) undef, defers := [] } w := by
       refine ⟨hh, ?_, fun i => ?_, fun _ => rfl, MarkOk.nil, Nat.le_refl _⟩
       ·simp only [Array.size_append, Array.size_replicate]
        have : (⟨args'⟩ : Array Value).size = args'.length := rfl
        rw [this, ← hL.1]; omega
       ·show VR E.ng μ (((ofArgs args 0 .leaf).get i).getD undef) _
        rw [ofArgs_get]
        simp only [Nat.zero_le, true_and, Nat.zero_add, Nat.sub_zero]
        rw [Array.getD_eq_getD_getElem?]
        by_cases hi : i < args.length
        ·rw [if_pos hi]
         obtain ⟨u, u1, u2⟩ := hL.get (List.getElem?_eq_getElem hi)
         have hi' : i < (⟨args'⟩ : Array Value).size := by show i < args'.length; rw [← hL.1]; exact hi
         rw [Array.getElem?_append_left hi']
         have e2 : (⟨args'⟩ : Array Value)[i]? = args'[i]? := by simp
         rw [e2, u1, List.getElem?_eq_getElem hi]
         exact u2
        ·rw [if_neg hi]
         have hi' : (⟨args'⟩ : Array Value).size ≤ i := by show args'.length ≤ i; rw [← hL.1]; omega
         rw [Array.getElem?_append_right hi', Array.getElem?_replicate]
         simp only [Tr.get]
         split <;> exact VR.undef
      refine callsIn_of_wp_marks hPf hbody (hF.fn f) ?_ rfl
      refine hx F.plain n B w.heap.size c _ x s μ _ w _ hFp hst hex fun μ' a' w' hs' hx' => ?_
      have hlv : LeavesInM F.plain n P Fn a'.tmps (fun e w' => ∃ v', e = .returned v' ∧ StepOk E B μ h w s.h w' (resV vs) v') a'.defers .returning w' := by
       refine leaves (μ0 := μ) (h0 := h) (w0 := w) hh.base (Nat.le_refl _) _ w' hs'.marks hs'.hr hx' fun w2 k1 k2 => ?_
       obtain ⟨v', u1, u2⟩ := results_sim (P := P) hE (tmps := a'.tmps) k1 hs'.tm hvs
       exact ⟨v', u2, v', rfl, μ', u1, k1, k2⟩
      cases x with
      | normal => exact hlv
      | ret => exact hlv
      | exit id => exact (hnex id rfl).elim
     split at hr
     ·rename_i v0 hres
      simp only [Option.some.injEq, Prod.mk.injEq] at hr
      exact hfin [v0] hres hr.1.symm hr.2.symm
     ·rename_i l hne hres
      simp only [Option.some.injEq, Prod.mk.injEq] at hr
      refine hfin l hres ?_ hr.2.symm
      rw [← hr.1]
      cases l with
      | nil => rfl
      | cons a l =>
       cases l with
       | nil => exact absurd rfl (hne a)
       | cons b l => rfl
     ·cases hr
    ·cases hr
  ·cases hr
theorem callExt_afree {f : Nat} {args : List Value} {v : Value} (h : callExt E f args = some v) : args.all (afree 4) = true ∧ afree 4 v = true := by
 unfold callExt at h
 split at h
 ·split at h
  ·rename_i h2
   simp only [Bool.and_eq_true] at h2
   cases h
   exact h2
  ·cases h
 ·cases h
theorem callExt_yield {f l : Nat} {a c : List Value} : callExt E f (a ++ [.func (.yield l) #[] #[]] ++ c) = none := by
 cases h : callExt E f (a ++ [.func (.yield l) #[] #[]] ++ c) with
 | none => rfl
 | some v =>
  have := (callExt_afree h).1
  simp [afree] at this
theorem callOk (hE : EnvOk3 P E) {ex : ExecD} (hx : ExecOk P E ex) : CallOk P E (callD E ex) := by
 intro F n B μ h w f args args' v h' hF hh hL hr
 cases hc : E.chk f with
 | true =>
  unfold callD at hr
  rw [hc] at hr
  simp only [if_true] at hr
  split at hr
  ·rename_i p
   obtain ⟨p', l', rfl, hp, hl'⟩ := hL.cons_inv
   have := hl'.nil_inv; subst this
   exact hE.chk f hc F n B μ h w p p' v h' hF hh hp hr
  ·cases hr
 | false =>
  cases hce : callExt E f args with
  | some v0 =>
   unfold callD at hr
   rw [hc, hce] at hr
   simp only [Bool.false_eq_true, if_false, Option.some.injEq, Prod.mk.injEq] at hr
   obtain ⟨rfl, rfl⟩ := hr
   obtain ⟨ha, hva⟩ := callExt_afree hce
   rw [← hL.afree_eq ha]
   have hd := hE.ext f args v0 hc hce F n B μ h w hF hh
   rcases hd with ⟨q1, q2⟩ | ⟨v1, q1, q2⟩
   ·exact .inl ⟨q1, q2.mono fun e w' hr' => by
     obtain ⟨rfl, k1, k2⟩ := hr'
     exact ⟨v0, rfl, μ, VR.of_afree 4 _ hva, k1, k2⟩⟩
   ·obtain ⟨k0, k1, k2⟩ := q2
    cases k0
    exact .inr ⟨v0, q1, v0, rfl, μ, VR.of_afree 4 _ hva, k1, k2⟩
  | none =>
   cases hf : E.fn f with
   | some Fn => exact .inl (call_enter hE.toEnvOk2 hx n hF hf hc hce hh hL hr)
   | none =>
    unfold callD at hr
    rw [hc, hf, hce] at hr
    simp at hr
end
end Go.D
namespace Go.D
set_option maxRecDepth 100000
section
variable {P : Program} {E : Env} {B N0 : Nat} {μ : Mu} {h h' : H} {w : World} {cl yl : CallD}
theorem set_sim : ∀ (ps : List Nat) (args args' : List Value) (tm tm' : Tr Value) (tmps : Array Value), setTmps ps args tm = some tm' → LR E.ng μ args args' → (∀ i, VR E.ng μ ((tm.get i).getD undef) (tmps.getD i undef)) → (∀ p ∈ ps, p < tmps.size) →
  args'.length = ps.length ∧ ((ps.zip args').foldl (fun tmps (t, a) => tmps.setIfInBounds t a) tmps).size = tmps.size ∧
   ∀ i, VR E.ng μ ((tm'.get i).getD undef) (((ps.zip args').foldl (fun tmps (t, a) => tmps.setIfInBounds t a) tmps).getD i undef)
 | [], [], args', tm, tm', tmps, hs, hL, ht, _ => by
  simp only [setTmps, Option.some.injEq] at hs; subst hs
  have := hL.nil_inv; subst this
  exact ⟨rfl, rfl, ht⟩
 | p :: ps, v :: vs, args', tm, tm', tmps, hs, hL, ht, hp => by
  obtain ⟨v', l', rfl, hv, hl⟩ := hL.cons_inv
  simp only [setTmps] at hs
  obtain ⟨q1, q2, q3⟩ := set_sim ps vs l' (tm.set p v) tm' (tmps.setIfInBounds p v') hs hl (fun i => by
   rw [Tr.get_set]
   by_cases e : p = i
   ·subst e
    have := hp p (by simp)
    simp [Array.getD, this, hv]
   ·simp only [if_neg e, Array.getD_eq_getD_getElem?, Array.getElem?_setIfInBounds_ne e]
    have := ht i
    rw [Array.getD_eq_getD_getElem?] at this
    exact this) (fun q hq => by simpa using hp q (by simp [hq]))
  refine ⟨by simp [q1], ?_, ?_⟩
  ·simp only [List.zip_cons_cons, List.foldl_cons]; rw [q2]; simp
  ·simp only [List.zip_cons_cons, List.foldl_cons]; exact q3
 | [], _ :: _, _, _, _, _, hs, _, _, _ => by simp [setTmps] at hs
 | _ :: _, [], _, _, _, _, hs, _, _, _ => by simp [setTmps] at hs
theorem putObj_wset {r : Nat} {o : Go.Obj} : w.putObj r o = wset w r o := rfl
theorem HR.loop (hh : HR E B μ h w) {l n st : Nat} {m : Rb} {tm : Tr Value} {ps : List Nat} {as body : Code} {pe : Option Code} (hm : μ l = some m) (ho : h.get l = some (.loop n tm ps as body st pe)) :
  ∃ r : Loop, w.heap[m.r]? = some (.loop r) ∧ r.state = (if st = 0 then .ready else if st = 1 then .busy else .done) ∧ r.pending = pe ∧ r.params.toList = ps ∧ r.assign = as ∧ r.body = body ∧ r.tmps.size = n ∧
   ∀ i, VR E.ng μ ((tm.get i).getD undef) (r.tmps.getD i undef) := by
 obtain ⟨ro, q1, q2⟩ := hh.obj l m _ hm ho
 cases ro <;> simp only [ObjR] at q2
 exact ⟨_, q1, q2⟩
theorem X.out_code {x : X} (he : x.code = none) : x = .normal := by cases x <;> simp [X.code] at he ⊢
theorem yieldOk {ex : ExecD} (hx : ExecOk P E ex) : YieldOk P E (roundD E ex) := by
 intro F n B μ h w l m args args' v h' hF hh hm hL hr
 unfold roundD at hr
 split at hr
 ·cases hr
 ·split at hr
  ·rename_i n0 tm ps as body p hob
   split at hr
   ·rename_i hps
    obtain ⟨r, r1, r2, r3, r4, r5, r6, r7, r8⟩ := hh.loop hm hob
    split at hr
    ·cases hr
    ·rename_i tm' hset
     have hps' : ∀ p ∈ ps, p < r.tmps.size := fun p hp => by
      have := List.all_eq_true.1 hps p hp
      rw [r7]; simpa [Nat.blt_eq] using this
     obtain ⟨s1, s2, s3⟩ := set_sim ps args args' tm tm' r.tmps hset hL r8 hps'
     have hzip : (r.params.zip ⟨args'⟩).foldl (fun tmps (t, a) => tmps.setIfInBounds t a) r.tmps = (ps.zip args').foldl (fun tmps (t, a) => tmps.setIfInBounds t a) r.tmps := by
      rw [← Array.foldl_toList, Array.toList_zip, r4]
     have hsz : (⟨args'⟩ : Array Value).size = r.params.size := by
      show args'.length = _
      rw [s1, ← r4]; simp
     have hyld := run_yield (P := P) (args := ⟨args'⟩) r1 hsz
     rw [hzip, r5, r6] at hyld
     refine ⟨_, _, _, _, hyld, ?_⟩
     have hFr : Wide (F.inRound m.r) := ⟨hF.fn, hF.depth, hF.alive⟩
     refine roundIn_of_wpIn (hF.fn _) ?_
     split at hr
     ·rename_i sa hexa
      have hst0 : St E B w.heap.size (F.inRound m.r) μ ⟨true, n0, tm', h⟩ { tmps := (ps.zip args').foldl (fun tmps (t, a) => tmps.setIfInBounds t a) r.tmps, defers := [] } w :=
       ⟨hh, by rw [s2]; exact r7, s3, fun hrd => (by cases hrd), MarkOk.nil, Nat.le_refl _⟩
      refine hx (F.inRound m.r) n B w.heap.size as _ .normal sa μ _ w _ hFr hst0 hexa fun μ1 a1 w1 hs1 hx1 => ?_
      split at hr
      ·rename_i n2 tm2 ps2 as2 body2 p2 hob2
       have hm1 := hx1.mono l m hm
       obtain ⟨ra, t1, t2, t3, t4, t5, t6, t7, t8⟩ := hs1.hr.loop hm1 hob2
       simp only [if_true] at t2
       have hobr : ObjR E.ng μ1 m (.loop n2 tm2 ps2 as2 body2 1 p2) (.loop { ra with state := .busy }) := ⟨rfl, t3, t4, t5, t6, t7, t8⟩
       obtain ⟨u1, u2⟩ := hs1.hr.write hm1 hob2 hobr
       refine ⟨_, run_beginRound t1 t2, ?_⟩
       rw [putObj_wset]
       split at hr
       ·rename_i x sb hexb
        have hst1 : St E B w.heap.size (F.inRound m.r) μ1 ⟨true, sa.n, sa.tm, sa.h.put l (.loop n2 tm2 ps2 as2 body2 1 p2)⟩ a1 (wset w1 m.r (.loop { ra with state := .busy })) :=
         ⟨u1, hs1.sz, hs1.tm, fun hrd => (by cases hrd), hs1.marks.ext u2, Nat.le_trans hs1.hN u2.size⟩
        refine hx (F.inRound m.r) n B w.heap.size body _ x sb μ1 a1 _ _ hFr hst1 hexb fun μ2 a2 w2 hs2 hx2 => ?_
        split at hr
        ·rename_i n3 tm3 ps3 as3 body3 p3 hob3
         simp only [Option.some.injEq, Prod.mk.injEq] at hr
         obtain ⟨rfl, rfl⟩ := hr
         have hm2 := hx2.mono l m hm1
         obtain ⟨rb, k1, k2, k3, k4, k5, k6, k7, k8⟩ := hs2.hr.loop hm2 hob3
         have fin : ∀ jump, x.code = jump → ∃ v w', (Instr.endRound m.r jump).run P w2 = .ok v w' ∧ ∃ v', (Ending.returned v) = .returned v' ∧
           StepOk E B μ h w (sb.h.put l (.loop n3 tm3 ps3 as3 body3 (if x.code.isNone then 0 else 2) x.code)) w' (.bool x.code.isNone) v' := fun jump hj => by
          subst hj
          have hobr3 : ObjR E.ng μ2 m (.loop n3 tm3 ps3 as3 body3 (if x.code.isNone then 0 else 2) x.code) (.loop { rb with state := if x.code.isNone then .ready else .done, pending := x.code }) := by
           refine ⟨?_, rfl, k4, k5, k6, k7, k8⟩
           cases x.code <;> simp
          obtain ⟨y1, y2⟩ := hs2.hr.write hm2 hob3 hobr3
          exact ⟨_, _, run_endRound x.code k1, _, rfl, μ2, .bool _, y1, ((hx1.trans u2).trans hx2).trans y2⟩
         cases x with
         | normal => exact fin none rfl
         | ret => exact fin (some .ret) rfl
         | exit id => exact fin (some (.exit id)) rfl
        ·cases hr
       ·cases hr
      ·cases hr
     ·cases hr
   ·cases hr
  ·cases hr
def rangeEnd (s : S) (h2 : H) : Option (X × S) :=
 match h2.get s.h.next with
 | some (.loop _ _ _ _ _ st p) => if st == 1 then none else
  (match p with
  | none => some (.normal, ⟨s.rd, s.n, s.tm, h2.kill s.h.next⟩)
  | some .ret => some (.ret, ⟨s.rd, s.n, s.tm, h2.kill s.h.next⟩)
  | some (.exit id) => some (.exit id, ⟨s.rd, s.n, s.tm, h2.kill s.h.next⟩)
  | _ => none)
 | _ => none
theorem range_post {F : Fence} {n : Nat} {s s' : S} {x : X} {a : Act} {Q : Exit → Act → World → Prop} {w2 w3 : World} {m : Rb} {μ2 μ3 : Mu} {h1 h2 : H} {mk : List Deferred}
  (hs : St E B N0 F μ s a w) (hmk : MarkOk N0 μ2 w2 (mk ++ a.defers)) (hx2 : Ext μ s.h w μ2 h1 w2) (hm2 : μ2 s.h.next = some m) (q2 : HR E B μ3 h2 w3) (q3 : Ext μ2 h1 w2 μ3 h2 w3)
  (hr : rangeEnd s h2 = some (x, s')) (hQ : ∀ μ' a' w', St E B N0 F μ' s' a' w' → Ext μ s.h w μ' s'.h w' → Q x.out a' w') (v' : Value) :
  rangePost F n P m.r Q { a with defers := mk ++ a.defers } (.returned v') w3 := by
 have hm3 := q3.mono _ _ hm2
 have hmk3 := hmk.ext q3
 unfold rangeEnd at hr
 split at hr
 ·rename_i n4 tm4 ps4 as4 body4 st pe hob4
  split at hr
  ·cases hr
  ·rename_i hst
   have hst' : st ≠ 1 := by simpa using hst
   obtain ⟨r4, k1, k2, k3, k4⟩ := q2.loop hm3 hob4
   have hb4 : r4.state ≠ .busy := by
    rw [k2]
    by_cases h0 : st = 0
    ·simp [h0]
    ·simp [h0, hst']
   have hend := run_endLoop (P := P) k1 hb4
   obtain ⟨y1, y2⟩ := q2.done (ro' := .loop { r4 with state := .exhausted }) hm3 hob4
   rw [putObj_wset] at hend
   generalize wset w3 m.r (.loop { r4 with state := .exhausted }) = w4 at hend y1 y2
   rw [k3] at hend
   refine ⟨pe, w4, hend, ?_⟩
   have hxx := (hx2.trans q3).trans y2
   have hsN : St E B N0 F μ3 ⟨s.rd, s.n, s.tm, h2.kill s.h.next⟩ { a with defers := mk ++ a.defers } w4 :=
    ⟨y1, hs.sz, fun i => (hs.tm i).mono (Mu.le_trans hx2.mono (Mu.le_trans q3.mono y2.mono)), hs.rd, hmk3.ext y2, Nat.le_trans hs.hN hxx.size⟩
   split at hr
   ·simp only [Option.some.injEq, Prod.mk.injEq] at hr
    obtain ⟨rfl, rfl⟩ := hr
    exact hQ _ _ _ hsN hxx
   ·simp only [Option.some.injEq, Prod.mk.injEq] at hr
    obtain ⟨rfl, rfl⟩ := hr
    exact wpIn_ret (hQ _ _ _ hsN hxx)
   ·simp only [Option.some.injEq, Prod.mk.injEq] at hr
    obtain ⟨rfl, rfl⟩ := hr
    exact wpIn_exit (hQ _ _ _ hsN hxx)
   ·cases hr
 ·cases hr
theorem range_enter {F : Fence} {s : S} {a : Act} (hs : St E B N0 F μ s a w) (fn : FuncId) (ps : Array Tmp) (as body : Code) :
  ∃ (w2 : World) (m : Rb) (μ2 : Mu), m.r = w.heap.size + 1 ∧ (Instr.enterLoop fn a.tmps ps as body none).run P w = .ok (m.r, [{ target := .collected w.heap.size, args := #[] }]) w2 ∧
   HR E B μ2 (s.h.push (.loop s.n s.tm ps.toList as body 0 none)) w2 ∧ Ext μ s.h w μ2 (s.h.push (.loop s.n s.tm ps.toList as body 0 none)) w2 ∧ E.ng ≤ s.h.next ∧ μ2 s.h.next = some m ∧
   MarkOk N0 μ2 w2 ([{ target := .collected w.heap.size, args := #[] }] ++ a.defers) := by
 have henter := run_enterLoop_outer (P := P) (w := w) fn a.tmps ps as body
 generalize hrec : ({ state := .ready, pending := none, fn := fn, tmps := a.tmps, params := ps, assign := as, body := body, defers := w.heap.size } : Loop) = rec0 at henter
 obtain ⟨p1, p2⟩ := hs.hr.rawPush (.deferred (some []))
 generalize hw1 : pushW w (.deferred (some [])) 0 = w1 at p1 p2
 have hw1s : w1.heap.size = w.heap.size + 1 := by rw [← hw1]; simp [pushW]
 have hw1d : w1.heap[w.heap.size]? = some (.deferred (some [])) := by rw [← hw1]; show (w.heap.push (.deferred (some [])))[w.heap.size]? = _; simp only [Array.getElem?_push_size]
 have hle := p1.le_set (m := ⟨w1.heap.size, 0, 0, 0, 0⟩) (p1.unmapped (Nat.le_refl s.h.next))
 have hobr : ObjR E.ng (μ.set s.h.next ⟨w1.heap.size, 0, 0, 0, 0⟩) ⟨w1.heap.size, 0, 0, 0, 0⟩ (.loop s.n s.tm ps.toList as body 0 none) (.loop rec0) := by
  rw [← hrec]
  exact ⟨rfl, rfl, rfl, rfl, rfl, hs.sz, fun i => (hs.tm i).mono hle⟩
 obtain ⟨u1, u2⟩ := p1.new (k := 0) (m := ⟨w1.heap.size, 0, 0, 0, 0⟩) rfl hobr (fun _ => rfl)
 have hw2 : (w.alloc (.deferred (some []))).alloc (.loop rec0) = pushW w1 (.loop rec0) 0 := by rw [← hw1]; rfl
 rw [hw2] at henter
 have hnew : (pushW w1 (.loop rec0) 0).heap[w.heap.size]? = w1.heap[w.heap.size]? := by
  simp only [pushW, Array.getElem?_push]; rw [if_neg (by omega)]
 generalize pushW w1 (.loop rec0) 0 = w2 at henter u1 u2 hnew
 refine ⟨w2, ⟨w1.heap.size, 0, 0, 0, 0⟩, μ.set s.h.next ⟨w1.heap.size, 0, 0, 0, 0⟩, hw1s, by rw [henter]; show _ = Result.ok (w1.heap.size, _) w2; rw [hw1s], u1, p2.trans u2, hs.hr.ngn, Mu.set_same _ _ _, ?_⟩
 have hoff1 : ∀ b mb, (μ.set s.h.next ⟨w1.heap.size, 0, 0, 0, 0⟩) b = some mb → mb.r ≠ w.heap.size := fun b mb hb e => by
  by_cases eb : b = s.h.next
  ·subst eb; rw [Mu.set_same] at hb; cases hb
   simp only at e; omega
  ·rw [Mu.set_other eb] at hb
   have := (hs.hr.dom b mb hb).2.2.2
   omega
 have hold := (hs.marks.ext p2).ext u2
 refine ⟨fun d hd => ?_, List.pairwise_cons.2 ⟨fun d hd r hr => ?_, hold.apart⟩⟩
 ·rcases List.mem_cons.1 hd with rfl | hd
  ·exact ⟨w.heap.size, rfl, hs.hN, by rw [hnew]; exact hw1d, hoff1⟩
  ·exact hold.each d hd
 ·cases hr
  intro hd'
  obtain ⟨r2, z1, _, z3, _⟩ := hs.marks.each d hd
  rw [hd'] at z1; cases z1
  have := (Array.getElem?_eq_some_iff.1 z3).1
  omega
theorem rangeD_sim (hE : EnvOk2 P E) {ex : ExecD} (hx : ExecOk P E ex) {F : Fence} {n : Nat} (hF : Wide F) {g : Operand} {ps : Array Tmp} {as body : Code} {s s' : S} {x : X} {a : Act} {Q : Exit → Act → World → Prop} (hrd : s.rd = false)
  (hs : St E B N0 F μ s a w) (hr : rangeD E (callD E ex) g ps.toList as body s = some (x, s')) (hQ : ∀ μ' a' w', St E B N0 F μ' s' a' w' → Ext μ s.h w μ' s'.h w' → Q x.out a' w') :
  (Code.rangeFunc g ps as body).wpIn F n P Q a w := by
 unfold rangeD at hr
 split at hr
 ·rename_i f fa fc hg
  split at hr
  ·cases hr
  ·rename_i hfc
   simp only [Bool.or_eq_true, not_or, Bool.not_eq_true] at hfc
   obtain ⟨hchk, hfn⟩ := hfc
   cases hfe : E.fn f with
   | none => rw [hfe] at hfn; cases hfn
   | some Fn =>
    have hround : F.round = none := hs.rd hrd
    refine wpIn_rangeFunc fun fn _ => ?_
    rw [hround]
    obtain ⟨a', c', he, hLa, hLc⟩ := (ev_sim hs.TR hg).func_inv
    obtain ⟨w2, m, μ2, hmr, henter, u1, u2, hng, hm2, hmk⟩ := range_enter (P := P) hs fn ps as body
    split at hr
    ·rename_i v0 h2 hcall
     have hyv : VR E.ng μ2 (.func (.yield s.h.next) #[] #[]) (.func (.yield m.r) #[] #[]) := .yld hng hm2
     have hL : LR E.ng μ2 (fa.toList ++ [.func (.yield s.h.next) #[] #[]] ++ fc.toList) (a'.toList ++ [.func (.yield m.r) #[] #[]] ++ c'.toList) :=
      ((hLa.mono u2.mono).append (LR.cons hyv LR.nil)).append (hLc.mono u2.mono)
     obtain ⟨e1, e2⟩ := call_enter hE hx (n - 1) hF hfe hchk callExt_yield u1 hL hcall
     have hargs : (a' ++ #[Value.func (.yield m.r) #[] #[]]) ++ c' = ⟨a'.toList ++ [.func (.yield m.r) #[] #[]] ++ c'.toList⟩ := by
      apply Array.toList_inj.1
      simp only [Array.toList_append]
     refine ⟨m.r, _, w2, { target := .fn (.func f) c', args := a' ++ #[.func (.yield m.r) #[] #[]] }, w2, f, _, w2, henter, ?_, fun f' _ => hF.fn f', ?_, fun hd => (by rw [hF.depth] at hd; cases hd), e2.mono fun e w3 hr3 => ?_⟩
     ·simp only [resolve, rangeCall, he, Deferred.ofValue, Sem.run_pure]
      simp [Act.eval]
     ·simp only [invoke, hargs]
      exact e1
     ·obtain ⟨v', rfl, μ3, q1, q2, q3⟩ := hr3
      exact range_post hs hmk u2 hm2 q2 q3 hr hQ v'
    ·cases hr
 ·cases hr
end
end Go.D
namespace Go.D
set_option maxRecDepth 100000
section
variable {P : Program} {E : Env} {B N0 : Nat} {μ : Mu} {w : World}
theorem wpIn_scope {F : Fence} {n : Nat} {c : Code} {Q : Exit → Act → World → Prop} {a : Act} (h : c.wpIn F n P (Exit.noGoto Q) a w) : (Code.scope c).wpIn F n P Q a w := by
 intro b k cs hro hb hr
 obtain ⟨e, a₁, w₁, hq, harr⟩ := h b (.inScope c :: k) cs hro hb hr
 have s1 : step P (lone (b.atR a (.code (.scope c) :: k)) cs w) = .next (lone (b.atR a (.code c :: .inScope c :: k)) cs w) := step_lone_go (by simp [stepG, stepG.exec, Frame.atR])
 have h0 : (lone (b.atR a (.code (.scope c) :: k)) cs w).fenced P F := fenced_calm hb hr rfl
 have hx : ∀ id, exitTo id (.inScope c :: k) = exitTo id k := fun id => by simp [exitTo]
 cases e with
 | normal =>
  have s2 : step P (lone (b.atR a₁ (.inScope c :: k)) cs w₁) = .next (lone (b.atR a₁ k) cs w₁) := step_lone_go (by simp [stepG, stepG.exec, Frame.atR])
  exact ⟨.normal, a₁, w₁, hq, .head h0 s1 (StepsIn.trans harr (.one (fenced_calm hb hr rfl) s2))⟩
 | exit id =>
  exact ⟨.exit id, a₁, w₁, hq, fun k' hk => .head h0 s1 (harr.1 k' (by rw [hx]; exact hk)),
   fun hr' hk => let ⟨k₁, h1, h2⟩ := harr.2 hr' (by rw [hx]; exact hk); ⟨k₁, h1, .head h0 s1 h2⟩⟩
 | goto l => exact hq.elim
 | ret => exact ⟨_, a₁, w₁, hq, .of_steps (.one h0 s1) harr⟩
 | panic ch => exact ⟨_, a₁, w₁, hq, .of_steps (.one h0 s1) harr⟩
 | outgrown => exact ⟨_, a₁, w₁, hq, .of_steps (.one h0 s1) harr⟩
theorem loopD_sim {ex : ExecD} (hx : ExecOk P E ex) {F : Fence} {n : Nat} (hF : Wide F) {c : Code} {Q : Exit → Act → World → Prop} : ∀ (k : Nat) (s s' : S) (x : X) (μ : Mu) (a : Act) (w : World), St E B N0 F μ s a w → loopD ex c k s = some (x, s') →
  (∀ μ' a' w', St E B N0 F μ' s' a' w' → Ext μ s.h w μ' s'.h w' → Q x.out a' w') → Code.roundsIn F n P c Q k a w
 | 0, s, s', x, μ, a, w, _, hr, _ => by simp [loopD] at hr
 | k + 1, s, s', x, μ, a, w, hs, hr, hQ => by
  rw [roundsIn_succ]
  simp only [loopD] at hr
  split at hr
  ·rename_i s1 h1
   exact hx F n B N0 c s .normal s1 μ a w _ hF hs h1 fun μ1 a1 w1 hs1 hx1 => loopD_sim hx hF k s1 s' x μ1 a1 w1 hs1 hr fun μ2 a2 w2 hs2 hx2 => hQ μ2 a2 w2 hs2 (hx1.trans hx2)
  ·rename_i hne
   refine hx F n B N0 c s x s' μ a w _ hF hs hr fun μ1 a1 w1 hs1 hx1 => ?_
   cases x with
   | normal => exact absurd hr (hne s')
   | exit id => exact hQ μ1 a1 w1 hs1 hx1
   | ret => exact hQ μ1 a1 w1 hs1 hx1
theorem stepOk (hE : EnvOk3 P E) (k : Nat) {ex : ExecD} (hx : ExecOk P E ex) : ExecOk P E (stepD E k ex) := by
 intro F n B N0 c s x s' μ a w Q hF hs hr hQ
 have hcl := callOk hE hx
 have hyl := yieldOk (E := E) hx
 cases c with
 | skip =>
  simp only [stepD, Option.some.injEq, Prod.mk.injEq] at hr
  obtain ⟨rfl, rfl⟩ := hr
  exact wpIn_skip (hQ μ a w hs (Ext.refl _ _ _))
 | label l =>
  simp only [stepD, Option.some.injEq, Prod.mk.injEq] at hr
  obtain ⟨rfl, rfl⟩ := hr
  exact wpIn_label (hQ μ a w hs (Ext.refl _ _ _))
 | region id ops draw =>
  cases draw with
  | false =>
   simp only [stepD] at hr
   split at hr
   ·rename_i s1 h1
    simp only [Option.some.injEq, Prod.mk.injEq] at hr
    obtain ⟨rfl, rfl⟩ := hr
    refine wpIn_region ?_
    have := seqD_sim hE.toEnvOk2 (n := n) hF hcl hyl (Q := Q) ops.toList 0 s s1 a w μ (fun j => by simp) h1 hs hQ
    rw [List.range_eq_range']
    exact this
   ·cases hr
  | true =>
   simp only [stepD] at hr
   split at hr
   ·rename_i s1 h1
    simp only [Option.some.injEq, Prod.mk.injEq] at hr
    obtain ⟨rfl, rfl⟩ := hr
    exact drawD_sim hE.toEnvOk2 hF hcl hyl h1 hs hQ
   ·cases hr
 | seq c1 c2 =>
  simp only [stepD] at hr
  refine wpIn_seq ?_
  split at hr
  ·rename_i s1 h1
   exact hx F n B N0 c1 s .normal s1 μ a w _ hF hs h1 fun μ1 a1 w1 hs1 hx1 => hx F n B N0 c2 s1 x s' μ1 a1 w1 Q hF hs1 hr fun μ2 a2 w2 hs2 hx2 => hQ μ2 a2 w2 hs2 (hx1.trans hx2)
  ·rename_i hne
   refine hx F n B N0 c1 s x s' μ a w _ hF hs hr fun μ1 a1 w1 hs1 hx1 => ?_
   cases x with
   | normal => exact absurd hr (hne s')
   | exit id => exact hQ μ1 a1 w1 hs1 hx1
   | ret => exact hQ μ1 a1 w1 hs1 hx1
 | cond c a1 b1 =>
  simp only [stepD] at hr
  split at hr
  ·rename_i hc
   exact wpIn_cond_true (ev_sim hs.TR hc).bool_inv (hx F n B N0 a1 s x s' μ a w Q hF hs hr hQ)
  ·rename_i hc
   exact wpIn_cond_false (ev_sim hs.TR hc).bool_inv (hx F n B N0 b1 s x s' μ a w Q hF hs hr hQ)
  ·cases hr
 | block id c =>
  simp only [stepD] at hr
  refine wpIn_block ?_
  split at hr
  ·rename_i id' s1 h1
   refine hx F n B N0 c s (.exit id') s1 μ a w _ hF hs h1 fun μ1 a1 w1 hs1 hx1 => ?_
   show if id' = id then Q .normal a1 w1 else Q (.exit id') a1 w1
   split at hr
   ·rename_i he
    simp only [Option.some.injEq, Prod.mk.injEq] at hr
    obtain ⟨rfl, rfl⟩ := hr
    rw [if_pos he]; exact hQ μ1 a1 w1 hs1 hx1
   ·rename_i he
    simp only [Option.some.injEq, Prod.mk.injEq] at hr
    obtain ⟨rfl, rfl⟩ := hr
    rw [if_neg he]; exact hQ μ1 a1 w1 hs1 hx1
  ·rename_i hne
   refine hx F n B N0 c s x s' μ a w _ hF hs hr fun μ1 a1 w1 hs1 hx1 => ?_
   cases x with
   | normal => exact hQ μ1 a1 w1 hs1 hx1
   | exit id' => exact absurd hr (hne id' s')
   | ret => exact hQ μ1 a1 w1 hs1 hx1
 | loop c =>
  simp only [stepD] at hr
  exact wpIn_loop_rounds k (loopD_sim hx hF k s s' x μ a w hs hr hQ)
 | rangeFunc g ps as body =>
  simp only [stepD] at hr
  split at hr
  ·cases hr
  ·rename_i hrd
   exact rangeD_sim hE.toEnvOk2 hx hF (by simpa using hrd) hs hr hQ
 | exit id =>
  simp only [stepD, Option.some.injEq, Prod.mk.injEq] at hr
  obtain ⟨rfl, rfl⟩ := hr
  exact wpIn_exit (hQ μ a w hs (Ext.refl _ _ _))
 | scope c =>
  simp only [stepD] at hr
  refine wpIn_scope (hx F n B N0 c s x s' μ a w _ hF hs hr fun μ1 a1 w1 hs1 hx1 => ?_)
  cases x with
  | normal => exact hQ μ1 a1 w1 hs1 hx1
  | exit id' => exact hQ μ1 a1 w1 hs1 hx1
  | ret => exact hQ μ1 a1 w1 hs1 hx1
 | goto l => simp [stepD] at hr
 | ret =>
  simp only [stepD, Option.some.injEq, Prod.mk.injEq] at hr
  obtain ⟨rfl, rfl⟩ := hr
  exact wpIn_ret (hQ μ a w hs (Ext.refl _ _ _))
 | refuse why => simp [stepD] at hr
theorem execOk (hE : EnvOk3 P E) : ∀ k, ExecOk P E (execD E k)
 | 0 => fun F n B N0 c s x s' μ a w Q hF hs hr hQ => by cases hr
 | k + 1 => stepOk hE k (execOk hE k)
theorem run_sim (hE : EnvOk3 P E) {k : Nat} {F : Fence} (n : Nat) (hF : Wide F) {h h' : H} {f : Nat} {Fn : Func} {args args' : List Value} {v : Value} (hf : E.fn f = some Fn) (hc : E.chk f = false) (hce : callExt E f args = none)
  (hh : HR E B μ h w) (hL : LR E.ng μ args args') (hr : runD E k f args h = some (v, h')) :
  CallsIn F n P f ⟨args'⟩ w (fun e w' => ∃ v', e = .returned v' ∧ StepOk E B μ h w h' w' v v') :=
 (call_enter hE.toEnvOk2 (execOk hE k) n hF hf hc hce hh hL hr).2
end
end Go.D
namespace Go.D
set_option maxRecDepth 100000
section
variable {P : Program} {E : Env} {B : Nat} {μ : Mu} {h h' : H} {w w' : World}
theorem HR.keep (hh : HR E B μ h w) (hs : w.heap.size ≤ w'.heap.size) (hk : ∀ r, r < w.heap.size → w'.heap[r]? = w.heap[r]?) : HR E B μ h w' := by
 refine ⟨Nat.le_trans hh.base hs, hh.ngB, hh.ngn, fun c m hc => ?_, fun c m oc hc hg => ?_, hh.inj, fun g o v hv => ?_, hh.fresh, hh.own⟩
 ·obtain ⟨q1, q2, q3, q4⟩ := hh.dom c m hc
  exact ⟨q1, q2, q3, Nat.lt_of_lt_of_le q4 hs⟩
 ·obtain ⟨ro, q1, q2⟩ := hh.obj c m oc hc hg
  exact ⟨ro, by rw [hk _ (hh.dom c m hc).2.2.2]; exact q1, q2⟩
 ·obtain ⟨q1, v', q2, q3⟩ := hh.glob g o v hv
  refine ⟨q1, v', q2, ?_⟩
  simp only [World.cell?] at q3 ⊢
  rw [hk g (by have := hh.ngB; have := hh.base; omega)]; exact q3
theorem HR.empty (hh : HR E B μ h w) : HR E w.heap.size (fun _ => none) ⟨E.ng, .leaf⟩ w :=
 ⟨Nat.le_refl _, Nat.le_trans hh.ngB hh.base, Nat.le_refl _, fun _ _ h => (by cases h), fun _ _ _ h => (by cases h), fun _ _ _ _ _ _ h => (by cases h), hh.glob, fun _ _ => rfl, fun _ _ h => (by cases h)⟩
def Orc (P : Program) (E : Env) (f : Nat) (args : List Value) (v : Value) : Prop :=
 ∀ (F : Fence) (n B : Nat) (μ : Mu) (h : H) (w : World), Wide F → HR E B μ h w → Does F n P f ⟨args⟩ w (fun e w' => e = .returned v ∧ HR E B μ h w' ∧ Ext μ h w μ h w')
def outV : Option (Value × H) → Option Value
 | some (v, _) => some v
 | none => none
theorem orc_of_run (hE : EnvOk3 P E) {k f : Nat} {Fn : Func} {args : List Value} {v : Value} (hf : E.fn f = some Fn) (hc : E.chk f = false) (hce : callExt E f args = none) (ha : args.all (afree 4) = true) (hv : afree 4 v = true)
  (hr : outV (runD E k f args ⟨E.ng, .leaf⟩) = some v) : Orc P E f args v := by
 intro F n B μ h w hF hh
 cases hrun : runD E k f args ⟨E.ng, .leaf⟩ with
 | none => rw [hrun] at hr; cases hr
 | some r =>
  obtain ⟨v0, h2⟩ := r
  rw [hrun] at hr
  simp only [outV, Option.some.injEq] at hr
  subst hr
  obtain ⟨q1, q2⟩ := call_enter hE.toEnvOk2 (execOk hE k) n hF hf hc hce hh.empty (LR.of_afree ha) hrun
  refine .inl ⟨q1, q2.mono fun e w' hR => ?_⟩
  obtain ⟨v', rfl, μ', u1, u2, u3⟩ := hR
  rw [← u1.afree_eq 4 hv]
  have hk : ∀ r, r < w.heap.size → w'.heap[r]? = w.heap[r]? := fun r hr => u3.kept r hr (fun b m hb => by cases hb)
  exact ⟨rfl, hh.keep u3.size hk, ⟨Mu.le_refl μ, u3.os, u3.tape, u3.output, u3.size, fun r hr _ => hk r hr, fun b _ hn => ⟨hn, rfl⟩, Nat.le_refl _, fun b m hm => .inl ⟨b, m, hm, rfl⟩⟩⟩
def over (E : Env) (tab : Nat → List Value → Option Value) : Env :=
 { info := E.info, fn := E.fn, ng := E.ng, glob := E.glob, gsz := E.gsz, chk := E.chk, bt := E.bt, eqf := E.eqf, ext := fun f args => match tab f args with | some v => some v | none => E.ext f args }
theorem HR.over {tab : Nat → List Value → Option Value} (hh : HR E B μ h w) : HR (over E tab) B μ h w :=
 ⟨hh.base, hh.ngB, hh.ngn, hh.dom, hh.obj, hh.inj, hh.glob, hh.fresh, hh.own⟩
theorem HR.under {tab : Nat → List Value → Option Value} (hh : HR (Go.D.over E tab) B μ h w) : HR E B μ h w :=
 ⟨hh.base, hh.ngB, hh.ngn, hh.dom, hh.obj, hh.inj, hh.glob, hh.fresh, hh.own⟩
theorem Does.mono {F : Fence} {n : Nat} {f : Nat} {args : Array Value} {R R' : Ending → World → Prop} (hd : Does F n P f args w R) (hR : ∀ e w', R e w' → R' e w') : Does F n P f args w R' := by
 rcases hd with ⟨q1, q2⟩ | ⟨v, q1, q2⟩
 ·exact .inl ⟨q1, q2.mono hR⟩
 ·exact .inr ⟨v, q1, hR _ _ q2⟩
theorem over_ok (hE : EnvOk3 P E) {tab : Nat → List Value → Option Value} (ht : ∀ f args v, E.chk f = false → tab f args = some v → Orc P E f args v) : EnvOk3 P (over E tab) where
 desc := hE.desc
 size := hE.size
 fn := hE.fn
 mixed := hE.mixed
 eqf := hE.eqf
 zone := hE.zone
 zfree := hE.zfree
 eqg := hE.eqg
 fields := hE.fields
 ext := fun f args v h1 h2 F n B μ h w hF hh => by
  have h3 := h2
  simp only [callExt, over] at h3
  cases hc : tab f args with
  | some v0 =>
   rw [hc] at h3
   simp only at h3
   split at h3
   ·cases h3
    exact (ht f args _ h1 hc F n B μ h w hF hh.under).mono fun e w' hr => ⟨hr.1, hr.2.1.over, hr.2.2⟩
   ·cases h3
  | none =>
   rw [hc] at h3
   have h4 : callExt E f args = some v := h3
   exact (hE.ext f args v h1 h4 F n B μ h w hF hh.under).mono fun e w' hr => ⟨hr.1, hr.2.1.over, hr.2.2⟩
 chk := fun f hc F n B μ h w p p' v h' hF hh hp hr => (hE.chk f hc F n B μ h w p p' v h' hF hh.under hp hr).mono fun e w' hr => by
  obtain ⟨v', e1, μ', q1, q2, q3⟩ := hr
  exact ⟨v', e1, μ', q1, q2.over, q3⟩
theorem Orc.over {f : Nat} {args : List Value} {v : Value} {tab : Nat → List Value → Option Value} (ho : Orc P (Go.D.over E tab) f args v) : Orc P E f args v :=
 fun F n B μ h w hF hh => (ho F n B μ h w hF hh.over).mono fun _ _ hr => ⟨hr.1, hr.2.1.under, hr.2.2⟩
def veqs : List Value → List Value → Bool
 | [], [] => true
 | a :: l, b :: k => veq 3 a b && veqs l k
 | _, _ => false
theorem veqs_eq : ∀ {l k : List Value}, veqs l k = true → l = k
 | [], [], _ => rfl
 | a :: l, b :: k, h => by
  simp only [veqs, Bool.and_eq_true] at h
  rw [veq_eq 3 a b h.1, veqs_eq h.2]
 | [], _ :: _, h => by cases h
 | _ :: _, [], h => by cases h
def look : List (List Value × Value) → List Value → Option Value
 | [], _ => none
 | p :: l, args => bif veqs p.1 args then some p.2 else look l args
theorem look_mem : ∀ {l : List (List Value × Value)} {args : List Value} {v : Value}, look l args = some v → (args, v) ∈ l
 | [], _, _, h => by cases h
 | p :: l, args, v, h => by
  simp only [look] at h
  cases hv : veqs p.1 args with
  | true =>
   rw [hv] at h
   simp only [cond_true, Option.some.injEq] at h
   rw [← veqs_eq hv, ← h]
   simp
  | false =>
   rw [hv] at h
   exact List.mem_cons_of_mem _ (look_mem h)
end
end Go.D
namespace Go.D
set_option maxRecDepth 100000
def tyRow (E : Env) (t : Nat) : Option (Option TypeDesc × Option (Nat × Nat × Option Value)) :=
 (E.info t).map fun i => (some i.desc, some (i.size, i.bytes, some (if isAggD i.desc then .agg ⟨i.zero⟩ else i.zero.headD undef)))
def tyReal (P : Program) (E : Env) (t : Nat) : Option (Option TypeDesc × Option (Nat × Nat × Option Value)) :=
 (E.info t).map fun _ => (P.underlying t, (P.info? t).map fun ti => (ti.size, ti.bytes, ti.zero))
def tyFine (E : Env) (i : Info) : Bool :=
 i.zero.length == i.size && i.zero.all (afree 4) && (isAggD i.desc || (i.size == 1 && i.zero.all isOne)) && (match i.desc with | .struct fs => fs.toList.all fun f => (E.info f.type).isSome | _ => true)
def tyFineAll (E : Env) (n : Nat) : Bool := (List.range n).all fun t => match E.info t with | some i => tyFine E i | none => true
def fnReal (P : Program) (E : Env) (f : Nat) : Option (Option Func) := (E.fn f).map fun _ => P.funcs[f]?
def fnRow (E : Env) (f : Nat) : Option (Option Func) := (E.fn f).map some
def fnFine (E : Env) (n : Nat) : Bool := (List.range n).all fun f => match E.fn f with | some F => !(F.name == "runtime.NumGoroutine") | none => true
theorem map_range {α : Type} {f g : Nat → α} {n : Nat} (h : (List.range n).map f = (List.range n).map g) {t : Nat} (ht : t < n) : f t = g t := by
 have := congrArg (fun l => l[t]?) h
 simpa [ht] using this
theorem envOk_of {P : Program} {E : Env} (n nf : Nat) (hn : ∀ t i, E.info t = some i → t < n) (hnf : ∀ f F, E.fn f = some F → f < nf) (hty : (List.range n).map (tyRow E) = (List.range n).map (tyReal P E))
  (hfine : tyFineAll E n = true) (hfn : (List.range nf).map (fnRow E) = (List.range nf).map (fnReal P E)) (hname : fnFine E nf = true) (hm : P.follows .mixedOrders = true)
  (heq : ∀ t i, E.eqf t = true → E.info t = some i → ∀ (xs ys : List Value) (b : Bool), sameKinds i.zero xs = true → sameKinds i.zero ys = true → eqCells xs ys = some b → ∀ w, (Op.equal t (.agg ⟨xs⟩) (.agg ⟨ys⟩)).run P w = .ok b w)
  (hgd : ∀ t, E.eqf t = true → P.eqGuardType P.depth t = false) : EnvOk2 P E := by
 have row : ∀ t i, E.info t = some i → P.underlying t = some i.desc ∧ ∃ ti, P.info? t = some ti ∧ ti.size = i.size ∧ ti.bytes = i.bytes ∧ ti.zero = some (if isAggD i.desc then .agg ⟨i.zero⟩ else i.zero.headD undef) := fun t i hi => by
  have h := map_range hty (hn t i hi)
  simp only [tyRow, tyReal, hi, Option.map_some, Option.some.injEq, Prod.mk.injEq] at h
  refine ⟨h.1.symm, ?_⟩
  cases hti : P.info? t with
  | none => rw [hti] at h; simp at h
  | some ti =>
   rw [hti] at h
   simp only [Option.map_some, Option.some.injEq, Prod.mk.injEq] at h
   exact ⟨ti, rfl, h.2.1.symm, h.2.2.1.symm, h.2.2.2.symm⟩
 have fine : ∀ t i, E.info t = some i → tyFine E i = true := fun t i hi => by
  have := List.all_eq_true.1 hfine t (List.mem_range.2 (hn t i hi))
  simpa only [hi] using this
 have one : ∀ v : Value, isOne v = true → v.cells = ⟨[v]⟩ := fun v hv => by
  cases v <;> first | rfl | (simp [isOne] at hv)
 have single : ∀ i : Info, tyFine E i = true → isAggD i.desc = false → ∃ v, i.zero = [v] ∧ isOne v = true := fun i hf ha => by
  simp only [tyFine, Bool.and_eq_true, Bool.or_eq_true, beq_iff_eq, ha, Bool.false_eq_true, false_or] at hf
  obtain ⟨⟨⟨h1, _⟩, h3, h4⟩, _⟩ := hf
  rw [h3] at h1
  obtain ⟨v, hv⟩ := List.length_eq_one_iff.1 h1
  rw [hv] at h4
  exact ⟨v, hv, by simpa using h4⟩
 refine { desc := fun t i hi => (row t i hi).1, size := fun t i hi => ?_, fn := fun f F hf => ?_, mixed := hm, eqf := heq, zone := fun t i v hi ha hz => ?_, zfree := fun t i hi => ?_, eqg := hgd, fields := fun t i fs hi hd f hf => ?_ }
 ·obtain ⟨_, ti, h1, h2, h3, h4⟩ := row t i hi
  have hf := fine t i hi
  refine ⟨ti, h1, h2, h3, _, h4, ?_, ?_⟩
  ·cases ha : isAggD i.desc with
   | true => rfl
   | false =>
    obtain ⟨v, hv, ho⟩ := single i hf ha
    rw [hv]
    exact one v ho
  ·simp only [tyFine, Bool.and_eq_true, beq_iff_eq] at hf
   exact hf.1.1.1
 ·have h := map_range hfn (hnf f F hf)
  simp only [fnRow, fnReal, hf, Option.map_some, Option.some.injEq] at h
  refine ⟨h.symm, ?_⟩
  have := List.all_eq_true.1 hname f (List.mem_range.2 (hnf f F hf))
  simp only [hf] at this
  simpa using this
 ·obtain ⟨_, ti, h1, _, _, h4⟩ := row t i hi
  refine ⟨ti, h1, ?_⟩
  rw [h4, ha, hz]; rfl
 ·have hf := fine t i hi
  simp only [tyFine, Bool.and_eq_true] at hf
  exact hf.1.1.2
 ·have h := fine t i hi
  simp only [tyFine, Bool.and_eq_true, hd, List.all_eq_true] at h
  exact h.2 f hf
end Go.D
namespace Go.D
set_option maxRecDepth 100000
section
variable {P : Program}
theorem eqI {t : TypeId} {k : IntKind} (hu : P.underlying t = some (.int k)) (d : Nat) (k1 : IntKind) (a b : Int) (w : World) : (Op.equalIn (d + 1) t (.int k1 a) (.int k1 b)).run P w = .ok (a == b) w := by
 rw [Op.equalIn]; simp [run_underlying hu]
theorem eqB {t : TypeId} (hu : P.underlying t = some .bool) (d : Nat) (a b : Bool) (w : World) : (Op.equalIn (d + 1) t (.bool a) (.bool b)).run P w = .ok (a == b) w := by
 rw [Op.equalIn]; simp [run_underlying hu]
theorem eqStruct {t : TypeId} {f1 f2 : Field} (hu : P.underlying t = some (.struct #[f1, f2])) (hst : P.stoodInHeld t = false) (n1 : f1.name ≠ "_") (n2 : f2.name ≠ "_") (o1 : f1.offset = 0) (o2 : f2.offset = 1)
  (u1 : P.underlying f1.type = some (.int .i64)) (u2 : P.underlying f2.type = some .bool) (a b : Int) (p q : Bool) (w : World) :
  (Op.equal t (.agg ⟨[.int .i64 a, .bool p]⟩) (.agg ⟨[.int .i64 b, .bool q]⟩)).run P w = .ok (a == b && p == q) w := by
 have p1 : ∀ (x y : Value) w, (part f1.type ⟨[x, y]⟩ 0).run P w = .ok x w := fun x y w => by
  simp [part, isAgg, run_underlying u1]
 have p2 : ∀ (x y : Value) w, (part f2.type ⟨[x, y]⟩ 1).run P w = .ok y w := fun x y w => by
  simp [part, isAgg, run_underlying u2]
 unfold Op.equal Op.maxDepth
 rw [Op.equalIn]
 simp only [Sem.run_bind, run_underlying hu, Result.andThen_ok, run_program, hst, Bool.false_eq_true, if_false]
 have e1 := eqI u1 9998 .i64 a b
 have e2 := eqB u2 9998 p q
 simp [n1, n2, o1, o2, p1, p2, e1, e2]
 by_cases h1 : a = b <;> by_cases h2 : p = q <;> simp [h1, h2]
theorem eqArr {t te : TypeId} (hu : P.underlying t = some (.array 2 te)) {ti : TypeInfo} (hi : P.info? te = some ti) (hs : ti.size = 1) (u1 : P.underlying te = some (.int .i64)) (a b p q : Int) (w : World) :
  (Op.equal t (.agg ⟨[.int .i64 a, .int .i64 p]⟩) (.agg ⟨[.int .i64 b, .int .i64 q]⟩)).run P w = .ok (a == b && p == q) w := by
 have p1 : ∀ (x y : Value) w, (part te ⟨[x, y]⟩ 0).run P w = .ok x w := fun x y w => by
  simp [part, isAgg, run_underlying u1]
 have p2 : ∀ (x y : Value) w, (part te ⟨[x, y]⟩ 1).run P w = .ok y w := fun x y w => by
  simp [part, isAgg, run_underlying u1]
 unfold Op.equal Op.maxDepth
 rw [Op.equalIn]
 have e1 := eqI u1 9998 .i64 a b
 have e2 := eqI u1 9998 .i64 p q
 have hsz : ∀ w, (sizeOf te).run P w = .ok 1 w := fun w => by simp [sizeOf, typeInfo, hi, hs]
 have hr : List.range' 0 2 1 = [0, 1] := rfl
 simp only [Sem.run_bind, run_underlying hu, Result.andThen_ok, hsz]
 simp [hr, p1, p2, e1, e2]
 by_cases h1 : a = b <;> by_cases h2 : p = q <;> simp [h1, h2]
theorem kinds_ib {xs : List Value} (h : sameKinds [.int .i64 0, .bool false] xs = true) : ∃ a p, xs = [.int .i64 a, .bool p] := by
 cases xs with
 | nil => cases h
 | cons x xs =>
  cases x <;> simp only [sameKinds, Bool.and_eq_true, beq_iff_eq, Bool.false_eq_true] at h
  rename_i k a
  obtain ⟨rfl, h⟩ := h
  cases xs with
  | nil => cases h
  | cons y xs =>
   cases y <;> simp only [sameKinds, Bool.false_eq_true] at h
   rename_i p
   cases xs with
   | nil => exact ⟨a, p, rfl⟩
   | cons z xs => cases h
theorem kinds_ii {xs : List Value} (h : sameKinds [.int .i64 0, .int .i64 0] xs = true) : ∃ a p, xs = [.int .i64 a, .int .i64 p] := by
 cases xs with
 | nil => cases h
 | cons x xs =>
  cases x <;> simp only [sameKinds, Bool.and_eq_true, beq_iff_eq, Bool.false_eq_true] at h
  rename_i k a
  obtain ⟨rfl, h⟩ := h
  cases xs with
  | nil => cases h
  | cons y xs =>
   cases y <;> simp only [sameKinds, Bool.and_eq_true, beq_iff_eq, Bool.false_eq_true] at h
   rename_i k' p
   obtain ⟨rfl, h⟩ := h
   cases xs with
   | nil => exact ⟨a, p, rfl⟩
   | cons z xs => cases h
end
end Go.D
namespace Go.D
set_option maxRecDepth 100000
theorem three_add (x y c : Int) : Extern.MathBitsCarry.three "Add64" ⟨[.int .u64 x, .int .u64 y, .int .u64 c]⟩ = (do
  let c := (← asInt (.int .u64 c)).toNat
  if c > 1 then unsupported (.noEntry ("extern/math/bits." ++ "Add64" ++ ": a carry that is neither 0 nor 1"))
  pure ((← asInt (.int .u64 x)).toNat, (← asInt (.int .u64 y)).toNat, c)) := rfl
theorem run_add64 {P : Program} (x y c : Int) (hc : ¬ (c.toNat > 1)) (w : World) :
  (Extern.MathBitsCarry.three "Add64" ⟨[.int .u64 x, .int .u64 y, .int .u64 c]⟩).run P w = .ok (x.toNat, y.toNat, c.toNat) w := by
 rw [three_add]
 simp only [asInt, asIntOf, Sem.run_bind, Sem.run_pure, Result.andThen_ok, if_neg hc]
theorem fenced_of_wide {P : Program} {F : Fence} (hF : Wide F) (m : Machine) : m.fenced P F := by
 intro g _
 exact ⟨fun h => (by rw [hF.alive] at h; cases h), .inl (hF.fn _), fun f _ => hF.fn f, fun d h => (by rw [hF.depth] at h; cases h)⟩
theorem callsIn_of_calls {P : Program} {F : Fence} {n : Nat} (hF : Wide F) {f : FuncId} {args : Array Value} {w : World} {R : Ending → World → Prop} (h : Calls P f args w R) : CallsIn F n P f args w R := by
 refine ⟨hF.fn f, fun cs _ => ?_⟩
 obtain ⟨e, w', fr, r, s, x, y⟩ := h cs
 refine ⟨e, w', fr, r, ?_, x, y⟩
 cases e with
 | returned v => exact (StepsIn.of_steps s).mono fun m _ => fenced_of_wide hF m
 | panicked c => exact (StepsIn.of_steps s).mono fun m _ => fenced_of_wide hF m
 | outgrown => exact s
end Go.D
namespace Go.D
set_option maxRecDepth 100000
theorem chk_of {P : Program} {E : Env} (hE : EnvOk2 P E) {f : Nat} {Fn : Func} (hf : P.funcs[f]? = some Fn) (hname : (Fn.name == "runtime.NumGoroutine") = false) (hbody : Fn.body.isNone = false)
  (hused : ∀ (b : Nat) (w : World), w.cell? ⟨b, 0, none⟩ = some (.pointer (some ⟨b, 0, none⟩)) → Calls P f #[.pointer (some ⟨b, 0, none⟩)] w fun e w' => e = .returned (.tuple #[]) ∧ w' = w)
  (hfresh : ∀ (b N : Nat) (_ : 2 ≤ N) (w : World), w.cell? ⟨b, 0, none⟩ = some (.pointer none) → w.shape? b = some (E.bt, N) → w.frozen? ⟨b, 0, none⟩ = false →
   Calls P f #[.pointer (some ⟨b, 0, none⟩)] w fun e w' => e = .returned (.tuple #[]) ∧ w' = w.setCell ⟨b, 0, none⟩ (.pointer (some ⟨b, 0, none⟩)))
  {F : Fence} {n B : Nat} {μ : Mu} {h h' : H} {w : World} {p p' v : Value} (hF : Wide F) (hh : HR E B μ h w) (hp : VR E.ng μ p p') (hr : checkD E h p = some (v, h')) :
  Does F n P f ⟨[p']⟩ w (fun e w' => ∃ v', e = .returned v' ∧ StepOk E B μ h w h' w' v v') := by
 have _ := hE
 have hcall : ∀ a, (callFunc f ⟨[a]⟩).run P w = .ok (.enter f ⟨[a]⟩) w := fun a => by
  simp only [callFunc, Sem.run_bind, run_program, Result.andThen_ok, hf, hname, Bool.false_eq_true, if_false, hbody, Sem.run_pure]
 unfold checkD at hr
 split at hr
 ·rename_i b
  split at hr
  ·cases hr
  ·rename_i hng
   split at hr
   ·rename_i ob hob
    split at hr
    ·rename_i hck
     simp only [Bool.and_eq_true, beq_iff_eq, Nat.ble_eq] at hck
     obtain ⟨hrow, hlen⟩ := hck
     rcases hp.ptr_inv with ⟨o', he, hg, rfl⟩ | ⟨m, o', he, hg, hm, rfl⟩
     ·cases he; exact absurd hg hng
     ·cases he
      obtain ⟨ro, q1, q2⟩ := hh.obj b m ob hm hob
      obtain ⟨c, fz, rfl, p1, p2, p3, p4, p5, p6⟩ := (ObjR.cells_iff hrow).1 q2
      have hs0 : m.s = 0 := hh.own b m hm p1.symm
      rw [hs0] at p4 p6 ⊢
      simp only [Nat.zero_add] at p4 p6 ⊢
      have hN : 2 ≤ c.size := by omega
      have hcell : ∀ v0, c[0]? = some v0 → w.cell? ⟨m.r, 0, none⟩ = some v0 := fun v0 hv => by simp only [World.cell?, q1]; exact hv
      split at hr
      ·rename_i h0
       simp only [Option.some.injEq, Prod.mk.injEq] at hr
       obtain ⟨rfl, rfl⟩ := hr
       obtain ⟨v', r1, r2⟩ := p6 0 _ h0
       cases r2
       have hsh : w.shape? m.r = some (E.bt, c.size) := by simp [World.shape?, q1, ← p1]
       have hfz : w.frozen? ⟨m.r, 0, none⟩ = false := by
        have := p5 0 (by omega)
        obtain ⟨lo, hi'⟩ := fz
        simp only [World.frozen?, q1, Bool.and_eq_false_iff, decide_eq_false_iff_not]
        simp only at this
        omega
       refine .inl ⟨hcall _, callsIn_of_calls hF ((hfresh m.r c.size hN w (hcell _ r1) hsh hfz).mono fun e w' hw => ?_)⟩
       obtain ⟨rfl, rfl⟩ := hw
       refine ⟨_, rfl, μ, VR.undef, ?_⟩
       rw [setCell_wset _ q1]
       refine hh.write hm hob ((ObjR.cells_iff (e := E.bt) (z := 2) (by rw [Obj.row_put]; exact hrow)).2 ⟨_, fz, rfl, p1, p2, by simpa using p3, by rw [hs0, Obj.len_put]; simpa using p4, by simpa using p5, fun i v hv => ?_⟩)
       rw [Obj.get?_put (by omega)] at hv
       rw [hs0, Nat.zero_add, Array.getElem?_setIfInBounds]
       by_cases hi : 0 = i
       ·subst hi
        rw [if_pos rfl] at hv ⊢
        simp only [Option.some.injEq] at hv
        subst hv
        rw [if_pos (by omega)]
        have := VR.ptr (ng := E.ng) (μ := μ) hg hm 0
        rw [hs0] at this
        exact ⟨_, rfl, this⟩
       ·rw [if_neg hi] at hv ⊢
        exact p6 i v hv
      ·rename_i b' h0
       split at hr
       ·rename_i hbb
        subst hbb
        simp only [Option.some.injEq, Prod.mk.injEq] at hr
        obtain ⟨rfl, rfl⟩ := hr
        obtain ⟨v', r1, r2⟩ := p6 0 _ h0
        rcases r2.ptr_inv with ⟨o2, e2, g2, rfl⟩ | ⟨m2, o2, e2, g2, hm2, rfl⟩
        ·cases e2; exact absurd g2 hng
        ·cases e2
         obtain rfl := Option.some.inj (hm.symm.trans hm2)
         rw [hs0] at r1
         refine .inl ⟨hcall _, callsIn_of_calls hF ((hused m.r w (hcell _ r1)).mono fun e w' hw => ?_)⟩
         obtain ⟨rfl, rfl⟩ := hw
         exact ⟨_, rfl, μ, VR.undef, hh, Ext.refl _ _ _⟩
       ·cases hr
      ·cases hr
    ·cases hr
   ·cases hr
 ·cases hr
end Go.D
namespace Go.D
set_option maxRecDepth 100000
section
variable {E : Env}
def leC (a b : CallD) : Prop := ∀ f l h r, a f l h = some r → b f l h = some r
def leX (a b : ExecD) : Prop := ∀ c s r, a c s = some r → b c s = some r
theorem oCall_mono {cl cl' yl yl' : CallD} (hc : leC cl cl') (hy : leC yl yl') {h : H} {tm : Tr Value} {f : Operand} {args : List Value} {r : Value × H} (hr : oCall E cl yl h tm f args = some r) : oCall E cl' yl' h tm f args = some r := by
 unfold oCall at *
 split at hr
 ·rename_i v hv
  unfold oCallV at *
  split at hr
  ·exact hc _ _ _ _ hr
  ·exact hy _ _ _ _ hr
  ·cases hr
 ·cases hr
theorem opD_mono {cl cl' yl yl' : CallD} (hc : leC cl cl') (hy : leC yl yl') {h : H} {tm : Tr Value} {op : Op} {r : Value × H} (hr : opD E cl yl h tm op = some r) : opD E cl' yl' h tm op = some r := by
 cases op <;> try exact hr
 rename_i c
 simp only [opD, opCall] at *
 cases hk : clsCall c with
 | zero => rw [hk] at hr; exact hr
 | succ n =>
  rw [hk] at hr
  match n, hr with
  | 0, hr => exact hr
  | 1, hr => exact hr
  | 2, hr =>
   simp only [oLoudCall] at *
   cases he : evs E tm c.args.toList with
   | none => rw [he] at hr; cases hr
   | some l =>
    rw [he] at hr
    simp only at *
    cases hcal : c.callee with
    | value f => rw [hcal] at hr; exact oCall_mono hc hy hr
    | builtin b => rw [hcal] at hr; exact hr
    | invoke => rw [hcal] at hr; exact hr
  | _ + 3, hr => exact hr
theorem oneD_mono {cl cl' yl yl' : CallD} (hc : leC cl cl') (hy : leC yl yl') {ops : List Oper} {o : Oper} {s s' : S} (hr : oneD E cl yl ops o s = some s') : oneD E cl' yl' ops o s = some s' := by
 unfold oneD at *
 simp only [opDQ_eq] at *
 split at hr
 ·rename_i hw
  rw [if_pos hw]
  split at hr
  ·rename_i v h he
   rw [opD_mono hc hy he]; exact hr
  ·cases hr
 ·rename_i hw
  rw [if_neg hw]; exact hr
theorem seqD_mono {cl cl' yl yl' : CallD} (hc : leC cl cl') (hy : leC yl yl') {ops : List Oper} : ∀ {l : List Oper} {s s' : S}, seqD E cl yl ops l s = some s' → seqD E cl' yl' ops l s = some s'
 | [], s, s', hr => hr
 | o :: l, s, s', hr => by
  simp only [seqD] at *
  split at hr
  ·rename_i s1 h1
   rw [oneD_mono hc hy h1]; exact seqD_mono hc hy hr
  ·cases hr
theorem floatRun_mono {cl cl' yl yl' : CallD} (hc : leC cl cl') (hy : leC yl yl') {ops : List Oper} : ∀ {l : List Nat} {s s' : S}, floatRun E cl yl ops l s = some s' → floatRun E cl' yl' ops l s = some s'
 | [], s, s', hr => hr
 | i :: l, s, s', hr => by
  simp only [floatRun] at *
  split at hr
  ·cases hr
  ·split at hr
   ·rename_i s1 h1
    rw [oneD_mono hc hy h1]; exact floatRun_mono hc hy hr
   ·cases hr
theorem drawRun_mono {cl cl' yl yl' : CallD} (hc : leC cl cl') (hy : leC yl yl') {ops : List Oper} {ms louds : List Nat} : ∀ {ls : List Nat} {m : Nat} {s s' : S}, drawRun E cl yl ops ms louds ls m s = some s' → drawRun E cl' yl' ops ms louds ls m s = some s'
 | ls, m, s, s', hr => by
  unfold drawRun at *
  split at hr
  ·cases hr
  ·rename_i s1 h1
   rw [floatRun_mono hc hy h1]
   simp only
   split at hr
   ·rename_i hk
    rw [if_pos hk]
    cases ls with
    | nil => exact hr
    | cons l ls =>
     simp only at *
     split at hr
     ·cases hr
     ·split at hr
      ·cases hr
      ·rename_i s2 h2
       rw [oneD_mono hc hy h2]
       exact drawRun_mono hc hy hr
   ·cases hr
theorem drawD_mono {cl cl' yl yl' : CallD} (hc : leC cl cl') (hy : leC yl yl') {ops : List Oper} {s s' : S} (hr : drawD E cl yl ops s = some s') : drawD E cl' yl' ops s = some s' := by
 unfold drawD at *
 split at hr
 ·rename_i hk
  rw [if_pos hk]; exact drawRun_mono hc hy hr
 ·rename_i hk
  rw [if_neg hk]
  split at hr
  ·rename_i hk2
   rw [if_pos hk2]
   split at hr
   ·rename_i s1 h1
    rw [drawRun_mono hc hy h1]
    split at hr
    ·rename_i o ho
     simp only [ho]
     exact seqD_mono hc hy hr
    ·cases hr
   ·cases hr
  ·cases hr
theorem callD_mono {ex ex' : ExecD} (hx : leX ex ex') : leC (callD E ex) (callD E ex') := by
 intro f l h r hr
 unfold callD at *
 split at hr
 ·rename_i hk
  rw [if_pos hk]; exact hr
 ·rename_i hk
  rw [if_neg hk]
  split at hr
  ·exact hr
  ·split at hr
   ·cases hr
   ·split at hr
    ·cases hr
    ·split at hr
     ·rename_i hb
      rw [if_pos hb]
      split at hr
      ·cases hr
      ·rename_i x s hne h1
       rw [hx _ _ _ h1]
       cases x with
       | exit id => exact absurd rfl (hne id)
       | normal => exact hr
       | ret => exact hr
      ·cases hr
     ·cases hr
theorem roundD_mono {ex ex' : ExecD} (hx : leX ex ex') : leC (roundD E ex) (roundD E ex') := by
 intro f l h r hr
 unfold roundD at *
 split at hr
 ·cases hr
 ·rename_i hk
  rw [if_neg hk]
  split at hr
  ·split at hr
   ·rename_i hp
    rw [if_pos hp]
    split at hr
    ·cases hr
    ·split at hr
     ·rename_i s1 h1
      rw [hx _ _ _ h1]
      simp only
      split at hr
      ·split at hr
       ·rename_i x s2 h2
        rw [hx _ _ _ h2]
        exact hr
       ·cases hr
      ·cases hr
     ·cases hr
   ·cases hr
  ·cases hr
theorem rangeD_mono {cl cl' : CallD} (hc : leC cl cl') {g : Operand} {ps : List Nat} {as body : Code} {s : S} {r : X × S} (hr : rangeD E cl g ps as body s = some r) : rangeD E cl' g ps as body s = some r := by
 unfold rangeD at *
 split at hr
 ·split at hr
  ·cases hr
  ·rename_i hk
   rw [if_neg hk]
   split at hr
   ·rename_i v h1 he
    rw [hc _ _ _ _ he]; exact hr
   ·cases hr
 ·cases hr
theorem loopD_mono {ex ex' : ExecD} (hx : leX ex ex') {c : Code} : ∀ {k k' : Nat} {s : S} {r : X × S}, k ≤ k' → loopD ex c k s = some r → loopD ex' c k' s = some r
 | 0, _, _, _, _, hr => by simp [loopD] at hr
 | k + 1, 0, _, _, h, _ => by omega
 | k + 1, k' + 1, s, r, h, hr => by
  simp only [loopD] at *
  split at hr
  ·rename_i s' h1
   rw [hx _ _ _ h1]
   exact loopD_mono hx (by omega) hr
  ·rename_i hne
   rw [hx _ _ _ hr]
   obtain ⟨x, s'⟩ := r
   cases x with
   | normal => exact absurd hr (hne s')
   | exit id => rfl
   | ret => rfl
theorem stepD_mono {ex ex' : ExecD} (hx : leX ex ex') {k k' : Nat} (hk : k ≤ k') : leX (stepD E k ex) (stepD E k' ex') := by
 intro c s r hr
 have hc := callD_mono (E := E) hx
 have hy := roundD_mono (E := E) hx
 cases c with
 | region id ops draw =>
  cases draw with
  | false =>
   simp only [stepD] at *
   split at hr
   ·rename_i s1 h1
    rw [seqD_mono hc hy h1]; exact hr
   ·cases hr
  | true =>
   simp only [stepD] at *
   split at hr
   ·rename_i s1 h1
    rw [drawD_mono hc hy h1]; exact hr
   ·cases hr
 | seq a b =>
  simp only [stepD] at *
  split at hr
  ·rename_i s1 h1
   rw [hx _ _ _ h1]; exact hx _ _ _ hr
  ·rename_i hne
   rw [hx _ _ _ hr]
   obtain ⟨x, s'⟩ := r
   cases x with
   | normal => exact absurd hr (hne s')
   | exit id => rfl
   | ret => rfl
 | cond c a b =>
  simp only [stepD] at *
  split at hr
  ·exact hx _ _ _ hr
  ·exact hx _ _ _ hr
  ·cases hr
 | block id c =>
  simp only [stepD] at *
  split at hr
  ·rename_i id' s1 h1
   rw [hx _ _ _ h1]; exact hr
  ·rename_i hne
   rw [hx _ _ _ hr]
   obtain ⟨x, s'⟩ := r
   cases x with
   | normal => rfl
   | exit id => exact absurd hr (hne id s')
   | ret => rfl
 | loop c => exact loopD_mono hx hk hr
 | rangeFunc g ps as body =>
  simp only [stepD] at *
  split at hr
  ·cases hr
  ·rename_i h1
   rw [if_neg h1]
   exact rangeD_mono hc hr
 | scope c => exact hx _ _ _ hr
 | _ => exact hr
theorem execD_mono : ∀ {k k' : Nat}, k ≤ k' → leX (execD E k) (execD E k')
 | 0, _, _, _, _, _, hr => by cases hr
 | k + 1, 0, h, _, _, _, _ => by omega
 | k + 1, k' + 1, h, c, s, r, hr => stepD_mono (execD_mono (Nat.le_of_succ_le_succ h)) (Nat.le_of_succ_le_succ h) c s r hr
theorem runD_mono {k k' : Nat} (h : k ≤ k') : leC (runD E k) (runD E k') := callD_mono (execD_mono h)
end
end Go.D
namespace Go.D
set_option maxRecDepth 100000
section
variable (E : Env)
open Classical in
noncomputable def exR : ExecD := fun c s => if h : ∃ r k, execD E k c s = some r then some h.choose else none
noncomputable def callR : CallD := callD E (exR E)
noncomputable def roundR : CallD := roundD E (exR E)
variable {E}
theorem exec_one {k k' : Nat} {c : Code} {s : S} {r r' : X × S} (h : execD E k c s = some r) (h' : execD E k' c s = some r') : r = r' := by
 have a := execD_mono (Nat.le_max_left k k') c s r h
 have b := execD_mono (Nat.le_max_right k k') c s r' h'
 rw [a] at b
 exact Option.some.inj b
theorem exR_iff {c : Code} {s : S} {r : X × S} : exR E c s = some r ↔ ∃ k, execD E k c s = some r := by
 unfold exR
 constructor
 ·intro h
  split at h
  ·rename_i hx
   obtain ⟨k, hk⟩ := hx.choose_spec
   rw [Option.some.inj h] at hk
   exact ⟨k, hk⟩
  ·cases h
 ·rintro ⟨k, hk⟩
  have hx : ∃ r k, execD E k c s = some r := ⟨r, k, hk⟩
  rw [dif_pos hx]
  obtain ⟨k', hk'⟩ := hx.choose_spec
  rw [exec_one hk' hk]
theorem le_exR (k : Nat) : leX (execD E k) (exR E) := fun _ _ _ h => exR_iff.2 ⟨k, h⟩
def Ev (p : Nat → Prop) : Prop := ∃ k, ∀ k', k ≤ k' → p k'
theorem Ev.of_all {p : Nat → Prop} (h : ∀ k, p k) : Ev p := ⟨0, fun k _ => h k⟩
theorem Ev.and {p q : Nat → Prop} (hp : Ev p) (hq : Ev q) : Ev (fun k => p k ∧ q k) := by
 obtain ⟨a, ha⟩ := hp
 obtain ⟨b, hb⟩ := hq
 exact ⟨max a b, fun k hk => ⟨ha k (by omega), hb k (by omega)⟩⟩
theorem Ev.mono {p q : Nat → Prop} (hp : Ev p) (h : ∀ k, p k → q k) : Ev q := by
 obtain ⟨a, ha⟩ := hp
 exact ⟨a, fun k hk => h k (ha k hk)⟩
theorem Ev.get {p : Nat → Prop} (hp : Ev p) : ∃ k, p k := by
 obtain ⟨a, ha⟩ := hp
 exact ⟨a, ha a (Nat.le_refl _)⟩
def cvC (f : Nat → CallD) (a : CallD) : Prop := ∀ g l h r, a g l h = some r → Ev fun k => f k g l h = some r
def cvX (f : Nat → ExecD) (a : ExecD) : Prop := ∀ c s r, a c s = some r → Ev fun k => f k c s = some r
theorem cvX_exR : cvX (execD E) (exR E) := fun _ _ _ h => by
 obtain ⟨k, hk⟩ := exR_iff.1 h
 exact ⟨k, fun k' hk' => execD_mono hk' _ _ _ hk⟩
section
variable {fc fy : Nat → CallD} {cl yl : CallD}
theorem opD_cv (hc : cvC fc cl) (hy : cvC fy yl) {h : H} {tm : Tr Value} {op : Op} {r : Value × H} (hr : opD E cl yl h tm op = some r) : Ev fun k => opD E (fc k) (fy k) h tm op = some r := by
 cases op <;> try exact Ev.of_all fun _ => hr
 rename_i c
 simp only [opD, opCall] at *
 cases hk : clsCall c with
 | zero => rw [hk] at hr; exact Ev.of_all fun _ => hr
 | succ n =>
  rw [hk] at hr
  match n, hr with
  | 0, hr => exact Ev.of_all fun _ => hr
  | 1, hr => exact Ev.of_all fun _ => hr
  | 2, hr =>
   simp only [oLoudCall] at *
   cases he : evs E tm c.args.toList with
   | none => rw [he] at hr; cases hr
   | some l =>
    rw [he] at hr
    simp only at *
    cases hcal : c.callee with
    | value f =>
     rw [hcal] at hr
     simp only [oCall] at *
     cases hv : ev E tm f with
     | none => rw [hv] at hr; cases hr
     | some v =>
      rw [hv] at hr
      simp only at *
      unfold oCallV at *
      split at hr
      ·exact hc _ _ _ _ hr
      ·exact hy _ _ _ _ hr
      ·cases hr
    | builtin b => rw [hcal] at hr; exact Ev.of_all fun _ => hr
    | invoke => rw [hcal] at hr; exact Ev.of_all fun _ => hr
  | _ + 3, hr => exact Ev.of_all fun _ => hr
theorem oneD_cv (hc : cvC fc cl) (hy : cvC fy yl) {ops : List Oper} {o : Oper} {s s' : S} (hr : oneD E cl yl ops o s = some s') : Ev fun k => oneD E (fc k) (fy k) ops o s = some s' := by
 unfold oneD at *
 simp only [opDQ_eq] at *
 split at hr
 ·rename_i hw
  simp only [hw, if_true]
  split at hr
  ·rename_i v h he
   exact (opD_cv hc hy he).mono fun k hk => by rw [hk]; exact hr
  ·cases hr
 ·rename_i hw
  simp only [hw]
  exact Ev.of_all fun _ => hr
theorem seqD_cv (hc : cvC fc cl) (hy : cvC fy yl) {ops : List Oper} : ∀ {l : List Oper} {s s' : S}, seqD E cl yl ops l s = some s' → Ev fun k => seqD E (fc k) (fy k) ops l s = some s'
 | [], s, s', hr => Ev.of_all fun _ => hr
 | o :: l, s, s', hr => by
  simp only [seqD] at *
  split at hr
  ·rename_i s1 h1
   exact ((oneD_cv hc hy h1).and (seqD_cv hc hy hr)).mono fun k hk => by rw [hk.1]; exact hk.2
  ·cases hr
theorem floatRun_cv (hc : cvC fc cl) (hy : cvC fy yl) {ops : List Oper} : ∀ {l : List Nat} {s s' : S}, floatRun E cl yl ops l s = some s' → Ev fun k => floatRun E (fc k) (fy k) ops l s = some s'
 | [], s, s', hr => Ev.of_all fun _ => hr
 | i :: l, s, s', hr => by
  simp only [floatRun] at *
  split at hr
  ·cases hr
  ·split at hr
   ·rename_i s1 h1
    exact ((oneD_cv hc hy h1).and (floatRun_cv hc hy hr)).mono fun k hk => by rw [hk.1]; exact hk.2
   ·cases hr
theorem drawRun_cv (hc : cvC fc cl) (hy : cvC fy yl) {ops : List Oper} {ms louds : List Nat} : ∀ {ls : List Nat} {m : Nat} {s s' : S}, drawRun E cl yl ops ms louds ls m s = some s' → Ev fun k => drawRun E (fc k) (fy k) ops ms louds ls m s = some s'
 | ls, m, s, s', hr => by
  unfold drawRun at hr
  split at hr
  ·cases hr
  ·rename_i s1 h1
   split at hr
   ·rename_i hk
    cases ls with
    | nil =>
     refine (floatRun_cv hc hy h1).mono fun k hk1 => ?_
     unfold drawRun
     rw [hk1]
     simp only [hk, if_true]; exact hr
    | cons l ls =>
     simp only at hr
     split at hr
     ·cases hr
     ·rename_i o ho
      split at hr
      ·cases hr
      ·rename_i s2 h2
       refine (((floatRun_cv hc hy h1).and (oneD_cv hc hy h2)).and (drawRun_cv hc hy hr)).mono fun k hk1 => ?_
       unfold drawRun
       rw [hk1.1.1]
       simp only [hk, if_true, ho, hk1.1.2]; exact hk1.2
   ·cases hr
theorem drawD_cv (hc : cvC fc cl) (hy : cvC fy yl) {ops : List Oper} {s s' : S} (hr : drawD E cl yl ops s = some s') : Ev fun k => drawD E (fc k) (fy k) ops s = some s' := by
 unfold drawD at *
 split at hr
 ·rename_i hk
  simp only [hk, if_true]; exact drawRun_cv hc hy hr
 ·rename_i hk
  simp only [hk, if_false]
  split at hr
  ·rename_i hk2
   split at hr
   ·rename_i s1 h1
    split at hr
    ·rename_i o ho
     refine ((drawRun_cv hc hy h1).and (seqD_cv hc hy hr)).mono fun k hk1 => ?_
     simp only [hk2, if_true]
     rw [hk1.1]
     simp only [ho]
     exact hk1.2
    ·cases hr
   ·cases hr
  ·cases hr
theorem rangeD_cv (hc : cvC fc cl) {g : Operand} {ps : List Nat} {as body : Code} {s : S} {r : X × S} (hr : rangeD E cl g ps as body s = some r) : Ev fun k => rangeD E (fc k) g ps as body s = some r := by
 unfold rangeD at hr
 split at hr
 ·rename_i f a c hv
  split at hr
  ·cases hr
  ·rename_i hk
   split at hr
   ·rename_i v h1 he
    refine (hc _ _ _ _ he).mono fun k hk1 => ?_
    unfold rangeD
    rw [hv]
    simp only [hk]
    rw [if_neg (by decide), hk1]; exact hr
   ·cases hr
 ·cases hr
end
section
variable {fx : Nat → ExecD} {ex : ExecD}
theorem callD_cv (hx : cvX fx ex) : cvC (fun k => callD E (fx k)) (callD E ex) := by
 intro f l h r hr
 unfold callD at hr
 split at hr
 ·rename_i hk
  exact Ev.of_all fun k => by show callD E (fx k) f l h = some r; unfold callD; rw [if_pos hk]; exact hr
 ·rename_i hk
  split at hr
  ·rename_i v hv
   exact Ev.of_all fun k => by show callD E (fx k) f l h = some r; unfold callD; rw [if_neg hk, hv]; exact hr
  ·rename_i hv
   split at hr
   ·cases hr
   ·rename_i F hF
    split at hr
    ·cases hr
    ·rename_i c hc
     split at hr
     ·rename_i hb
      split at hr
      ·cases hr
      ·rename_i x s hne h1
       refine (hx _ _ _ h1).mono fun k hk1 => ?_
       show callD E (fx k) f l h = some r
       unfold callD
       rw [if_neg hk, hv]
       simp only [hF, hc]
       rw [if_pos hb, hk1]
       cases x with
       | exit id => exact absurd rfl (hne id)
       | normal => exact hr
       | ret => exact hr
      ·cases hr
     ·cases hr
theorem roundD_cv (hx : cvX fx ex) : cvC (fun k => roundD E (fx k)) (roundD E ex) := by
 intro f l h r hr
 unfold roundD at hr
 split at hr
 ·cases hr
 ·rename_i hk
  split at hr
  ·rename_i heq
   split at hr
   ·rename_i hp
    split at hr
    ·cases hr
    ·rename_i tm' ht
     split at hr
     ·rename_i s1 h1
      split at hr
      ·rename_i hq
       split at hr
       ·rename_i x s2 h2
        refine ((hx _ _ _ h1).and (hx _ _ _ h2)).mono fun k hk1 => ?_
        show roundD E (fx k) f l h = some r
        unfold roundD
        rw [if_neg hk, heq]
        simp only
        rw [if_pos hp, ht]
        simp only
        rw [hk1.1]
        simp only
        rw [hq]
        simp only
        rw [hk1.2]
        exact hr
       ·cases hr
      ·cases hr
     ·cases hr
   ·cases hr
  ·cases hr
theorem loopD_cv (hx : cvX fx ex) {c : Code} : ∀ {n : Nat} {s : S} {r : X × S}, loopD ex c n s = some r → Ev fun k => loopD (fx k) c n s = some r
 | 0, _, _, hr => by simp [loopD] at hr
 | n + 1, s, r, hr => by
  simp only [loopD] at *
  split at hr
  ·rename_i s' h1
   exact ((hx _ _ _ h1).and (loopD_cv hx hr)).mono fun k hk => by rw [hk.1]; exact hk.2
  ·rename_i hne
   refine (hx _ _ _ hr).mono fun k hk => ?_
   rw [hk]
   obtain ⟨x, s'⟩ := r
   cases x with
   | normal => exact absurd hr (hne s')
   | exit id => rfl
   | ret => rfl
theorem stepD_cv (hx : cvX fx ex) {n : Nat} {c : Code} {s : S} {r : X × S} (hr : stepD E n ex c s = some r) : Ev fun k => stepD E n (fx k) c s = some r := by
 have hc := callD_cv (E := E) hx
 have hy := roundD_cv (E := E) hx
 cases c with
 | region id ops draw =>
  cases draw with
  | false =>
   simp only [stepD] at *
   split at hr
   ·rename_i s1 h1
    exact (seqD_cv hc hy h1).mono fun k hk => by rw [hk]; exact hr
   ·cases hr
  | true =>
   simp only [stepD] at *
   split at hr
   ·rename_i s1 h1
    exact (drawD_cv hc hy h1).mono fun k hk => by rw [hk]; exact hr
   ·cases hr
 | seq a b =>
  simp only [stepD] at *
  split at hr
  ·rename_i s1 h1
   exact ((hx _ _ _ h1).and (hx _ _ _ hr)).mono fun k hk => by rw [hk.1]; exact hk.2
  ·rename_i hne
   refine (hx _ _ _ hr).mono fun k hk => ?_
   rw [hk]
   obtain ⟨x, s'⟩ := r
   cases x with
   | normal => exact absurd hr (hne s')
   | exit id => rfl
   | ret => rfl
 | cond c a b =>
  simp only [stepD] at *
  split at hr
  ·exact hx _ _ _ hr
  ·exact hx _ _ _ hr
  ·cases hr
 | block id c =>
  simp only [stepD] at *
  split at hr
  ·rename_i id' s1 h1
   exact (hx _ _ _ h1).mono fun k hk => by rw [hk]; exact hr
  ·rename_i hne
   refine (hx _ _ _ hr).mono fun k hk => ?_
   rw [hk]
   obtain ⟨x, s'⟩ := r
   cases x with
   | normal => rfl
   | exit id => exact absurd hr (hne id s')
   | ret => rfl
 | loop c => exact loopD_cv hx hr
 | rangeFunc g ps as body =>
  simp only [stepD] at *
  split at hr
  ·cases hr
  ·rename_i h1
   simp only [h1]
   exact rangeD_cv hc hr
 | scope c => exact hx _ _ _ hr
 | _ => exact Ev.of_all fun _ => hr
end
theorem exR_step {c : Code} {s : S} {r : X × S} : exR E c s = some r ↔ ∃ n, stepD E n (exR E) c s = some r := by
 constructor
 ·intro h
  obtain ⟨k, hk⟩ := exR_iff.1 h
  cases k with
  | zero => cases hk
  | succ k => exact ⟨k, stepD_mono (le_exR k) (Nat.le_refl _) _ _ _ hk⟩
 ·rintro ⟨n, hn⟩
  obtain ⟨k, hk⟩ := stepD_cv cvX_exR hn
  exact exR_iff.2 ⟨max k n + 1, stepD_mono (ex := execD E (max k n)) (fun _ _ _ h => h) (Nat.le_max_right k n) _ _ _ (hk _ (Nat.le_max_left k n))⟩
theorem opt_ext {α : Type} {a b : Option α} (h : ∀ r, a = some r ↔ b = some r) : a = b := by
 cases a with
 | none => cases b with
  | none => rfl
  | some r => exact (h _).2 rfl
 | some r => exact ((h _).1 rfl).symm
theorem exR_eq {c : Code} {s : S} {v : Option (X × S)} (h : ∀ n, stepD E n (exR E) c s = v) : exR E c s = v :=
 opt_ext fun r => exR_step.trans ⟨fun ⟨n, hn⟩ => (h n).symm.trans hn, fun hr => ⟨0, (h 0).trans hr⟩⟩
theorem exR_skip {s : S} : exR E .skip s = some (.normal, s) := exR_eq fun _ => rfl
theorem exR_label {l : _} {s : S} : exR E (.label l) s = some (.normal, s) := exR_eq fun _ => rfl
theorem exR_exit {id : Nat} {s : S} : exR E (.exit id) s = some (.exit id, s) := exR_eq fun _ => rfl
theorem exR_ret {s : S} : exR E .ret s = some (.ret, s) := exR_eq fun _ => rfl
theorem exR_scope {c : Code} {s : S} : exR E (.scope c) s = exR E c s := exR_eq fun _ => rfl
def norm : Option S → Option (X × S)
 | some s => some (.normal, s)
 | none => none
def andThen (r : Option (X × S)) (f : S → Option (X × S)) : Option (X × S) :=
 match r with
 | some (.normal, s) => f s
 | r => r
def unblock (id : Nat) : Option (X × S) → Option (X × S)
 | some (.exit id', s) => if id' = id then some (.normal, s) else some (.exit id', s)
 | r => r
def branch (v : Option Value) (a b : Option (X × S)) : Option (X × S) :=
 match v with
 | some (.bool true) => a
 | some (.bool false) => b
 | _ => none
theorem exR_region {id : _} {ops : Array Oper} {s : S} : exR E (.region id ops false) s = norm (seqD E (callR E) (roundR E) ops.toList ops.toList s) := exR_eq fun n => by
 simp only [stepD, norm, callR, roundR]
 cases seqD E (callD E (exR E)) (roundD E (exR E)) ops.toList ops.toList s <;> rfl
theorem exR_draw {id : _} {ops : Array Oper} {s : S} : exR E (.region id ops true) s = norm (drawD E (callR E) (roundR E) ops.toList s) := exR_eq fun n => by
 simp only [stepD, norm, callR, roundR]
 cases drawD E (callD E (exR E)) (roundD E (exR E)) ops.toList s <;> rfl
theorem exR_seq {a b : Code} {s : S} : exR E (.seq a b) s = andThen (exR E a s) (exR E b) := exR_eq fun n => by
 simp only [stepD, andThen]
 cases exR E a s with
 | none => rfl
 | some p => obtain ⟨x, s'⟩ := p; cases x <;> rfl
theorem exR_cond {c : Operand} {a b : Code} {s : S} : exR E (.cond c a b) s = branch (ev E s.tm c) (exR E a s) (exR E b s) := exR_eq fun n => by
 simp only [stepD, branch]
 cases ev E s.tm c with
 | none => rfl
 | some v => cases v <;> first | rfl | (rename_i b; cases b <;> rfl)
theorem exR_block {id : Nat} {c : Code} {s : S} : exR E (.block id c) s = unblock id (exR E c s) := exR_eq fun n => by
 simp only [stepD, unblock]
 cases exR E c s with
 | none => rfl
 | some p => obtain ⟨x, s'⟩ := p; cases x <;> rfl
theorem exR_range {g : Operand} {ps : Array Nat} {as body : Code} {s : S} : exR E (.rangeFunc g ps as body) s = if s.rd then none else rangeD E (callR E) g ps.toList as body s := exR_eq fun n => by
 simp only [stepD, callR]
theorem exR_loop {c : Code} {s : S} : exR E (.loop c) s = andThen (exR E c s) (exR E (.loop c)) := by
 refine opt_ext fun r => exR_step.trans ⟨?_, ?_⟩
 ·rintro ⟨n, hn⟩
  cases n with
  | zero => simp [stepD, loopD] at hn
  | succ n =>
   simp only [stepD, loopD] at hn
   cases h1 : exR E c s with
   | none => rw [h1] at hn; cases hn
   | some p =>
    obtain ⟨x, s'⟩ := p
    rw [h1] at hn
    cases x with
    | normal => exact exR_step.2 ⟨n, hn⟩
    | exit id => exact hn
    | ret => exact hn
 ·intro hr
  cases h1 : exR E c s with
  | none => rw [h1] at hr; cases hr
  | some p =>
   obtain ⟨x, s'⟩ := p
   rw [h1] at hr
   cases x with
   | normal =>
    obtain ⟨n, hn⟩ := exR_step.1 (show exR E (.loop c) s' = some r from hr)
    exact ⟨n + 1, by simp only [stepD, loopD, h1]; exact hn⟩
   | exit id => exact ⟨1, by simp only [stepD, loopD, h1]; exact hr⟩
   | ret => exact ⟨1, by simp only [stepD, loopD, h1]; exact hr⟩
theorem callR_run {f : Nat} {args : List Value} {h : H} {r : Value × H} (hr : callR E f args h = some r) : ∃ k, runD E k f args h = some r :=
 (callD_cv cvX_exR f args h r hr).get
theorem run_callR {k f : Nat} {args : List Value} {h : H} {r : Value × H} (hr : runD E k f args h = some r) : callR E f args h = some r :=
 callD_mono (le_exR k) f args h r hr
end
end Go.D
namespace Go.D
set_option maxRecDepth 100000
section
variable {E : Env}
def finish (E : Env) (rs : List ResultVar) : Option (X × S) → Option (Value × H)
 | some (.exit _, _) => none
 | some (_, s) => (match resultsD E rs s with
  | some [v] => some (v, s.h)
  | some l => some (.tuple ⟨l⟩, s.h)
  | none => none)
 | none => none
theorem callR_enter {f : Nat} {F : Func} {c : Code} {args : List Value} {h : H} (hc : E.chk f = false) (hx : callExt E f args = none) (hf : E.fn f = some F) (hb : F.body = some c) (hl : Nat.ble args.length F.ntmps = true) :
  callR E f args h = finish E F.results.toList (exR E c ⟨false, F.ntmps, ofArgs args 0 .leaf, h⟩) := by
 unfold callR callD
 rw [if_neg (by rw [hc]; decide), hx]
 simp only [hf, hb]
 rw [if_pos hl]
 cases exR E c ⟨false, F.ntmps, ofArgs args 0 .leaf, h⟩ with
 | none => rfl
 | some p =>
  obtain ⟨x, s⟩ := p
  cases x with
  | normal => rfl
  | exit id => rfl
  | ret => rfl
structure Stp where
 d : Option Nat
 op : Op
 g : Option (Nat × Bool)
inductive Pl where
 | op (o : Stp)
 | chk (l : List Stp)
def stpOf (ops : List Oper) (o : Oper) : Option Stp :=
 match o.guard with
 | none => some ⟨o.dst, o.op, none⟩
 | some (j, w) => match ops[j]? with
  | some p => (match p.dst with
   | some d => some ⟨o.dst, o.op, some (d, w)⟩
   | none => none)
  | none => none
def isB (v : Option Value) (w : Bool) : Bool :=
 match v with
 | some (.bool b) => b == w
 | _ => false
def wantedS (g : Option (Nat × Bool)) (tm : Tr Value) : Bool :=
 match g with
 | none => true
 | some (d, w) => isB (tm.get d) w
def putS (d : Option Nat) (s : S) : Option (Value × H) → Option S
 | some (v, h) => s.put d v h
 | none => none
def guardS (b : Bool) (cl yl : CallD) (o : Stp) (s : S) : Option S :=
 match b with
 | true => putS o.d s (opD E cl yl s.h s.tm o.op)
 | false => s.put o.d undef s.h
def chkOne (o : Stp) (s : S) : Bool :=
 if wantedS o.g s.tm then
  match o.d, readD E s.h s.tm o.op with
  | some d, some v => veq 3 v ((s.tm.get d).getD undef)
  | _, _ => false
 else true
def runS (cl yl : CallD) : List Pl → S → Option S
 | [], s => some s
 | .op o :: l, s => (match guardS (E := E) (wantedS o.g s.tm) cl yl o s with
  | some s' => runS cl yl l s'
  | none => none)
 | .chk k :: l, s => if k.all (fun o => chkOne (E := E) o s) then runS cl yl l s else none
def contS (cl yl : CallD) (l : List Pl) : Option S → Option S
 | some s => runS (E := E) cl yl l s
 | none => none
theorem runS_nil {cl yl : CallD} {s : S} : runS (E := E) cl yl [] s = some s := rfl
theorem runS_op {cl yl : CallD} {o : Stp} {l : List Pl} {s : S} : runS (E := E) cl yl (.op o :: l) s = contS (E := E) cl yl l (guardS (E := E) (wantedS o.g s.tm) cl yl o s) := by
 rw [runS]
 cases guardS (E := E) (wantedS o.g s.tm) cl yl o s <;> rfl
theorem runS_chk {cl yl : CallD} {k : List Stp} {l : List Pl} {s : S} : runS (E := E) cl yl (.chk k :: l) s = if k.all (fun o => chkOne (E := E) o s) then runS (E := E) cl yl l s else none := rfl
theorem contS_some {cl yl : CallD} {l : List Pl} {s : S} : contS (E := E) cl yl l (some s) = runS (E := E) cl yl l s := rfl
theorem runS_append {cl yl : CallD} : ∀ (a b : List Pl) (s : S), runS (E := E) cl yl (a ++ b) s = contS (E := E) cl yl b (runS (E := E) cl yl a s)
 | [], b, s => rfl
 | .op o :: a, b, s => by
  rw [List.cons_append, runS_op, runS_op]
  cases guardS (E := E) (wantedS o.g s.tm) cl yl o s with
  | none => rfl
  | some s' => exact runS_append a b s'
 | .chk k :: a, b, s => by
  rw [List.cons_append, runS_chk, runS_chk]
  split
  ·exact runS_append a b s
  ·rfl
theorem wanted_stp {ops : List Oper} {o : Oper} {p : Stp} (h : stpOf ops o = some p) (tm : Tr Value) : wantedD ops o tm = wantedS p.g tm ∧ p.d = o.dst ∧ p.op = o.op := by
 unfold stpOf at h
 unfold wantedD
 cases hg : o.guard with
 | none =>
  rw [hg] at h
  simp only [Option.some.injEq] at h
  subst h
  exact ⟨rfl, rfl, rfl⟩
 | some q =>
  obtain ⟨j, w⟩ := q
  rw [hg] at h
  simp only at h
  cases hj : ops[j]? with
  | none => rw [hj] at h; cases h
  | some r =>
   rw [hj] at h
   simp only at h
   cases hd : r.dst with
   | none => rw [hd] at h; cases h
   | some d =>
    rw [hd] at h
    simp only [Option.some.injEq] at h
    subst h
    refine ⟨?_, rfl, rfl⟩
    simp only [yieldD, hj, hd, wantedS, isB]
    cases tm.get d with
    | none => rfl
    | some v => cases v <;> first | rfl | (rename_i b; cases b <;> cases w <;> rfl)
theorem one_stp {cl yl : CallD} {ops : List Oper} {o : Oper} {p : Stp} (h : stpOf ops o = some p) (s : S) : oneD E cl yl ops o s = guardS (E := E) (wantedS p.g s.tm) cl yl p s := by
 obtain ⟨h1, h2, h3⟩ := wanted_stp h s.tm
 unfold oneD
 simp only [opDQ_eq]
 rw [h1]
 cases wantedS p.g s.tm with
 | true =>
  rw [if_pos rfl, ← h3, ← h2]
  show _ = putS p.d s (opD E cl yl s.h s.tm p.op)
  cases opD E cl yl s.h s.tm p.op with
  | none => rfl
  | some r => rfl
 | false =>
  rw [if_neg (by decide), ← h2]
  rfl
def getPl (ops : List Oper) (i : Nat) : Option Pl :=
 match ops[i]? with
 | some o => (match stpOf ops o with
  | some p => some (.op p)
  | none => none)
 | none => none
def seqPlan (ops : List Oper) : List Oper → Option (List Pl)
 | [] => some []
 | o :: l => match stpOf ops o, seqPlan ops l with
  | some p, some r => some (.op p :: r)
  | _, _ => none
theorem seq_plan {cl yl : CallD} {ops : List Oper} : ∀ {l : List Oper} {p : List Pl} (_ : seqPlan ops l = some p) (s : S), seqD E cl yl ops l s = runS (E := E) cl yl p s
 | [], p, h, s => by
  simp only [seqPlan, Option.some.injEq] at h
  subst h; rfl
 | o :: l, p, h, s => by
  simp only [seqPlan] at h
  split at h
  ·rename_i q r hq hr
   simp only [Option.some.injEq] at h
   subst h
   rw [runS_op, ← one_stp hq]
   simp only [seqD]
   cases oneD E cl yl ops o s with
   | none => rfl
   | some s' => exact seq_plan hr s'
  ·cases h
variable (E) in
def chkPlan (ops : List Oper) (ms louds : List Nat) (m : Nat) : List Nat → Option (List Stp)
 | [] => some []
 | i :: l => match ops[i]?, chkPlan ops ms louds m l with
  | some o, some r => if cls E o.op == 1 && Nat.ble (lo ms louds i) m && Nat.ble m (hi ms louds i) then (match stpOf ops o with
    | some p => some (p :: r)
    | none => none)
   else some r
  | _, _ => none
theorem chk_plan {ops : List Oper} {ms louds : List Nat} {m : Nat} {s : S} : ∀ {l : List Nat} {k : List Stp} (_ : chkPlan E ops ms louds m l = some k),
  (l.all fun i => match ops[i]? with
   | some o =>
    if cls E o.op == 1 && Nat.ble (lo ms louds i) m && Nat.ble m (hi ms louds i) && wantedD ops o s.tm then
     match o.dst, readD E s.h s.tm o.op with
     | some d, some v => veq 3 v ((s.tm.get d).getD undef)
     | _, _ => false
    else true
   | none => false) = k.all (fun o => chkOne (E := E) o s)
 | [], k, h => by
  simp only [chkPlan, Option.some.injEq] at h
  subst h; rfl
 | i :: l, k, h => by
  simp only [chkPlan] at h
  split at h
  ·rename_i o r ho hr
   rw [List.all_cons, chk_plan hr, ho]
   split at h
   ·rename_i hc
    split at h
    ·rename_i p hp
     simp only [Option.some.injEq] at h
     subst h
     obtain ⟨h1, h2, h3⟩ := wanted_stp hp s.tm
     rw [List.all_cons]
     congr 1
     simp only [hc, Bool.true_and, h1]
     unfold chkOne
     rw [h2, h3]
     rfl
    ·cases h
   ·rename_i hc
    simp only [Option.some.injEq] at h
    subst h
    have hc' := Bool.eq_false_iff.2 hc
    simp only [hc', Bool.false_and]
    simp
  ·cases h
def floatPlan (ops : List Oper) : List Nat → Option (List Pl)
 | [] => some []
 | i :: l => match getPl ops i, floatPlan ops l with
  | some p, some r => some (p :: r)
  | _, _ => none
theorem getPl_some {ops : List Oper} {i : Nat} {p : Pl} (h : getPl ops i = some p) : ∃ o q, ops[i]? = some o ∧ stpOf ops o = some q ∧ p = .op q := by
 unfold getPl at h
 split at h
 ·rename_i o ho
  split at h
  ·rename_i q hq
   exact ⟨o, q, ho, hq, (Option.some.inj h).symm⟩
  ·cases h
 ·cases h
theorem float_plan {cl yl : CallD} {ops : List Oper} : ∀ {l : List Nat} {p : List Pl} (_ : floatPlan ops l = some p) (s : S), floatRun E cl yl ops l s = runS (E := E) cl yl p s
 | [], p, h, s => by
  simp only [floatPlan, Option.some.injEq] at h
  subst h; rfl
 | i :: l, p, h, s => by
  simp only [floatPlan] at h
  split at h
  ·rename_i q r hq hr
   simp only [Option.some.injEq] at h
   subst h
   obtain ⟨o, q, ho, hq2, rfl⟩ := getPl_some hq
   rw [runS_op, ← one_stp hq2]
   simp only [floatRun, ho]
   cases oneD E cl yl ops o s with
   | none => rfl
   | some s' => exact float_plan hr s'
  ·cases h
variable (E) in
def drawPlan (ops : List Oper) (ms louds : List Nat) : List Nat → Nat → Option (List Pl)
 | ls, m => match floatPlan ops (floatsAt ops ms louds m), chkPlan E ops ms louds m (List.range ops.length) with
  | some fl, some ck =>
   (match ls with
   | [] => some (fl ++ [.chk ck])
   | l :: ls' => match getPl ops l, drawPlan ops ms louds ls' (m + 1) with
    | some p, some r => some (fl ++ (.chk ck :: p :: r))
    | _, _ => none)
  | _, _ => none
theorem draw_plan {cl yl : CallD} {ops : List Oper} {ms louds : List Nat} : ∀ {ls : List Nat} {m : Nat} {p : List Pl} (_ : drawPlan E ops ms louds ls m = some p) (s : S), drawRun E cl yl ops ms louds ls m s = runS (E := E) cl yl p s
 | ls, m, p, h, s => by
  unfold drawPlan at h
  split at h
  ·rename_i fl ck hfl hck
   unfold drawRun
   simp only [recheckQ_eq]
   rw [float_plan hfl]
   cases ls with
   | nil =>
    simp only [Option.some.injEq] at h
    subst h
    rw [runS_append]
    cases runS (E := E) cl yl fl s with
    | none => rfl
    | some s1 =>
     have hrc : recheck E ops ms louds m s1 = ck.all (fun o => chkOne (E := E) o s1) := chk_plan hck
     simp only [contS_some, runS_chk, runS_nil, hrc]
   | cons l ls' =>
    simp only at h
    split at h
    ·rename_i q r hq hr
     simp only [Option.some.injEq] at h
     subst h
     obtain ⟨o, q, ho, hq2, rfl⟩ := getPl_some hq
     rw [runS_append]
     cases runS (E := E) cl yl fl s with
     | none => rfl
     | some s1 =>
      have hrc : recheck E ops ms louds m s1 = ck.all (fun o => chkOne (E := E) o s1) := chk_plan hck
      simp only [contS_some, runS_chk, hrc, ho, runS_op, ← one_stp hq2]
      split
      ·cases oneD E cl yl ops o s1 with
       | none => rfl
       | some s2 => exact draw_plan hr s2
      ·rfl
    ·cases h
  ·cases h
variable (E) in
def planCode : Code → Option (List Pl)
 | .region _ ops false => seqPlan ops.toList ops.toList
 | .region _ ops true => if drawOk E ops.toList then drawPlan E ops.toList (masks ops.toList) (loudsOf E ops.toList) (loudsOf E ops.toList) 0 else
   if tailOk E ops.toList then (match drawPlan E ops.toList.dropLast (masks ops.toList.dropLast) (loudsOf E ops.toList.dropLast) (loudsOf E ops.toList.dropLast) 0, ops.toList.getLast? with
    | some p, some o => (match seqPlan ops.toList [o] with | some q => some (p ++ q) | none => none)
    | _, _ => none) else none
 | _ => none
theorem runS_cat {cl yl : CallD} : ∀ (p q : List Pl) (s : S), runS (E := E) cl yl (p ++ q) s = contS (E := E) cl yl q (runS (E := E) cl yl p s)
 | [], q, s => rfl
 | .op o :: l, q, s => by
  show (match guardS (E := E) (wantedS o.g s.tm) cl yl o s with | some s' => runS cl yl (l ++ q) s' | none => none) = contS cl yl q (match guardS (E := E) (wantedS o.g s.tm) cl yl o s with | some s' => runS cl yl l s' | none => none)
  cases guardS (E := E) (wantedS o.g s.tm) cl yl o s with
  | none => rfl
  | some s' => exact runS_cat l q s'
 | .chk k :: l, q, s => by
  show (if k.all (fun o => chkOne (E := E) o s) then runS cl yl (l ++ q) s else none) = contS cl yl q (if k.all (fun o => chkOne (E := E) o s) then runS cl yl l s else none)
  split
  ·exact runS_cat l q s
  ·rfl
theorem exR_plan {c : Code} {p : List Pl} (h : planCode E c = some p) (s : S) : exR E c s = norm (runS (E := E) (callR E) (roundR E) p s) := by
 unfold planCode at h
 split at h
 ·rw [exR_region, seq_plan h]
 ·split at h
  ·rename_i hd
   rw [exR_draw]
   unfold drawD
   rw [if_pos hd, draw_plan h]
  ·rename_i hd
   split at h
   ·rename_i ht
    split at h
    ·rename_i p1 o h1 h2
     split at h
     ·rename_i q hq
      simp only [Option.some.injEq] at h
      subst h
      rw [exR_draw]
      unfold drawD
      rw [if_neg hd, if_pos ht, runS_cat, draw_plan h1]
      cases runS (E := E) (callR E) (roundR E) p1 s with
      | none => rfl
      | some s1 =>
       simp only [h2]
       rw [seq_plan hq]
       rfl
     ·cases h
    ·cases h
   ·cases h
 ·cases h
end
end Go.D
namespace Go.D
set_option maxRecDepth 100000
def regOf (i : Nat) : Code → Option Code
 | .region id ops d => if Nat.beq id i then some (.region id ops d) else none
 | .seq a b => (match regOf i a with | some c => some c | none => regOf i b)
 | .cond _ a b => (match regOf i a with | some c => some c | none => regOf i b)
 | .block _ c => regOf i c
 | .loop c => regOf i c
 | .scope c => regOf i c
 | .rangeFunc _ _ a b => (match regOf i a with | some c => some c | none => regOf i b)
 | _ => none
def regAt (F : Func) (i : Nat) : Code :=
 match F.body with
 | some c => (regOf i c).getD .skip
 | none => .skip
section
variable {E : Env}
noncomputable def branchS (E : Env) (v : Option Value) (a b : Code) (s : S) : Option (X × S) :=
 match v with
 | some (.bool true) => exR E a s
 | some (.bool false) => exR E b s
 | _ => none
theorem exS_cond {c : Operand} {a b : Code} {s : S} : exR E (.cond c a b) s = branchS E (ev E s.tm c) a b s := by
 rw [exR_cond]
 unfold branch branchS
 rfl
theorem branchS_true {a b : Code} {s : S} : branchS E (some (.bool true)) a b s = exR E a s := rfl
theorem branchS_false {a b : Code} {s : S} : branchS E (some (.bool false)) a b s = exR E b s := rfl
theorem andThen_normal {s : S} {f : S → Option (X × S)} : andThen (some (.normal, s)) f = f s := rfl
theorem andThen_ret {s : S} {f : S → Option (X × S)} : andThen (some (.ret, s)) f = some (.ret, s) := rfl
theorem andThen_exit {s : S} {id : Nat} {f : S → Option (X × S)} : andThen (some (.exit id, s)) f = some (.exit id, s) := rfl
theorem unblock_normal {s : S} {id : Nat} : unblock id (some (.normal, s)) = some (.normal, s) := rfl
theorem unblock_ret {s : S} {id : Nat} : unblock id (some (.ret, s)) = some (.ret, s) := rfl
theorem unblock_exit {s : S} {id id' : Nat} : unblock id (some (.exit id', s)) = if id' = id then some (.normal, s) else some (.exit id', s) := rfl
theorem norm_some {s : S} : norm (some s) = some (.normal, s) := rfl
theorem wantedS_none {tm : Tr Value} : wantedS none tm = true := rfl
theorem wantedS_some {d : Nat} {w : Bool} {tm : Tr Value} : wantedS (some (d, w)) tm = isB (tm.get d) w := rfl
theorem isB_bool {b w : Bool} : isB (some (.bool b)) w = (b == w) := rfl
theorem guardS_true {cl yl : CallD} {o : Stp} {s : S} : guardS (E := E) true cl yl o s = putS o.d s (opD E cl yl s.h s.tm o.op) := rfl
theorem guardS_false {cl yl : CallD} {o : Stp} {s : S} : guardS (E := E) false cl yl o s = s.put o.d undef s.h := rfl
theorem putS_some {d n : Nat} {rd : Bool} {tm : Tr Value} {h h' : H} {v : Value} (hd : d < n) : putS (some d) ⟨rd, n, tm, h⟩ (some (v, h')) = some ⟨rd, n, tm.set d v, h'⟩ := by
 have hb : Nat.blt d n = true := Nat.ble_eq_true_of_le hd
 simp [putS, S.put, hb]
theorem putS_none {s : S} {h' : H} {v : Value} : putS none s (some (v, h')) = some ⟨s.rd, s.n, s.tm, h'⟩ := by cases s; rfl
theorem sput_some {d n : Nat} {rd : Bool} {tm : Tr Value} {h h' : H} {v : Value} (hd : d < n) : S.put ⟨rd, n, tm, h⟩ (some d) v h' = some ⟨rd, n, tm.set d v, h'⟩ := by
 have hb : Nat.blt d n = true := Nat.ble_eq_true_of_le hd
 simp [S.put, hb]
section
variable {tm : Tr Value} {h : H}
theorem ev_tmp {t : Nat} : ev E tm (.tmp t) = some ((tm.get t).getD undef) := rfl
theorem ev_func {f : Nat} : ev E tm (.func f) = some (.func (.func f) #[] #[]) := rfl
theorem ev_bool {b : Bool} : ev E tm (.const (.bool b)) = some (.bool b) := rfl
theorem ev_int {k : IntKind} {n : Int} : ev E tm (.const (.int k n)) = some (.int k n) := rfl
theorem ev_str {s : ByteArray} : ev E tm (.const (.string s)) = some (.string s) := rfl
theorem ev_snil : ev E tm (.const (.slice none 0 0)) = some (.slice none 0 0) := rfl
theorem ev_pnil : ev E tm (.const (.pointer none)) = some (.pointer none) := rfl
theorem ev_mnil : ev E tm (.const (.map none)) = some (.map none) := rfl
theorem ev_fnil : ev E tm (.const .nilFunc) = some .nilFunc := rfl
theorem ev_inil : ev E tm (.const .nilIface) = some .nilIface := rfl
variable {cl yl : CallD}
theorem op_move {x : Operand} : opD E cl yl h tm (.move x) = same h (ev E tm x) := rfl
theorem op_assign {x : Operand} : opD E cl yl h tm (.assign x) = same h (ev E tm x) := rfl
theorem op_pick {c a b : Operand} : opD E cl yl h tm (.pick c a b) = same h (oPick E tm c a b) := rfl
theorem op_build {t : TypeId} {ps : Array (Nat × Operand)} : opD E cl yl h tm (.build t ps) = same h (oBuild E tm t ps) := rfl
theorem op_nil {x : Operand} : opD E cl yl h tm (.nilCheck x) = same h (oNil E tm x) := rfl
theorem op_bin {o : BinOp} {t u : TypeId} {x y : Operand} : opD E cl yl h tm (.binOp o t x y u) = same h (oBin E tm o t x y) := rfl
theorem op_un {o : UnOp} {t : TypeId} {x : Operand} : opD E cl yl h tm (.unOp o t x) = same h (oUn E tm o x) := rfl
theorem op_func {f : Fn} {a b : Array Operand} : opD E cl yl h tm (.makeFunc f a b) = same h (oFunc E tm f a b) := rfl
theorem op_slice {t : TypeId} {x : Operand} {lo hi mx : Option Operand} : opD E cl yl h tm (.slice t x lo hi mx) = same h (oSlice E h tm t x lo hi mx) := rfl
theorem op_faddr {t : TypeId} {x : Operand} {f : Nat} : opD E cl yl h tm (.fieldAddr t x f) = same h (oFieldAddr E tm t x f) := rfl
theorem op_field {t : TypeId} {x : Operand} {f : Nat} : opD E cl yl h tm (.field t x f) = same h (oField E tm t x f) := rfl
theorem op_iaddr {t : TypeId} {x i : Operand} : opD E cl yl h tm (.indexAddr t x i) = same h (oIndexAddr E tm t x i) := rfl
theorem op_index {t : TypeId} {x i : Operand} : opD E cl yl h tm (.index t x i) = same h (oIndex E tm t x i) := rfl
theorem op_extract {x : Operand} {i : Nat} : opD E cl yl h tm (.extract x i) = same h (oExtract E tm x i) := rfl
theorem op_load {t : TypeId} {x : Operand} : opD E cl yl h tm (.load t x) = same h (oLoad E h tm t x) := rfl
theorem op_lookup {t : TypeId} {x i : Operand} {ok : Bool} : opD E cl yl h tm (.lookup t x i ok) = same h (oLookup E h tm t x i ok) := rfl
theorem op_alloc {t : TypeId} : opD E cl yl h tm (.alloc t) = pushed h (oAlloc E t) := rfl
theorem op_box {t : TypeId} {x : Operand} : opD E cl yl h tm (.box t x) = pushed h (oBox E tm t x) := rfl
theorem op_row {t : TypeId} {n : Nat} {ps : Array (Nat × Operand)} : opD E cl yl h tm (.buildSlice t n ps) = pushed h (oRow E tm t n ps) := rfl
theorem op_make {t : TypeId} {l c : Operand} : opD E cl yl h tm (.makeSlice t l c) = pushed h (oMake E tm t l c) := rfl
theorem op_map {t : TypeId} {r : Option Operand} : opD E cl yl h tm (.makeMap t r) = pushed h (oMap r) := rfl
theorem op_range {t : TypeId} {x : Operand} : opD E cl yl h tm (.range t x) = pushed h (oRange E tm t x) := rfl
theorem op_store {t : TypeId} {a x : Operand} : opD E cl yl h tm (.store t a x) = oStore E h tm t a x := rfl
theorem op_insert {t : TypeId} {m k v : Operand} : opD E cl yl h tm (.insert t m k v) = oUpdate E h tm t m k v := rfl
theorem op_update {t : TypeId} {m k v : Operand} : opD E cl yl h tm (.mapUpdate t m k v) = oUpdate E h tm t m k v := rfl
theorem op_next {i : Operand} {b : Bool} : opD E cl yl h tm (.next i b) = oNext E h tm i b := rfl
theorem op_conv {a b : TypeId} {x : Operand} : opD E cl yl h tm (.convert a b x) = opConv E h tm a b x := rfl
theorem same_some {v : Value} : same h (some v) = some (v, h) := rfl
theorem pushed_some {o : Obj} {mk : Nat → Value} : pushed h (some (o, mk)) = some (mk h.next, h.push o) := rfl
def withL {α : Type} (g : List Value → Option α) : Option (List Value) → Option α
 | some l => g l
 | none => none
def callS (cl : CallD) (f : Nat) (h : H) : Option (List Value) → Option (Value × H)
 | some l => cl f l h
 | none => none
theorem op_call {f : Nat} {as : Array Operand} {ts : Array TypeId} : opD E cl yl h tm (.call ⟨.value (.func f), as, ts⟩) = callS cl f h (evs E tm as.toList) := by
 show oLoudCall E cl yl h tm _ = _
 unfold oLoudCall
 cases evs E tm as.toList with
 | none => rfl
 | some l => show cl f ([] ++ l ++ []) h = cl f l h; rw [List.nil_append, List.append_nil]
theorem op_callv {t : Nat} {as : Array Operand} {ts : Array TypeId} : opD E cl yl h tm (.call ⟨.value (.tmp t), as, ts⟩) = withL (oCallV cl yl h ((tm.get t).getD undef)) (evs E tm as.toList) := by
 show oLoudCall E cl yl h tm _ = _
 unfold oLoudCall
 cases evs E tm as.toList with
 | none => rfl
 | some l => rfl
theorem callS_some {f : Nat} {l : List Value} : callS cl f h (some l) = cl f l h := rfl
theorem withL_some {α : Type} {g : List Value → Option α} {l : List Value} : withL g (some l) = g l := rfl
theorem callV_func {f : Nat} {a b l : List Value} : oCallV cl yl h (.func (.func f) ⟨a⟩ ⟨b⟩) l = cl f (a ++ l ++ b) h := rfl
theorem callV_yield {k : Nat} {l : List Value} : oCallV cl yl h (.func (.yield k) ⟨[]⟩ ⟨[]⟩) l = yl k l h := rfl
theorem op_len {as : Array Operand} {ts : Array TypeId} : opD E cl yl h tm (.call ⟨.builtin .len, as, ts⟩) = same h (oLen E tm ts.toList as) := rfl
theorem op_append {as : Array Operand} {ts : Array TypeId} : opD E cl yl h tm (.call ⟨.builtin .append, as, ts⟩) = withL (oAppend E h ts.toList) (evs E tm as.toList) := by
 show oLoudCall E cl yl h tm _ = _
 unfold oLoudCall
 cases evs E tm as.toList with
 | none => rfl
 | some l => rfl
theorem op_copy {as : Array Operand} {ts : Array TypeId} : opD E cl yl h tm (.call ⟨.builtin .copy, as, ts⟩) = withL (oCopy E h ts.toList) (evs E tm as.toList) := by
 show oLoudCall E cl yl h tm _ = _
 unfold oLoudCall
 cases evs E tm as.toList with
 | none => rfl
 | some l => rfl
theorem op_text {as : Array Operand} {ts : Array TypeId} : opD E cl yl h tm (.call ⟨.builtin .unsafeString, as, ts⟩) = withL (oText E h ts.toList) (evs E tm as.toList) := by
 show oLoudCall E cl yl h tm _ = _
 unfold oLoudCall
 cases evs E tm as.toList with
 | none => rfl
 | some l => rfl
end
def consO (v : Option Value) (l : Option (List Value)) : Option (List Value) :=
 match v, l with
 | some v, some l => some (v :: l)
 | _, _ => none
theorem consO_some {v : Value} {l : List Value} : consO (some v) (some l) = some (v :: l) := rfl
theorem evs_nil {tm : Tr Value} : evs E tm [] = some [] := rfl
theorem evs_cons {tm : Tr Value} {a : Operand} {l : List Operand} : evs E tm (a :: l) = consO (ev E tm a) (evs E tm l) := by
 unfold evs
 simp only [optAll]
 cases ev E tm a with
 | none => rfl
 | some b => cases optAll (ev E tm) l <;> rfl
theorem getD_some {α : Type} {a b : α} : (some a).getD b = a := rfl
theorem get_set_self {α : Type} {t : Tr α} {n : Nat} {a : α} : (t.set n a).get n = some a := by rw [Tr.get_set, if_pos rfl]
end
end Go.D
namespace Go.D
set_option maxRecDepth 100000
def bs (l : List UInt8) : List Value := l.map fun b => .int .u8 b.toNat
theorem bs_append (a b : List UInt8) : bs (a ++ b) = bs a ++ bs b := List.map_append ..
theorem bs_length (l : List UInt8) : (bs l).length = l.length := List.length_map ..
theorem bs_one : ∀ l : List UInt8, (bs l).all isOne = true
 | [] => rfl
 | b :: l => by
  show (isOne (.int .u8 (b.toNat : Int)) && (bs l).all isOne) = true
  rw [bs_one l]; rfl
theorem byteList_bs : ∀ l : List UInt8, byteList (bs l) = some l
 | [] => rfl
 | b :: l => by
  show byteList (.int .u8 (b.toNat : Int) :: bs l) = _
  simp only [byteList, byteList_bs l, Int.toNat_natCast]
  simp
theorem sub_get : ∀ (l : List Value) (e z o : Nat) (k : List Value), (∀ i, i < l.length → k[o + i]? = l[i]?) → Obj.sub (.cells e z k) o l.length = some l
 | [], e, z, o, k, _ => rfl
 | v :: l, e, z, o, k, hk => by
  have h0 := hk 0 (by simp)
  simp only [Nat.add_zero, List.getElem?_cons_zero] at h0
  have ih := sub_get l e z (o + 1) k (fun i hi => by
   have := hk (i + 1) (by simp; omega)
   simpa [Nat.add_assoc, Nat.add_comm 1 i] using this)
  simp only [List.length_cons, Obj.sub, Obj.get?, h0, ih]
theorem sub_all (e z : Nat) (l : List Value) : Obj.sub (.cells e z l) 0 l.length = some l := sub_get l e z 0 l (fun i _ => by simp)
theorem sub_bs (e z : Nat) (l : List UInt8) : Obj.sub (.cells e z (bs l)) 0 l.length = some (bs l) := by
 have := sub_all e z (bs l)
 rwa [bs_length] at this
structure Kept (h0 h : H) : Prop where
 le : h0.next ≤ h.next
 get : ∀ c, c < h0.next → h.get c = h0.get c
theorem Kept.refl (h : H) : Kept h h := ⟨Nat.le_refl _, fun _ _ => rfl⟩
theorem Kept.trans {a b c : H} (x : Kept a b) (y : Kept b c) : Kept a c :=
 ⟨Nat.le_trans x.le y.le, fun d hd => (y.get d (Nat.lt_of_lt_of_le hd x.le)).trans (x.get d hd)⟩
theorem H.next_push (h : H) (o : Obj) : (h.push o).next = h.next + 1 := rfl
theorem H.next_put (h : H) (b : Nat) (o : Obj) : (h.put b o).next = h.next := rfl
theorem H.next_kill (h : H) (b : Nat) : (h.kill b).next = h.next := rfl
theorem H.get_push_self (h : H) (o : Obj) : (h.push o).get h.next = some o := by rw [H.get_push, if_pos rfl]
theorem H.get_push_lt (h : H) (o : Obj) {c : Nat} (hc : c < h.next) : (h.push o).get c = h.get c := by rw [H.get_push, if_neg (by omega)]
theorem Kept.push {h0 h : H} (k : Kept h0 h) (o : Obj) : Kept h0 (h.push o) :=
 ⟨by rw [H.next_push]; exact Nat.le_succ_of_le k.le, fun c hc => by rw [H.get_push_lt h o (Nat.lt_of_lt_of_le hc k.le)]; exact k.get c hc⟩
theorem Kept.put {h0 h : H} (k : Kept h0 h) {b : Nat} (o : Obj) (hb : h0.next ≤ b) : Kept h0 (h.put b o) :=
 ⟨k.le, fun c hc => by rw [H.get_put, if_neg (by omega)]; exact k.get c hc⟩
theorem Kept.kill {h0 h : H} (k : Kept h0 h) {b : Nat} (hb : h0.next ≤ b) : Kept h0 (h.kill b) :=
 ⟨k.le, fun c hc => by rw [H.get_kill, if_neg (by omega)]; exact k.get c hc⟩
def Row (h0 h : H) (e z : Nat) (v : Value) (n : Nat) (l : List Value) : Prop :=
 (v = .slice none 0 0 ∧ n = 0 ∧ l = []) ∨ ∃ b, v = .slice (some ⟨b, 0, none⟩) n 0 ∧ h0.next ≤ b ∧ b < h.next ∧ h.get b = some (.cells e z l) ∧ l.length = n * z
theorem Row.nil (h0 h : H) (e z : Nat) : Row h0 h e z (.slice none 0 0) 0 [] := .inl ⟨rfl, rfl, rfl⟩
theorem Row.len {h0 h : H} {e z : Nat} {v : Value} {n : Nat} {l : List Value} (r : Row h0 h e z v n l) : l.length = n * z := by
 rcases r with ⟨_, rfl, rfl⟩ | ⟨b, _, _, _, _, h⟩
 ·simp
 ·exact h
theorem Row.kept {h0 h h' : H} {e z : Nat} {v : Value} {n : Nat} {l : List Value} (r : Row h0 h e z v n l) (k : Kept h h') : Row h0 h' e z v n l := by
 rcases r with r | ⟨b, h1, h2, h3, h4, h5⟩
 ·exact .inl r
 ·exact .inr ⟨b, h1, h2, Nat.lt_of_lt_of_le h3 k.le, by rw [k.get b h3]; exact h4, h5⟩
section
variable {E : Env}
theorem append_row {t e : Nat} {i j : Info} (hi : E.info t = some i) (hd : i.desc = .slice e) (hj : E.info e = some j) (hb : (Nat.ble j.bytes 1000 && Nat.ble 1 j.bytes) = true) (he : e ≠ E.bt)
  {h0 h : H} {v : Value} {n : Nat} {l : List Value} (hng : E.ng ≤ h0.next) (hr : Row h0 h e j.size v n l) (hk : Kept h0 h) {x : Value} {zeros : Bool} {new : List Value} {m : Nat}
  (hnew : newD E h j.zero j.size zeros x = some (new, m)) (h1 : new.all isOne = true) (hm : m ≤ 1000000) (hn : n ≤ 1000000) (hl : new.length = m * j.size) :
  ∃ v' h', appendD E h t zeros v x = some (v', h') ∧ Row h0 h' e j.size v' (n + m) (l ++ new) ∧ Kept h0 h' := by
 simp only [Bool.and_eq_true] at hb
 have hc : (!(new.all isOne && Nat.ble m 1000000 && Nat.ble j.bytes 1000 && Nat.ble 1 j.bytes && new.length == m * j.size)) = false := by
  rw [h1, hb.1, hb.2, hl]
  simp [hm]
 unfold appendD
 simp only [hi, hd, hj, hnew, hc, Bool.false_eq_true, if_false]
 rcases hr with ⟨rfl, rfl, rfl⟩ | ⟨b, rfl, r2, r3, r4, r5⟩
 ·simp only
  by_cases hm0 : m = 0
  ·subst hm0
   have hn0 : new = [] := by
    cases new with
    | nil => rfl
    | cons a l => simp at hl
   subst hn0
   exact ⟨_, _, by rw [if_pos rfl], .inl ⟨rfl, rfl, rfl⟩, hk⟩
  ·refine ⟨_, _, by rw [if_neg hm0], .inr ⟨h.next, by rw [Nat.zero_add], hk.le, ?_, ?_, ?_⟩, hk.push _⟩
   ·rw [H.next_push]; omega
   ·rw [H.get_push_self]; rfl
   ·simp [hl]
 ·have hg : (decide (b < E.ng) || !(Nat.ble n 1000000)) = false := by
   have : ¬ b < E.ng := by omega
   simp [this, hn]
  simp only [hg, Bool.false_eq_true, if_false, r4, Obj.row]
  rw [if_neg (by simp)]
  have hs := sub_all e j.size l
  rw [r5] at hs
  simp only [hs]
  rw [if_pos trivial, if_neg he]
  refine ⟨_, _, rfl, .inr ⟨h.next, rfl, hk.le, ?_, ?_, ?_⟩, (hk.kill r2).push _⟩
  ·rw [H.next_push]; exact Nat.lt_succ_self _
  ·exact H.get_push_self (h.kill b) _
  ·rw [List.length_append, r5, hl, Nat.add_mul]
theorem append_full {t e : Nat} {i j : Info} (hi : E.info t = some i) (hd : i.desc = .slice e) (hj : E.info e = some j) (hb : (Nat.ble j.bytes 1000 && Nat.ble 1 j.bytes) = true)
  {h : H} {b n c : Nat} {l : List Value} (hng : E.ng ≤ b) (hg : h.get b = some (.cells e j.size l)) (hll : l.length = n * j.size) {x : Value} {zeros : Bool} {new : List Value} {m : Nat}
  (hnew : newD E h j.zero j.size zeros x = some (new, m)) (h1 : new.all isOne = true) (hm : m ≤ 1000000) (hn : n ≤ 1000000) (hl : new.length = m * j.size) (hc0 : c ≠ 0) (hc : ¬ n + m ≤ c / 2) :
  appendD E h t zeros (.slice (some ⟨b, 0, none⟩) n c) x = some (.slice (some ⟨h.next, 0, none⟩) (n + m) 0, h.push (.cells e j.size (l ++ new))) := by
 simp only [Bool.and_eq_true] at hb
 have hc1 : (!(new.all isOne && Nat.ble m 1000000 && Nat.ble j.bytes 1000 && Nat.ble 1 j.bytes && new.length == m * j.size)) = false := by
  rw [h1, hb.1, hb.2, hl]
  simp [hm]
 unfold appendD
 have hg2 : (decide (b < E.ng) || !(Nat.ble n 1000000)) = false := by
  have : ¬ b < E.ng := by omega
  simp [this, hn]
 have hs := sub_all e j.size l
 rw [hll] at hs
 simp only [hi, hd, hj, hnew, hc1, Bool.false_eq_true, if_false, hg2, hg, Obj.row]
 rw [if_neg (by simp)]
 simp only [hs]
 rw [if_neg hc0, if_neg hc]
def consP (i : Nat) (v : Option Value) (l : Option (List (Nat × Value))) : Option (List (Nat × Value)) :=
 match v, l with
 | some v, some l => some ((i, v) :: l)
 | _, _ => none
theorem consP_some {i : Nat} {v : Value} {l : List (Nat × Value)} : consP i (some v) (some l) = some ((i, v) :: l) := rfl
theorem parts_nil {tm : Tr Value} : evParts E tm [] = some [] := rfl
theorem parts_cons {tm : Tr Value} {i : Nat} {a : Operand} {l : List (Nat × Operand)} : evParts E tm ((i, a) :: l) = consP i (ev E tm a) (evParts E tm l) := by
 unfold evParts
 simp only [optAll]
 cases ev E tm a with
 | none => rfl
 | some b => simp only; cases optAll _ l <;> rfl
def pack : Option (List Value) → H → Option (Value × H)
 | some [v], h => some (v, h)
 | some l, h => some (.tuple ⟨l⟩, h)
 | none, _ => none
theorem pack_nil {h : H} : pack (some []) h = some (.tuple #[], h) := rfl
theorem pack_one {h : H} {v : Value} : pack (some [v]) h = some (v, h) := rfl
theorem pack_two {h : H} {a b : Value} : pack (some [a, b]) h = some (.tuple #[a, b], h) := rfl
theorem pack_three {h : H} {a b c : Value} : pack (some [a, b, c]) h = some (.tuple #[a, b, c], h) := rfl
theorem finish_ret {rs : List ResultVar} {s : S} : finish E rs (some (.ret, s)) = pack (resultsD E rs s) s.h := by
 unfold finish pack
 simp only
 cases resultsD E rs s with
 | none => rfl
 | some l => match l with
  | [] => rfl
  | [v] => rfl
  | a :: b :: l => rfl
theorem finish_normal {rs : List ResultVar} {s : S} : finish E rs (some (.normal, s)) = pack (resultsD E rs s) s.h := by
 unfold finish pack
 simp only
 cases resultsD E rs s with
 | none => rfl
 | some l => match l with
  | [] => rfl
  | [v] => rfl
  | a :: b :: l => rfl
theorem results_nil {s : S} : resultsD E [] s = some [] := rfl
theorem results_tmp {t : Nat} {rs : List ResultVar} {s : S} : resultsD E (.tmp t :: rs) s = consO (some ((s.tm.get t).getD undef)) (resultsD E rs s) := by
 unfold resultsD
 simp only [optAll]
 cases optAll _ rs <;> rfl
theorem results_cell {a t : Nat} {rs : List ResultVar} {s : S} : resultsD E (.cell a t :: rs) s = consO (loadD E s.h t ((s.tm.get a).getD undef)) (resultsD E rs s) := by
 unfold resultsD
 simp only [optAll]
 cases loadD E s.h t ((s.tm.get a).getD undef) with
 | none => rfl
 | some v => simp only; cases optAll _ rs <;> rfl
theorem toList_mk (l : List UInt8) : ByteArray.toList ⟨⟨l⟩⟩ = l := by rw [ByteArray.toList_eq]
end
theorem cells_bool (b : Bool) : (Value.bool b).cells = #[.bool b] := rfl
theorem cells_int (k : IntKind) (n : Int) : (Value.int k n).cells = #[.int k n] := rfl
theorem cells_str (s : ByteArray) : (Value.string s).cells = #[.string s] := rfl
theorem cells_ptr (a : _) : (Value.pointer a).cells = #[.pointer a] := rfl
theorem cells_slice (a : _) (n c : Nat) : (Value.slice a n c).cells = #[.slice a n c] := rfl
theorem cells_map (r : Option Nat) : (Value.map r).cells = #[.map r] := rfl
theorem cells_func (f : Fn) (a b : Array Value) : (Value.func f a b).cells = #[.func f a b] := rfl
theorem cells_fnil : (Value.nilFunc).cells = #[.nilFunc] := rfl
theorem cells_inil : (Value.nilIface).cells = #[.nilIface] := rfl
theorem cells_agg (a : Array Value) : (Value.agg a).cells = a := rfl
def byteOf (x : Int) : UInt8 := UInt8.ofNat (x % 256).toNat
theorem wrap_byte (x : Int) : IntKind.u8.wrap x = ((byteOf x).toNat : Int) := by
 rw [IntKind.wrap_u8]
 unfold byteOf
 have h1 : 0 ≤ x % 256 := Int.emod_nonneg _ (by decide)
 have h2 : x % 256 < 256 := Int.emod_lt_of_pos _ (by decide)
 simp only [UInt8.toNat_ofNat']
 omega
end Go.D
namespace Go.D
set_option maxRecDepth 100000
theorem beq_ft : (false == true) = false := rfl
theorem beq_tf : (true == false) = false := rfl
theorem one_int {k : IntKind} {n : Int} : isOne (.int k n) = true := rfl
theorem one_bool {b : Bool} : isOne (.bool b) = true := rfl
theorem one_str {s : ByteArray} : isOne (.string s) = true := rfl
theorem one_ptr {a : _} : isOne (.pointer a) = true := rfl
theorem one_slice {a : _} {n c : Nat} : isOne (.slice a n c) = true := rfl
theorem one_func {f : Fn} {a b : Array Value} : isOne (.func f a b) = true := rfl
theorem one_fnil : isOne .nilFunc = true := rfl
theorem one_map {r : _} : isOne (.map r) = true := rfl
theorem isB_undef {w : Bool} : isB (some undef) w = false := rfl
theorem use_run {β : Type} {E : Env} {c : Code} {rd : Bool} {n : Nat} {P : Tr Value → H → Prop} {Q : Tr Value → H → X → S → Prop} (key : ∀ tm h, P tm h → ∃ x s', exR E c ⟨rd, n, tm, h⟩ = some (x, s') ∧ Q tm h x s') {tm : Tr Value} {h : H} {r : β} (F : Option (X × S) → β)
  (he : F (exR E c ⟨rd, n, tm, h⟩) = r) (hp : P tm h) : ∃ x s', Q tm h x s' ∧ F (some (x, s')) = r := by
 obtain ⟨x, s', e, q⟩ := key tm h hp
 exact ⟨x, s', q, by rw [← e]; exact he⟩
theorem veq_int {n : Nat} {k : IntKind} {a : Int} : veq n (.int k a) (.int k a) = true := by cases n <;> simp [veq]
theorem veq_bool {n : Nat} {a : Bool} : veq n (.bool a) (.bool a) = true := by cases n <;> simp [veq]
theorem veq_str {n : Nat} {a : ByteArray} : veq n (.string a) (.string a) = true := by cases n <;> simp [veq]
theorem veq_ptr {n : Nat} {a : _} : veq n (.pointer a) (.pointer a) = true := by cases n <;> simp [veq]
theorem veq_slice {n : Nat} {a : _} {m c : Nat} : veq n (.slice a m c) (.slice a m c) = true := by cases n <;> simp [veq]
theorem veq_map {n : Nat} {a : _} : veq n (.map a) (.map a) = true := by cases n <;> simp [veq]
theorem veq_fnil {n : Nat} : veq n .nilFunc .nilFunc = true := by cases n <;> simp [veq]
theorem veq_agg {n : Nat} {l : List Value} (h : l.all (fun v => veq n v v) = true) : veq (n + 1) (.agg ⟨l⟩) (.agg ⟨l⟩) = true := by
 simp only [veq, beq_self_eq_true, Bool.true_and, List.all_eq_true]
 intro p hp
 obtain ⟨i, hi⟩ := List.mem_iff_getElem?.1 hp
 rw [List.getElem?_zip_eq_some] at hi
 have h2 : p.1 = p.2 := Option.some.inj (hi.1.symm.trans hi.2)
 rw [← h2]
 exact List.all_eq_true.1 h p.1 (List.mem_of_getElem? hi.1)
theorem veq_func {n f : Nat} {l : List Value} (h : l.all (fun v => veq n v v) = true) : veq (n + 1) (.func (.func f) #[] ⟨l⟩) (.func (.func f) #[] ⟨l⟩) = true := by
 simp only [veq, beq_self_eq_true, Bool.true_and]
 have : (l.zip l).all (fun p => veq n p.1 p.2) = true := by
  rw [List.all_eq_true]
  intro p hp
  obtain ⟨i, hi⟩ := List.mem_iff_getElem?.1 hp
  rw [List.getElem?_zip_eq_some] at hi
  have h2 : p.1 = p.2 := Option.some.inj (hi.1.symm.trans hi.2)
  rw [← h2]
  exact List.all_eq_true.1 h p.1 (List.mem_of_getElem? hi.1)
 simp [this]
theorem ext_head (c : UInt8) (d : List UInt8) : (ByteArray.mk ⟨c :: d⟩).extract 0 1 = ⟨⟨[c]⟩⟩ := by
 apply ByteArray.ext
 rw [ByteArray.data_extract]
 simp
theorem ext_tail (c : UInt8) (d : List UInt8) : (ByteArray.mk ⟨c :: d⟩).extract 1 (d.length + 1) = ⟨⟨d⟩⟩ := by
 apply ByteArray.ext
 rw [ByteArray.data_extract]
 simp
theorem afree_bool {n : Nat} {b : Bool} : afree n (.bool b) = true := by cases n <;> rfl
theorem afree_int {n : Nat} {k : IntKind} {i : Int} : afree n (.int k i) = true := by cases n <;> rfl
theorem afree_str {n : Nat} {s : ByteArray} : afree n (.string s) = true := by cases n <;> rfl
theorem subD_push {E : Env} {h : H} {ob : Obj} {o n : Nat} (hb : ¬ h.next < E.ng) : subD E (h.push ob) h.next o n = Obj.sub ob o n := by
 unfold subD
 rw [if_neg hb, H.get_push, if_pos rfl]
theorem subD_put {E : Env} {h : H} {ob : Obj} {b o n : Nat} (hb : ¬ b < E.ng) : subD E (h.put b ob) b o n = Obj.sub ob o n := by
 unfold subD
 rw [if_neg hb, H.get_put, if_pos rfl]
theorem subD_push_ne {E : Env} {h : H} {ob : Obj} {b o n : Nat} (hb : ¬ h.next = b) : subD E (h.push ob) b o n = subD E h b o n := by
 unfold subD
 rw [H.get_push, if_neg hb]
theorem subD_put_ne {E : Env} {h : H} {ob : Obj} {b c o n : Nat} (hb : ¬ c = b) : subD E (h.put c ob) b o n = subD E h b o n := by
 unfold subD
 rw [H.get_put, if_neg hb]
end Go.D
namespace Go.D
set_option maxRecDepth 100000
def oq (d : Nat) (p : Op) : Pl := .op ⟨some d, p, none⟩
def tq (n : Nat) : Operand := .tmp n
def mq (d n : Nat) : Pl := .op ⟨some d, .move (.tmp n), none⟩
def cq (n : Int) : Operand := .const (.int .i64 n)
def sq (l : Array UInt8) : Operand := .const (.string ⟨l⟩)
def sS := And.intro @exR_seq <| And.intro @exR_ret <| And.intro @exR_skip <| And.intro @exR_exit <| And.intro @exR_scope <| And.intro @exR_label <| And.intro @exR_block <| And.intro @exS_cond <| And.intro @branchS_true <| And.intro @branchS_false <| And.intro @andThen_normal <| And.intro @andThen_ret <| And.intro @andThen_exit <| And.intro @unblock_normal <| And.intro @unblock_ret <| And.intro @unblock_exit <| And.intro @norm_some <| And.intro @runS_op <| And.intro @runS_nil <| And.intro @contS_some <| And.intro @wantedS_none <| And.intro @wantedS_some <| And.intro @isB_bool <| And.intro @isB_undef <| And.intro @guardS_true <| And.intro @guardS_false <| And.intro @putS_some <| And.intro @putS_none <| And.intro @sput_some <| And.intro @ev_tmp <| And.intro @ev_func <| And.intro @ev_bool <| And.intro @ev_int <| And.intro @ev_str <| And.intro @ev_snil <| And.intro @ev_pnil <| And.intro @ev_mnil <| And.intro @ev_fnil <| And.intro @ev_inil <| And.intro @op_move <| And.intro @op_assign <| And.intro @op_pick <| And.intro @op_build <| And.intro @op_nil <| And.intro @op_bin <| And.intro @op_un <| And.intro @op_func <| And.intro @op_slice <| And.intro @op_faddr <| And.intro @op_field <| And.intro @op_iaddr <| And.intro @op_index <| And.intro @op_extract <| And.intro @op_load <| And.intro @op_lookup <| And.intro @op_alloc <| And.intro @op_box <| And.intro @op_row <| And.intro @op_make <| And.intro @op_map <| And.intro @op_range <| And.intro @op_store <| And.intro @op_insert <| And.intro @op_update <| And.intro @op_next <| And.intro @op_conv <| And.intro @same_some <| And.intro @pushed_some <| And.intro @op_call <| And.intro @op_callv <| And.intro @callS_some <| And.intro @withL_some <| And.intro @callV_func <| And.intro @op_len <| And.intro @op_append <| And.intro @op_copy <| And.intro @evs_nil <| And.intro @evs_cons <| And.intro @consO_some <| And.intro @Tr.get_set <| And.intro @ofArgs.eq_1 <| And.intro @ofArgs.eq_2 <| And.intro @getD_some <| And.intro @Bool.false_eq_true <| And.intro @and_self <| And.intro @true_and <| And.intro @and_true <| And.intro @Int.cast_ofNat_Int <| And.intro @Int.toNat_zero <| And.intro @Int.toNat_one <| And.intro @Bool.or_true <| And.intro @Bool.true_or <| And.intro @Bool.false_or <| And.intro @Bool.or_false <| And.intro @Bool.and_false <| And.intro @Bool.false_and <| And.intro @Bool.not_true <| And.intro @Bool.not_false <| And.intro @Bool.or_self <| And.intro @runS_chk <| And.intro @chkOne.eq_1 <| And.intro @readD.eq_def <| And.intro @veq_int <| And.intro @veq_bool <| And.intro @veq_str <| And.intro @veq_ptr <| And.intro @veq_slice <| And.intro @veq_map <| And.intro @veq_fnil <| And.intro @veq_agg <| And.intro @veq_func <| And.intro @afree_bool <| And.intro @afree_int <| And.intro @afree_str <| And.intro @List.all_cons.{0} <| And.intro @List.all_nil.{0} <| And.intro @beq_ft <| And.intro @beq_tf <| And.intro @Nat.zero_add <| And.intro @oPick.eq_1 <| And.intro @oBin.eq_1 <| And.intro @binD.eq_def <| And.intro @binInt.eq_def <| And.intro @intBin.eq_def <| And.intro @iKind.eq_1 <| And.intro @unD.eq_def <| And.intro @oUn.eq_1 <| And.intro @opConv.eq_1 <| And.intro @clsConv.eq_1 <| And.intro @oConv.eq_1 <| And.intro @convD.eq_def <| And.intro @oLen.eq_def <| And.intro @lenD.eq_1 <| And.intro @parts_nil <| And.intro @parts_cons <| And.intro @consP_some <| And.intro @finish_ret <| And.intro @finish_normal <| And.intro @pack_nil <| And.intro @pack_one <| And.intro @pack_two <| And.intro @pack_three <| And.intro @results_nil <| And.intro @results_tmp <| And.intro @results_cell <| And.intro @oRow.eq_1 <| And.intro @rowD.eq_1 <| And.intro @rowTo.eq_1 <| And.intro @denseD.eq_1 <| And.intro @denseD.eq_2 <| And.intro @oAlloc.eq_1 <| And.intro @oBox.eq_1 <| And.intro @oNil.eq_1 <| And.intro @oFunc.eq_def <| And.intro @oExtract.eq_1 <| And.intro @oAppend.eq_def <| And.intro @toList_mk <| And.intro @Nat.one_mul <| And.intro @cells_bool <| And.intro @cells_int <| And.intro @cells_str <| And.intro @cells_ptr <| And.intro @cells_slice <| And.intro @cells_map <| And.intro @cells_func <| And.intro @cells_fnil <| And.intro @cells_inil <| And.intro @cells_agg <| And.intro @beq_self_eq_true.{0} <| And.intro @Bool.and_true <| And.intro @Bool.true_and <| And.intro @Bool.and_self <| And.intro @List.length_cons.{0} <| And.intro @List.length_nil.{0} <| And.intro @List.append_nil.{0} <| And.intro @List.nil_append.{0} <| And.intro @List.cons_append.{0} <| And.intro @Nat.ble_eq <| And.intro @ptrTo.eq_1 <| And.intro @mapTo.eq_1 <| And.intro @oq.eq_1 <| And.intro @tq.eq_1 <| And.intro @mq.eq_1 <| And.intro @cq.eq_1 <| @sq.eq_1
def sN := And.intro @oLoad.eq_1 <| And.intro @loadD.eq_def <| And.intro @isAggD.eq_def <| And.intro @oStore.eq_1 <| And.intro @storeD.eq_def <| And.intro @writeD.eq_1 <| And.intro @Obj.row.eq_def <| And.intro @Obj.len.eq_def <| And.intro @putL.eq_1 <| And.intro @putL.eq_2 <| And.intro @Obj.put.eq_def <| And.intro @oFieldAddr.eq_1 <| And.intro @fieldAddrD.eq_def <| And.intro @oIndexAddr.eq_1 <| And.intro @indexAddrD.eq_def <| And.intro @oField.eq_1 <| And.intro @fieldD.eq_def <| And.intro @partD.eq_1 <| And.intro @oIndex.eq_1 <| And.intro @indexD.eq_def <| And.intro @oBuild.eq_1 <| And.intro @buildD.eq_1 <| And.intro @placeOf.eq_def <| And.intro @structPlace.eq_1 <| And.intro @fillD.eq_1 <| And.intro @fillD.eq_2 <| And.intro @H.get_push <| And.intro @H.get_put <| And.intro @H.get_kill <| And.intro @H.next_push <| And.intro @H.next_put <| And.intro @H.next_kill <| And.intro @List.getElem?_cons_zero.{0} <| And.intro @List.getElem?_cons_succ.{0} <| And.intro @List.getElem?_nil.{0} <| And.intro @List.set_cons_zero.{0} <| And.intro @List.set_cons_succ.{0} <| And.intro @List.take_succ_cons.{0} <| And.intro @List.take_zero.{0} <| And.intro @List.drop_succ_cons.{0} <| And.intro @List.drop_zero.{0} <| And.intro @List.all_cons.{0} <| And.intro @List.all_nil.{0} <| And.intro @one_int <| And.intro @one_bool <| And.intro @one_str <| And.intro @one_ptr <| And.intro @one_slice <| And.intro @one_func <| And.intro @one_fnil <| And.intro @one_map <| And.intro @Option.isSome_some.{0} <| And.intro @Nat.zero_mul <| And.intro @Nat.mul_one <| And.intro @Nat.add_zero <| And.intro @Nat.lt_irrefl <| @Bool.false_eq_true
def sM := And.intro @Obj.sub.eq_1 <| And.intro @Obj.sub.eq_2 <| And.intro @Obj.get?.eq_def <| @subD.eq_1
def sO := And.intro @subD_push <| And.intro @subD_put <| And.intro @subD_push_ne <| And.intro @subD_put_ne <| @not_false_eq_true
end Go.D
namespace Go.D
set_option maxRecDepth 100000
def primB (d : Option TypeDesc) (z : Value) : Bool :=
 match d, z with
 | some (.int _), .int _ _ => true
 | some .bool, .bool _ => true
 | some .string, .string _ => true
 | _, _ => false
def flatB (P : Program) : Nat → List Field → List Value → Bool
 | i, f :: fs, z :: zs => !(f.name == "_") && f.offset == i && primB (P.underlying f.type) z && flatB P (i + 1) fs zs
 | _, [], [] => true
 | _, _, _ => false
section
variable {P : Program}
theorem part_prim {t : TypeId} {z : Value} (hp : primB (P.underlying t) z = true) (cs : Array Value) (i : Nat) (v : Value) (hv : cs.toList[i]? = some v) (w : World) : (part t cs i).run P w = .ok v w := by
 have hv' : cs[i]? = some v := by rw [← Array.getElem?_toList]; exact hv
 obtain ⟨hlt, hx⟩ := Array.getElem?_eq_some_iff.1 hv'
 unfold primB at hp
 split at hp
 ·rename_i k a b hu; simp [part, isAgg, run_underlying hu, hv']
 ·rename_i a hu; simp [part, isAgg, run_underlying hu, hv']
 ·rename_i a hu; simp [part, isAgg, run_underlying hu, hv']
 ·cases hp
theorem eqFields_flat (xs ys : Array Value) : ∀ (fs : List Field) (i : Nat) (zs l m : List Value) (b : Bool), flatB P i fs zs = true → sameKinds zs l = true → sameKinds zs m = true → (∀ j v, l[j]? = some v → xs.toList[i + j]? = some v) → (∀ j v, m[j]? = some v → ys.toList[i + j]? = some v) →
  eqCells l m = some b → ∀ w, (Op.eqFields 9999 xs ys fs).run P w = .ok b w
 | [], i, [], l, m, b, hf, hl, hm, _, _, he, w => by
  cases l with
  | nil =>
   cases m with
   | nil => cases he; rfl
   | cons => cases hm
  | cons => cases hl
 | f :: fs, i, z :: zs, l, m, b, hf, hl, hm, hx, hy, he, w => by
  simp only [flatB, Bool.and_eq_true, Bool.not_eq_true', beq_eq_false_iff_ne, beq_iff_eq] at hf
  obtain ⟨⟨⟨h1, h2⟩, h3⟩, h4⟩ := hf
  cases l with
  | nil => cases z <;> cases hl
  | cons x l =>
   cases m with
   | nil => cases z <;> cases hm
   | cons y m =>
    have p1 := part_prim h3 xs f.offset x (by rw [h2]; exact hx 0 x rfl) w
    have p2 := part_prim h3 ys f.offset y (by rw [h2]; exact hy 0 y rfl) w
    have ih := fun hl hm b he => eqFields_flat xs ys fs (i + 1) zs l m b h4 hl hm (fun j v h => by have := hx (j + 1) v (by simpa using h); rwa [show i + (j + 1) = i + 1 + j by omega] at this) (fun j v h => by have := hy (j + 1) v (by simpa using h); rwa [show i + (j + 1) = i + 1 + j by omega] at this) he w
    simp only [Op.eqFields, ne_eq, h1, not_false_eq_true, if_true, Sem.run_bind, p1, p2, Result.andThen_ok]
    unfold primB at h3
    split at h3
    ·rename_i k a c hu
     cases x <;> simp only [sameKinds, Bool.and_eq_true, beq_iff_eq, Bool.false_eq_true] at hl
     cases y <;> simp only [sameKinds, Bool.and_eq_true, beq_iff_eq, Bool.false_eq_true] at hm
     obtain ⟨rfl, hl⟩ := hl
     obtain ⟨hk, hm⟩ := hm
     subst hk
     rename_i n n'
     rw [run_equalIn_int w 9998 f.type _ _ n n' hu]
     simp only [Result.andThen_ok, eqCells, if_true] at he ⊢
     cases q : (n == n') with
     | true => rw [q] at he; simpa using ih hl hm b (by simpa using he)
     | false => rw [q] at he; simp only [Bool.false_eq_true, if_false, Option.some.injEq] at he; subst he; simp
    ·rename_i a hu
     cases x <;> simp only [sameKinds, Bool.false_eq_true] at hl
     cases y <;> simp only [sameKinds, Bool.false_eq_true] at hm
     rename_i n n'
     rw [run_equalIn_bool' w 9998 f.type n n' hu]
     simp only [Result.andThen_ok, eqCells] at he ⊢
     cases q : (n == n') with
     | true => rw [q] at he; simpa using ih hl hm b (by simpa using he)
     | false => rw [q] at he; simp only [Bool.false_eq_true, if_false, Option.some.injEq] at he; subst he; simp
    ·rename_i a hu
     cases x <;> simp only [sameKinds, Bool.false_eq_true] at hl
     cases y <;> simp only [sameKinds, Bool.false_eq_true] at hm
     rename_i n n'
     rw [run_equalIn_string w 9998 f.type n n' hu, ← beq_toListBytes]
     simp only [Result.andThen_ok, eqCells] at he ⊢
     cases q : (n == n') with
     | true => rw [q] at he; simpa using ih hl hm b (by simpa using he)
     | false => rw [q] at he; simp only [Bool.false_eq_true, if_false, Option.some.injEq] at he; subst he; simp
    ·cases h3
 | [], _, _ :: _, _, _, _, hf, _, _, _, _, _, _ => by cases hf
 | _ :: _, _, [], _, _, _, hf, _, _, _, _, _, _ => by cases hf
theorem eqGen {t : TypeId} {fs : Array Field} {zs : List Value} (hu : P.underlying t = some (.struct fs)) (hst : P.stoodInHeld t = false) (hf : flatB P 0 fs.toList zs = true) {xs ys : List Value} {b : Bool} (hx : sameKinds zs xs = true) (hy : sameKinds zs ys = true)
  (he : eqCells xs ys = some b) (w : World) : (Op.equal t (.agg ⟨xs⟩) (.agg ⟨ys⟩)).run P w = .ok b w := by
 have hfs : P.fieldsOf t = fs := by unfold Program.fieldsOf; rw [hu]
 unfold Op.equal Op.maxDepth
 rw [run_equalIn_struct w 9999 t ⟨xs⟩ ⟨ys⟩ (by rw [hfs]; exact hu) hst, hfs]
 exact eqFields_flat ⟨xs⟩ ⟨ys⟩ fs.toList 0 zs xs ys b hf hx hy (fun j v h => by simpa using h) (fun j v h => by simpa using h) he w
end
end Go.D
