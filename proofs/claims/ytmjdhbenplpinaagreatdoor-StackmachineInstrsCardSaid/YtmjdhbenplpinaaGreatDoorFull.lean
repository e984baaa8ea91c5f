/- The environment of D is the program's; so is it with oracles and with what was in memory laid over it. -/
import Derived.Test.YtmjdhbenplpinaaGreatDoorExt
import Derived.Test.YtmjdhbenplpinaaGreatDoorCc
import Derived.Test.YtmjdhbenplpinaaGreatDoorEV
import Derived.Test.YtmjdhbenplpinaaGreatDoorDb
namespace Go.D
open Go.Proofs
set_option maxRecDepth 100000
set_option linter.unusedVariables false
theorem e0_chk {E : Env} (hE : EnvOk2 Tryz.prog E) (hb : E.chk = E0.chk) (hbt : E.bt = 82) (f : Nat) (hc : E.chk f = true) (F : Fence) (n B : Nat) (μ : Mu) (h : H) (w : World) (p p' v : Value) (h' : H) (hF : Wide F) (hh : HR E B μ h w) (hp : VR E.ng μ p p') (hr : checkD E h p = some (v, h')) :
    Does F n Tryz.prog f ⟨[p']⟩ w (fun e w' => ∃ v', e = .returned v' ∧ StepOk E B μ h w h' w' v v') := by
  rw [hb] at hc
  simp only [E0] at hc
  obtain rfl := Nat.eq_of_beq_eq_true hc
  exact chk_of hE Tryz.func49 (by kernel_rfl) (by kernel_rfl) cc_used (by rw [hbt]; exact cc_fresh) hF hh hp hr
theorem e0_ok : EnvOk3 Tryz.prog E0 where
  toEnvOk2 := e0_ok2
  ext := fun f args v _ h F n B μ h1 w hF hh => .inr ⟨v, e0_ext f args v h w, rfl, hh, Ext.refl _ _ _⟩
  chk := fun f hc F n B μ h w p p' v h' hF hh hp hr => e0_chk e0_ok2 rfl rfl f hc F n B μ h w p p' v h' hF hh hp hr
/-- A wider environment's heap fits the narrow one, empty. -/
theorem HR.narrow {tab : Tab} (hng : 17 ≤ tab.ng) (hgl : ∀ g o v, E0.glob g o = some v → tab.gl g o = some v) (hE : ∀ g o v, E0.glob g o = some v → g < 17 ∧ afree 4 v = true) {B : Nat} {μ : Mu} {h : H} {w : World} (hh : HR (EV tab) B μ h w) : HR E0 w.heap.size (fun _ => none) ⟨17, .leaf⟩ w :=
  ⟨Nat.le_refl _, Nat.le_trans (Nat.le_trans hng hh.ngB) hh.base, Nat.le_refl _, fun _ _ h => (by cases h), fun _ _ _ h => (by cases h), fun _ _ _ _ _ _ h => (by cases h), fun g o v hv => by
    obtain ⟨_, v', q2, q3⟩ := hh.glob g o v (hgl g o v hv)
    obtain ⟨r1, r2⟩ := hE g o v hv
    have e := (q2 (fun _ => none)).afree_eq 4 r2
    subst e
    exact ⟨r1, v, fun μ => VR.of_afree 4 v r2, q3⟩, fun _ _ => rfl, fun _ _ h => (by cases h)⟩
theorem e0_glob (g o : Nat) (v : Value) (h : E0.glob g o = some v) : g < 17 ∧ afree 4 v = true := by
  have h' : (bif Nat.beq g 1 then tabGlob[o]? else bif Nat.beq g 0 then tabFloating[o]? else bif Nat.beq g 2 then tabPow[o]? else none) = some v := h
  have a1 : tabGlob.all (afree 4) = true := by kernel_rfl
  have a2 : tabFloating.all (afree 4) = true := by kernel_rfl
  have a3 : tabPow.all (afree 4) = true := by kernel_rfl
  cases hb : Nat.beq g 1 with
  | true =>
    rw [hb] at h'
    obtain rfl := Nat.eq_of_beq_eq_true hb
    exact ⟨by decide, List.all_eq_true.1 a1 v (List.mem_of_getElem? h')⟩
  | false =>
    rw [hb] at h'
    cases hc : Nat.beq g 0 with
    | true =>
      rw [hc] at h'
      obtain rfl := Nat.eq_of_beq_eq_true hc
      exact ⟨by decide, List.all_eq_true.1 a2 v (List.mem_of_getElem? h')⟩
    | false =>
      rw [hc] at h'
      cases hd : Nat.beq g 2 with
      | true =>
        rw [hd] at h'
        obtain rfl := Nat.eq_of_beq_eq_true hd
        exact ⟨by decide, List.all_eq_true.1 a3 v (List.mem_of_getElem? h')⟩
      | false => rw [hd] at h'; cases h'
theorem ev_ok2 (tab : Tab) : EnvOk2 Tryz.prog (EV tab) where
  desc := e0_ok2.desc
  size := e0_ok2.size
  fn := e0_ok2.fn
  mixed := e0_ok2.mixed
  eqf := e0_ok2.eqf
  zone := e0_ok2.zone
  zfree := e0_ok2.zfree
  eqg := e0_ok2.eqg
  fields := e0_ok2.fields
/-- What an oracle does at the narrow environment's empty heap, it does at a wider one. -/
theorem orc_wide {tab : Tab} (hng : 17 ≤ tab.ng) (hgl : ∀ g o v, E0.glob g o = some v → tab.gl g o = some v) {f : Nat} {args : List Value} {v : Value} (ho : Orc Tryz.prog E0 f args v) : Orc Tryz.prog (EV tab) f args v := fun F n B μ h w hF hh => by
  refine (ho F n w.heap.size (fun _ => none) ⟨17, .leaf⟩ w hF (hh.narrow hng hgl e0_glob)).mono fun e w' ⟨he, _, hx⟩ => ?_
  have hk : ∀ r, r < w.heap.size → w'.heap[r]? = w.heap[r]? := fun r hr => hx.kept r hr (fun b m hb => by cases hb)
  exact ⟨he, hh.keep hx.size hk, ⟨Mu.le_refl μ, hx.os, hx.tape, hx.output, hx.size, fun r hr _ => hk r hr, fun b _ hn => ⟨hn, rfl⟩, Nat.le_refl _, fun b m hm => .inl ⟨b, m, hm, rfl⟩⟩⟩
theorem ev_ok {tab : Tab} (hng : 17 ≤ tab.ng) (hgl : ∀ g o v, E0.glob g o = some v → tab.gl g o = some v) (ht : ∀ f args v, E0.chk f = false → tab.f f args = some v → Orc Tryz.prog E0 f args v) : EnvOk3 Tryz.prog (EV tab) where
  toEnvOk2 := ev_ok2 tab
  ext := fun f args v h1 h2 F n B μ h w hF hh => by
    have h3 := h2
    simp only [callExt, EV, over] at h3
    cases hc : tab.f f args with
    | some v0 =>
      rw [hc] at h3
      simp only at h3
      split at h3
      · simp only [Option.some.injEq] at h3
        subst h3
        exact orc_wide hng hgl (ht f args v0 h1 hc) F n B μ h w hF hh
      · cases h3
    | none =>
      rw [hc] at h3
      exact .inr ⟨v, e0_ext f args v h3 w, rfl, hh, Ext.refl _ _ _⟩
  chk := fun f hc F n B μ h w p p' v h' hF hh hp hr => e0_chk (ev_ok2 tab) rfl rfl f hc F n B μ h w p p' v h' hF hh hp hr
end Go.D
