/- Environments: oracles, and what was in memory. -/
import Derived.Test.YtmjdhbenplpinaaGreatDoorEnv
import Derived.Test.YtmjdhbenplpinaaGreatDoorDb
namespace Go.D
/-- Oracles; the blocks that were there: how many, and what they hold. -/
structure Tab where
  f : Nat → List Value → Option Value
  ng : Nat
  gl : Nat → Nat → Option Value
noncomputable def EV (tab : Tab) : Env := { over E0 tab.f with ng := tab.ng, glob := tab.gl }
/-- A region of a function. -/
noncomputable def Rg (f i : Nat) : Code := match E0.fn f with | some F => regAt F i | none => .skip
/-- The plan of a region. -/
abbrev RG (f i : Nat) (p : List Pl) : Prop := ∀ (tab : Tab) (s : S), exR (EV tab) (Rg f i) s = norm (runS (E := EV tab) (callR (EV tab)) (roundR (EV tab)) p s)
theorem rgo {f i : Nat} {p : List Pl} (h : ∀ tab, planCode (EV tab) (Rg f i) = some p) : RG f i p := fun tab s => exR_plan (h tab) s
/-- The way into a function. -/
abbrev ENT (f n : Nat) (rs : List ResultVar) (c : Code) : Prop := ∀ (tab : Tab) (args : List Value) (h : H), callExt (EV tab) f args = none → Nat.ble args.length n = true → callR (EV tab) f args h = finish (EV tab) rs (exR (EV tab) c ⟨false, n, ofArgs args 0 .leaf, h⟩)
theorem ent {f n : Nat} {rs : List ResultVar} {c : Code} (F : Func) (h : (E0.chk f, E0.fn f, F.body, F.ntmps, F.results.toList) = (false, some F, some c, n, rs)) : ENT f n rs c := by
  intro tab args hh hx hl
  simp only [Prod.mk.injEq] at h
  obtain ⟨h1, h2, h3, rfl, rfl⟩ := h
  exact callR_enter h1 hx h2 h3 hl
abbrev TI (t : Nat) (i : Info) : Prop := ∀ tab : Tab, (EV tab).info t = some i
end Go.D
