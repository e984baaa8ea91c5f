/- The environment of D is the program's. -/
import Derived.Test.YtjlgklkficmfbaaGreatDoorExt
import Derived.Test.YtjlgklkficmfbaaGreatDoorCc
import Derived.Test.YtjlgklkficmfbaaGreatDoorDb
namespace Go.D
open Go.Proofs
set_option maxRecDepth 100000
theorem e0_ok : EnvOk3 Tryz.prog E0 where
  toEnvOk2 := e0_ok2
  ext := fun f args v _ h F n B μ h1 w hF hh => .inr ⟨v, e0_ext f args v h w, rfl, hh, Ext.refl _ _ _⟩
  chk := fun f hc F n B μ h w p p' v h' hF hh hp hr => by
    simp only [E0] at hc
    obtain rfl := Nat.eq_of_beq_eq_true hc
    exact chk_of e0_ok2 Tryz.func39 (by kernel_rfl) (by kernel_rfl) cc_used cc_fresh hF hh hp hr
end Go.D
