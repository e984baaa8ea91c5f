/- Add64 as D has it. -/
import Derived.Test.YtmjdhbenplpinaaGreatDoorOk
import Derived.Test.YtmjdhbenplpinaaGreatDoorDb
import Derived.Laws.Externs
namespace Go.D
open Go.Proofs
set_option maxRecDepth 100000
theorem add64_row (x y c : Int) (hc : ¬ (c.toNat > 1)) (w : World) : (callFunc 199 ⟨[.int .u64 x, .int .u64 y, .int .u64 c]⟩).run Tryz.prog w =
    .ok (.value (Extern.MathBitsCarry.pair ((x.toNat + y.toNat + c.toNat) % Extern.MathBitsCarry.m64) ((x.toNat + y.toNat + c.toNat) / Extern.MathBitsCarry.m64))) w := by
  rw [run_callFunc_extern Tryz.func199 (by kernel_rfl) (by kernel_rfl) (by kernel_rfl) (e := fun args => do
    let (x, y, c) ← Extern.MathBitsCarry.three "Add64" args
    pure (Extern.MathBitsCarry.pair ((x + y + c) % Extern.MathBitsCarry.m64) ((x + y + c) / Extern.MathBitsCarry.m64))) rfl]
  simp only [Sem.run_bind, run_add64 x y c hc, Result.andThen_ok, Sem.run_pure]
theorem e0_ext (f : Nat) (args : List Value) (v : Value) (h : callExt E0 f args = some v) (w : World) : (callFunc f ⟨args⟩).run Tryz.prog w = .ok (.value v) w := by
  unfold callExt at h
  split at h
  · rename_i v0 hv
    split at h
    · simp only [Option.some.injEq] at h
      subst h
      simp only [E0] at hv
      cases hf : Nat.beq f 199 with
      | false => rw [hf] at hv; cases hv
      | true =>
        rw [hf] at hv
        simp only [cond_true] at hv
        obtain rfl := Nat.eq_of_beq_eq_true hf
        unfold add64 at hv
        split at hv
        · split at hv
          · rename_i hb
            simp only [Option.some.injEq] at hv
            subst hv
            exact add64_row _ _ _ (by omega) w
          · cases hv
        · cases hv
    · cases h
  · cases h
end Go.D
