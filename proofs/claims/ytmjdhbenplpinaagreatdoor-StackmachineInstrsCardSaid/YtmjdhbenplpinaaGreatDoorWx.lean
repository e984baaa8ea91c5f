/- The functions of the law, one after the other: what a run of D answers. -/
import Derived.Test.YtmjdhbenplpinaaGreatDoorWv
import Derived.Test.YtmjdhbenplpinaaGreatDoorFull
import Derived.Test.YtmjdhbenplpinaaGreatDoorW0
import Derived.Laws.RangeString
import Derived.Laws.RangeAny
import Derived.Laws.StructEq
namespace Go.D
open Go.Proofs
set_option maxRecDepth 100000
set_option linter.unusedVariables false
set_option linter.unusedSimpArgs false
theorem sizeV_at (op : Int) (t u : List UInt8) (num : Nat) (imm size : Int) (hn : num < 18446744073709551616) : sizeV [.agg ⟨insL op t u num imm size⟩] = some (.tuple ⟨[.int .i64 (sizeI op t u num imm size).1, .int .i64 (sizeI op t u num imm size).2]⟩) := by
 simp only [sizeV, insL]
 rw [if_pos (by omega)]
theorem effectV_at (op : Int) (t u : List UInt8) (num : Nat) (imm size : Int) (hn : num < 18446744073709551616) : effectV [.agg ⟨insL op t u num imm size⟩] = some (.tuple ⟨[.int .i64 (effectI op t u num imm size).1, .int .i64 (effectI op t u num imm size).2.1, .int .i64 (effectI op t u num imm size).2.2]⟩) := by
 simp only [effectV, insL]
 rw [if_pos (by omega)]
theorem fuintV_at (n : Nat) (hn : n < 18446744073709551616) : fuintV [.int .u64 n, .int .i64 10] = some (.string ⟨⟨decB n⟩⟩) := by
 simp only [fuintV]
 rw [if_pos (by omega), Int.toNat_natCast]
 rfl
theorem itoaV_at (n : Int) (h1 : -9223372036854775808 ≤ n) (h2 : n ≤ 9223372036854775807) : itoaV [.int .i64 n] = some (.string ⟨⟨itoaB n⟩⟩) := by
 simp only [itoaV]
 rw [if_pos ⟨h1, h2⟩]
 rfl
section
variable (ng : Nat) (gl : Nat → Nat → Option Value)
abbrev TI_ : Tab := ⟨tabF TLs, ng, gl⟩
theorem s_ck : CheckP (TI_ ng gl) 15 := fun op t u num imm size h hn =>
 callR_tab rfl (show (if 0 ≤ num then some (Value.int .i64 (checkI op t u num imm size)) else none) = _ from if_pos hn) rfl rfl h
theorem s_ck26 : CheckP (TI_ ng gl) 16 := fun op t u num imm size h hn =>
 callR_tab rfl (show (if 0 ≤ num then some (Value.int .i64 (checkI op t u num imm size)) else none) = _ from if_pos hn) rfl rfl h
theorem s_row : RowOf (TI_ ng gl) := fun op r h hk => callR_tab rfl (by show (match kindAt op with | some r => some (Value.agg ⟨rowL r⟩) | none => none) = _; rw [hk]) rfl rfl h
theorem s_fu : ∀ args, (TI_ ng gl).f 51 args = fuintV args := fun _ => rfl
theorem s_it : ∀ args, (TI_ ng gl).f 52 args = itoaV args := fun _ => rfl
theorem s_pt : PtX (TI_ ng gl) where
 xw := fun _ => rfl
 x0 := fun _ => rfl
 x1 := fun _ => rfl
 x2 := fun _ => rfl
 x3 := fun _ => rfl
 fu := fun n h hn => callR_tab rfl ((s_fu ng gl _).trans (fuintV_at n hn)) rfl rfl h
 it := fun n h h1 h2 => callR_tab rfl ((s_it ng gl _).trans (itoaV_at n h1 h2)) rfl rfl h
theorem s_pr : PrX (TI_ ng gl) := ⟨s_pt ng gl, fun _ => rfl, fun _ => rfl, fun _ => rfl, fun _ => rfl, fun _ => rfl, fun _ => rfl, s_ck ng gl⟩
theorem s_ln : LnX (TI_ ng gl) := ⟨fun _ => rfl, fun _ => rfl, fun _ => rfl, fun _ => rfl, fun _ => rfl, fun _ => rfl, s_row ng gl, s_ck26 ng gl⟩
theorem s_sz (f : Nat) (hf : ∀ args, (TI_ ng gl).f f args = sizeV args) (hc : E0.chk f = false) (op : Int) (t u : List UInt8) (num : Nat) (imm size : Int) (h : H) (hn : num < 18446744073709551616) :
  callR (EV (TI_ ng gl)) f [.agg ⟨insL op t u num imm size⟩] h = some (.tuple ⟨[.int .i64 (sizeI op t u num imm size).1, .int .i64 (sizeI op t u num imm size).2]⟩, h) :=
 callR_tab hc ((hf _).trans (sizeV_at op t u num imm size hn)) rfl rfl h
theorem s_ef (f : Nat) (hf : ∀ args, (TI_ ng gl).f f args = effectV args) (hc : E0.chk f = false) (op : Int) (t u : List UInt8) (num : Nat) (imm size : Int) (h : H) (hn : num < 18446744073709551616) :
  callR (EV (TI_ ng gl)) f [.agg ⟨insL op t u num imm size⟩] h = some (.tuple ⟨[.int .i64 (effectI op t u num imm size).1, .int .i64 (effectI op t u num imm size).2.1, .int .i64 (effectI op t u num imm size).2.2]⟩, h) :=
 callR_tab hc ((hf _).trans (effectV_at op t u num imm size hn)) rfl rfl h
theorem s_in : InX (TI_ ng gl) := ⟨fun _ => rfl, fun _ => rfl, fun _ => rfl, s_pr ng gl, s_ln ng gl, fun op h => callR_tab rfl rfl rfl rfl h, fun op h => callR_tab rfl rfl rfl rfl h,
 s_sz ng gl 11 (fun _ => rfl) rfl, s_sz ng gl 12 (fun _ => rfl) rfl, s_ef ng gl 13 (fun _ => rfl) rfl, s_ef ng gl 14 (fun _ => rfl) rfl, fun h => callR_tab rfl rfl rfl rfl h⟩
end
end Go.D
