/- The functions of the law, one after the other: what a run of D answers. -/
import Derived.Test.YtmjdhbenplpinaaGreatDoorWr
import Derived.Test.YtmjdhbenplpinaaGreatDoorFull
import Derived.Test.YtmjdhbenplpinaaGreatDoorW0
import Derived.Laws.RangeString
import Derived.Laws.RangeAny
import Derived.Laws.StructEq
import Derived.Test.YtmjdhbenplpinaaGreatDoorLy
import Derived.Lib.AppendIntMem
import Derived.Lib.Walk
import Derived.WalkKit
import Derived.BigCall
import Derived.BigGuard
namespace Go.D
open Go.Proofs
set_option maxRecDepth 100000
set_option linter.unusedVariables false
set_option linter.unusedSimpArgs false
section
open Go.RowKit Go.Sort Go.Lib Go.Shelf
theorem pow_tab {B : Nat} {μ : Mu} {h : H} {w : World} (hh : HR E0 B μ h w) : TabIs Tryz.prog w "internal/strconv.uint64pow10" .u64 pow10Tab := by
 have hg : Tryz.prog.globalNamed "internal/strconv.uint64pow10" = some 2 := by kernel_rfl
 obtain ⟨_, _, _, _, hs⟩ := hh.glob 2 0 (.int .u64 1) rfl
 obtain ⟨cs, a, b, e, hn⟩ := hs 20 rfl
 have hp : (pow10Tab.map fun z => Value.int .u64 z) = tabPow := rfl
 unfold TabIs World.var?
 rw [hg, hp]
 simp only [Option.bind_some, e, Option.some.injEq]
 refine Array.ext_getElem? fun i => ?_
 have ht : tabPow.toArray[i]? = tabPow[i]? := by simp
 rw [ht]
 by_cases hi : i < 20
 ·obtain ⟨v, hv⟩ : ∃ v, tabPow[i]? = some v := ⟨_, List.getElem?_eq_getElem (show i < tabPow.length from hi)⟩
  obtain ⟨_, v', q2, q3, _⟩ := hh.glob 2 i v hv
  have hf := (e0_glob 2 i v hv).2
  have e1 := (q2 (fun _ => none)).afree_eq 4 hf
  subst e1
  rw [hv]
  simpa only [World.cell?, e, Option.isSome_none, Bool.false_eq_true, if_false] using q3
 ·rw [List.getElem?_eq_none (show tabPow.length ≤ i by show 20 ≤ i; omega), Array.getElem?_eq_none (by omega)]
theorem orc_of_grow {f : Nat} {F : Func} {args : List Value} {v : Value} (he : ∀ xs w, (callFunc f xs).run Tryz.prog w = .ok (.enter f xs) w) (hc : ∀ w, TabIs Tryz.prog w "internal/strconv.uint64pow10" .u64 pow10Tab → Calls Tryz.prog f ⟨args⟩ w fun e w' => e = .returned v ∧ ∃ k os, w' = grow (w.drewN k) os) : Orc Tryz.prog E0 f args v := fun G n B μ h w hF hh => by
 refine .inl ⟨he _ _, callsIn_of_calls hF ((hc w (pow_tab hh)).mono fun e w' ⟨h1, k, os, hw⟩ => ?_)⟩
 subst hw
 have hk : ∀ r, r < w.heap.size → (grow (w.drewN k) os).heap[r]? = w.heap[r]? := fun r hr => heap_grow_old w k os r hr
 have hs := size_grow w k os
 exact ⟨h1, hh.keep hs hk, ⟨Mu.le_refl μ, rfl, rfl, rfl, hs, fun r hr _ => hk r hr, fun b _ hn => ⟨hn, rfl⟩, Nat.le_refl _, fun b m hm => .inl ⟨b, m, hm, rfl⟩⟩⟩
theorem small_c (i : Nat) (hi : i < 100) (w : World) : Calls Tryz.prog 113 #[.int .i64 i] w fun e w' => e = .returned (.string ⟨(decDigits i).toArray⟩) ∧ w' = w := Any.internal_strconv_small { Tryz.lays171 with } i hi w
theorem numd_c (u : Nat) (h1 : 1 ≤ u) (h2 : u < 18446744073709551616) (w : World) (htab : TabIs Tryz.prog w "internal/strconv.uint64pow10" .u64 pow10Tab) : Calls Tryz.prog 114 #[.int .u64 u] w fun e w' => e = .returned (.int .i64 (nDigits u)) ∧ w' = w := Any.internal_strconv_numDigits { Tryz.lays171 with } u h1 h2 w htab
theorem fb10_c (blk off cap u : Nat) (d : Array UInt8) (w : World) (hH : Holds (fun (b : UInt8) => Value.int .u8 (b.toNat : Int)) w blk off d) (hu : u < 10 ^ d.size) (hu64 : u < 18446744073709551616) (hsz : d.size < 4611686018427387904) :
  Calls Tryz.prog 115 #[.slice (some ⟨blk, off, none⟩) d.size cap, .int .u64 u] w fun e w' => e = .returned (.tuple #[]) ∧ ∃ (n v' : Nat) (dk : Array UInt8), w' = (putRow (fun (b : UInt8) => Value.int .u8 (b.toNat : Int)) w blk off dk).drewN n ∧ FmtInv d.size u 0 v' dk := Any.internal_strconv_formatBase10 { Tryz.lays171 with } blk off cap u d w hH hu hu64 hsz
theorem itoa_c (n : Int) (h0 : -9223372036854775808 ≤ n) (h1 : n ≤ 9223372036854775807) (w : World) (htab : TabIs Tryz.prog w "internal/strconv.uint64pow10" .u64 pow10Tab) :
  Calls Tryz.prog 52 #[.int .i64 n] w fun e w' => e = .returned (.string ⟨(itoa n).toArray⟩) ∧ ∃ k os, w' = grow (w.drewN k) os := Any.strconv_Itoa Tryz.lays171 n h0 h1 w htab
theorem zero0 (w : World) (T : TypeId) (nd : Nat) (hs : nd ≤ 24) : Holds (fun (b : UInt8) => Value.int .u8 (b.toNat : Int)) (w.alloc (.cells zeros24 T)) w.heap.size 0 (Array.replicate nd (0 : UInt8)) := fun j hj => by
 have hj' : j < nd := by simpa using hj
 refine ⟨?_, World.frozen?_alloc_new _ _ _ _⟩
 rw [World.cell?_alloc_new, zeros24_at _ (by omega), getElem!_pos _ j hj]
 simp
set_option maxHeartbeats 4000000 in
theorem fuint_c (u : Nat) (hu64 : u < 18446744073709551616) (w : World) (htab : TabIs Tryz.prog w "internal/strconv.uint64pow10" .u64 pow10Tab) :
  Calls Tryz.prog 84 #[.int .u64 u, .int .i64 10] w fun e w' => e = .returned (.string ⟨(decDigits u).toArray⟩) ∧ ∃ k os, w' = grow (w.drewN k) os := by
 by_cases hs : u < 100
 ·go_enter Tryz.func84, Tryz.ntmps84
  go_wp2_with (go_at_call 113; refine (small_c u hs _).mono ?_; rintro e w' ⟨rfl, rfl⟩)
  go_ret
  exact ⟨rfl, 0, #[], by simp [World.drewN_zero]⟩
 ·have hu1 : 1 ≤ u := by omega
  have hnd20 : nDigits u ≤ 20 := by have := numDigits_eq u hu1 hu64; split at this <;> omega
  have hal : Tryz.prog.arrayLen 178 = 24 := by kernel_rfl
  have hsl : ∀ W, (Instr.sliceAt 178 (.pointer (some ⟨w.heap.size, 0, none⟩)) none (some (.int .i64 (nDigits u : Int))) none).run Tryz.prog W = .ok (.slice (some ⟨w.heap.size, 0, none⟩) (nDigits u) 24) W := fun W => by
   rw [run_sliceAt_array_h W 178 ⟨w.heap.size, 0, none⟩ (by kernel_rfl) .i64 (nDigits u : Int) (by omega) (by rw [hal]; omega)]
   go_simp
  have hH0 := zero0 w 178 (nDigits u) (by omega)
  have hfmt := fb10_c w.heap.size 0 24 u (Array.replicate (nDigits u) 0) (w.alloc (.cells zeros24 178)) hH0 (by rw [Array.size_replicate]; exact lt_pow_nDigits u) hu64 (by rw [Array.size_replicate]; omega)
  rw [Array.size_replicate] at hfmt
  have HH0 := hid hH0
  clear hH0 hal
  go_enter Tryz.func84, Tryz.ntmps84
  go_wp2_with (first
   | (go_at_call 114; refine (numd_c u hu1 hu64 _ (tabIs_alloc htab _)).mono ?_; rintro e w' ⟨rfl, rfl⟩))
  go_at_call 115
  refine hfmt.mono ?_
  rintro e w' ⟨rfl, k, v', dk, rfl, hF⟩
  have hcv : (convert 49 9 (.slice (some ⟨w.heap.size, 0, none⟩) (nDigits u) 24)).run Tryz.prog ((putRow (fun (b : UInt8) => Value.int .u8 (b.toNat : Int)) (w.alloc (.cells zeros24 178)) w.heap.size 0 dk).drewN k) = .ok (.string ⟨(decDigits u).toArray⟩) ((putRow (fun (b : UInt8) => Value.int .u8 (b.toNat : Int)) (w.alloc (.cells zeros24 178)) w.heap.size 0 dk).drewN k) := by
   have h := run_convert_bytes_back (P := Tryz.prog) ((putRow (fun (b : UInt8) => Value.int .u8 (b.toNat : Int)) (w.alloc (.cells zeros24 178)) w.heap.size 0 dk).drewN k) 49 9 5 ⟨w.heap.size, 0, none⟩ 24 (decDigits u) (by kernel_rfl) (by kernel_rfl) (by kernel_rfl) (fun j hj => by
    rw [row_is_numeral hF j hj, add_plain, World.cell?_drewN]
    exact cell?_putRow (fun (b : UInt8) => Value.int .u8 (b.toNat : Int)) _ w.heap.size 0 _ dk HH0.out (by rw [hF.size, Array.size_replicate]) j (by rw [hF.size]; rw [decDigits_length] at hj; exact hj))
   rw [decDigits_length] at h
   exact h
  go_wp2
  go_ret
  obtain ⟨os, eo⟩ := fin_at w (.cells zeros24 178) dk k 0
  exact ⟨rfl, k, os, eo⟩
theorem fuintP_c (u : Nat) (hu64 : u < 18446744073709551616) (w : World) (htab : TabIs Tryz.prog w "internal/strconv.uint64pow10" .u64 pow10Tab) :
  Calls Tryz.prog 51 #[.int .u64 u, .int .i64 10] w fun e w' => e = .returned (.string ⟨(decDigits u).toArray⟩) ∧ ∃ k os, w' = grow (w.drewN k) os := by
 go_enter Tryz.func51, Tryz.ntmps51
 go_wp2_with (go_at_call 84; refine (fuint_c u hu64 _ htab).mono ?_; rintro e w' ⟨rfl, k, os, rfl⟩)
 go_ret
 exact ⟨rfl, k, os, rfl⟩
def itoaV : Spec
 | [.int .i64 n] => if -9223372036854775808 ≤ n ∧ n ≤ 9223372036854775807 then some (.string ⟨⟨itoa n⟩⟩) else none
 | _ => none
def fuintV : Spec
 | [.int .u64 n, .int .i64 10] => if 0 ≤ n ∧ n < 18446744073709551616 then some (.string ⟨⟨decDigits n.toNat⟩⟩) else none
 | _ => none
theorem f_itoa {T : List (Nat × Spec)} (hT : Fine T) : Fine ((52, itoaV) :: T) := hT.cons fun args v hv => by
 unfold itoaV at hv
 split at hv
 ·rename_i n
  split at hv
  ·rename_i hn
   cases hv
   exact orc_of_grow (F := Tryz.f52) (fun xs w => enters_of Tryz.func52 (by kernel_rfl) rfl xs w) fun w ht => itoa_c n hn.1 hn.2 w ht
  ·cases hv
 ·cases hv
theorem f_fuint {T : List (Nat × Spec)} (hT : Fine T) : Fine ((51, fuintV) :: T) := hT.cons fun args v hv => by
 unfold fuintV at hv
 split at hv
 ·rename_i n
  split at hv
  ·rename_i hn
   cases hv
   obtain ⟨u, rfl⟩ : ∃ u : Nat, n = u := ⟨n.toNat, by omega⟩
   exact orc_of_grow (F := Tryz.f51) (fun xs w => enters_of Tryz.func51 (by kernel_rfl) rfl xs w) fun w ht => by
    rw [Int.toNat_natCast]
    exact fuintP_c u (by omega) w ht
  ·cases hv
 ·cases hv
end
end Go.D
