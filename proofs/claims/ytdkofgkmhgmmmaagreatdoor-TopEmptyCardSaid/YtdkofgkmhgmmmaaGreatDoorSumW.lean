/- The walk through sum.Sum. -/
import Derived.Test.YtdkofgkmhgmmmaaGreatDoorProg
import Derived.Test.YtdkofgkmhgmmmaaGreatDoorSumZ
import Derived.WalkKit
import Derived.ProofKit
import Derived.LoopTactic
import Derived.LoopN
namespace Go.Proofs.YtdkofgkmhgmmmaaGreatDoor
set_option linter.all false
set_option linter.unusedSimpArgs false
set_option linter.unusedVariables false
open Go Go.Ideal
set_option linter.unusedVariables false

set_option maxHeartbeats 2000000
set_option maxRecDepth 100000 in
theorem sum_full (w : World) (b off len cap : Nat) (l : List Nat) (hl : l.length = len) (hlen : len < 1099511627776) (hx : ∀ x ∈ l, x < 256)
    (hc : ∀ (j x : Nat), l[j]? = some x → w.cell? ⟨b, off + j, none⟩ = some (Value.int .u8 (x : Int))) :
    Calls Tryz.prog 203 #[.slice (some ⟨b, off, none⟩) len cap] w fun e w' => e = .returned (.int .u32 ((Nat.xor (crcL l 4294967295) 4294967295 : Nat) : Int)) ∧ Like w' w := by
  go_enter Tryz.func203, Tryz.ntmps203
  go_wp2
  go_loop [3, 9] (fun t i => ∃ k : Nat, k ≤ len ∧ i = .int .i64 k ∧ t = .int .u32 ((crcL (l.take k) 4294967295 : Nat) : Int)) (fun _ i => match i with | .int _ n => len - n.toNat | _ => 0)
  case atStart => exact ⟨0, Nat.zero_le _, rfl, rfl⟩
  case round =>
    obtain ⟨k, hk, rfl, rfl⟩ := hrel
    have hcell : k < len → w.cell? ⟨b, off + k, none⟩ = some (Value.int .u8 ((l.getD k 0 : Nat) : Int)) := fun h => hc k _ (by rw [List.getD_eq_getElem?_getD, List.getElem?_eq_getElem (by omega)]; rfl)
    go_wp2
    · rename_i hlt _ _ _
      have hlt : k < l.length := by omega
      have hb : l[k] < 256 := hx _ (List.getElem_mem hlt)
      have hr : crcL (l.take k) 4294967295 < 4294967296 := crcL_lt (by omega) fun x h => hx x (List.mem_of_mem_take h)
      have e0 : ((l[k] : Nat) : Int) % 4294967296 = ((l[k] : Nat) : Int) := by omega
      rw [e0, bits_xor32 _ _ hr (by omega)]
      have hr0 := xor_lt hr (show l[k] < 4294967296 by omega)
      have hnext : crcL (l.take (k + 1)) 4294967295 = crc1 8 (crcL (l.take k) 4294967295 ^^^ l[k]) := by
        rw [List.take_add_one, List.getElem?_eq_getElem hlt]
        exact crcL_snoc _ _ _
      generalize crcL (l.take k) 4294967295 ^^^ l[k] = r0 at hr0 hnext ⊢
      go_loop [3, 17] (fun t i => ∃ j : Nat, j ≤ 8 ∧ i = .int .i64 j ∧ t = .int .u32 ((crc1 j r0 : Nat) : Int)) (fun _ i => match i with | .int _ n => 8 - n.toNat | _ => 0)
      case atStart => exact ⟨0, Nat.zero_le _, rfl, rfl⟩
      case round =>
        obtain ⟨j, hj, rfl, rfl⟩ := hrel
        have hrj : crc1 j r0 < 4294967296 := crc1_lt hr0
        go_wp2
        · have hl1 : crc1 j r0 &&& 1 ≤ 1 := Nat.and_le_right
          have e1 : bits .and .u32 ((crc1 j r0 : Nat) : Int) 1 = ((crc1 j r0 &&& 1 : Nat) : Int) := bits_and32 _ 1 hrj (by omega)
          have e2 : ((crc1 j r0 &&& 1 : Nat) : Int) * 2197175160 % 4294967296 = (((crc1 j r0 &&& 1) * 2197175160 : Nat) : Int) := by omega
          have e3 : ((crc1 j r0 : Nat) : Int) / 2 = ((crc1 j r0 / 2 : Nat) : Int) := by omega
          refine ⟨⟨j + 1, by omega, by simp, ?_⟩, by simp; omega⟩
          rw [e1, e2, e3, bits_xor32 _ _ (by omega) (by omega), crc1_last]
          rfl
        · have hj8 : j = 8 := by omega
          subst hj8
          exact ⟨⟨k + 1, by omega, by simp, by rw [hnext]⟩, by simp; omega⟩
    all_goals
      have hk' : k = len := by omega
      subst hk'
      have ht : l.take k = l := List.take_of_length_le (by omega)
      have hr : crcL l 4294967295 < 4294967296 := crcL_lt (by omega) hx
      go_ret
      all_goals first
        | (exfalso; revert h; decide)
        | skip
      all_goals
        refine ⟨?_, Like.refl _⟩
        rw [ht]
        have e : bits .xor .u32 IntKind.u32.max ((crcL l 4294967295 : Nat) : Int) = ((4294967295 ^^^ crcL l 4294967295 : Nat) : Int) := bits_xor32 4294967295 _ (by omega) hr
        rw [e, Nat.xor_comm]; rfl

set_option maxHeartbeats 2000000
set_option maxRecDepth 100000 in
theorem sum_empty (w : World) (a : Option Addr) (cap : Nat) :
    Calls Tryz.prog 203 #[.slice a 0 cap] w fun e w' => e = .returned (.int .u32 ((Nat.xor (crcL [] 4294967295) 4294967295 : Nat) : Int)) ∧ Like w' w := by
  go_enter Tryz.func203, Tryz.ntmps203
  go_wp2
  go_loop [3, 9] (fun t i => i = .int .i64 0 ∧ t = .int .u32 4294967295) (fun _ _ => 0)
  case atStart => exact ⟨rfl, rfl⟩
  case round =>
    obtain ⟨rfl, rfl⟩ := hrel
    go_wp2
    all_goals go_ret
    all_goals
      refine ⟨?_, Like.refl _⟩
      have e : bits .xor .u32 IntKind.u32.max ((4294967295 : Nat) : Int) = ((4294967295 ^^^ 4294967295 : Nat) : Int) := bits_xor32 4294967295 4294967295 (by omega) (by omega)
      show Ending.returned (Value.int .u32 (bits .xor .u32 IntKind.u32.max ((4294967295 : Nat) : Int))) = _
      rw [e]; rfl

theorem sumAt : SumAt Tryz.prog 203 :=
  ⟨fun w b off len cap l h1 h2 h3 h4 => sum_full w b off len cap l h1 h2 h3 h4, fun w a cap => sum_empty w a cap⟩

end Go.Proofs.YtdkofgkmhgmmmaaGreatDoor
