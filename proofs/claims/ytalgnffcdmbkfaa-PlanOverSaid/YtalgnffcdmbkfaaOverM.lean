/- Law 3: two numbers count by their remainders alone. -/
import Derived.Test.YtalgnffcdmbkfaaOverRuns
namespace Go.Proofs.Ytalgnffcdmbkfaa
open Go Go.Ideal
set_option maxHeartbeats 1000000

theorem runs (a n : Nat) (ha : a < 8) (hn : n < 5) : overRun a n = true := by
  have pick : ∀ (g : Nat → Bool), (List.range 5).all g = true → g n = true := fun g h => List.all_eq_true.1 h n (List.mem_range.2 hn)
  match a, ha with
  | 0, _ => exact pick _ run0
  | 1, _ => exact pick _ run1
  | 2, _ => exact pick _ run2
  | 3, _ => exact pick _ run3
  | 4, _ => exact pick _ run4
  | 5, _ => exact pick _ run5
  | 6, _ => exact pick _ run6
  | 7, _ => exact pick _ run7
  | k + 8, h => exact absurd h (by omega)

def overTau : Nat → Nat := tauOf [(0, 8), (28, 8), (1, 5), (15, 5)]

theorem over_body : ∃ c, Try.f4.body = some c ∧ taintC overTau c = true := by
  have h : Try.f4.body.map (taintC overTau) = some true := by kernel_rfl
  cases hb : Try.f4.body with
  | none => rw [hb] at h; cases h
  | some c => rw [hb] at h; exact ⟨c, rfl, by simpa using h⟩

theorem rem_same (x : Int) (m : Nat) (h0 : 0 ≤ x) : (Int.ofNat (x.toNat % m)).tmod (m : Int) = x.tmod (m : Int) := by
  obtain ⟨k, rfl⟩ := Int.eq_ofNat_of_zero_le h0
  have e : Int.ofNat ((k : Int).toNat % m) = (k : Int) % (m : Int) := by simp
  have h1 : (0 : Int) ≤ (k : Int) % (m : Int) := by rw [← e]; exact Int.natCast_nonneg _
  rw [e, Int.tmod_eq_emod_of_nonneg h1, Int.tmod_eq_emod_of_nonneg (Int.natCast_nonneg k), Int.emod_emod]

theorem over_true (a0 a1 : Int) (h0 : 0 ≤ a0) (h1 : 0 ≤ a1) : isTrue (callM idF 100 4 [.int .u8 a0, .int .u8 a1] S0) = true := by
  have h := runs (a0.toNat % 8) (a1.toNat % 5) (Nat.mod_lt _ (by decide)) (Nat.mod_lt _ (by decide))
  obtain ⟨s', h⟩ := isTrue_some h
  obtain ⟨c, hb, hc⟩ := over_body
  have hi : idF.intr 4 = none := by kernel_rfl
  have hr : Try.f4.results.toList.all (cleanR overTau) = true := by kernel_rfl
  have hlen : ([.int .u8 (Int.ofNat (a0.toNat % 8)), .int .u8 (Int.ofNat (a1.toNat % 5))] : List Value).length = ([.int .u8 a0, .int .u8 a1] : List Value).length := rfl
  have hrv : ∀ i : Nat, RV (overTau i) ([.int .u8 (Int.ofNat (a0.toNat % 8)), .int .u8 (Int.ofNat (a1.toNat % 5))] : List Value)[i]? ([.int .u8 a0, .int .u8 a1] : List Value)[i]? := by
    intro i
    match i with
    | 0 => exact .inr ⟨by decide, .u8, _, _, rfl, rfl, rem_same a0 8 h0⟩
    | 1 => exact .inr ⟨by decide, .u8, _, _, rfl, rfl, rem_same a1 5 h1⟩
    | i + 2 => exact .inl rfl
  have h' := call_taint (E := idF) (τ := overTau) (k := 99) (f := 4) (fn := Try.f4) (l := [.int .u8 (Int.ofNat (a0.toNat % 8)), .int .u8 (Int.ofNat (a1.toNat % 5))]) hi Try.func4 hb hc hr (l' := [.int .u8 a0, .int .u8 a1]) hlen hrv h
  rw [h']; rfl

end Go.Proofs.Ytalgnffcdmbkfaa
