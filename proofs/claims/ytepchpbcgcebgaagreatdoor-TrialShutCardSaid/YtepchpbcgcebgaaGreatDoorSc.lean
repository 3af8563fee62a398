/- The law's own runs, one for each remainder. -/
import Derived.Test.YtepchpbcgcebgaaGreatDoorSb
namespace Go.Proofs.YtepchpbcgcebgaaGreatDoor
set_option linter.all false
set_option linter.unusedSimpArgs false
set_option linter.unusedVariables false
open Go Go.Ideal
set_option maxRecDepth 100000

noncomputable def shMs : List (FuncId × List Memo) := [(24, [memo24x0]), (25, [memo25x271])]
noncomputable def shE : Env := mkEnv Tryz.prog (fun _ => false) (pickF y23Intr (callM y23E 100) shMs) zExt
theorem shGood : Ideal.Good Tryz.prog shE := by
  refine Good.layer (show Ideal.Good Tryz.prog (mkEnv Tryz.prog (fun _ => false) y23Intr zExt) from y23Good) 100 fun k l h m hm => ?_
  simp only [shMs, List.mem_cons, List.not_mem_nil, or_false, Prod.mk.injEq] at h
  rcases h with ⟨rfl, rfl⟩ | ⟨rfl, rfl⟩ <;> simp only [List.mem_cons, List.not_mem_nil, or_false] at hm
  · subst hm; exact memo24x0_ok
  · subst hm; exact memo25x271_ok

noncomputable def shRun (n : Nat) : Bool := isTrue (callM shE 100 5 [.int .u8 (Int.ofNat n)] S0)
theorem shRun0 : shRun 0 = true := by kernel_rfl
theorem shRun1 : shRun 1 = true := by kernel_rfl
theorem shRun2 : shRun 2 = true := by kernel_rfl
theorem shRun3 : shRun 3 = true := by kernel_rfl
theorem shRun4 : shRun 4 = true := by kernel_rfl
theorem shRun5 : shRun 5 = true := by kernel_rfl

theorem shRuns (n : Nat) (h : n < 6) : shRun n = true := by
  match n, h with
  | 0, _ => exact shRun0
  | 1, _ => exact shRun1
  | 2, _ => exact shRun2
  | 3, _ => exact shRun3
  | 4, _ => exact shRun4
  | 5, _ => exact shRun5
  | k + 6, h => exact absurd h (by omega)

def shTau : Nat → Nat := tauOf [(0, 6), (29, 6)]

theorem sh_body : ∃ c, Tryz.f5.body = some c ∧ taintC shTau c = true := by
  have h : Tryz.f5.body.map (taintC shTau) = some true := by kernel_rfl
  cases hb : Tryz.f5.body with
  | none => rw [hb] at h; cases h
  | some c => rw [hb] at h; exact ⟨c, rfl, by simpa using h⟩

theorem rem_same (x : Int) (m : Nat) (h0 : 0 ≤ x) : (Int.ofNat (x.toNat % m)).tmod (m : Int) = x.tmod (m : Int) := by
  obtain ⟨k, rfl⟩ := Int.eq_ofNat_of_zero_le h0
  have e : Int.ofNat ((k : Int).toNat % m) = (k : Int) % (m : Int) := by simp
  have h1 : (0 : Int) ≤ (k : Int) % (m : Int) := by rw [← e]; exact Int.natCast_nonneg _
  rw [e, Int.tmod_eq_emod_of_nonneg h1, Int.tmod_eq_emod_of_nonneg (Int.natCast_nonneg k), Int.emod_emod]

theorem sh_true (a0 : Int) (h0 : 0 ≤ a0) : isTrue (callM shE 100 5 [.int .u8 a0] S0) = true := by
  have h := shRuns (a0.toNat % 6) (Nat.mod_lt _ (by decide))
  obtain ⟨s', h⟩ := isTrue_some h
  obtain ⟨c, hb, hc⟩ := sh_body
  have hi : shE.intr 5 = none := by kernel_rfl
  have hr : Tryz.f5.results.toList.all (cleanR shTau) = true := by kernel_rfl
  have hrv : ∀ i : Nat, RV (shTau i) ([.int .u8 (Int.ofNat (a0.toNat % 6))] : List Value)[i]? ([.int .u8 a0] : List Value)[i]? := by
    intro i
    match i with
    | 0 => exact .inr ⟨by decide, .u8, _, _, rfl, rfl, rem_same a0 6 h0⟩
    | i + 1 => exact .inl rfl
  have h' := call_taint (E := shE) (τ := shTau) (k := 99) (f := 5) (fn := Tryz.f5) (l := [.int .u8 (Int.ofNat (a0.toNat % 6))]) hi Tryz.func5 hb hc hr (l' := [.int .u8 a0]) rfl hrv h
  rw [h']; rfl

theorem trialShut_true (a0 : Int) (w0 : (Lit.int .u8 a0).wf = true) (w : World) :
    Calls Tryz.prog 5 #[.int .u8 a0] w fun e w' => e = .returned (.bool true) ∧ RowKit.Below w.heap.size w w' := by
  have hx : 0 ≤ a0 ∧ a0 ≤ 255 := by simpa [Lit.wf, IntKind.min, IntKind.max, IntKind.signed, IntKind.bits] using w0
  exact zTrue shGood (l := [.int .u8 a0]) (sh_true a0 hx.1) rfl rfl

end Go.Proofs.YtepchpbcgcebgaaGreatDoor
