/- TrialKinds: at every kind, number and row of bytes. -/
import Derived.Test.YtmmplhfimnhcpaaGreatDoorTk
import Derived.Test.YtmmplhfimnhcpaaGreatDoorArg
namespace Go.Proofs.YtmmplhfimnhcpaaGreatDoor
set_option linter.all false
set_option linter.unusedSimpArgs false
set_option linter.unusedVariables false
open Go Go.Ideal
set_option maxHeartbeats 1000000

theorem min_no (n : Int) : ltI 0 (cond (ltI 0 n) 0 n) = false := by
  simp only [ltI_eq]
  by_cases h : 0 < n
  · simp [h]
  · simp [h]

theorem tkP_true (kd n : Int) (len cap : Nat) (x0 : Int) (r : List Value) (e : TypeId) (hl : 1 ≤ len) :
    isTrue (callM tkE 100 6 [.int .i64 kd, .int .i64 n, .slice (some ⟨0, 0, none⟩) len cap] (SR (.int .u8 x0 :: r) e)) = true := by
  by_cases h4 : 40 < len
  · refine path_yes tkX_ok (tkP4 kd n len cap x0 r e) ?_
    simp [ltI_eq]; omega
  · have hl' : Nat.blt (natOf 0) len = true := blt_iff.2 hl
    by_cases h1 : kd < 1
    · refine path_yes tkX_ok (tkP1 kd n len cap x0 r e) ?_
      rw [min_no, hl']; simp [ltI_eq, isNat]; omega
    · by_cases h2 : 4 < kd
      · refine path_yes tkX_ok (tkP2 kd n len cap x0 r e) ?_
        rw [min_no, hl']; simp [ltI_eq, isNat]; omega
      · refine path_yes tkX_ok (tkP3 kd n len cap x0 r e) ?_
        rw [min_no, hl']; simp [ltI_eq, isNat]; omega

theorem tkR_true (kd n : Int) (cap : Nat) :
    isTrue (callM tkE 100 6 [.int .i64 kd, .int .i64 n, .slice (some ⟨0, 0, none⟩) 0 cap] ⟨.nil, 1, 0, 0⟩) = true := by
  by_cases h1 : kd < 1
  · refine path_yes tkX_ok (tkR1 kd n cap) ?_
    rw [min_no]; simp [ltI_eq]; omega
  · by_cases h2 : 4 < kd
    · refine path_yes tkX_ok (tkR2 kd n cap) ?_
      rw [min_no]; simp [ltI_eq]; omega
    · refine path_yes tkX_ok (tkR3 kd n cap) ?_
      rw [min_no]; simp [ltI_eq]; omega

theorem tkQ_true (kd n : Int) :
    isTrue (callM tkE 100 6 [.int .i64 kd, .int .i64 n, .slice none 0 0] ⟨.nil, 1, 0, 0⟩) = true := by
  by_cases h1 : kd < 1
  · refine path_yes tkX_ok (tkQ1 kd n) ?_
    rw [min_no]; simp [ltI_eq]; omega
  · by_cases h2 : 4 < kd
    · refine path_yes tkX_ok (tkQ2 kd n) ?_
      rw [min_no]; simp [ltI_eq]; omega
    · refine path_yes tkX_ok (tkQ3 kd n) ?_
      rw [min_no]; simp [ltI_eq]; omega

theorem trialKinds_true (a0 : Int) (w0 : (Lit.int .i64 a0).wf = true) (a1 : Int) (w1 : (Lit.int .i64 a1).wf = true) (v : Value) {H : Type} (d : DataW H) (p : List MemPlace) (w : World) (hr : Row w v d p) :
    Calls Tryz.prog 6 #[.int .i64 a0, .int .i64 a1, v] w fun e w' => e = .returned (.bool true) ∧ RowKit.Below w.heap.size w w' :=
  row_true (k := 100) tkGood (pre := [.int .i64 a0, .int .i64 a1]) (post := []) ⟨tkQ_true a0 a1, fun cap => tkR_true a0 a1 cap, fun len cap x0 r e h _ _ => tkP_true a0 a1 len cap x0 (r.map (.int .u8)) e h⟩ rfl rfl hr rfl

end Go.Proofs.YtmmplhfimnhcpaaGreatDoor
