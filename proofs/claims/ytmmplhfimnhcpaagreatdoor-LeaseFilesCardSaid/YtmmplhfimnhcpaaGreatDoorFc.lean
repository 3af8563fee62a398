/- LeaseFiles: its paths, one for each class of its three numbers. -/
import Derived.Test.YtmmplhfimnhcpaaGreatDoorFb
import Derived.Test.YtmmplhfimnhcpaaGreatDoorPath
namespace Go.Proofs.YtmmplhfimnhcpaaGreatDoor
set_option linter.all false
set_option linter.unusedSimpArgs false
set_option linter.unusedVariables false
open Go Go.Ideal
set_option maxRecDepth 100000
set_option maxHeartbeats 2000000

noncomputable def lfMs : List (FuncId × List Memo) := [(20, [memo20x0]), (30, [memo30x274, memo30x277, memo30x280]), (31, [memo31x300, memo31x303, memo31x306])]
noncomputable def lfE : Env := mkEnv Tryz.prog (fun _ => false) (pickF y19Intr (callM y19E 100) lfMs) zExt
theorem lfGood : Ideal.Good Tryz.prog lfE := by
  refine Good.layer (show Ideal.Good Tryz.prog (mkEnv Tryz.prog (fun _ => false) y19Intr zExt) from y19Good) 100 fun k l h m hm => ?_
  simp only [lfMs, List.mem_cons, List.not_mem_nil, or_false, Prod.mk.injEq] at h
  rcases h with ⟨rfl, rfl⟩ | ⟨rfl, rfl⟩ | ⟨rfl, rfl⟩ <;> simp only [List.mem_cons, List.not_mem_nil, or_false] at hm
  · subst hm; exact memo20x0_ok
  · rcases hm with rfl | rfl | rfl
    · exact memo30x274_ok
    · exact memo30x277_ok
    · exact memo30x280_ok
  · rcases hm with rfl | rfl | rfl
    · exact memo31x300_ok
    · exact memo31x303_ok
    · exact memo31x306_ok
noncomputable def lfX : Ways := ⟨waysF y19E noWays 100 lfMs, noWays.ext⟩
theorem lfX_ok : WaysOK lfE lfX := waysF_ok (P := Tryz.prog) (noWaysOK _) 100 lfMs

noncomputable def lfP (a b t : Int) (sc : List (Nat × Turn)) : Option (Value × PS) := callP lfE lfX 100 false 5 [.int .u8 a, .int .u8 b, .int .u8 t] ⟨S0, 0, sc, true⟩
theorem lf000 (a b t : Int) : pathOf (lfP a b t [(26, .num 0), (29, .num 0)]) = some (eqI (b.tmod 3) (Int.ofNat 0) && (eqI (a.tmod 3) (Int.ofNat 0) && true)) := by kernel_rfl
theorem lf010 (a b t : Int) : pathOf (lfP a b t [(26, .num 0), (29, .num 1)]) = some (eqI (b.tmod 3) (Int.ofNat 1) && (eqI (a.tmod 3) (Int.ofNat 0) && true)) := by kernel_rfl
theorem lf020 (a b t : Int) : pathOf (lfP a b t [(26, .num 0), (29, .num 2), (749, .num 0), (899, .num 1)]) = some (eqI ((wrapF .i64 (Int.ofNat 1 + wrapF .i64 t)).tmod (Int.ofNat 2)) (Int.ofNat 1) && (eqI ((wrapF .i64 (Int.ofNat 0 + wrapF .i64 t)).tmod (Int.ofNat 2)) (Int.ofNat 0) && (eqI (b.tmod 3) (Int.ofNat 2) && (eqI (a.tmod 3) (Int.ofNat 0) && true)))) := by kernel_rfl
theorem lf021 (a b t : Int) : pathOf (lfP a b t [(26, .num 0), (29, .num 2), (749, .num 1), (899, .num 0)]) = some (eqI ((wrapF .i64 (Int.ofNat 1 + wrapF .i64 t)).tmod (Int.ofNat 2)) (Int.ofNat 0) && (eqI ((wrapF .i64 (Int.ofNat 0 + wrapF .i64 t)).tmod (Int.ofNat 2)) (Int.ofNat 1) && (eqI (b.tmod 3) (Int.ofNat 2) && (eqI (a.tmod 3) (Int.ofNat 0) && true)))) := by kernel_rfl
theorem lf100 (a b t : Int) : pathOf (lfP a b t [(26, .num 1), (29, .num 0)]) = some (eqI (b.tmod 3) (Int.ofNat 0) && (eqI (a.tmod 3) (Int.ofNat 1) && true)) := by kernel_rfl
theorem lf110 (a b t : Int) : pathOf (lfP a b t [(26, .num 1), (29, .num 1), (749, .num 0), (898, .num 1)]) = some (eqI ((wrapF .i64 (Int.ofNat 1 + wrapF .i64 t)).tmod (Int.ofNat 2)) (Int.ofNat 1) && (eqI ((wrapF .i64 (Int.ofNat 0 + wrapF .i64 t)).tmod (Int.ofNat 2)) (Int.ofNat 0) && (eqI (b.tmod 3) (Int.ofNat 1) && (eqI (a.tmod 3) (Int.ofNat 1) && true)))) := by kernel_rfl
theorem lf111 (a b t : Int) : pathOf (lfP a b t [(26, .num 1), (29, .num 1), (749, .num 1), (899, .num 0)]) = some (eqI ((wrapF .i64 (Int.ofNat 1 + wrapF .i64 t)).tmod (Int.ofNat 2)) (Int.ofNat 0) && (eqI ((wrapF .i64 (Int.ofNat 0 + wrapF .i64 t)).tmod (Int.ofNat 2)) (Int.ofNat 1) && (eqI (b.tmod 3) (Int.ofNat 1) && (eqI (a.tmod 3) (Int.ofNat 1) && true)))) := by kernel_rfl
theorem lf120 (a b t : Int) : pathOf (lfP a b t [(26, .num 1), (29, .num 2), (838, .num 0), (987, .num 1), (1137, .num 2)]) = some (eqI ((wrapF .i64 (Int.ofNat 2 + wrapF .i64 t)).tmod (Int.ofNat 3)) (Int.ofNat 2) && (eqI ((wrapF .i64 (Int.ofNat 1 + wrapF .i64 t)).tmod (Int.ofNat 3)) (Int.ofNat 1) && (eqI ((wrapF .i64 (Int.ofNat 0 + wrapF .i64 t)).tmod (Int.ofNat 3)) (Int.ofNat 0) && (eqI (b.tmod 3) (Int.ofNat 2) && (eqI (a.tmod 3) (Int.ofNat 1) && true))))) := by kernel_rfl
theorem lf121 (a b t : Int) : pathOf (lfP a b t [(26, .num 1), (29, .num 2), (838, .num 1), (988, .num 2), (1138, .num 0)]) = some (eqI ((wrapF .i64 (Int.ofNat 2 + wrapF .i64 t)).tmod (Int.ofNat 3)) (Int.ofNat 0) && (eqI ((wrapF .i64 (Int.ofNat 1 + wrapF .i64 t)).tmod (Int.ofNat 3)) (Int.ofNat 2) && (eqI ((wrapF .i64 (Int.ofNat 0 + wrapF .i64 t)).tmod (Int.ofNat 3)) (Int.ofNat 1) && (eqI (b.tmod 3) (Int.ofNat 2) && (eqI (a.tmod 3) (Int.ofNat 1) && true))))) := by kernel_rfl
theorem lf122 (a b t : Int) : pathOf (lfP a b t [(26, .num 1), (29, .num 2), (838, .num 2), (988, .num 0), (1137, .num 1)]) = some (eqI ((wrapF .i64 (Int.ofNat 2 + wrapF .i64 t)).tmod (Int.ofNat 3)) (Int.ofNat 1) && (eqI ((wrapF .i64 (Int.ofNat 1 + wrapF .i64 t)).tmod (Int.ofNat 3)) (Int.ofNat 0) && (eqI ((wrapF .i64 (Int.ofNat 0 + wrapF .i64 t)).tmod (Int.ofNat 3)) (Int.ofNat 2) && (eqI (b.tmod 3) (Int.ofNat 2) && (eqI (a.tmod 3) (Int.ofNat 1) && true))))) := by kernel_rfl
theorem lf200 (a b t : Int) : pathOf (lfP a b t [(26, .num 2), (29, .num 0), (749, .num 0), (898, .num 1)]) = some (eqI ((wrapF .i64 (Int.ofNat 1 + wrapF .i64 t)).tmod (Int.ofNat 2)) (Int.ofNat 1) && (eqI ((wrapF .i64 (Int.ofNat 0 + wrapF .i64 t)).tmod (Int.ofNat 2)) (Int.ofNat 0) && (eqI (b.tmod 3) (Int.ofNat 0) && (eqI (a.tmod 3) (Int.ofNat 2) && true)))) := by kernel_rfl
theorem lf201 (a b t : Int) : pathOf (lfP a b t [(26, .num 2), (29, .num 0), (749, .num 1), (898, .num 0)]) = some (eqI ((wrapF .i64 (Int.ofNat 1 + wrapF .i64 t)).tmod (Int.ofNat 2)) (Int.ofNat 0) && (eqI ((wrapF .i64 (Int.ofNat 0 + wrapF .i64 t)).tmod (Int.ofNat 2)) (Int.ofNat 1) && (eqI (b.tmod 3) (Int.ofNat 0) && (eqI (a.tmod 3) (Int.ofNat 2) && true)))) := by kernel_rfl
theorem lf210 (a b t : Int) : pathOf (lfP a b t [(26, .num 2), (29, .num 1), (838, .num 0), (987, .num 1), (1136, .num 2)]) = some (eqI ((wrapF .i64 (Int.ofNat 2 + wrapF .i64 t)).tmod (Int.ofNat 3)) (Int.ofNat 2) && (eqI ((wrapF .i64 (Int.ofNat 1 + wrapF .i64 t)).tmod (Int.ofNat 3)) (Int.ofNat 1) && (eqI ((wrapF .i64 (Int.ofNat 0 + wrapF .i64 t)).tmod (Int.ofNat 3)) (Int.ofNat 0) && (eqI (b.tmod 3) (Int.ofNat 1) && (eqI (a.tmod 3) (Int.ofNat 2) && true))))) := by kernel_rfl
theorem lf211 (a b t : Int) : pathOf (lfP a b t [(26, .num 2), (29, .num 1), (838, .num 1), (987, .num 2), (1137, .num 0)]) = some (eqI ((wrapF .i64 (Int.ofNat 2 + wrapF .i64 t)).tmod (Int.ofNat 3)) (Int.ofNat 0) && (eqI ((wrapF .i64 (Int.ofNat 1 + wrapF .i64 t)).tmod (Int.ofNat 3)) (Int.ofNat 2) && (eqI ((wrapF .i64 (Int.ofNat 0 + wrapF .i64 t)).tmod (Int.ofNat 3)) (Int.ofNat 1) && (eqI (b.tmod 3) (Int.ofNat 1) && (eqI (a.tmod 3) (Int.ofNat 2) && true))))) := by kernel_rfl
theorem lf212 (a b t : Int) : pathOf (lfP a b t [(26, .num 2), (29, .num 1), (838, .num 2), (988, .num 0), (1137, .num 1)]) = some (eqI ((wrapF .i64 (Int.ofNat 2 + wrapF .i64 t)).tmod (Int.ofNat 3)) (Int.ofNat 1) && (eqI ((wrapF .i64 (Int.ofNat 1 + wrapF .i64 t)).tmod (Int.ofNat 3)) (Int.ofNat 0) && (eqI ((wrapF .i64 (Int.ofNat 0 + wrapF .i64 t)).tmod (Int.ofNat 3)) (Int.ofNat 2) && (eqI (b.tmod 3) (Int.ofNat 1) && (eqI (a.tmod 3) (Int.ofNat 2) && true))))) := by kernel_rfl
theorem lf220 (a b t : Int) : pathOf (lfP a b t [(26, .num 2), (29, .num 2), (927, .num 0), (1076, .num 1), (1225, .num 2), (1375, .num 3)]) = some (eqI ((wrapF .i64 (Int.ofNat 3 + wrapF .i64 t)).tmod (Int.ofNat 4)) (Int.ofNat 3) && (eqI ((wrapF .i64 (Int.ofNat 2 + wrapF .i64 t)).tmod (Int.ofNat 4)) (Int.ofNat 2) && (eqI ((wrapF .i64 (Int.ofNat 1 + wrapF .i64 t)).tmod (Int.ofNat 4)) (Int.ofNat 1) && (eqI ((wrapF .i64 (Int.ofNat 0 + wrapF .i64 t)).tmod (Int.ofNat 4)) (Int.ofNat 0) && (eqI (b.tmod 3) (Int.ofNat 2) && (eqI (a.tmod 3) (Int.ofNat 2) && true)))))) := by kernel_rfl
theorem lf221 (a b t : Int) : pathOf (lfP a b t [(26, .num 2), (29, .num 2), (927, .num 1), (1076, .num 2), (1226, .num 3), (1376, .num 0)]) = some (eqI ((wrapF .i64 (Int.ofNat 3 + wrapF .i64 t)).tmod (Int.ofNat 4)) (Int.ofNat 0) && (eqI ((wrapF .i64 (Int.ofNat 2 + wrapF .i64 t)).tmod (Int.ofNat 4)) (Int.ofNat 3) && (eqI ((wrapF .i64 (Int.ofNat 1 + wrapF .i64 t)).tmod (Int.ofNat 4)) (Int.ofNat 2) && (eqI ((wrapF .i64 (Int.ofNat 0 + wrapF .i64 t)).tmod (Int.ofNat 4)) (Int.ofNat 1) && (eqI (b.tmod 3) (Int.ofNat 2) && (eqI (a.tmod 3) (Int.ofNat 2) && true)))))) := by kernel_rfl
theorem lf222 (a b t : Int) : pathOf (lfP a b t [(26, .num 2), (29, .num 2), (927, .num 2), (1077, .num 3), (1227, .num 0), (1376, .num 1)]) = some (eqI ((wrapF .i64 (Int.ofNat 3 + wrapF .i64 t)).tmod (Int.ofNat 4)) (Int.ofNat 1) && (eqI ((wrapF .i64 (Int.ofNat 2 + wrapF .i64 t)).tmod (Int.ofNat 4)) (Int.ofNat 0) && (eqI ((wrapF .i64 (Int.ofNat 1 + wrapF .i64 t)).tmod (Int.ofNat 4)) (Int.ofNat 3) && (eqI ((wrapF .i64 (Int.ofNat 0 + wrapF .i64 t)).tmod (Int.ofNat 4)) (Int.ofNat 2) && (eqI (b.tmod 3) (Int.ofNat 2) && (eqI (a.tmod 3) (Int.ofNat 2) && true)))))) := by kernel_rfl
theorem lf223 (a b t : Int) : pathOf (lfP a b t [(26, .num 2), (29, .num 2), (927, .num 3), (1077, .num 0), (1226, .num 1), (1375, .num 2)]) = some (eqI ((wrapF .i64 (Int.ofNat 3 + wrapF .i64 t)).tmod (Int.ofNat 4)) (Int.ofNat 2) && (eqI ((wrapF .i64 (Int.ofNat 2 + wrapF .i64 t)).tmod (Int.ofNat 4)) (Int.ofNat 1) && (eqI ((wrapF .i64 (Int.ofNat 1 + wrapF .i64 t)).tmod (Int.ofNat 4)) (Int.ofNat 0) && (eqI ((wrapF .i64 (Int.ofNat 0 + wrapF .i64 t)).tmod (Int.ofNat 4)) (Int.ofNat 3) && (eqI (b.tmod 3) (Int.ofNat 2) && (eqI (a.tmod 3) (Int.ofNat 2) && true)))))) := by kernel_rfl

theorem wrap_small {x : Int} (h : 0 ≤ x) (h' : x ≤ 1000000) : wrapF .i64 x = x := by
  unfold wrapF
  have : x % 18446744073709551616 = x := Int.emod_eq_of_lt h (by omega)
  simp only [this]
  rw [if_neg (by omega)]

theorem rem_fact {i t d k : Nat} (ht : t ≤ 255) (hi : i ≤ 10) (h : (i + t) % d = k) : eqI ((wrapF .i64 (Int.ofNat i + wrapF .i64 (Int.ofNat t))).tmod (Int.ofNat d)) (Int.ofNat k) = true := by
  rw [wrap_small (x := Int.ofNat t) (Int.natCast_nonneg _) (by simp; omega), wrap_small (by simp; omega) (by simp; omega), eqI_eq]
  refine decide_eq_true ?_
  have e : Int.ofNat i + Int.ofNat t = ((i + t : Nat) : Int) := by simp
  rw [e]
  show Int.ofNat ((i + t) % d) = _
  rw [h]

theorem rem3_fact {a k : Nat} (h : a % 3 = k) : eqI ((Int.ofNat a).tmod 3) (Int.ofNat k) = true := by
  rw [eqI_eq]
  refine decide_eq_true ?_
  show Int.ofNat (a % 3) = _
  rw [h]

theorem lf_true (a b t : Nat) (ht : t ≤ 255) : isTrue (callM lfE 100 5 [.int .u8 (Int.ofNat a), .int .u8 (Int.ofNat b), .int .u8 (Int.ofNat t)] S0) = true := by
  have ha : a % 3 = 0 ∨ a % 3 = 1 ∨ a % 3 = 2 := by omega
  have hb : b % 3 = 0 ∨ b % 3 = 1 ∨ b % 3 = 2 := by omega
  rcases ha with ha | ha | ha <;> rcases hb with hb | hb | hb
  · exact path_yes lfX_ok (lf000 _ _ _) (by rw [rem3_fact hb, rem3_fact ha]; rfl)
  · exact path_yes lfX_ok (lf010 _ _ _) (by rw [rem3_fact hb, rem3_fact ha]; rfl)
  · have hr : t % 2 = 0 ∨ t % 2 = 1 := by omega
    rcases hr with hr | hr
    · exact path_yes lfX_ok (lf020 _ _ _) (by rw [rem_fact (i := 1) (d := 2) (k := 1) ht (by omega) (by omega), rem_fact (i := 0) (d := 2) (k := 0) ht (by omega) (by omega), rem3_fact hb, rem3_fact ha]; rfl)
    · exact path_yes lfX_ok (lf021 _ _ _) (by rw [rem_fact (i := 1) (d := 2) (k := 0) ht (by omega) (by omega), rem_fact (i := 0) (d := 2) (k := 1) ht (by omega) (by omega), rem3_fact hb, rem3_fact ha]; rfl)
  · exact path_yes lfX_ok (lf100 _ _ _) (by rw [rem3_fact hb, rem3_fact ha]; rfl)
  · have hr : t % 2 = 0 ∨ t % 2 = 1 := by omega
    rcases hr with hr | hr
    · exact path_yes lfX_ok (lf110 _ _ _) (by rw [rem_fact (i := 1) (d := 2) (k := 1) ht (by omega) (by omega), rem_fact (i := 0) (d := 2) (k := 0) ht (by omega) (by omega), rem3_fact hb, rem3_fact ha]; rfl)
    · exact path_yes lfX_ok (lf111 _ _ _) (by rw [rem_fact (i := 1) (d := 2) (k := 0) ht (by omega) (by omega), rem_fact (i := 0) (d := 2) (k := 1) ht (by omega) (by omega), rem3_fact hb, rem3_fact ha]; rfl)
  · have hr : t % 3 = 0 ∨ t % 3 = 1 ∨ t % 3 = 2 := by omega
    rcases hr with hr | hr | hr
    · exact path_yes lfX_ok (lf120 _ _ _) (by rw [rem_fact (i := 2) (d := 3) (k := 2) ht (by omega) (by omega), rem_fact (i := 1) (d := 3) (k := 1) ht (by omega) (by omega), rem_fact (i := 0) (d := 3) (k := 0) ht (by omega) (by omega), rem3_fact hb, rem3_fact ha]; rfl)
    · exact path_yes lfX_ok (lf121 _ _ _) (by rw [rem_fact (i := 2) (d := 3) (k := 0) ht (by omega) (by omega), rem_fact (i := 1) (d := 3) (k := 2) ht (by omega) (by omega), rem_fact (i := 0) (d := 3) (k := 1) ht (by omega) (by omega), rem3_fact hb, rem3_fact ha]; rfl)
    · exact path_yes lfX_ok (lf122 _ _ _) (by rw [rem_fact (i := 2) (d := 3) (k := 1) ht (by omega) (by omega), rem_fact (i := 1) (d := 3) (k := 0) ht (by omega) (by omega), rem_fact (i := 0) (d := 3) (k := 2) ht (by omega) (by omega), rem3_fact hb, rem3_fact ha]; rfl)
  · have hr : t % 2 = 0 ∨ t % 2 = 1 := by omega
    rcases hr with hr | hr
    · exact path_yes lfX_ok (lf200 _ _ _) (by rw [rem_fact (i := 1) (d := 2) (k := 1) ht (by omega) (by omega), rem_fact (i := 0) (d := 2) (k := 0) ht (by omega) (by omega), rem3_fact hb, rem3_fact ha]; rfl)
    · exact path_yes lfX_ok (lf201 _ _ _) (by rw [rem_fact (i := 1) (d := 2) (k := 0) ht (by omega) (by omega), rem_fact (i := 0) (d := 2) (k := 1) ht (by omega) (by omega), rem3_fact hb, rem3_fact ha]; rfl)
  · have hr : t % 3 = 0 ∨ t % 3 = 1 ∨ t % 3 = 2 := by omega
    rcases hr with hr | hr | hr
    · exact path_yes lfX_ok (lf210 _ _ _) (by rw [rem_fact (i := 2) (d := 3) (k := 2) ht (by omega) (by omega), rem_fact (i := 1) (d := 3) (k := 1) ht (by omega) (by omega), rem_fact (i := 0) (d := 3) (k := 0) ht (by omega) (by omega), rem3_fact hb, rem3_fact ha]; rfl)
    · exact path_yes lfX_ok (lf211 _ _ _) (by rw [rem_fact (i := 2) (d := 3) (k := 0) ht (by omega) (by omega), rem_fact (i := 1) (d := 3) (k := 2) ht (by omega) (by omega), rem_fact (i := 0) (d := 3) (k := 1) ht (by omega) (by omega), rem3_fact hb, rem3_fact ha]; rfl)
    · exact path_yes lfX_ok (lf212 _ _ _) (by rw [rem_fact (i := 2) (d := 3) (k := 1) ht (by omega) (by omega), rem_fact (i := 1) (d := 3) (k := 0) ht (by omega) (by omega), rem_fact (i := 0) (d := 3) (k := 2) ht (by omega) (by omega), rem3_fact hb, rem3_fact ha]; rfl)
  · have hr : t % 4 = 0 ∨ t % 4 = 1 ∨ t % 4 = 2 ∨ t % 4 = 3 := by omega
    rcases hr with hr | hr | hr | hr
    · exact path_yes lfX_ok (lf220 _ _ _) (by rw [rem_fact (i := 3) (d := 4) (k := 3) ht (by omega) (by omega), rem_fact (i := 2) (d := 4) (k := 2) ht (by omega) (by omega), rem_fact (i := 1) (d := 4) (k := 1) ht (by omega) (by omega), rem_fact (i := 0) (d := 4) (k := 0) ht (by omega) (by omega), rem3_fact hb, rem3_fact ha]; rfl)
    · exact path_yes lfX_ok (lf221 _ _ _) (by rw [rem_fact (i := 3) (d := 4) (k := 0) ht (by omega) (by omega), rem_fact (i := 2) (d := 4) (k := 3) ht (by omega) (by omega), rem_fact (i := 1) (d := 4) (k := 2) ht (by omega) (by omega), rem_fact (i := 0) (d := 4) (k := 1) ht (by omega) (by omega), rem3_fact hb, rem3_fact ha]; rfl)
    · exact path_yes lfX_ok (lf222 _ _ _) (by rw [rem_fact (i := 3) (d := 4) (k := 1) ht (by omega) (by omega), rem_fact (i := 2) (d := 4) (k := 0) ht (by omega) (by omega), rem_fact (i := 1) (d := 4) (k := 3) ht (by omega) (by omega), rem_fact (i := 0) (d := 4) (k := 2) ht (by omega) (by omega), rem3_fact hb, rem3_fact ha]; rfl)
    · exact path_yes lfX_ok (lf223 _ _ _) (by rw [rem_fact (i := 3) (d := 4) (k := 2) ht (by omega) (by omega), rem_fact (i := 2) (d := 4) (k := 1) ht (by omega) (by omega), rem_fact (i := 1) (d := 4) (k := 0) ht (by omega) (by omega), rem_fact (i := 0) (d := 4) (k := 3) ht (by omega) (by omega), rem3_fact hb, rem3_fact ha]; rfl)

theorem leaseFiles_true (a0 : Int) (w0 : (Lit.int .u8 a0).wf = true) (a1 : Int) (w1 : (Lit.int .u8 a1).wf = true) (a2 : Int) (w2 : (Lit.int .u8 a2).wf = true) (w : World) :
    Calls Tryz.prog 5 #[.int .u8 a0, .int .u8 a1, .int .u8 a2] w fun e w' => e = .returned (.bool true) ∧ RowKit.Below w.heap.size w w' := by
  have hx : 0 ≤ a0 ∧ a0 ≤ 255 := by simpa [Lit.wf, IntKind.min, IntKind.max, IntKind.signed, IntKind.bits] using w0
  have hy : 0 ≤ a1 ∧ a1 ≤ 255 := by simpa [Lit.wf, IntKind.min, IntKind.max, IntKind.signed, IntKind.bits] using w1
  have hz : 0 ≤ a2 ∧ a2 ≤ 255 := by simpa [Lit.wf, IntKind.min, IntKind.max, IntKind.signed, IntKind.bits] using w2
  obtain ⟨a, rfl⟩ := Int.eq_ofNat_of_zero_le hx.1
  obtain ⟨b, rfl⟩ := Int.eq_ofNat_of_zero_le hy.1
  obtain ⟨t, rfl⟩ := Int.eq_ofNat_of_zero_le hz.1
  exact zTrue lfGood (l := [.int .u8 (Int.ofNat a), .int .u8 (Int.ofNat b), .int .u8 (Int.ofNat t)]) (lf_true a b t (by omega)) rfl rfl

end Go.Proofs.YtmmplhfimnhcpaaGreatDoor
