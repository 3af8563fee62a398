/- TrialKinds: its paths. -/
import Derived.Test.YtmmplhfimnhcpaaGreatDoorTn
namespace Go.Proofs.YtmmplhfimnhcpaaGreatDoor
set_option linter.all false
set_option linter.unusedSimpArgs false
set_option linter.unusedVariables false
open Go Go.Ideal
set_option maxRecDepth 100000
set_option maxHeartbeats 2000000

/-- The run at bytes that are there. -/
noncomputable def tkP (kd n : Int) (len cap : Nat) (x0 : Int) (r : List Value) (e : TypeId) (sc : List (Nat × Turn)) : Option (Value × PS) :=
  callP tkE tkX 100 false 6 [.int .i64 kd, .int .i64 n, .slice (some ⟨0, 0, none⟩) len cap] ⟨SR (.int .u8 x0 :: r) e, 0, sc, true⟩
/-- The run at no bytes, somewhere. -/
noncomputable def tkR (kd n : Int) (cap : Nat) (sc : List (Nat × Turn)) : Option (Value × PS) :=
  callP tkE tkX 100 false 6 [.int .i64 kd, .int .i64 n, .slice (some ⟨0, 0, none⟩) 0 cap] ⟨⟨.nil, 1, 0, 0⟩, 0, sc, true⟩
/-- The run at none. -/
noncomputable def tkQ (kd n : Int) (sc : List (Nat × Turn)) : Option (Value × PS) :=
  callP tkE tkX 100 false 6 [.int .i64 kd, .int .i64 n, .slice none 0 0] ⟨⟨.nil, 1, 0, 0⟩, 0, sc, true⟩

theorem tkP1 (kd n : Int) (len cap : Nat) (x0 : Int) (r : List Value) (e : TypeId) : pathOf (tkP kd n len cap x0 r e [(7, .no), (24, .no), (25, .no), (26, .left), (33, .free), (47, .free), (48, .no), (49, .no), (50, .no), (51, .no), (72, .free), (117, .no), (132, .free), (175, .yes), (177, .free)]) = some ((isNat 0 && Nat.blt (natOf 0) len) && (ltI 0 (Int.ofNat len) && (!ltI 0 (cond (ltI 0 n) 0 n) && (!decide (kd = 4) && (!decide (kd = 3) && (!decide (kd = 2) && (!decide (kd = 1) && (ltI kd 1 && (!(ltI kd 1 == false) && (!(ltI kd 1 == false) && (!ltI 40 (Int.ofNat len) && true))))))))))) := by kernel_rfl
theorem tkP2 (kd n : Int) (len cap : Nat) (x0 : Int) (r : List Value) (e : TypeId) : pathOf (tkP kd n len cap x0 r e [(7, .no), (24, .yes), (25, .yes), (26, .right), (27, .yes), (33, .free), (47, .free), (48, .no), (49, .no), (50, .no), (51, .no), (72, .free), (117, .no), (132, .free), (175, .yes), (177, .free)]) = some ((isNat 0 && Nat.blt (natOf 0) len) && (ltI 0 (Int.ofNat len) && (!ltI 0 (cond (ltI 0 n) 0 n) && (!decide (kd = 4) && (!decide (kd = 3) && (!decide (kd = 2) && (!decide (kd = 1) && (ltI 4 kd && (!ltI kd 1 && ((ltI kd 1 == false) && ((ltI kd 1 == false) && (!ltI 40 (Int.ofNat len) && true)))))))))))) := by kernel_rfl
theorem tkP3 (kd n : Int) (len cap : Nat) (x0 : Int) (r : List Value) (e : TypeId) : pathOf (tkP kd n len cap x0 r e [(7, .no), (24, .yes), (25, .yes), (26, .right), (27, .no), (32, .free), (77, .no), (92, .free), (135, .yes), (137, .free)]) = some ((isNat 0 && Nat.blt (natOf 0) len) && (ltI 0 (Int.ofNat len) && (!ltI 0 (cond (ltI 0 n) 0 n) && (!ltI 4 kd && (!ltI kd 1 && ((ltI kd 1 == false) && ((ltI kd 1 == false) && (!ltI 40 (Int.ofNat len) && true)))))))) := by kernel_rfl
theorem tkR1 (kd n : Int) (cap : Nat) : pathOf (tkR kd n cap [(24, .no), (25, .no), (26, .left), (33, .free), (47, .free), (48, .no), (49, .no), (50, .no), (51, .no), (72, .free), (117, .no)]) = some (!ltI 0 (cond (ltI 0 n) 0 n) && (!decide (kd = 4) && (!decide (kd = 3) && (!decide (kd = 2) && (!decide (kd = 1) && (ltI kd 1 && (!(ltI kd 1 == false) && (!(ltI kd 1 == false) && true)))))))) := by kernel_rfl
theorem tkR2 (kd n : Int) (cap : Nat) : pathOf (tkR kd n cap [(24, .yes), (25, .yes), (26, .right), (27, .yes), (33, .free), (47, .free), (48, .no), (49, .no), (50, .no), (51, .no), (72, .free), (117, .no)]) = some (!ltI 0 (cond (ltI 0 n) 0 n) && (!decide (kd = 4) && (!decide (kd = 3) && (!decide (kd = 2) && (!decide (kd = 1) && (ltI 4 kd && (!ltI kd 1 && ((ltI kd 1 == false) && ((ltI kd 1 == false) && true))))))))) := by kernel_rfl
theorem tkR3 (kd n : Int) (cap : Nat) : pathOf (tkR kd n cap [(24, .yes), (25, .yes), (26, .right), (27, .no), (32, .free), (77, .no)]) = some (!ltI 0 (cond (ltI 0 n) 0 n) && (!ltI 4 kd && (!ltI kd 1 && ((ltI kd 1 == false) && ((ltI kd 1 == false) && true))))) := by kernel_rfl
theorem tkQ1 (kd n : Int) : pathOf (tkQ kd n [(24, .no), (25, .no), (26, .left), (33, .free), (47, .free), (48, .no), (49, .no), (50, .no), (51, .no), (72, .free), (117, .no)]) = some (!ltI 0 (cond (ltI 0 n) 0 n) && (!decide (kd = 4) && (!decide (kd = 3) && (!decide (kd = 2) && (!decide (kd = 1) && (ltI kd 1 && (!(ltI kd 1 == false) && (!(ltI kd 1 == false) && true)))))))) := by kernel_rfl
theorem tkQ2 (kd n : Int) : pathOf (tkQ kd n [(24, .yes), (25, .yes), (26, .right), (27, .yes), (33, .free), (47, .free), (48, .no), (49, .no), (50, .no), (51, .no), (72, .free), (117, .no)]) = some (!ltI 0 (cond (ltI 0 n) 0 n) && (!decide (kd = 4) && (!decide (kd = 3) && (!decide (kd = 2) && (!decide (kd = 1) && (ltI 4 kd && (!ltI kd 1 && ((ltI kd 1 == false) && ((ltI kd 1 == false) && true))))))))) := by kernel_rfl
theorem tkQ3 (kd n : Int) : pathOf (tkQ kd n [(24, .yes), (25, .yes), (26, .right), (27, .no), (32, .free), (77, .no)]) = some (!ltI 0 (cond (ltI 0 n) 0 n) && (!ltI 4 kd && (!ltI kd 1 && ((ltI kd 1 == false) && ((ltI kd 1 == false) && true))))) := by kernel_rfl
theorem tkP4 (kd n : Int) (len cap : Nat) (x0 : Int) (r : List Value) (e : TypeId) : pathOf (tkP kd n len cap x0 r e [(7, .yes)]) = some (ltI 40 (Int.ofNat len) && true) := by kernel_rfl

end Go.Proofs.YtmmplhfimnhcpaaGreatDoor
