/- DbNone: the machine for its paths. -/
import Derived.Test.YtmmplhfimnhcpaaGreatDoorNd
import Derived.Test.YtmmplhfimnhcpaaGreatDoorNf
namespace Go.Ideal
set_option linter.all false
set_option linter.unusedSimpArgs false
set_option linter.unusedVariables false
noncomputable section
open Go Go.RowKit

def all8 : List Value → Bool
  | [] => true
  | .int .u8 z :: r => isNat z && Nat.blt (natOf z) 256 && all8 r
  | _ => false
def nats : List Value → List Nat
  | [] => []
  | v :: r => natOf (vInt v) :: nats r

/-- sum.Sum of bytes that are not known. -/
def sumP (args : List Value) : PM Value :=
  match args with
  | [.slice a n c] => liftP (guardM (Nat.blt n 1099511627776)) >>= fun _ => liftP (firstM n 1 (.slice a n c)) >>= fun ys =>
    mustP (all8 ys) >>= fun _ => pure (.int .u32 (Int.ofNat (Nat.xor (crcL (nats ys) 4294967295) 4294967295)))
  | _ => failP

theorem natL_all8 : ∀ {ys : List Value}, all8 ys = true → natL ys = some (nats ys)
  | [], _ => rfl
  | y :: r, h => by
    unfold all8 at h
    split at h
    · rename_i heq; cases heq
    · rename_i z r' heq
      cases heq
      simp only [Bool.and_eq_true] at h
      obtain ⟨⟨h1, h2⟩, h3⟩ := h
      obtain ⟨n, rfl⟩ : ∃ n, z = Int.ofNat n := ⟨_, isNat_eq h1⟩
      have h2 : Nat.blt n 256 = true := h2
      simp only [natL, h2, cond_true, natL_all8 h3, nats, vInt, natOf]
    · cases h

theorem snd_sumP (l : List Value) : Snd (sumP l) (sumM l) := by
  unfold sumP sumM
  split
  · refine Snd.bind (Snd.lift _) fun _ => Snd.bind (Snd.lift _) fun ys => Snd.must (Keeps.pure _) fun h => ?_
    rw [natL_all8 h]
    have e : (liftO (some (nats ys)) >>= fun l => forceN (Nat.xor (crcL l 4294967295) 4294967295) fun r => (Pure.pure (.int .u32 (Int.ofNat r)) : M Value)) =
        Pure.pure (.int .u32 (Int.ofNat (Nat.xor (crcL (nats ys) 4294967295) 4294967295))) := by
      simp only [forceN_eq]; rfl
    rw [e]; exact Snd.pure _
  · exact Snd.fail _

end
end Go.Ideal
namespace Go.Proofs.YtmmplhfimnhcpaaGreatDoor
open Go Go.Ideal
set_option maxRecDepth 100000

noncomputable def dIntr : FuncId → Option (List Value → M Value) := fun f => cond (Nat.beq 18 f) (some nameM) (cond (Nat.beq 7 f) (some yesM) (zIntr f))
noncomputable def dE : Env := mkEnv Tryz.prog glob1 dIntr zExt
theorem dGood : GoodG Tryz.prog dE :=
  GoodG.intr (base := fun f => cond (Nat.beq 7 f) (some yesM) (zIntr f))
    (GoodG.intr (base := zIntr) (show GoodG Tryz.prog (mkEnv Tryz.prog glob1 zIntr zExt) from gGood) resp_yesM fun _ _ _ => intr_closed (enters Tryz.func7 (by kernel_rfl) (by kernel_rfl)) yes7)
    resp_nameM name_ok

noncomputable def dX : Ways := ⟨fun f => cond (Nat.beq 150 f) (some sumP) none, fun _ => none⟩
theorem dX_ok : WaysOK dE dX := by
  refine ⟨fun f g p hg hp l => ?_, fun f g p _ hp => (by cases hp)⟩
  have hp : cond (Nat.beq 150 f) (some sumP) none = some p := hp
  cases hk : Nat.beq 150 f with
  | false => rw [hk] at hp; cases hp
  | true =>
    rw [hk] at hp; cases hp
    have := Nat.eq_of_beq_eq_true hk; subst this
    have e : dE.intr 150 = some sumM := by kernel_rfl
    rw [e] at hg; cases hg
    exact snd_sumP l

noncomputable def dnP (first : Int) (n : Nat) (e : TypeId) (sc : List (Nat × Turn)) : Option (Value × PS) := callP dE dX 100 false 3 [.int .i64 first, .int .u64 (.ofNat n)] ⟨SV 1 powers e, 0, sc, true⟩

end Go.Proofs.YtmmplhfimnhcpaaGreatDoor
