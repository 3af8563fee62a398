/- sum.Sum of bytes that are not known: its free way. -/
import Derived.Test.YtdkofgkmhgmmmaaGreatDoorSumZ
import Derived.Test.YtdkofgkmhgmmmaaGreatDoorPath
import Derived.Test.YtdkofgkmhgmmmaaGreatDoorZ
import Derived.WalkKit
import Derived.ProofKit
import Derived.LoopTactic
import Derived.LoopN
import Derived.Test.YtdkofgkmhgmmmaaGreatDoorLayer
import Derived.Test.YtdkofgkmhgmmmaaGreatDoorFf
import Derived.Test.YtdkofgkmhgmmmaaGreatDoorMy
import Derived.Test.YtdkofgkmhgmmmaaGreatDoorFam
namespace Go.Ideal
set_option linter.all false
set_option linter.unusedSimpArgs false
set_option linter.unusedVariables false
noncomputable section
open Go Go.RowKit

def all8 : List Value → Bool
  | [] => true
  | .int .u8 z :: r => isNat z && Nat.blt (natOf z) 256 && all8 r
  | _ => false
def nats : List Value → List Nat
  | [] => []
  | v :: r => natOf (vInt v) :: nats r

/-- sum.Sum of bytes that are not known. -/
def sumP (args : List Value) : PM Value :=
  match args with
  | [.slice a n c] => liftP (guardM (Nat.blt n 1099511627776)) >>= fun _ => liftP (firstM n 1 (.slice a n c)) >>= fun ys =>
    mustP (all8 ys) >>= fun _ => pure (.int .u32 (Int.ofNat (Nat.xor (crcL (nats ys) 4294967295) 4294967295)))
  | _ => failP

theorem natL_all8 : ∀ {ys : List Value}, all8 ys = true → natL ys = some (nats ys)
  | [], _ => rfl
  | y :: r, h => by
    unfold all8 at h
    split at h
    · rename_i heq; cases heq
    · rename_i z r' heq
      cases heq
      simp only [Bool.and_eq_true] at h
      obtain ⟨⟨h1, h2⟩, h3⟩ := h
      obtain ⟨n, rfl⟩ : ∃ n, z = Int.ofNat n := ⟨_, isNat_eq h1⟩
      have h2 : Nat.blt n 256 = true := h2
      simp only [natL, h2, cond_true, natL_all8 h3, nats, vInt, natOf]
    · cases h

theorem snd_sumP (l : List Value) : Snd (sumP l) (sumM l) := by
  unfold sumP sumM
  split
  · refine Snd.bind (Snd.lift _) fun _ => Snd.bind (Snd.lift _) fun ys => Snd.must (Keeps.pure _) fun h => ?_
    rw [natL_all8 h]
    have e : (liftO (some (nats ys)) >>= fun l => forceN (Nat.xor (crcL l 4294967295) 4294967295) fun r => (Pure.pure (.int .u32 (Int.ofNat r)) : M Value)) =
        Pure.pure (.int .u32 (Int.ofNat (Nat.xor (crcL (nats ys) 4294967295) 4294967295))) := by
      simp only [forceN_eq]; rfl
    rw [e]; exact Snd.pure _
  · exact Snd.fail _

/-- A byte's test. -/
def okZ (z : Int) : Bool := isNat z && Nat.blt (natOf z) 256
theorem okZ_u8 (x : Int) : okZ (wrapF .u8 x) = true := by
  unfold okZ wrapF
  have h1 := Int.emod_nonneg x (show (256 : Int) ≠ 0 by decide)
  have h2 := Int.emod_lt_of_pos x (show (0 : Int) < 256 by decide)
  simp only
  generalize x % 256 = y at *
  obtain ⟨k, rfl⟩ := Int.eq_ofNat_of_zero_le h1
  exact blt_iff.2 (by show k < 256; omega)

end
end Go.Ideal

namespace Go.Ideal
set_option linter.all false
set_option linter.unusedSimpArgs false
set_option linter.unusedVariables false
noncomputable section
open Go Go.RowKit

/-- 'heap.Init' of a nil row behind a pointer. -/
def initM (T : TypeId) (args : List Value) : M Value :=
  match args with
  | [.iface t (.pointer (some ⟨b, off, none⟩))] => cond (Nat.beq t T) (rd b >>= fun o => match o with
    | .cells xs _ _ => match nth xs off with
      | some (.slice none 0 0) => pure (.tuple ⟨[]⟩)
      | _ => fail
    | _ => fail) fail
  | _ => fail

theorem resp_initM (T : TypeId) (l : List Value) : Resp (initM T l) := by
  unfold initM
  split
  · refine Resp.cond (Resp.bind (Resp.rd _) fun o => ?_) Resp.fail
    split
    · split
      · exact Resp.pure _
      · exact Resp.fail
    · exact Resp.fail
  · exact Resp.fail

theorem init_ok {P : Program} {N0 : Nat → Prop} {E : Env} {f : FuncId} {T : TypeId} (he : Enters P f)
    (h : ∀ (w : World) (b off : Nat), w.cell? ⟨b, off, none⟩ = some (.slice none 0 0) → Calls P f #[.iface T (.pointer (some ⟨b, off, none⟩))] w fun e w' => e = .returned (.tuple #[]) ∧ RowKit.Below w.heap.size w w') : FunOK P N0 E f (initM T) := by
  intro l s v s' β w l' hs hI hf hg hl
  unfold initM at hs
  split at hs
  · rename_i t b off
    cases ht : Nat.beq t T with
    | false => rw [ht] at hs; cases hs
    | true =>
      rw [ht] at hs
      have ht := Nat.eq_of_beq_eq_true ht
      subst ht
      obtain ⟨o, hlt, hgb, hx⟩ := rd_bind hs
      clear hs
      cases o with
      | cells xs e k =>
        have hx : (match nth xs off with | some (.slice none 0 0) => (pure (.tuple ⟨[]⟩) : M Value) | _ => fail) _ = some (v, s') := hx
        obtain ⟨mm, hm, hx⟩ : ∃ m : M Value, m = _ ∧ m _ = some (v, s') := ⟨_, rfl, hx⟩
        split at hm
        · rename_i hn
          subst hm
          obtain ⟨rfl, rfl⟩ := pure_some.1 hx
          obtain ⟨l'⟩ := l'
          cases hl with
          | cons hx hr =>
          cases hr
          cases hx with
          | iface _ hp =>
          cases hp with
          | ptr eL =>
          obtain ⟨c, fz, p1, p2, p3, p4, p5⟩ := hI.cells hgb eL
          rw [nth_eq] at hn
          obtain ⟨v', h1, h2⟩ := p4 _ _ hn
          cases h2
          refine ⟨he, (h w _ _ (by rw [cell_at p1]; exact h1)).mono ?_⟩
          rintro e w' ⟨rfl, hb⟩
          exact ⟨_, rfl, β, .tuple .nil, Ext.refl _ _ _, hI.old hb, Below.out hI.size hb⟩
        · subst hm; exact (fail_some.1 hx).elim
      | _ => exact (fail_some.1 hx).elim
  · exact (fail_some.1 hs).elim

end
end Go.Ideal
namespace Go.Proofs.YtdkofgkmhgmmmaaGreatDoor
open Go Go.Ideal Go.RowKit
set_option linter.unusedVariables false
set_option maxHeartbeats 2000000
set_option maxRecDepth 100000

theorem len_at (w : World) (b off : Nat) (hc : w.cell? ⟨b, off, none⟩ = some (.slice none 0 0)) :
    (method (Tryz.prog.types.size + 100) 317 (.pointer (some ⟨b, off, none⟩)) "Len").run Tryz.prog w = .ok (446, .slice none 0 0) w := by
  have hm : ((Tryz.prog.info? 317).bind fun i => i.methods.find? (·.name == "Len")).map (fun m => (m.path.size, m.func)) = some (0, some (446, false)) := by kernel_rfl
  obtain ⟨m, hm1, hm2⟩ := Option.map_eq_some_iff.1 hm
  obtain ⟨i, h1, h2⟩ := Option.bind_eq_some_iff.1 hm1
  simp only [Prod.mk.injEq] at hm2
  obtain ⟨h3, h4⟩ := hm2
  have h3 : m.path = #[] := Array.size_eq_zero_iff.1 h3
  show (method (Tryz.prog.types.size + 99 + 1) _ _ _).run _ _ = _
  unfold method
  have hblk : ∃ c e fz, w.heap[b]? = some (.cells c e fz) := by
    have := hc
    unfold World.cell? at this
    cases hh : w.heap[b]? with
    | none => simp [hh] at this
    | some o =>
      cases o with
      | cells c e fz => exact ⟨c, e, fz, rfl⟩
      | _ => simp [hh] at this
  obtain ⟨c, e, fz, hb⟩ := hblk
  rw [cell_at hb] at hc
  have e0 : (#[] : Array FieldStep).isEmpty = true := rfl
  have hw : ∀ (a : Addr) (t u : ByteArray), (Builtin.ssaWrapNilChk_ #[317] 317 #[.pointer (some a), .string t, .string u]).run Tryz.prog w = .ok (.pointer (some a)) w := fun _ _ _ => rfl
  simp only [Sem.run_bind, run_typeInfo w h1, Result.andThen_ok, h2, h3, h4, follow, Sem.run_pure, receiverAt, rU Tryz.underlying317, Place.get, e0, if_true, hw, strVal, asAddr, loadVar, rA Tryz.underlying309]
  simp only [isAggD, Bool.false_eq_true, if_false, rLoad hb hc, Result.andThen_ok]

theorem init_at (w : World) (b off : Nat) (hc : w.cell? ⟨b, off, none⟩ = some (.slice none 0 0)) :
    Calls Tryz.prog 278 #[.iface 317 (.pointer (some ⟨b, off, none⟩))] w fun e w' => e = .returned (.tuple #[]) ∧ RowKit.Below w.heap.size w w' := by
  have mN := len_at w b off hc
  rw [show Tryz.prog.types.size + 100 = 652 by kernel_rfl] at mN
  have eN : ∀ args w, (callFunc 446 args).run Tryz.prog w = .ok (.enter 446 args) w := enters_of Tryz.func446 (by kernel_rfl) rfl
  have hL : Calls Tryz.prog 446 #[.slice none 0 0] w fun e w' => e = .returned (.int .i64 0) ∧ w' = w := by
    go_enter Tryz.func446, Tryz.ntmps446
    go_wp2
    go_ret
    exact ⟨rfl, rfl⟩
  go_enter Tryz.func278, Tryz.ntmps278
  go_wp2_with (go_at_fn 446; refine hL.mono ?_; rintro e w' ⟨rfl, rfl⟩)
  go_loop [3] (fun i => i = .int .i64 (-1)) (fun _ => 0)
  case atStart => rfl
  case round =>
    subst hrel
    go_wp2
    refine bodyPost_end (results_none rfl _ _ _) rfl ?_
    exact ⟨rfl, RowKit.Below.refl _ _⟩

end Go.Proofs.YtdkofgkmhgmmmaaGreatDoor

namespace Go.Ideal
set_option linter.all false
set_option linter.unusedSimpArgs false
set_option linter.unusedVariables false
noncomputable section
open Go Go.RowKit

theorem Good.intr {P : Program} {glob : Nat → Bool} {base ext : FuncId → Option (List Value → M Value)} (h : Good P (mkEnv P glob base ext)) {k : FuncId} {g : List Value → M Value} (hr : ∀ l, Resp (g l))
    (hf : ∀ N0 E, FunOK P N0 E k g) : Good P (mkEnv P glob (fun f => cond (Nat.beq k f) (some g) (base f)) ext) := by
  have key : ∀ {f g'}, cond (Nat.beq k f) (some g) (base f) = some g' → (k = f ∧ g' = g) ∨ base f = some g' := by
    intro f g' hg
    cases hk : Nat.beq k f with
    | true => rw [hk] at hg; cases hg; exact .inl ⟨Nat.eq_of_beq_eq_true hk, rfl⟩
    | false => rw [hk] at hg; exact .inr hg
  refine ⟨mkEnv_ok h.env.mixed, ⟨fun f g' hg => ?_, h.resp.ext⟩, fun N0 => ⟨(h.link N0).ext, fun f g' hg => ?_, (h.link N0).name⟩, h.glob⟩
  · rcases key hg with ⟨rfl, rfl⟩ | hg
    · exact hr
    · exact h.resp.intr f g' hg
  · rcases key hg with ⟨rfl, rfl⟩ | hg
    · exact hf _ _
    · intro l s v s' β w l' a1 a2 a3 a4 a5
      exact (h.link N0).intr f g' hg l s v s' β w l' a1 a2 a3 a4 a5

end
end Go.Ideal

namespace Go.Proofs.YtdkofgkmhgmmmaaGreatDoor
set_option linter.all false
set_option linter.unusedSimpArgs false
set_option linter.unusedVariables false
open Go Go.Ideal Go.RowKit
set_option maxRecDepth 100000
set_option maxHeartbeats 1000000

noncomputable def cl : Code → Code
  | .seq a _ => a
  | .block _ c => c
  | .loop c => c
  | c => c
noncomputable def cr : Code → Code
  | .seq _ b => b
  | c => c
noncomputable def gpc (E : Env) (X : Ways) (n : Nat) (c : Code) (p : Pt) (sc : List (Nat × Turn)) (q : Pt) (L : List Nat) :=
  pieceOf (execP E X (callP E X 100) n 1000000 c p.tm ⟨p.s, 0, sc, true⟩) (q.lt.map Prod.fst) (q.lb.map fun e => rho L e.1)

noncomputable def teI1 : FuncId → Option (List Value → M Value) := fun f => cond (Nat.beq 278 f) (some (initM 317)) (y4Intr f)
noncomputable def teI2 : FuncId → Option (List Value → M Value) := fun f => cond (Nat.beq 107 f) (some mayM) (teI1 f)
noncomputable def teIntr : FuncId → Option (List Value → M Value) := fun f => cond (Nat.beq 187 f) (some mayM) (teI2 f)
noncomputable def teE : Env := mkEnv Tryz.prog (fun _ => false) teIntr zExt
theorem teGood : Ideal.Good Tryz.prog teE :=
  Good.intr (base := teI2) (Good.intr (base := teI1) (Good.intr (base := y4Intr) (show Ideal.Good Tryz.prog (mkEnv Tryz.prog (fun _ => false) y4Intr zExt) from y4Good) (resp_initM _)
    fun _ _ => init_ok (enters Tryz.func278 (by kernel_rfl) (by kernel_rfl)) init_at) resp_mayM mayR_ok) resp_mayM mayP_ok

/-- 'MayName' of a name of which one knows whether it may be. -/
noncomputable def mayV (v : Bool) (args : List Value) : PM Value :=
  match args with
  | [.string s] => mustP (Nat.blt (bl s).length 1099511627776) >>= fun _ => mustP (cond v (mayL (bl s)) (!mayL (bl s))) >>= fun _ => pure (.bool v)
  | _ => failP
theorem snd_mayV (v : Bool) (l : List Value) : Snd (mayV v l) (mayM l) := by
  unfold mayV mayM
  split
  · rename_i s
    refine Snd.must ((Keeps.must _).bind fun _ => Keeps.pure _) fun h => ?_
    have eg : (guardM (Nat.blt (bl s).length 1099511627776) >>= fun _ => (pure (.bool (mayL (bl s))) : M Value)) = pure (.bool (mayL (bl s))) := by rw [h]; rfl
    show Snd _ (guardM (Nat.blt (bl s).length 1099511627776) >>= fun _ => (pure (.bool (mayL (bl s))) : M Value))
    rw [eg]
    refine Snd.must (Keeps.pure _) fun h2 => ?_
    have e : mayL (bl s) = v := by cases v with
      | true => exact h2
      | false => have h2 : (!mayL (bl s)) = true := h2
                 simpa using h2
    rw [e]
    exact Snd.pure _
  · exact Snd.fail _

noncomputable def teX (v : Bool) : Ways := ⟨fun f => cond (Nat.beq 187 f) (some (mayV v)) (cond (Nat.beq 107 f) (some (mayV v)) (cond (Nat.beq 203 f) (some sumP) none)), fun _ => none⟩
theorem teX_ok (v : Bool) : WaysOK teE (teX v) := by
  refine ⟨fun f g p hg hp l => ?_, fun f g p _ hp => (by cases hp)⟩
  have hp : cond (Nat.beq 187 f) (some (mayV v)) (cond (Nat.beq 107 f) (some (mayV v)) (cond (Nat.beq 203 f) (some sumP) none)) = some p := hp
  cases h1 : Nat.beq 187 f with
  | true =>
    rw [h1] at hp; cases hp
    have := Nat.eq_of_beq_eq_true h1; subst this
    have e : teE.intr 187 = some mayM := by kernel_rfl
    rw [e] at hg; cases hg
    exact snd_mayV v l
  | false =>
    rw [h1] at hp
    cases h2 : Nat.beq 107 f with
    | true =>
      rw [h2] at hp; cases hp
      have := Nat.eq_of_beq_eq_true h2; subst this
      have e : teE.intr 107 = some mayM := by kernel_rfl
      rw [e] at hg; cases hg
      exact snd_mayV v l
    | false =>
      rw [h2] at hp
      cases h3 : Nat.beq 203 f with
      | false => rw [h3] at hp; cases hp
      | true =>
        rw [h3] at hp; cases hp
        have := Nat.eq_of_beq_eq_true h3; subst this
        have e : teE.intr 203 = some sumM := by kernel_rfl
        rw [e] at hg; cases hg
        exact snd_sumP l

end Go.Proofs.YtdkofgkmhgmmmaaGreatDoor

