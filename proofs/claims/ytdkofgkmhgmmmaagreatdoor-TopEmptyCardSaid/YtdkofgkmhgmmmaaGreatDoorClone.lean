/- The body-less maps.clone: a map's entries in a new block. -/
import Derived.Test.YtdkofgkmhgmmmaaGreatDoorSimS
namespace Go.Ideal
set_option linter.all false
set_option linter.unusedSimpArgs false
set_option linter.unusedVariables false
noncomputable section
open Go Go.RowKit
set_option maxHeartbeats 1000000

/-- maps.clone of a map that is not nil, in an interface. -/
def cloneM (args : List Value) : M Value :=
  match args with
  | [.iface t (.map (some b))] => do
    match ← rd b with
    | .map es clock => do
      let c ← new (.map es clock)
      pure (.iface t (.map (some c)))
    | _ => fail
  | _ => fail

theorem resp_cloneM (l : List Value) : Resp (cloneM l) := by
  unfold cloneM
  repeat' (first
    | exact Resp.pure _ | exact Resp.fail | exact Resp.rd _ | exact Resp.new _
    | (refine Resp.bind ?_ fun _ => ?_) | split)

section
variable {P : Program} {N0 : Nat → Prop}

theorem ext_clone {f : FuncId} {fn : Func} (hf : P.funcs[f]? = some fn) (hname : (fn.name == "runtime.NumGoroutine") = false) (hb : fn.body.isNone = true)
    (hn : Extern.findNext fn = none) (he : Extern.find fn = some Extern.MapsClone.clone) : ExtOK P N0 f cloneM := by
  intro l s v s' β w l' h hI hfr hl
  unfold cloneM at h
  split at h
  · rename_i t b
    obtain ⟨o, s1, h1, h⟩ := bind_some.1 h
    obtain ⟨hlt, hg, rfl⟩ := rd_some.1 h1
    cases o with
    | map es clock =>
      obtain ⟨c, s2, h2, h⟩ := bind_some.1 h
      obtain ⟨rfl, rfl⟩ := pure_some.1 h
      obtain ⟨rfl, rfl⟩ := new_some.1 h2
      obtain ⟨l'⟩ := l'
      cases hl with
      | cons hx hr =>
        cases hr
        cases hx with
        | iface t hv =>
          cases hv with
          | map hL =>
            rename_i L
            obtain ⟨L', hL', es', q1, q2, q3⟩ := hI.live b _ hg
            rw [hL] at hL'; cases hL'
            have hn' : β s.nx = none := hfr _ (Nat.le_refl _) (by simp)
            have hget : (getObj L.r).run P w = .ok (.map es' clock) w := by simp [getObj, Sem.run, q1]
            refine ⟨addB β s.nx ⟨w.heap.size, 0, 0⟩, pushW w (.map es' clock), .iface t (.map (some w.heap.size)), ?_,
              .iface t (.map (L := ⟨w.heap.size, 0, 0⟩) (addB_same _ _ _)), addB_ext hn' (Nat.le_refl _) (by simp), ?_, pushW_below hI.size⟩
            · rw [run_callFunc_extern hf hname hb hn he]
              have ec : ∀ r, Extern.MapsClone.clone #[.iface t (.map (some r))] = (do
                  let .map entries clock ← getObj r | stuck "maps.clone: a map expected"
                  pure (.iface t (.map (some (← newObj (.map entries clock)))))) := fun _ => rfl
              simp only [ec, Sem.run_bind, hget, Result.andThen_ok, run_newObj, Sem.run_pure]
              rfl
            · refine hI.push (o' := .map es clock) hn' rfl (fun n => by simp only [Tr.get_set]) ?_
              exact ⟨es', pushW_new, q2.mono (addB_keep hn'), hI.size _ (Nat.le_refl _)⟩
    | _ => exact (fail_some.1 h).elim
  · exact (fail_some.1 h).elim

end
end
end Go.Ideal
