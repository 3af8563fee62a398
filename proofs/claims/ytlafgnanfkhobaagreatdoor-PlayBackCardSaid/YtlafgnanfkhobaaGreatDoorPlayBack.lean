/- THE LAW 'PlayBack': at every call it answers true. No condition. The ideal machine's runs are evaluated by the kernel. -/
import Derived.Test.YtlafgnanfkhobaaGreatDoorPlayBackF
import Derived.Test.YtlafgnanfkhobaaGreatDoorBk
namespace Go.Proofs.YtlafgnanfkhobaaGreatDoor.playBack
set_option linter.all false
set_option linter.unusedSimpArgs false
set_option linter.unusedVariables false
open Go.ChangeShapes Go.WideShapes Go.ChangeAt Go.RowKit Go.Lib
open Go.ChangeMaps (open_string shut_string)
set_option linter.unusedVariables false
theorem laid_met_playBack (os : Os) (args : Array Value) : laidMet Tryz.prog Rows.playBackRow.laid ((laidWorld os).forCall (fun _ _ => 0) ⟨#[],args,[]⟩).memory :=
 (LaidIn.of_run (l :=Rows.playBackRow.laid) [2,3,0,5,N0,4,N0 + 1] 8 (by kernel_rfl) (by kernel_rfl) (by kernel_rfl) (by kernel_rfl)).met
theorem witness_row (os : Os) {H : Type} (enc : TypeId × Value → H) :
  (OpenSpec.ofChange Rows.playBackSpec).preRow enc Tryz.prog Tryz.f3 Rows.playBackRow.domain false Rows.playBackRow.laid ((laidWorld os).forCall (fun _ _ => 0) ⟨#[],#[.slice none 0 0,.slice none 0 0,.int .u16 0],[]⟩).memory #[.slice none 0 0,.slice none 0 0,.int .u16 0] :=by
 have hw : (DataW.whole enc Tryz.prog ((laidWorld os).forCall (fun _ _ => 0) ⟨#[],#[.slice none 0 0,.slice none 0 0,.int .u16 0],[]⟩).memory Tryz.f3.params.toList Rows.playBackSpec.vars false (#[.slice none 0 0,.slice none 0 0,.int .u16 0] : Array Value).toList 8).map (fun x => (x.1,x.2.1)) =
   some ([.nil,.nil,.lit (.int .u16 0)],[]) :=by kernel_rfl
 obtain ⟨⟨x1,x2,x3⟩,hx,hx1⟩ :=Option.map_eq_some_iff.1 hw
 simp only [Prod.mk.injEq] at hx1
 obtain ⟨rfl,rfl⟩ :=hx1
 exact OpenSpec.preRow_of_cond 8 hx (by kernel_rfl) (fun k hk => by cases hk) (by kernel_rfl) (laid_met_playBack os _)
set_option maxRecDepth 100000 in
set_option maxHeartbeats 4000000 in
theorem lifted (os : Os) (started : os.Started) (H : Type) (enc : TypeId × Value → H) (F : Stop.Interp) :
  ReturnsInHanded {} Tryz.checked os 3 .any ((OpenSpec.ofChange Rows.playBackSpec).preRow enc Tryz.prog Tryz.f3 Rows.playBackRow.domain false Rows.playBackRow.laid) (((OpenSpec.ofChange Rows.playBackSpec).at F).post enc Tryz.prog Tryz.f3 false true false false) :=by
 refine returnsInHanded_of_row (C :=Tryz.checked) (s :=OpenSpec.ofChange Rows.playBackSpec) zOwn started (by kernel_rfl) Tryz.func3
  (witness_row_atRef (enc :=enc) (C :=Tryz.checked) false (laidWorld os) #[.slice none 0 0,.slice none 0 0,.int .u16 0] rfl (by kernel_rfl) (by kernel_rfl) (by kernel_rfl) (witness_row os enc)) ?_
 intro W base args ds gs before hval0 hW _ _ _ hlaid _ _
 have hval : ∀ (j : Nat) t v,Tryz.f3.params[j]? = some t → args[j]? = some v → Value.okWide Tryz.prog W .any base t v :=hval0
 have hW' :=hW
 obtain ⟨p,q,hA0,hV,rfl,hfz,hnd⟩ :=hW
 have hA : DataW.TrodAll enc Tryz.prog W 0 (fun _ => true) true Tryz.f3.params.toList args.toList ds p :=hA0
 rw [Tryz.params3] at hA hval
 obtain ⟨v0,vs0,d0,ds0,p0,q0,hargs,rfl,rfl,h0,r0⟩ :=trodAll_cons hA
 obtain ⟨v1,vs1,d1,ds1,p1,q1,rfl,rfl,rfl,h1,r1⟩ :=trodAll_cons r0
 obtain ⟨v2,vs2,d2,ds2,p2,q2,rfl,rfl,rfl,h2,r2⟩ :=trodAll_cons r1
 obtain ⟨rfl,rfl,rfl⟩ :=trodAll_nil r2
 obtain rfl : args = #[v0,v1,v2] :=by cases args;simp_all
 obtain ⟨rfl,rfl⟩ :=trodVars_none hV
 have hr0 :=Ideal.open_row Tryz.underlying22 Tryz.underlying5 (by kernel_rfl) (hval 0 22 v0 rfl rfl) h0
 have hr1 :=Ideal.open_row Tryz.underlying22 Tryz.underlying5 (by kernel_rfl) (hval 1 22 v1 rfl rfl) h1
 obtain ⟨a2,rfl,rfl,rfl,w2⟩ :=open_int Tryz.underlying23 (hval 2 23 v2 rfl rfl) h2
 clear hA0 hval0
 simp only [List.append_nil,List.nil_append] at hW'
 refine (playBack_true v0 _ _ W hr0 v1 _ _ W hr1 a2 w2).mono fun e W' ⟨he,hg⟩ => ?_
 subst he
 exact ⟨_,rfl,Ideal.post_of_below  (pv :=[]) hW' (fun _ _ _ => (trodAll_cons_mk (shut_bool Tryz.underlying4 _) trodAll_mk0)) (fun sp hsp => (trodAll_cons_mk (Ideal.shut_row Tryz.underlying22 Tryz.underlying5 (by kernel_rfl) hr0 hg (fun q hq => hsp q (by first | exact hq | simpa using hq | simp [hq]))) (trodAll_cons_mk (Ideal.shut_row Tryz.underlying22 Tryz.underlying5 (by kernel_rfl) hr1 hg (fun q hq => hsp q (by first | exact hq | simpa using hq | simp [hq]))) (trodAll_cons_mk (shut_int Tryz.underlying23 w2) trodAll_mk0)))) (fun _ _ => rfl) (by simp)
  hg (ok_one (by kernel_rfl) rfl (okWide_bool_mk Tryz.underlying4 _))⟩
theorem said : Rows.PlayBackSaid :=
 OpenClaim.holds_of_cond 3 Tryz.f3 rfl rfl rfl rfl rfl rfl rfl ⟨rfl,rfl,rfl,rfl,rfl⟩ rfl rfl rfl rfl rfl (by kernel_rfl) Tryz.func3 closed
  (of_decide_eq_true (by kernel_rfl)) (by unfold Func.isWrapper;first | (rw [if_pos (by decide +kernel)];kernel_rfl) | (rw [if_neg (by decide +kernel)];exact ⟨rfl,rfl⟩))
  (fun os started H enc _ F => by rw [OpenClaim.pre_eq_preRow];exact lifted os started H enc F)
theorem plain (f : FuncId) (fn : Func) (hf : Tryz.pinned.checked.prog.funcNamed Rows.playBackRow.func = some f) (hfn : Tryz.pinned.checked.prog.funcs[f]? = some fn) :
  true = Tryz.pinned.checked.prog.looks [] ∧ ∀ (j : Nat) t,fn.params[j]? = some t → Tryz.pinned.checked.prog.wantsStandIn t = false :=by
 obtain rfl : f = 3 :=Option.some.inj ((show Tryz.prog.funcNamed Rows.playBackRow.func = some 3 by kernel_rfl).symm.trans hf) |>.symm
 obtain rfl : fn = Tryz.f3 :=(Option.some.inj (Tryz.func3.symm.trans hfn)).symm
 refine ⟨zLooks,fun j t ht => ?_⟩
 rw [Tryz.params3] at ht
 have hm :=Array.mem_of_getElem? ht
 simp only [List.mem_toArray,List.mem_cons,List.not_mem_nil,or_false] at hm
 rcases hm with h | h | h
 ·rw [h];exact (show Tryz.prog.wantsStandIn 22 = false by kernel_rfl)
 ·rw [h];exact (show Tryz.prog.wantsStandIn 22 = false by kernel_rfl)
 ·rw [h];exact (show Tryz.prog.wantsStandIn 23 = false by kernel_rfl)
theorem wfText : Rows.playBackRow.wfByText (OpenSpec.ofChange Rows.playBackSpec) = true :=by kernel_rfl
theorem mainIs : Tryz.pinned.checked.prog.mainIs = some (Rows.playBackCard.stood.harness.1,Rows.playBackCard.stood.harness.2.toList) :=by kernel_rfl
theorem goesNot : false = Rows.playBackRow.goesBy Tryz.pinned.checked.prog :=(no_goes noGoes rfl).symm
/-- ████ THE STATEMENT ████ -/
theorem proved : Rows.PlayBackCardSaid :=
 Claim7.holds_tied_plain_at .later [] _ _ _ _ said (fun _ h => by cases h) wfText (fun _ h => by cases h) playBack_row_tie rfl ⟨rfl,rfl⟩ mainIs rfl plain goesNot
#print axioms proved
end Go.Proofs.YtlafgnanfkhobaaGreatDoor.playBack
