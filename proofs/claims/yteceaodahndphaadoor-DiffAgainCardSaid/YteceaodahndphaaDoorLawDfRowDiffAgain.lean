/- For every input, DiffAgain returns true and each argument reads afterwards as it read before. Conditions: the listed package-level variables hold what the program's text lays. -/
import Derived.Test.YteceaodahndphaaDoorPartDf4
import Derived.Test.YteceaodahndphaaDoorTie
import Derived.Test.YteceaodahndphaaDoorCards
import Derived.ProofKit
import Derived.OpenShut
import Derived.LaidMore
import Derived.Lay
import Derived.SevenTiedAt
import Derived.Stop.Joined
import Derived.Carry
import Derived.Test.YteceaodahndphaaDoorPartDf5
namespace Go.Proofs.YteceaodahndphaaDoor
open Go Go.ChangeShapes Go.WideShapes Go.ChangeAt Go.RowKit Go.ChangeMaps
theorem laidOut_8 : laidOutB Tryd.prog = true := by kernel_rfl
theorem own_8 : ownKnob Tryd.prog.godebug = none := by kernel_rfl
set_option maxRecDepth 100000 in
theorem lifted_8 (os : Os) (started : os.Started) (H : Type) (enc : TypeId × Value → H) :
    ReturnsInHanded {} Tryd.checked os 8 .any (fun w args => (Rows.diffAgainSpec.pre enc Tryd.prog Tryd.f8 [] false w args ∧ laidMetH Tryd.prog Rows.diffAgainRow.laid w) ∧ sizedMet enc Tryd.prog Tryd.f8 (OpenSpec.ofChange Rows.diffAgainSpec) false w args)
      (Rows.diffAgainSpec.post enc Tryd.prog Tryd.f8 false true false false) := by
  refine Ab.row_frame (C := Tryd.checked) (X := fun w => laidMetH Tryd.prog Rows.diffAgainRow.laid w) (fun _ _ hh h => h.of_heap hh) own_8 started (by kernel_rfl) Tryd.func8
    (ChangeSpec.witness_shaped (enc := enc) (C := Tryd.checked) (os := os) (X := fun w _ => laidMetH Tryd.prog Rows.diffAgainRow.laid w) false (World.laidAll Tryd.prog os Rows.diffAgainRow.laid) #[.slice none 0 0, .string .empty] 8 (World.laidAll_os _ _ _)
      (World.shaped_of_ZipB (by kernel_rfl) (by kernel_rfl)) (by kernel_rfl) (by kernel_rfl) (by kernel_rfl)
      (by rw [MakeChecks.laidMetH_plain _ _ _ (by kernel_rfl)]; exact laidMet_laidAll _ (by kernel_rfl) (by kernel_rfl))) ?_
  intro W base args ds gs before hval0 hW hL hS
  have hval : ∀ (j : Nat) t v, Tryd.f8.params[j]? = some t → args[j]? = some v → Value.okWide Tryd.prog W .any base t v := hval0
  have hW' := hW
  obtain ⟨p, q, hA0, hV, rfl, _, _⟩ := hW
  have hA : DataW.TrodAll enc Tryd.prog W 0 (fun _ => true) true Tryd.f8.params.toList args.toList ds p := hA0
  rw [Tryd.params8] at hA hval
  obtain ⟨v0, v1, d0, d1, p0, p1, rfl, rfl, rfl, h0, h1⟩ := trodAll_two hA
  obtain ⟨rfl, rfl⟩ := trodVars_none hV
  obtain ⟨x0, rx0⟩ := Ab.open_H (hval 0 25 v0 rfl rfl) h0
  obtain ⟨x1, rfl, rfl, rfl, wx1⟩ := open_string Tryd.underlying9 (hval 1 9 v1 rfl rfl) h1
  simp only [List.append_nil] at hW'
  obtain ⟨k, hk⟩ := Ab.run_DiffAgain x0 x1
  have hb := Ab.calls_boolF (C := Ab.cfg _) (Ab.cfg_ext fun p hp => Ab.con_to ((Ab.hold1 Ab.alive_holds (Ab.hold1 Ab.hunksA_holds (Ab.hold1 Ab.right_holds (Ab.hold1 Ab.plain_holds (Ab.hold1 Ab.dPrint_holds (Ab.hold1 Ab.dParse_holds (Ab.hold1 Ab.Same_holds Ab.hold0))))))) p hp)) Ab.noCount Ab.mixed hk Tryd.func8 rfl (by kernel_rfl) (by kernel_rfl) W (Ab.tabs_of (by rfl) hL hS) (vs := #[v0, .string x1]) ⟨rx0, .str _, trivial⟩
  refine hb.mono fun e W' ⟨he, hb⟩ => ?_
  subst he
  exact ⟨_, rfl, _, _, _, [], _, [], hW', trodAll_mk1 (shut_bool Tryd.underlying4 _), (trodAll_mk2 (Below.trod laidOut_8 (by kernel_rfl) (of_decide_eq_true (by kernel_rfl)) h0 hb (fun x hx => by simpa using hW'.lt x (by simp [hx]))) (shut_string Tryd.underlying9 wx1)), rfl, hb.frame _, fun h => by cases h⟩
theorem said_8 : Rows.DiffAgainSaid :=
  OpenClaim.holds_of_wide 8 Tryd.f8 rfl rfl rfl rfl rfl rfl rfl ⟨rfl, rfl, rfl, rfl, rfl⟩ rfl rfl rfl rfl rfl (by kernel_rfl) Tryd.func8 (by kernel_rfl)
    (of_decide_eq_true (by kernel_rfl)) (by unfold Func.isWrapper; first | (rw [if_pos (by decide +kernel)]; kernel_rfl) | (rw [if_neg (by decide +kernel)]; exact ⟨rfl, rfl⟩))
    (fun os started H enc _ => lifted_8 os started H enc)
theorem diffAgain_card : Rows.DiffAgainCardSaid :=
  Claim7.holds_tied_plain_at .later [] [.data, .data, .data, .data, .pinned] true (true, "709e960270fb402a343a355ca53e30a7b9f46a08afe8b6879d378af4b376d613") false said_8 (fun _ h => by cases h) (by kernel_rfl) (fun _ h => by cases h) diffAgain_row_tie rfl ⟨rfl, rfl⟩ (by kernel_rfl) rfl
    (fun f fn hf hfn => by
      obtain rfl : f = 8 := Option.some.inj ((show Tryd.prog.funcNamed "codesearch/codesearchlaw23.DiffAgain" = some 8 by kernel_rfl).symm.trans hf) |>.symm
      obtain rfl : fn = Tryd.f8 := (Option.some.inj (Tryd.func8.symm.trans hfn)).symm
      exact ⟨by kernel_rfl, fun j t ht => by
        rw [Tryd.params8] at ht
        have hm : t ∈ [25, 9] := by simpa using Array.mem_of_getElem? ht
        have hall : ([25, 9].all fun u => !Tryd.prog.wantsStandIn u) = true := by kernel_rfl
        exact (show Tryd.prog.wantsStandIn t = false by simpa using List.all_eq_true.1 hall t hm)⟩)
    (by kernel_rfl)
#print axioms diffAgain_card
end Go.Proofs.YteceaodahndphaaDoor
