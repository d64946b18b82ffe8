/- For every input, DiffLeast returns true and each argument reads afterwards as it read before. Conditions: the listed package-level variables hold what the program's text lays. -/
import Derived.Test.YteceaodahndphaaDoorPartDf4
import Derived.Test.YteceaodahndphaaDoorTie
import Derived.Test.YteceaodahndphaaDoorCards
import Derived.ProofKit
import Derived.OpenShut
import Derived.LaidMore
import Derived.Lay
import Derived.SevenTiedAt
import Derived.Stop.Joined
import Derived.Carry
import Derived.Test.YteceaodahndphaaDoorPartDf5
namespace Go.Proofs.YteceaodahndphaaDoor
open Go Go.ChangeShapes Go.WideShapes Go.ChangeAt Go.RowKit Go.ChangeMaps
theorem laidOut_6 : laidOutB Tryd.prog = true := by kernel_rfl
theorem own_6 : ownKnob Tryd.prog.godebug = none := by kernel_rfl
set_option maxRecDepth 100000 in
theorem lifted_6 (os : Os) (started : os.Started) (H : Type) (enc : TypeId × Value → H) :
    ReturnsInHanded {} Tryd.checked os 6 .any (fun w args => (Rows.diffLeastSpec.pre enc Tryd.prog Tryd.f6 [] false w args ∧ laidMetH Tryd.prog Rows.diffLeastRow.laid w) ∧ sizedMet enc Tryd.prog Tryd.f6 (OpenSpec.ofChange Rows.diffLeastSpec) false w args)
      (Rows.diffLeastSpec.post enc Tryd.prog Tryd.f6 false true false false) := by
  refine Ab.row_frame (C := Tryd.checked) (X := fun w => laidMetH Tryd.prog Rows.diffLeastRow.laid w) (fun _ _ hh h => h.of_heap hh) own_6 started (by kernel_rfl) Tryd.func6
    (ChangeSpec.witness_shaped (enc := enc) (C := Tryd.checked) (os := os) (X := fun w _ => laidMetH Tryd.prog Rows.diffLeastRow.laid w) false (World.laidAll Tryd.prog os Rows.diffLeastRow.laid) #[.slice none 0 0, .slice none 0 0] 8 (World.laidAll_os _ _ _)
      (World.shaped_of_ZipB (by kernel_rfl) (by kernel_rfl)) (by kernel_rfl) (by kernel_rfl) (by kernel_rfl)
      (by rw [MakeChecks.laidMetH_plain _ _ _ (by kernel_rfl)]; exact laidMet_laidAll _ (by kernel_rfl) (by kernel_rfl))) ?_
  intro W base args ds gs before hval0 hW hL hS
  have hval : ∀ (j : Nat) t v, Tryd.f6.params[j]? = some t → args[j]? = some v → Value.okWide Tryd.prog W .any base t v := hval0
  have hW' := hW
  obtain ⟨p, q, hA0, hV, rfl, _, _⟩ := hW
  have hA : DataW.TrodAll enc Tryd.prog W 0 (fun _ => true) true Tryd.f6.params.toList args.toList ds p := hA0
  rw [Tryd.params6] at hA hval
  obtain ⟨v0, v1, d0, d1, p0, p1, rfl, rfl, rfl, h0, h1⟩ := trodAll_two hA
  obtain ⟨rfl, rfl⟩ := trodVars_none hV
  obtain ⟨x0, rx0⟩ := Ab.open_S (hval 0 22 v0 rfl rfl) h0
  obtain ⟨x1, rx1⟩ := Ab.open_H (hval 1 25 v1 rfl rfl) h1
  simp only [List.append_nil] at hW'
  obtain ⟨k, hk⟩ := Ab.run_DiffLeast x0 x1
  have hb := Ab.calls_boolF (C := Ab.cfg _) (Ab.cfg_ext fun p hp => Ab.con_to ((Ab.hold1 Ab.alive_holds (Ab.hold1 Ab.fewA_holds (Ab.hold1 Ab.hunksA_holds (Ab.hold1 Ab.apply_holds (Ab.hold1 Ab.dLines_holds (Ab.hold1 Ab.dist_holds Ab.hold0)))))) p hp)) Ab.noCount Ab.mixed hk Tryd.func6 rfl (by kernel_rfl) (by kernel_rfl) W (Ab.tabs_of (by rfl) hL hS) (vs := #[v0, v1]) ⟨rx0, rx1, trivial⟩
  refine hb.mono fun e W' ⟨he, hb⟩ => ?_
  subst he
  exact ⟨_, rfl, _, _, _, [], _, [], hW', trodAll_mk1 (shut_bool Tryd.underlying4 _), (trodAll_mk2 (Below.trod laidOut_6 (by kernel_rfl) (of_decide_eq_true (by kernel_rfl)) h0 hb (fun x hx => by simpa using hW'.lt x (by simp [hx]))) (Below.trod laidOut_6 (by kernel_rfl) (of_decide_eq_true (by kernel_rfl)) h1 hb (fun x hx => by simpa using hW'.lt x (by simp [hx])))), rfl, hb.frame _, fun h => by cases h⟩
theorem said_6 : Rows.DiffLeastSaid :=
  OpenClaim.holds_of_wide 6 Tryd.f6 rfl rfl rfl rfl rfl rfl rfl ⟨rfl, rfl, rfl, rfl, rfl⟩ rfl rfl rfl rfl rfl (by kernel_rfl) Tryd.func6 (by kernel_rfl)
    (of_decide_eq_true (by kernel_rfl)) (by unfold Func.isWrapper; first | (rw [if_pos (by decide +kernel)]; kernel_rfl) | (rw [if_neg (by decide +kernel)]; exact ⟨rfl, rfl⟩))
    (fun os started H enc _ => lifted_6 os started H enc)
theorem diffLeast_card : Rows.DiffLeastCardSaid :=
  Claim7.holds_tied_plain_at .later [] [.data, .data, .data, .data, .pinned] true (true, "709e960270fb402a343a355ca53e30a7b9f46a08afe8b6879d378af4b376d613") false said_6 (fun _ h => by cases h) (by kernel_rfl) (fun _ h => by cases h) diffLeast_row_tie rfl ⟨rfl, rfl⟩ (by kernel_rfl) rfl
    (fun f fn hf hfn => by
      obtain rfl : f = 6 := Option.some.inj ((show Tryd.prog.funcNamed "codesearch/codesearchlaw23.DiffLeast" = some 6 by kernel_rfl).symm.trans hf) |>.symm
      obtain rfl : fn = Tryd.f6 := (Option.some.inj (Tryd.func6.symm.trans hfn)).symm
      exact ⟨by kernel_rfl, fun j t ht => by
        rw [Tryd.params6] at ht
        have hm : t ∈ [22, 25] := by simpa using Array.mem_of_getElem? ht
        have hall : ([22, 25].all fun u => !Tryd.prog.wantsStandIn u) = true := by kernel_rfl
        exact (show Tryd.prog.wantsStandIn t = false by simpa using List.all_eq_true.1 hall t hm)⟩)
    (by kernel_rfl)
#print axioms diffLeast_card
end Go.Proofs.YteceaodahndphaaDoor
