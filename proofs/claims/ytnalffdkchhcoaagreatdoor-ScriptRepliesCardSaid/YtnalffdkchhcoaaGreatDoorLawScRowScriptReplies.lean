/- For every input, ScriptReplies returns true and each argument reads afterwards as it read before. Conditions: the listed package-level variables hold what the program's text lays. -/
import Derived.Test.YtnalffdkchhcoaaGreatDoorPartSc5
import Derived.Test.YtnalffdkchhcoaaGreatDoorTie
import Derived.Test.YtnalffdkchhcoaaGreatDoorCards
import Derived.ProofKit
import Derived.OpenShut
import Derived.LaidMore
import Derived.Lay
import Derived.SevenTiedAt
import Derived.Stop.Joined
import Derived.Carry
namespace Go.Proofs.YtnalffdkchhcoaaGreatDoor
open Go Go.ChangeShapes Go.WideShapes Go.ChangeAt Go.RowKit Go.ChangeMaps
theorem laidOut_4 : laidOutB Tryz.prog = true := by kernel_rfl
theorem own_4 : ownKnob Tryz.prog.godebug = none := by kernel_rfl
set_option maxRecDepth 100000 in
theorem lifted_4 (os : Os) (started : os.Started) (H : Type) (enc : TypeId × Value → H) :
    ReturnsInHanded {} Tryz.checked os 4 .any (fun w args => (Rows.scriptRepliesSpec.pre enc Tryz.prog Tryz.f4 [] false w args ∧ laidMetH Tryz.prog Rows.scriptRepliesRow.laid w) ∧ sizedMet enc Tryz.prog Tryz.f4 (OpenSpec.ofChange Rows.scriptRepliesSpec) false w args)
      (Rows.scriptRepliesSpec.post enc Tryz.prog Tryz.f4 false true false false) := by
  refine Ab.row_frame (C := Tryz.checked) (X := fun w => laidMetH Tryz.prog Rows.scriptRepliesRow.laid w) (fun _ _ hh h => h.of_heap hh) own_4 started (by kernel_rfl) Tryz.func4
    (ChangeSpec.witness_shaped (enc := enc) (C := Tryz.checked) (os := os) (X := fun w _ => laidMetH Tryz.prog Rows.scriptRepliesRow.laid w) false (World.laidAll Tryz.prog os Rows.scriptRepliesRow.laid) #[.int .i64 0, .agg #[.int .i64 0, .int .i64 0, .slice none 0 0, .slice none 0 0, .bool false, .int .i64 0]] 8 (World.laidAll_os _ _ _)
      (World.shaped_of_ZipB (by kernel_rfl) (by kernel_rfl)) (by kernel_rfl) (by kernel_rfl) (by kernel_rfl)
      (by rw [MakeChecks.laidMetH_plain _ _ _ (by kernel_rfl)]; exact laidMet_laidAll _ (by kernel_rfl) (by kernel_rfl))) ?_
  intro W base args ds gs before hval0 hW hL hS
  have hval : ∀ (j : Nat) t v, Tryz.f4.params[j]? = some t → args[j]? = some v → Value.okWide Tryz.prog W .any base t v := hval0
  have hW' := hW
  obtain ⟨p, q, hA0, hV, rfl, _, _⟩ := hW
  have hA : DataW.TrodAll enc Tryz.prog W 0 (fun _ => true) true Tryz.f4.params.toList args.toList ds p := hA0
  rw [Tryz.params4] at hA hval
  obtain ⟨v0, v1, d0, d1, p0, p1, rfl, rfl, rfl, h0, h1⟩ := trodAll_two hA
  obtain ⟨rfl, rfl⟩ := trodVars_none hV
  obtain ⟨x0, rfl⟩ := okWide_int Tryz.underlying3 (hval 0 3 v0 rfl rfl)
  obtain ⟨fx0, gx0⟩ := h0
  obtain ⟨zx0, ex0, kx0, wx0⟩ := DataW.trod_int Tryz.underlying3 gx0
  simp only [Value.cells, List.cons.injEq, Value.int.injEq, true_and, and_true] at ex0
  subst ex0
  obtain ⟨rfl, rfl⟩ := Prod.mk.inj kx0
  obtain ⟨x1, rx1⟩ := Ab.open_R (hval 1 34 v1 rfl rfl) h1
  simp only [List.append_nil] at hW'
  obtain ⟨k, hk⟩ := Ab.run_ScriptReplies x0 x1
  have hb := Ab.calls_boolF (C := Ab.cfg _) (Ab.cfg_ext fun p hp => Ab.con_to ((Ab.hold1 Ab.alive_holds (Ab.hold1 Ab.preply_holds (Ab.hold1 Ab.rreply_holds Ab.hold0))) p hp)) Ab.noCount Ab.mixed hk Tryz.func4 rfl (by kernel_rfl) (by kernel_rfl) W (Ab.tabs_of (by rfl) hL hS) (vs := #[.int .i64 x0, v1]) ⟨.int _ _, rx1, trivial⟩
  refine hb.mono fun e W' ⟨he, hb⟩ => ?_
  subst he
  exact ⟨_, rfl, _, _, _, [], _, [], hW', trodAll_mk1 (shut_bool Tryz.underlying4 _), (trodAll_mk2 (shut_int Tryz.underlying3 wx0) (Below.trod laidOut_4 (by kernel_rfl) (of_decide_eq_true (by kernel_rfl)) h1 hb (fun x hx => by simpa using hW'.lt x (by simp [hx])))), rfl, hb.frame _, fun h => by cases h⟩
theorem said_4 : Rows.ScriptRepliesSaid :=
  OpenClaim.holds_of_wide 4 Tryz.f4 rfl rfl rfl rfl rfl rfl rfl ⟨rfl, rfl, rfl, rfl, rfl⟩ rfl rfl rfl rfl rfl (by kernel_rfl) Tryz.func4 (by kernel_rfl)
    (of_decide_eq_true (by kernel_rfl)) (by unfold Func.isWrapper; first | (rw [if_pos (by decide +kernel)]; kernel_rfl) | (rw [if_neg (by decide +kernel)]; exact ⟨rfl, rfl⟩))
    (fun os started H enc _ => lifted_4 os started H enc)
theorem scriptReplies_card : Rows.ScriptRepliesCardSaid :=
  Claim7.holds_tied_plain_at .later [] [.data, .data, .data, .data, .pinned] true (true, "00edf6b04fe7711992285f34ea392adade13781c075761f72beb4f4545c6369d") true said_4 (fun _ h => by cases h) (by kernel_rfl) (fun _ h => by cases h) scriptReplies_row_tie rfl ⟨rfl, rfl⟩ (by kernel_rfl) rfl
    (fun f fn hf hfn => by
      obtain rfl : f = 4 := Option.some.inj ((show Tryz.prog.funcNamed "codesearch/codesearchlaw54.ScriptReplies" = some 4 by kernel_rfl).symm.trans hf) |>.symm
      obtain rfl : fn = Tryz.f4 := (Option.some.inj (Tryz.func4.symm.trans hfn)).symm
      exact ⟨by kernel_rfl, fun j t ht => by
        rw [Tryz.params4] at ht
        have hm : t ∈ [3, 34] := by simpa using Array.mem_of_getElem? ht
        have hall : ([3, 34].all fun u => !Tryz.prog.wantsStandIn u) = true := by kernel_rfl
        exact (show Tryz.prog.wantsStandIn t = false by simpa using List.all_eq_true.1 hall t hm)⟩)
    (by kernel_rfl)
#print axioms scriptReplies_card
end Go.Proofs.YtnalffdkchhcoaaGreatDoor
