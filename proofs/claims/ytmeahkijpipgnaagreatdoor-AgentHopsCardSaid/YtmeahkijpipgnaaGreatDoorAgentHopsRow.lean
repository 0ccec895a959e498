/- AgentHops is proved: for every argument the law returns true, and the argument reads behind the call as it read before, where the listed package-level variables hold what the program's text lays (the card ties them). -/
import Derived.Test.YtmeahkijpipgnaaGreatDoorRows
import Derived.Test.YtmeahkijpipgnaaGreatDoorTie
import Derived.Test.YtmeahkijpipgnaaGreatDoorCards
import Derived.Test.YtmeahkijpipgnaaGreatDoorRow
import Derived.Test.YtmeahkijpipgnaaGreatDoorAn
import Derived.LaidMore
import Derived.Stop.Joined
import Derived.SevenTiedAt
namespace Go.Proofs.YtmeahkijpipgnaaGreatDoor
open Go Go.ChangeShapes Go.WideShapes Go.ChangeAt Go.RowKit

theorem agentHops_own : ownKnob Tryz.prog.godebug = none := by kernel_rfl
theorem agentHops_met (os : Os) (args : Array Value) : laidMetH Tryz.prog agentHopsLaid ((World.doorLaid Tryz.prog 329 os).forCall (fun _ _ => 0) ⟨#[], args, []⟩).memory :=
  laidMetH_of_parts3 (fuel := 8) (laidMet_of_run' 8 (by kernel_rfl) (by kernel_rfl)) (by kernel_rfl) (by kernel_rfl)

set_option maxRecDepth 100000 in
theorem agentHops_lifted (os : Os) (started : os.Started) (H : Type) (enc : TypeId × Value → H) :
    ReturnsInHanded {} Tryz.checked os 3 .any (fun w args => (Rows.agentHopsSpec.pre enc Tryz.prog Tryz.f3 [] false w args ∧ laidMetH Tryz.prog agentHopsLaid w) ∧ sizedMet enc Tryz.prog Tryz.f3 (OpenSpec.ofChange Rows.agentHopsSpec) false w args)
      (Rows.agentHopsSpec.post enc Tryz.prog Tryz.f3 false true false false) := by
  refine returnsInHanded_of_change_and (C := Tryz.checked) (X := fun w _ => laidMetH Tryz.prog agentHopsLaid w) (fun _ _ _ hh h => h.of_heap hh) agentHops_own started (by kernel_rfl) Tryz.func3
    (ChangeSpec.witness_shaped (enc := enc) (C := Tryz.checked) (os := os) (X := fun w _ => laidMetH Tryz.prog agentHopsLaid w) false (World.doorLaid Tryz.prog 329 os) #[.agg #[.slice none 0 0, .slice none 0 0, .int .i64 0]] 8 rfl (World.shaped_of_RefB (by kernel_rfl) (by kernel_rfl)) (by kernel_rfl) (by kernel_rfl) (by kernel_rfl) (agentHops_met os _)) ?_
  intro W base args ds gs before hval0 hW _ hsz hL _
  have hval : ∀ (j : Nat) t v, Tryz.f3.params[j]? = some t → args[j]? = some v → Value.okWide Tryz.prog W .any base t v := hval0
  have hW' := hW
  obtain ⟨p, q, hA0, hV, rfl, hfz, hnd⟩ := hW
  have hA : DataW.TrodAll enc Tryz.prog W 0 (fun _ => true) true Tryz.f3.params.toList args.toList ds p := hA0
  rw [Tryz.params3] at hA hval
  obtain ⟨v, d, hargs, rfl, h0⟩ := trodAll_one hA
  have hargs' : args = #[v] := by first | exact hargs | (cases args; simp_all)
  subst hargs'
  obtain ⟨rfl, rfl⟩ := trodVars_none hV
  have hsz' : (DataW.weights Tryz.prog 25 d).all (· ≤ reachBytes) = true := by
    have h2 := hsz
    rw [Tryz.params3] at h2
    have e : DataW.weightsEach Tryz.prog ([25] ++ (OpenSpec.ofChange Rows.agentHopsSpec).bare.plain.varTypes Tryz.prog) ([d] ++ []) = DataW.weights Tryz.prog 25 d := by
      simp [DataW.weightsEach]
    first | (rw [← e]; exact h2) | (simpa [DataW.weightsEach] using h2)
  simp only [List.append_nil] at hW'
  refine (agentHops_call (hval 0 25 v rfl rfl) h0 hsz' hL).mono fun e W' ⟨he, hg⟩ => ?_
  subst he
  exact ⟨_, rfl, law_post (t := 25) (tb := 4) (by kernel_rfl) (by kernel_rfl) (of_decide_eq_true (by kernel_rfl)) Tryz.params3 (by kernel_rfl) Tryz.underlying4 rfl rfl hW' h0 hg⟩

theorem agentHops_holds : Rows.AgentHopsSaid :=
  OpenClaim.holds_of_wide 3 Tryz.f3 rfl rfl rfl rfl rfl rfl rfl ⟨rfl, rfl, rfl, rfl, rfl⟩ rfl rfl rfl rfl rfl (by kernel_rfl) Tryz.func3 (by kernel_rfl)
    (of_decide_eq_true (by kernel_rfl)) (by unfold Func.isWrapper; first | (rw [if_pos (by decide +kernel)]; kernel_rfl) | (rw [if_neg (by decide +kernel)]; exact ⟨rfl, rfl⟩))
    (fun os started H enc _ => agentHops_lifted os started H enc)

theorem agentHops_card : Rows.AgentHopsCardSaid :=
  Claim7.holds_tied_plain_at .later [] [.data, .data, .data, .sentinel, .sentinel, .sentinel, .sentinel, .sentinel, .sentinel, .sentinel, .sentinel, .sentinel, .sentinel, .sentinel, .sentinel, .sentinel, .sentinel, .sentinel, .data, .data] true (true, "75dd8f9e948ba9f2f42ff964cad3b301b42bc4bff4ef5182d26b8e8497400747") true
    agentHops_holds (fun _ h => by cases h) (by kernel_rfl) (fun _ h => by cases h) agentHops_row_tie rfl ⟨rfl, rfl⟩ (by kernel_rfl) rfl
    (fun f fn hf hfn => by
      obtain rfl : f = 3 := Option.some.inj ((show Tryz.prog.funcNamed "usher/usherlaw23.AgentHops" = some 3 by kernel_rfl).symm.trans hf) |>.symm
      obtain rfl : fn = Tryz.f3 := (Option.some.inj (Tryz.func3.symm.trans hfn)).symm
      exact ⟨by kernel_rfl, fun j t ht => by
        rw [Tryz.params3] at ht
        have hm : t ∈ [25] := by simpa using Array.mem_of_getElem? ht
        have hall : ([25].all fun u => !Tryz.prog.wantsStandIn u) = true := by kernel_rfl
        exact (show Tryz.prog.wantsStandIn t = false by simpa using List.all_eq_true.1 hall t hm)⟩)
    (by kernel_rfl)
#print axioms agentHops_card
end Go.Proofs.YtmeahkijpipgnaaGreatDoor
