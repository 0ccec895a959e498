/- AgentLasts is proved in its second form: for every argument of bulk at most 1048576 the law returns true, and the argument reads behind the call as it read before, where the listed package-level variables hold what the program's text lays (the card ties them). -/
import Derived.Test.YtmeahkijpipgnaaGreatDoorRows
import Derived.Test.YtmeahkijpipgnaaGreatDoorTie
import Derived.Test.YtmeahkijpipgnaaGreatDoorCards
import Derived.Test.YtmeahkijpipgnaaGreatDoorRow
import Derived.Test.YtmeahkijpipgnaaGreatDoorBl
import Derived.LaidMore
import Derived.Deep.DeepHandedRow
import Derived.Deep.DeepWitnessRowRef
namespace Go.Proofs.YtmeahkijpipgnaaGreatDoor
open Go Go.ChangeShapes Go.WideShapes Go.ChangeAt Go.RowKit

theorem agentLasts_uown : ownKnob Tryz.prog.godebug = none := by kernel_rfl
theorem agentLasts_umet (os : Os) (args : Array Value) : laidMetH Tryz.prog agentLastsUlaid ((World.doorLaid Tryz.prog 329 os).forCall (fun _ _ => 0) ⟨#[], args, []⟩).memory :=
  laidMetH_of_parts3 (fuel := 8) (laidMet_of_run' 8 (by kernel_rfl) (by kernel_rfl)) (by kernel_rfl) (by kernel_rfl)
theorem agentLasts_ureads (os : Os) {H : Type} (enc : TypeId × Value → H) : ∃ places, DataW.whole enc Tryz.prog ((World.doorLaid Tryz.prog 329 os).forCall (fun _ _ => 0) ⟨#[], #[.agg #[.string { data := #[] }, .string { data := #[] }, .int .i64 0, .int .i64 0, .int .i64 0, .slice none 0 0]], []⟩).memory Tryz.f4.params.toList Rows.agentLastsSpec.vars false #[(.agg #[.string { data := #[] }, .string { data := #[] }, .int .i64 0, .int .i64 0, .int .i64 0, .slice none 0 0] : Value)].toList 8 = some ([.agg [.lit (.string []), .lit (.string []), .lit (.int .i64 0), .lit (.int .i64 0), .lit (.int .i64 0), .nil]], [], places) :=
  ⟨[], by kernel_rfl⟩

set_option maxRecDepth 100000 in
theorem agentLasts_ulifted (os : Os) (started : os.Started) (H : Type) (enc : TypeId × Value → H) (F : Stop.Interp) :
    ReturnsInHanded {} Tryz.checked os 4 .any ((Rows.OpenSpec.upto Rows.agentLastsSpec).preRow enc Tryz.prog Tryz.f4 Rows.agentLastsUptoRow.domain false Rows.agentLastsUptoRow.laid) (((Rows.OpenSpec.upto Rows.agentLastsSpec).at F).post enc Tryz.prog Tryz.f4 false true false false) := by
  obtain ⟨places, hx⟩ := agentLasts_ureads os enc
  refine returnsInHanded_of_row (C := Tryz.checked) (s := Rows.OpenSpec.upto Rows.agentLastsSpec) agentLasts_uown started (by kernel_rfl) Tryz.func4
    (witness_row_atRef (enc := enc) (C := Tryz.checked) false (World.doorLaid Tryz.prog 329 os) #[.agg #[.string { data := #[] }, .string { data := #[] }, .int .i64 0, .int .i64 0, .int .i64 0, .slice none 0 0]] rfl (by kernel_rfl) (by kernel_rfl) (by kernel_rfl)
      (OpenSpec.preRow_of_cond 8 hx (by kernel_rfl) (fun k hk => by cases hk; kernel_rfl) (by kernel_rfl) (agentLasts_umet os _))) ?_
  intro W base args ds gs before hval0 hW _ hcond _ hL hS _
  have hval : ∀ (j : Nat) t v, Tryz.f4.params[j]? = some t → args[j]? = some v → Value.okWide Tryz.prog W .any base t v := hval0
  have hW' := hW
  obtain ⟨p, q, hA0, hV, rfl, hfz, hnd⟩ := hW
  have hA : DataW.TrodAll enc Tryz.prog W 0 (fun _ => true) true Tryz.f4.params.toList args.toList ds p := hA0
  rw [Tryz.params4] at hA hval
  obtain ⟨v, d, hargs, rfl, h0⟩ := trodAll_one hA
  have hargs' : args = #[v] := by first | exact hargs | (cases args; simp_all)
  subst hargs'
  obtain ⟨rfl, rfl⟩ := trodVars_none hV
  have hbk : Rows.uptoBulk d ≤ 1048576 := by
    have h2 := of_decide_eq_true (hcond _ rfl)
    simp only [List.append_nil, Rows.uptoBulkAll] at h2
    omega
  simp only [List.append_nil] at hW'
  refine (agentLasts_ucall (hval 0 52 v rfl rfl) h0 hbk hL hS).mono fun e W' ⟨he, hg⟩ => ?_
  subst he
  exact ⟨_, rfl, law_post (t := 52) (tb := 4) (by kernel_rfl) (by kernel_rfl) (of_decide_eq_true (by kernel_rfl)) Tryz.params4 (by kernel_rfl) Tryz.underlying4 rfl rfl hW' h0 hg⟩

theorem agentLasts_uholds : Rows.AgentLastsUptoSaid :=
  OpenClaim.holds_of_cond 4 Tryz.f4 rfl rfl rfl rfl rfl rfl rfl ⟨rfl, rfl, rfl, rfl, rfl⟩ rfl rfl rfl rfl rfl (by kernel_rfl) Tryz.func4 (by kernel_rfl)
    (of_decide_eq_true (by kernel_rfl)) (by unfold Func.isWrapper; first | (rw [if_pos (by decide +kernel)]; kernel_rfl) | (rw [if_neg (by decide +kernel)]; exact ⟨rfl, rfl⟩))
    (fun os started H enc _ F => by rw [OpenClaim.pre_eq_preRow]; exact agentLasts_ulifted os started H enc F)

theorem agentLasts_uplain (f : FuncId) (fn : Func) (hf : Tryz.pinned.checked.prog.funcNamed "usher/usherlaw23.AgentLasts" = some f) (hfn : Tryz.pinned.checked.prog.funcs[f]? = some fn) :
    true = Tryz.pinned.checked.prog.looks [] ∧ ∀ (j : Nat) t, fn.params[j]? = some t → Tryz.pinned.checked.prog.wantsStandIn t = false := by
  obtain rfl : f = 4 := Option.some.inj ((show Tryz.prog.funcNamed "usher/usherlaw23.AgentLasts" = some 4 by kernel_rfl).symm.trans hf) |>.symm
  obtain rfl : fn = Tryz.f4 := (Option.some.inj (Tryz.func4.symm.trans hfn)).symm
  refine ⟨by kernel_rfl, fun j t ht => ?_⟩
  rw [Tryz.params4] at ht
  obtain rfl : t = 52 := by simpa using Array.mem_of_getElem? ht
  exact (show Tryz.prog.wantsStandIn 52 = false by kernel_rfl)
theorem agentLasts_ucard : Rows.AgentLastsUptoCardSaid :=
  Claim7.holds_tied_plain_at .later [] _ _ _ _ agentLasts_uholds (fun _ h => by cases h) (by kernel_rfl) (fun _ h => by cases h) agentLastsUpto_row_tie rfl ⟨rfl, rfl⟩ (by kernel_rfl) rfl agentLasts_uplain (by kernel_rfl)
#print axioms agentLasts_ucard
end Go.Proofs.YtmeahkijpipgnaaGreatDoor
