/- JournalForms is proved: for every argument the law returns true, and the argument reads behind the call as it read before, where the listed package-level variables hold what the program's text lays (the card ties them). -/
import Derived.Test.YtmejjhklknhniaaDoorRows
import Derived.Test.YtmejjhklknhniaaDoorTie
import Derived.Test.YtmejjhklknhniaaDoorCards
import Derived.Test.YtmejjhklknhniaaDoorRow
import Derived.Test.YtmejjhklknhniaaDoorFe
import Derived.LaidMore
import Derived.Stop.Joined
import Derived.SevenTiedAt
namespace Go.Proofs.YtmejjhklknhniaaDoor
open Go Go.ChangeShapes Go.WideShapes Go.ChangeAt Go.RowKit

theorem journalForms_own : ownKnob Tryd.prog.godebug = none := by kernel_rfl
theorem journalForms_met (os : Os) (args : Array Value) : laidMetH Tryd.prog journalFormsLaid ((World.doorLaid Tryd.prog 296 os).forCall (fun _ _ => 0) ⟨#[], args, []⟩).memory :=
  laidMetH_of_parts3 (fuel := 8) (laidMet_of_run' 8 (by kernel_rfl) (by kernel_rfl)) (by kernel_rfl) (by kernel_rfl)

set_option maxRecDepth 100000 in
theorem journalForms_lifted (os : Os) (started : os.Started) (H : Type) (enc : TypeId × Value → H) :
    ReturnsInHanded {} Tryd.checked os 6 .any (fun w args => (Rows.journalFormsSpec.pre enc Tryd.prog Tryd.f6 [] false w args ∧ laidMetH Tryd.prog journalFormsLaid w) ∧ sizedMet enc Tryd.prog Tryd.f6 (OpenSpec.ofChange Rows.journalFormsSpec) false w args)
      (Rows.journalFormsSpec.post enc Tryd.prog Tryd.f6 false true false false) := by
  refine returnsInHanded_of_change_and (C := Tryd.checked) (X := fun w _ => laidMetH Tryd.prog journalFormsLaid w) (fun _ _ _ hh h => h.of_heap hh) journalForms_own started (by kernel_rfl) Tryd.func6
    (ChangeSpec.witness_shaped (enc := enc) (C := Tryd.checked) (os := os) (X := fun w _ => laidMetH Tryd.prog journalFormsLaid w) false (World.doorLaid Tryd.prog 296 os) #[.agg #[.int .i64 0, .int .i64 0, .int .i64 0]] 8 rfl (World.shaped_of_RefB (by kernel_rfl) (by kernel_rfl)) (by kernel_rfl) (by kernel_rfl) (by kernel_rfl) (journalForms_met os _)) ?_
  intro W base args ds gs before hval0 hW _ hsz hL _
  have hval : ∀ (j : Nat) t v, Tryd.f6.params[j]? = some t → args[j]? = some v → Value.okWide Tryd.prog W .any base t v := hval0
  have hW' := hW
  obtain ⟨p, q, hA0, hV, rfl, hfz, hnd⟩ := hW
  have hA : DataW.TrodAll enc Tryd.prog W 0 (fun _ => true) true Tryd.f6.params.toList args.toList ds p := hA0
  rw [Tryd.params6] at hA hval
  obtain ⟨v, d, hargs, rfl, h0⟩ := trodAll_one hA
  have hargs' : args = #[v] := by first | exact hargs | (cases args; simp_all)
  subst hargs'
  obtain ⟨rfl, rfl⟩ := trodVars_none hV
  have hsz' : (DataW.weights Tryd.prog 51 d).all (· ≤ reachBytes) = true := by
    have h2 := hsz
    rw [Tryd.params6] at h2
    have e : DataW.weightsEach Tryd.prog ([51] ++ (OpenSpec.ofChange Rows.journalFormsSpec).bare.plain.varTypes Tryd.prog) ([d] ++ []) = DataW.weights Tryd.prog 51 d := by
      simp [DataW.weightsEach]
    first | (rw [← e]; exact h2) | (simpa [DataW.weightsEach] using h2)
  simp only [List.append_nil] at hW'
  refine (journalForms_call (hval 0 51 v rfl rfl) h0 hsz' hL).mono fun e W' ⟨he, hg⟩ => ?_
  subst he
  exact ⟨_, rfl, law_post (t := 51) (tb := 4) (by kernel_rfl) (by kernel_rfl) (of_decide_eq_true (by kernel_rfl)) Tryd.params6 (by kernel_rfl) Tryd.underlying4 rfl rfl hW' h0 hg⟩

theorem journalForms_holds : Rows.JournalFormsSaid :=
  OpenClaim.holds_of_wide 6 Tryd.f6 rfl rfl rfl rfl rfl rfl rfl ⟨rfl, rfl, rfl, rfl, rfl⟩ rfl rfl rfl rfl rfl (by kernel_rfl) Tryd.func6 (by kernel_rfl)
    (of_decide_eq_true (by kernel_rfl)) (by unfold Func.isWrapper; first | (rw [if_pos (by decide +kernel)]; kernel_rfl) | (rw [if_neg (by decide +kernel)]; exact ⟨rfl, rfl⟩))
    (fun os started H enc _ => journalForms_lifted os started H enc)

theorem journalForms_card : Rows.JournalFormsCardSaid :=
  Claim7.holds_tied_plain_at .later [] [.sentinel, .sentinel, .widerDeep, .widerDeep, .widerDeep, .data, .data] true (true, "25a253283dd92fcc762a5a2cde0663b358805587e0752cc3a92c5e3b6f46c02e") true
    journalForms_holds (fun _ h => by cases h) (by kernel_rfl) (fun _ h => by cases h) journalForms_row_tie rfl ⟨rfl, rfl⟩ (by kernel_rfl) rfl
    (fun f fn hf hfn => by
      obtain rfl : f = 6 := Option.some.inj ((show Tryd.prog.funcNamed "usher/usherlaw21.JournalForms" = some 6 by kernel_rfl).symm.trans hf) |>.symm
      obtain rfl : fn = Tryd.f6 := (Option.some.inj (Tryd.func6.symm.trans hfn)).symm
      exact ⟨by kernel_rfl, fun j t ht => by
        rw [Tryd.params6] at ht
        have hm : t ∈ [51] := by simpa using Array.mem_of_getElem? ht
        have hall : ([51].all fun u => !Tryd.prog.wantsStandIn u) = true := by kernel_rfl
        exact (show Tryd.prog.wantsStandIn t = false by simpa using List.all_eq_true.1 hall t hm)⟩)
    (by kernel_rfl)
#print axioms journalForms_card
end Go.Proofs.YtmejjhklknhniaaDoor
