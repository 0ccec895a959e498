import Derived.Test.YtmejjhklknhniaaDoorFd
import Derived.Test.YtmejjhklknhniaaDoorLd
namespace Go.Proofs.YtmejjhklknhniaaDoor
open Go Go.ChangeShapes Go.WideShapes Go.RowKit

def journalFormsLaid : List (String × DataW Unit) := (Rows.journalFormsRow).laid
theorem journalForms_env {W : World} (h : laidMetH Tryd.prog journalFormsLaid W) : ∃ a0 a1, FormsEnv W a0 a1 := by
  rw [MakeChecks.laidMetH_plain _ _ _ (by kernel_rfl)] at h
  obtain ⟨A, hA, _⟩ := sentinels_of_laid errTypes h
  refine ⟨A 0, A 1, ⟨⟨⟨hA 0 _ _ 0 rfl (by kernel_rfl) (by kernel_rfl), fun k hk => ?_, fun k hk => ?_, fun k hk => ?_⟩, hA 1 _ _ 1 rfl (by kernel_rfl) (by kernel_rfl), fun k hk => ?_⟩, fun k hk => ?_⟩⟩
  · rw [ints_of_laid h 5 "usher/journal.monthDays" mdaysL 11 70 3 .i64 rfl (by kernel_rfl) (by kernel_rfl) Tryd.underlying70 Tryd.underlying3 (by kernel_rfl) (by kernel_rfl) k hk, mdays_mlen k hk]
  · exact strings_of_laid h 2 "usher/journal.weekdays" wdT 7 58 9 rfl (by kernel_rfl) (by kernel_rfl) (by kernel_rfl) Tryd.underlying9 (by kernel_rfl) (by kernel_rfl) k hk
  · exact strings_of_laid h 4 "usher/journal.monthNames" monT 8 60 9 rfl (by kernel_rfl) (by kernel_rfl) (by kernel_rfl) Tryd.underlying9 (by kernel_rfl) (by kernel_rfl) k hk
  · exact strings_of_laid h 3 "usher/journal.inFull" longT 20 58 9 rfl (by kernel_rfl) (by kernel_rfl) (by kernel_rfl) Tryd.underlying9 (by kernel_rfl) (by kernel_rfl) k hk
  · exact strings_of_laid h 6 "usher/usherlaw21.longNames" longT 10 58 9 rfl (by kernel_rfl) (by kernel_rfl) (by kernel_rfl) Tryd.underlying9 (by kernel_rfl) (by kernel_rfl) k hk

theorem journalForms_call {H : Type} {enc : TypeId × Value → H} {W : World} {v : Value} {d : DataW H} {p : List MemPlace} {base : Nat} (hv : Value.okWide Tryd.prog W .any base 51 v) (h0 : DataW.Trod enc Tryd.prog W 0 (fun _ => true) true 51 v d p)
    (_ : (DataW.weights Tryd.prog 51 d).all (· ≤ reachBytes) = true) (hL : laidMetH Tryd.prog journalFormsLaid W) : Calls Tryd.prog 6 #[v] W fun e w' => e = .returned (.bool true) ∧ Below W.heap.size W w' := by
  obtain ⟨a0, a1, hE⟩ := journalForms_env hL
  obtain ⟨cs, rfl, hsz⟩ := okWide_struct Tryd.underlying51 hv
  obtain ⟨fuel, hf⟩ := h0
  obtain ⟨xs, n, _, _, hl, hxl, hff⟩ := DataW.trod_struct Tryd.underlying51 hf
  have c51 : Tryd.prog.cellsOf 51 = 3 := by kernel_rfl
  have c3 : Tryd.prog.cellsOf 3 = 1 := by kernel_rfl
  obtain ⟨l⟩ := cs
  rw [c51] at hl
  simp only [Value.cells] at hl hff
  match l, hl, hff with
  | [v0, v1, v2], _, hff =>
    match xs, hxl, hff with
    | [x0, x1, x2], _, hff =>
      obtain ⟨a, e0, _, _⟩ := DataW.trod_int Tryd.underlying3 (show DataW.trod enc Tryd.prog W 0 (fun _ => true) true n 3 [v0] = some x0 by have := hff 0 _ rfl; simpa [c3] using this)
      obtain ⟨t, e1, _, _⟩ := DataW.trod_int Tryd.underlying3 (show DataW.trod enc Tryd.prog W 0 (fun _ => true) true n 3 [v1] = some x1 by have := hff 1 _ rfl; simpa [c3] using this)
      obtain ⟨k, e2, _, _⟩ := DataW.trod_int Tryd.underlying3 (show DataW.trod enc Tryd.prog W 0 (fun _ => true) true n 3 [v2] = some x2 by have := hff 2 _ rfl; simpa [c3] using this)
      simp only [List.cons.injEq, and_true] at e0 e1 e2
      subst e0 e1 e2
      exact forms_walk a t k W a0 a1 hE
end Go.Proofs.YtmejjhklknhniaaDoor
