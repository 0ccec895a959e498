import Derived.Test.YtmejjhklknhniaaDoorJa
namespace Go.Proofs.YtmejjhklknhniaaDoor
open Go Go.ChangeShapes Go.WideShapes Go.RowKit

def journalDatesLaid : List (String × DataW Unit) := (Rows.journalDatesRow).laid
theorem journalDates_env {W : World} (h : laidMetH Tryd.prog journalDatesLaid W) : ∃ a0 a1, DatesEnv W a0 a1 := by
  rw [MakeChecks.laidMetH_plain _ _ _ (by kernel_rfl)] at h
  obtain ⟨A, hA, hne⟩ := sentinels_of_laid errTypes h
  refine ⟨A 0, A 1, ⟨⟨⟨hA 0 _ _ 0 rfl (by kernel_rfl) (by kernel_rfl), fun k hk => ?_, fun k hk => ?_, fun k hk => ?_, fun k hk => ?_⟩, hA 1 _ _ 1 rfl (by kernel_rfl) (by kernel_rfl), fun k hk => ?_⟩, ⟨fun k hk => ?_, fun k hk => ?_⟩, fun e => ?_⟩⟩
  · rw [ints_of_laid h 18 "usher/journal.monthDays" mdaysL 11 70 3 .i64 rfl (by kernel_rfl) (by kernel_rfl) Tryd.underlying70 Tryd.underlying3 (by kernel_rfl) (by kernel_rfl) k hk, mdays_mlen k hk]
  · rw [ints_of_laid h 13 "usher/usherref21.months" mdaysL 19 70 3 .i64 rfl (by kernel_rfl) (by kernel_rfl) Tryd.underlying70 Tryd.underlying3 (by kernel_rfl) (by kernel_rfl) k hk, mdays_mlen k hk]
  · exact strings_of_laid h 15 "usher/journal.weekdays" wdT 7 58 9 rfl (by kernel_rfl) (by kernel_rfl) (by kernel_rfl) Tryd.underlying9 (by kernel_rfl) (by kernel_rfl) k hk
  · exact strings_of_laid h 17 "usher/journal.monthNames" monT 8 60 9 rfl (by kernel_rfl) (by kernel_rfl) (by kernel_rfl) Tryd.underlying9 (by kernel_rfl) (by kernel_rfl) k hk
  · exact strings_of_laid h 16 "usher/journal.inFull" longT 20 58 9 rfl (by kernel_rfl) (by kernel_rfl) (by kernel_rfl) Tryd.underlying9 (by kernel_rfl) (by kernel_rfl) k hk
  · rw [ints_of_laid h 13 "usher/usherref21.months" mdaysL 19 70 3 .i64 rfl (by kernel_rfl) (by kernel_rfl) Tryd.underlying70 Tryd.underlying3 (by kernel_rfl) (by kernel_rfl) k hk, mdays_mlen k hk]
  · exact strings_of_laid h 14 "usher/usherref21.longNames" longT 9 58 9 rfl (by kernel_rfl) (by kernel_rfl) (by kernel_rfl) Tryd.underlying9 (by kernel_rfl) (by kernel_rfl) k hk
  · have := hne 1 0 _ _ _ _ 1 0 rfl (by kernel_rfl) (by kernel_rfl) rfl (by kernel_rfl) (by kernel_rfl) e
    omega

theorem journalDates_call {H : Type} {enc : TypeId × Value → H} {W : World} {v : Value} {d : DataW H} {p : List MemPlace} {base : Nat} (hv : Value.okWide Tryd.prog W .any base 46 v) (h0 : DataW.Trod enc Tryd.prog W 0 (fun _ => true) true 46 v d p)
    (_ : (DataW.weights Tryd.prog 46 d).all (· ≤ reachBytes) = true) (hL : laidMetH Tryd.prog journalDatesLaid W) : Calls Tryd.prog 5 #[v] W fun e w' => e = .returned (.bool true) ∧ Below W.heap.size W w' := by
  obtain ⟨a0, a1, hE⟩ := journalDates_env hL
  obtain ⟨cs, rfl, hsz⟩ := okWide_struct Tryd.underlying46 hv
  obtain ⟨fuel, hf⟩ := h0
  obtain ⟨xs, n, _, _, hl, hxl, hff⟩ := DataW.trod_struct Tryd.underlying46 hf
  have c46 : Tryd.prog.cellsOf 46 = 2 := by kernel_rfl
  have c9 : Tryd.prog.cellsOf 9 = 1 := by kernel_rfl
  have c3 : Tryd.prog.cellsOf 3 = 1 := by kernel_rfl
  obtain ⟨l⟩ := cs
  rw [c46] at hl
  simp only [Value.cells] at hl hff
  match l, hl, hff with
  | [v0, v1], _, hff =>
    match xs, hxl, hff with
    | [x0, x1], _, hff =>
      obtain ⟨s, e0, _, hs⟩ := DataW.trod_string Tryd.underlying9 (show DataW.trod enc Tryd.prog W 0 (fun _ => true) true n 9 [v0] = some x0 by have := hff 0 _ rfl; simpa [c9] using this)
      obtain ⟨t, e1, _, _⟩ := DataW.trod_int Tryd.underlying3 (show DataW.trod enc Tryd.prog W 0 (fun _ => true) true n 3 [v1] = some x1 by have := hff 1 _ rfl; simpa [c3, c9] using this)
      simp only [List.cons.injEq, and_true] at e0 e1
      subst e0 e1
      rw [← strB_eta s]
      exact dates_walk t s.data.toList W a0 a1 hE (by rw [← strB_size, strB_eta]; exact hs)
end Go.Proofs.YtmejjhklknhniaaDoor
