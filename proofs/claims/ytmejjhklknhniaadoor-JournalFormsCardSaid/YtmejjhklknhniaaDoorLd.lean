import Derived.Test.YtmejjhklknhniaaDoorRows
import Derived.Test.YtmejjhklknhniaaDoorLaid
import Derived.Test.YtmejjhklknhniaaDoorLc
import Derived.ProofKit
namespace Go.Proofs.YtmejjhklknhniaaDoor
open Go Go.ChangeShapes Go.WideShapes Go.ChangeAt Go.RowKit

theorem star79 : "*" ++ "errors.errorString" = "*errors.errorString" := by decide
theorem errTypes : ErrTypes Tryd.prog 26 79 97 9 where
  i := ⟨_, Tryd.underlying26⟩
  row u h := typeName_ptr_named (nm := "errors.errorString") (by rw [star79]; kernel_rfl) (by kernel_rfl) (by decide) u (by rw [star79]; exact h)
  p := Tryd.underlying79
  e := ⟨_, Tryd.underlying97, rfl, rfl⟩
  s := Tryd.underlying9
  ce := by kernel_rfl
  cs := by kernel_rfl
def mdaysL : List Int := [31, 28, 31, 30, 31, 30, 31, 31, 30, 31, 30, 31]
theorem mdays_mlen : ∀ k : Nat, k < 12 → mdaysL.getD k 0 = mlen (k + 1) := by decide

def journalCivilLaid : List (String × DataW Unit) := (Rows.journalCivilRow).laid
theorem journalCivil_env {W : World} (h : laidMetH Tryd.prog journalCivilLaid W) : ∃ a, CivEnv W a := by
  rw [MakeChecks.laidMetH_plain _ _ _ (by kernel_rfl)] at h
  obtain ⟨A, hA, _⟩ := sentinels_of_laid errTypes h
  refine ⟨A 0, ⟨hA 0 _ _ 0 rfl (by kernel_rfl) (by kernel_rfl), fun k hk => ?_, fun k hk => ?_, fun k hk => ?_, fun k hk => ?_⟩⟩
  · rw [ints_of_laid h 16 "usher/journal.monthDays" mdaysL 11 70 3 .i64 rfl (by kernel_rfl) (by kernel_rfl) Tryd.underlying70 Tryd.underlying3 (by kernel_rfl) (by kernel_rfl) k hk, mdays_mlen k hk]
  · rw [ints_of_laid h 13 "usher/usherref21.months" mdaysL 19 70 3 .i64 rfl (by kernel_rfl) (by kernel_rfl) Tryd.underlying70 Tryd.underlying3 (by kernel_rfl) (by kernel_rfl) k hk, mdays_mlen k hk]
  · exact strings_of_laid h 14 "usher/journal.weekdays" wdT 7 58 9 rfl (by kernel_rfl) (by kernel_rfl) (by kernel_rfl) Tryd.underlying9 (by kernel_rfl) (by kernel_rfl) k hk
  · exact strings_of_laid h 15 "usher/journal.monthNames" monT 8 60 9 rfl (by kernel_rfl) (by kernel_rfl) (by kernel_rfl) Tryd.underlying9 (by kernel_rfl) (by kernel_rfl) k hk

/-- A struct of seven ints, off its reading. -/
theorem date_of_trod {H : Type} {enc : TypeId × Value → H} {W : World} {sp : Nat → Bool} {held : Bool} {base fuel : Nat} {cs : List Value} {x : DataW H × List MemPlace} (h : DataW.trod enc Tryd.prog W base sp held fuel 24 cs = some x) :
    ∃ D : Dt, cs = [.int .i64 D.y, .int .i64 D.m, .int .i64 D.d, .int .i64 D.h, .int .i64 D.mi, .int .i64 D.s, .int .i64 D.wd] := by
  obtain ⟨xs, n, _, _, hl, hxl, hf⟩ := DataW.trod_struct Tryd.underlying24 h
  have c24 : Tryd.prog.cellsOf 24 = 7 := by kernel_rfl
  have c3 : Tryd.prog.cellsOf 3 = 1 := by kernel_rfl
  rw [c24] at hl
  match cs, hl, hf with
  | [v0, v1, v2, v3, v4, v5, v6], _, hf =>
    match xs, hxl, hf with
    | [x0, x1, x2, x3, x4, x5, x6], _, hf =>
      obtain ⟨n0, e0, _, _⟩ := DataW.trod_int Tryd.underlying3 (show DataW.trod enc Tryd.prog W base sp held n 3 [v0] = some x0 by have := hf 0 _ rfl; simpa [c3] using this)
      obtain ⟨n1, e1, _, _⟩ := DataW.trod_int Tryd.underlying3 (show DataW.trod enc Tryd.prog W base sp held n 3 [v1] = some x1 by have := hf 1 _ rfl; simpa [c3] using this)
      obtain ⟨n2, e2, _, _⟩ := DataW.trod_int Tryd.underlying3 (show DataW.trod enc Tryd.prog W base sp held n 3 [v2] = some x2 by have := hf 2 _ rfl; simpa [c3] using this)
      obtain ⟨n3, e3, _, _⟩ := DataW.trod_int Tryd.underlying3 (show DataW.trod enc Tryd.prog W base sp held n 3 [v3] = some x3 by have := hf 3 _ rfl; simpa [c3] using this)
      obtain ⟨n4, e4, _, _⟩ := DataW.trod_int Tryd.underlying3 (show DataW.trod enc Tryd.prog W base sp held n 3 [v4] = some x4 by have := hf 4 _ rfl; simpa [c3] using this)
      obtain ⟨n5, e5, _, _⟩ := DataW.trod_int Tryd.underlying3 (show DataW.trod enc Tryd.prog W base sp held n 3 [v5] = some x5 by have := hf 5 _ rfl; simpa [c3] using this)
      obtain ⟨n6, e6, _, _⟩ := DataW.trod_int Tryd.underlying3 (show DataW.trod enc Tryd.prog W base sp held n 3 [v6] = some x6 by have := hf 6 _ rfl; simpa [c3] using this)
      simp only [List.cons.injEq, and_true] at e0 e1 e2 e3 e4 e5 e6
      subst e0 e1 e2 e3 e4 e5 e6
      exact ⟨⟨n0, n1, n2, n3, n4, n5, n6⟩, rfl⟩

theorem journalCivil_call {H : Type} {enc : TypeId × Value → H} {W : World} {v : Value} {d : DataW H} {p : List MemPlace} {base : Nat} (hv : Value.okWide Tryd.prog W .any base 35 v) (h0 : DataW.Trod enc Tryd.prog W 0 (fun _ => true) true 35 v d p)
    (_ : (DataW.weights Tryd.prog 35 d).all (· ≤ reachBytes) = true) (hL : laidMetH Tryd.prog journalCivilLaid W) : Calls Tryd.prog 4 #[v] W fun e w' => e = .returned (.bool true) ∧ Below W.heap.size W w' := by
  obtain ⟨a, hE⟩ := journalCivil_env hL
  obtain ⟨cs, rfl, hsz⟩ := okWide_struct Tryd.underlying35 hv
  obtain ⟨fuel, hf⟩ := h0
  obtain ⟨xs, n, _, _, hl, hxl, hff⟩ := DataW.trod_struct Tryd.underlying35 hf
  have c35 : Tryd.prog.cellsOf 35 = 8 := by kernel_rfl
  have c24 : Tryd.prog.cellsOf 24 = 7 := by kernel_rfl
  have c3 : Tryd.prog.cellsOf 3 = 1 := by kernel_rfl
  obtain ⟨l⟩ := cs
  rw [c35] at hl
  simp only [Value.cells] at hl hff
  match l, hl, hff with
  | [v0, v1, v2, v3, v4, v5, v6, v7], _, hff =>
    match xs, hxl, hff with
    | [x0, x1], _, hff =>
      obtain ⟨t, e0, _, _⟩ := DataW.trod_int Tryd.underlying3 (show DataW.trod enc Tryd.prog W 0 (fun _ => true) true n 3 [v0] = some x0 by have := hff 0 _ rfl; simpa [c3] using this)
      obtain ⟨D, e1⟩ := date_of_trod (show DataW.trod enc Tryd.prog W 0 (fun _ => true) true n 24 [v1, v2, v3, v4, v5, v6, v7] = some x1 by have := hff 1 _ rfl; simpa [c24] using this)
      simp only [List.cons.injEq, and_true] at e0 e1
      obtain ⟨rfl, rfl, rfl, rfl, rfl, rfl, rfl⟩ := e1
      subst e0
      exact civil_walk t D W a hE
end Go.Proofs.YtmejjhklknhniaaDoor
