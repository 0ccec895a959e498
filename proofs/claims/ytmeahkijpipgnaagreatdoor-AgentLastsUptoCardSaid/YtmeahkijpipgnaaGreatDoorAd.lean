/- The sort of a list of at most one; the cookies of an empty jar. -/
import Derived.Test.YtmeahkijpipgnaaGreatDoorAc
import Derived.Laws.IdiomRangeMap
namespace Go.Proofs.YtmeahkijpipgnaaGreatDoor
open Go Go.RowKit

set_option maxRecDepth 100000 in
theorem len64_small (n : Nat) (h : n ≤ 1) (w : World) : Calls Tryz.prog 151 #[.int .u64 (n : Int)] w fun e w' => (∃ v, e = .returned (.int .i64 v)) ∧ w = w' := by
  have h2 : n = 0 ∨ n = 1 := by omega
  rcases h2 with rfl | rfl
  all_goals
    go_enter Tryz.func151, Tryz.ntmps151
    go_wp2
    go_ret
    exact ⟨⟨_, rfl⟩, rfl⟩
theorem len_small (n : Nat) (h : n ≤ 1) (w : World) : Calls Tryz.prog 105 #[.int .u64 (n : Int)] w fun e w' => (∃ v, e = .returned (.int .i64 v)) ∧ w = w' := by
  have h2 : n = 0 ∨ n = 1 := by omega
  rcases h2 with rfl | rfl
  · go_enter Tryz.func105, Tryz.ntmps105
    go_wp2_with fail
    refine (len64_small 0 (by omega) _).mono ?_
    rintro e w1 ⟨⟨v, rfl⟩, rfl⟩
    go_wp2_with fail
    go_ret
    exact ⟨⟨_, rfl⟩, rfl⟩
  · go_enter Tryz.func105, Tryz.ntmps105
    go_wp2_with fail
    refine (len64_small 1 (by omega) _).mono ?_
    rintro e w1 ⟨⟨v, rfl⟩, rfl⟩
    go_wp2_with fail
    go_ret
    exact ⟨⟨_, rfl⟩, rfl⟩
/-- The sort's first walk, where there is nothing to be sorted. -/
theorem insert_small (v f : Value) (n : Nat) (h : n ≤ 1) (w : World) : Calls Tryz.prog 142 #[v, .int .i64 0, .int .i64 (n : Int), f] w fun e w' => e = .returned (.tuple #[]) ∧ w = w' := by
  go_enter Tryz.func142, Tryz.ntmps142
  go_wp2_with fail
  go_loopg [8] 1 (fun g v8 wr => v8 = .int .i64 1 ∧ wr = w ∧ 0 < g)
  case atStart => exact ⟨rfl, rfl, by omega⟩
  case round =>
    obtain ⟨rfl, rfl, hg⟩ := hrel
    have hd : decide ((1 : Int) < (n : Int)) = false := by simp; omega
    go_wp2
    go_end0
    exact ⟨rfl, rfl⟩
set_option maxRecDepth 100000 in
set_option maxHeartbeats 1000000 in
theorem pdq_small (v f l : Value) (n : Nat) (h : n ≤ 1) (w : World) : Calls Tryz.prog 104 #[v, .int .i64 0, .int .i64 (n : Int), l, f] w fun e w' => e = .returned (.tuple #[]) ∧ w = w' := by
  have h2 : n = 0 ∨ n = 1 := by omega
  rcases h2 with rfl | rfl
  · go_enter Tryz.func104, Tryz.ntmps104
    go_wp2_with fail
    go_loopg [1, 2] 1 (fun g v1 v2 wr => v1 = .int .i64 0 ∧ v2 = .int .i64 0 ∧ wr = w ∧ 0 < g)
    case atStart => exact ⟨rfl, rfl, rfl, by omega⟩
    case round =>
      obtain ⟨rfl, rfl, rfl, hg⟩ := hrel
      go_wp2_with fail
      refine (insert_small _ _ 0 (by omega) _).mono ?_
      rintro e w1 ⟨rfl, rfl⟩
      go_wp2_with fail
      exact bodyPost_ret (results_none rfl _ _ _) rfl ⟨rfl, rfl⟩
  · go_enter Tryz.func104, Tryz.ntmps104
    go_wp2_with fail
    go_loopg [1, 2] 1 (fun g v1 v2 wr => v1 = .int .i64 0 ∧ v2 = .int .i64 1 ∧ wr = w ∧ 0 < g)
    case atStart => exact ⟨rfl, rfl, rfl, by omega⟩
    case round =>
      obtain ⟨rfl, rfl, rfl, hg⟩ := hrel
      go_wp2_with fail
      refine (insert_small _ _ 1 (by omega) _).mono ?_
      rintro e w1 ⟨rfl, rfl⟩
      go_wp2_with fail
      exact bodyPost_ret (results_none rfl _ _ _) rfl ⟨rfl, rfl⟩
theorem sort_small (a : Option Addr) (f : Value) (n cap : Nat) (h : n ≤ 1) (w : World) : Calls Tryz.prog 73 #[.slice a n cap, f] w fun e w' => e = .returned (.tuple #[]) ∧ w = w' := by
  go_enter Tryz.func73, Tryz.ntmps73
  go_wp2_with fail
  refine (len_small n h _).mono ?_
  rintro e w1 ⟨⟨v, rfl⟩, rfl⟩
  go_wp2_with fail
  refine (pdq_small _ _ _ n h _).mono ?_
  rintro e w1 ⟨rfl, rfl⟩
  go_wp2_with fail
  go_end0
  exact ⟨rfl, rfl⟩
/-- The cookies of an empty jar. -/
theorem cookies_none (b m : Nat) (t : Int) (w : World) (hc : w.cell? ⟨b, 0, none⟩ = some (.map (some m))) (hm : w.heap[m]? = some (.map #[] 0)) :
    Calls Tryz.prog 41 #[.pointer (some ⟨b, 0, none⟩), .int .i64 t] w fun e w' => e = .returned (.slice none 0 0) ∧ Below w.heap.size w w' := by
  have hr := run_range_map (P := Tryz.prog) w 80 9 123 m #[] 0 Tryz.underlying80 hm
  have hn : (Instr.next (.pointer (some ⟨w.heap.size, 0, none⟩)) false 0).run Tryz.prog (w.alloc (.mapIter (some m) 0 #[] 0)) = .ok (.tuple #[.bool false]) (w.alloc (.mapIter (some m) 0 #[] 0)) := by
    rcases run_next_map (P := Tryz.prog) w 0 m 0 0 #[] #[] 0 hm (by simp) (Nat.le_refl _) with ⟨_, h⟩ | ⟨e, he, _⟩
    · exact h
    · simp [leftOf] at he
  go_enter Tryz.func41, Tryz.ntmps41
  go_wp2_with fail
  clear hr
  go_loopg [5] 1 (fun g v5 wr => v5 = .slice none 0 0 ∧ wr = w.alloc (.mapIter (some m) 0 #[] 0) ∧ 0 < g)
  case atStart => exact ⟨rfl, rfl, by omega⟩
  case round =>
    obtain ⟨rfl, rfl, hg⟩ := hrel
    go_wp2_with fail
    refine (sort_small _ _ 0 0 (by omega) _).mono ?_
    rintro e w1 ⟨rfl, rfl⟩
    go_wp2_with fail
    go_ret
    exact ⟨rfl, (Below.refl _ _).alloc (Nat.le_refl _) _⟩
end Go.Proofs.YtmeahkijpipgnaaGreatDoor
