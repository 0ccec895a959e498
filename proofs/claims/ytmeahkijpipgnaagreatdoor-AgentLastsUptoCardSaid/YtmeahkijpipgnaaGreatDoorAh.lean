/- The refusals, each a value of its own, and the numbers of two of them. -/
import Derived.Test.YtmeahkijpipgnaaGreatDoorAg
import Derived.WalkKit
import Derived.Lib.Hide
import Derived.LaidEql
namespace Go.Proofs.YtmeahkijpipgnaaGreatDoor
open Go Go.RowKit

theorem infoE : (Tryz.prog.info? 250).map (fun i => i.comparable) = some true := by kernel_rfl
theorem infoS : (Tryz.prog.info? 252).map (fun i => i.size) = some 1 := by kernel_rfl
def errV (a : Addr) : Value := .iface 250 (.pointer (some a))
/-- The variable g holds an error of its own, whose block may be written. -/
def Sent (w : World) (g : Nat) (a : Addr) : Prop := w.cell? ⟨g, 0, none⟩ = some (errV a) ∧ ∃ c t, w.heap[a.block]? = some (.cells c t (0, 0))
theorem Sent.below {w w' : World} {g : Nat} {a : Addr} (h : Sent w g a) (hb : Below w.heap.size w w') : Sent w' g a := by
  obtain ⟨h1, c, t, h2⟩ := h
  refine ⟨(hb.cell (p := ⟨g, 0, none⟩) (World.block_lt_of_cell? w _ h1)).trans h1, c, t, ?_⟩
  have hl := (Array.getElem?_eq_some_iff.1 h2).1
  exact (hb.block _ hl).trans h2
theorem Sent.put {W : World} {b : Nat} {t : TypeId} {L : List Value} {g : Nat} {a : Addr} (h : Sent W g a) (hg : g ≠ b) (ha : a.block ≠ b) : Sent (YtmeahkijpipgnaaGreatDoor.put W b t L) g a := by
  obtain ⟨h1, c, t', h2⟩ := h
  exact ⟨(cell?_put_other W b t L g 0 hg).trans h1, c, t', (heap_put_other W b t L _ ha).trans h2⟩
theorem eq_same (w : World) (a : Addr) : (binOp .eql 32 (errV a) (errV a)).run Tryz.prog w = .ok (.bool true) w := by
  obtain ⟨i, hi, hc⟩ := Option.map_eq_some_iff.1 infoE
  obtain ⟨j, hj, _⟩ := Option.map_eq_some_iff.1 infoS
  exact run_eql_iface_ptr_same (P := Tryz.prog) w a Tryz.underlying32 Tryz.underlying250 hi hc hj
theorem eq_other (w : World) (a b : Addr) (g h : Nat) (ha : Sent w g a) (hb : Sent w h b) (hne : a ≠ b) : (binOp .eql 32 (errV a) (errV b)).run Tryz.prog w = .ok (.bool false) w := by
  obtain ⟨i, hi, hc⟩ := Option.map_eq_some_iff.1 infoE
  obtain ⟨j, hj, hs⟩ := Option.map_eq_some_iff.1 infoS
  obtain ⟨_, c, t, h1⟩ := ha
  obtain ⟨_, c', t', h2⟩ := hb
  exact run_eql_iface_ptr_other (P := Tryz.prog) w Tryz.underlying32 Tryz.underlying250 hi hc hj (by rw [hs]; decide) hne h1 h2

/-- The refusals: each variable's own value, no two alike. -/
structure ErrEnv (w : World) (A : Nat → Addr) : Prop where
  s : ∀ i, i ≤ 12 → Sent w i (A i)
  ne : ∀ i j, i ≤ 12 → j ≤ 12 → A i = A j → i = j
theorem ErrEnv.below {w w' : World} {A : Nat → Addr} (h : ErrEnv w A) (hb : Below w.heap.size w w') : ErrEnv w' A := ⟨fun i hi => (h.s i hi).below hb, h.ne⟩

theorem num_nil (w : World) : Calls Tryz.prog 13 #[.nilIface] w fun e w' => e = .returned (.int .i64 0) ∧ w = w' := by
  go_enter Tryz.func13, Tryz.ntmps13
  go_wp2_with fail
  go_ret
  exact ⟨rfl, rfl⟩
set_option maxHeartbeats 1000000 in
theorem num_many (w : World) (A : Nat → Addr) (hE : ErrEnv w A) : Calls Tryz.prog 13 #[errV (A 3)] w fun e w' => e = .returned (.int .i64 3) ∧ w = w' := by
  have c2 := (hE.s 2 (by omega)).1
  have c0 := (hE.s 0 (by omega)).1
  have c3 := (hE.s 3 (by omega)).1
  have e2 := eq_other w (A 3) (A 2) 3 2 (hE.s 3 (by omega)) (hE.s 2 (by omega)) (fun e => by have := hE.ne 3 2 (by omega) (by omega) e; omega)
  have e0 := eq_other w (A 3) (A 0) 3 0 (hE.s 3 (by omega)) (hE.s 0 (by omega)) (fun e => by have := hE.ne 3 0 (by omega) (by omega) e; omega)
  have e3 := eq_same w (A 3)
  clear hE
  unfold errV at *
  go_enter Tryz.func13, Tryz.ntmps13
  go_wp2_with fail
  go_ret
  exact ⟨rfl, rfl⟩
set_option maxHeartbeats 1000000 in
theorem more_lost (w : World) (A : Nat → Addr) (hE : ErrEnv w A) : Calls Tryz.prog 35 #[errV (A 1)] w fun e w' => e = .returned (.int .i64 12) ∧ w = w' := by
  have c8 := (hE.s 8 (by omega)).1
  have c9 := (hE.s 9 (by omega)).1
  have c10 := (hE.s 10 (by omega)).1
  have c11 := (hE.s 11 (by omega)).1
  have c1 := (hE.s 1 (by omega)).1
  have e8 := eq_other w (A 1) (A 8) 1 8 (hE.s 1 (by omega)) (hE.s 8 (by omega)) (fun e => by have := hE.ne 1 8 (by omega) (by omega) e; omega)
  have e9 := eq_other w (A 1) (A 9) 1 9 (hE.s 1 (by omega)) (hE.s 9 (by omega)) (fun e => by have := hE.ne 1 9 (by omega) (by omega) e; omega)
  have e10 := eq_other w (A 1) (A 10) 1 10 (hE.s 1 (by omega)) (hE.s 10 (by omega)) (fun e => by have := hE.ne 1 10 (by omega) (by omega) e; omega)
  have e11 := eq_other w (A 1) (A 11) 1 11 (hE.s 1 (by omega)) (hE.s 11 (by omega)) (fun e => by have := hE.ne 1 11 (by omega) (by omega) e; omega)
  have e1 := eq_same w (A 1)
  clear hE
  unfold errV at *
  go_enter Tryz.func35, Tryz.ntmps35
  go_wp2_with fail
  go_ret
  exact ⟨rfl, rfl⟩
set_option maxHeartbeats 1000000 in
theorem num_lost (w : World) (A : Nat → Addr) (hE : ErrEnv w A) : Calls Tryz.prog 13 #[errV (A 1)] w fun e w' => e = .returned (.int .i64 12) ∧ w = w' := by
  have ML := Lib.hid (more_lost w A hE)
  have c2 := (hE.s 2 (by omega)).1
  have c0 := (hE.s 0 (by omega)).1
  have c3 := (hE.s 3 (by omega)).1
  have c4 := (hE.s 4 (by omega)).1
  have c5 := (hE.s 5 (by omega)).1
  have c6 := (hE.s 6 (by omega)).1
  have c7 := (hE.s 7 (by omega)).1
  have e2 := eq_other w (A 1) (A 2) 1 2 (hE.s 1 (by omega)) (hE.s 2 (by omega)) (fun e => by have := hE.ne 1 2 (by omega) (by omega) e; omega)
  have e0 := eq_other w (A 1) (A 0) 1 0 (hE.s 1 (by omega)) (hE.s 0 (by omega)) (fun e => by have := hE.ne 1 0 (by omega) (by omega) e; omega)
  have e3 := eq_other w (A 1) (A 3) 1 3 (hE.s 1 (by omega)) (hE.s 3 (by omega)) (fun e => by have := hE.ne 1 3 (by omega) (by omega) e; omega)
  have e4 := eq_other w (A 1) (A 4) 1 4 (hE.s 1 (by omega)) (hE.s 4 (by omega)) (fun e => by have := hE.ne 1 4 (by omega) (by omega) e; omega)
  have e5 := eq_other w (A 1) (A 5) 1 5 (hE.s 1 (by omega)) (hE.s 5 (by omega)) (fun e => by have := hE.ne 1 5 (by omega) (by omega) e; omega)
  have e6 := eq_other w (A 1) (A 6) 1 6 (hE.s 1 (by omega)) (hE.s 6 (by omega)) (fun e => by have := hE.ne 1 6 (by omega) (by omega) e; omega)
  have e7 := eq_other w (A 1) (A 7) 1 7 (hE.s 1 (by omega)) (hE.s 7 (by omega)) (fun e => by have := hE.ne 1 7 (by omega) (by omega) e; omega)
  clear hE
  unfold errV at *
  go_enter Tryz.func13, Tryz.ntmps13
  go_wp2_with fail
  refine ML.out.mono ?_
  rintro e w1 ⟨rfl, rfl⟩
  go_wp2_with fail
  go_ret
  exact ⟨rfl, rfl⟩
end Go.Proofs.YtmeahkijpipgnaaGreatDoor
