import Derived.Test.YtmejjhklknhniaaDoorProg
import Derived.Test.YtmejjhklknhniaaDoorStrs
import Derived.WalkKit
import Derived.Lib.Hide
import Derived.LaidEql
namespace Go.Proofs.YtmejjhklknhniaaDoor
open Go Go.RowKit

theorem infoE : (Tryd.prog.info? 79).map (fun i => i.comparable) = some true := by kernel_rfl
theorem infoS : (Tryd.prog.info? 97).map (fun i => i.size) = some 1 := by kernel_rfl
def errV (a : Addr) : Value := .iface 79 (.pointer (some a))

/-- A sentinel: the variable g holds a pointer to the block of a, which may be written. -/
def Sent (w : World) (g : Nat) (a : Addr) : Prop := w.cell? ⟨g, 0, none⟩ = some (errV a) ∧ ∃ c t, w.heap[a.block]? = some (.cells c t (0, 0))
theorem Sent.below {w w' : World} {g : Nat} {a : Addr} (h : Sent w g a) (hb : Below w.heap.size w w') : Sent w' g a := by
  obtain ⟨h1, c, t, h2⟩ := h
  have l1 : g < w.heap.size := World.block_lt_of_cell? w _ h1
  have l2 : a.block < w.heap.size := by
    rcases Nat.lt_or_ge a.block w.heap.size with h | h
    · exact h
    · simp [Array.getElem?_eq_none h] at h2
  exact ⟨(hb.cell (p := ⟨g, 0, none⟩) l1).trans h1, c, t, (hb.block _ l2).trans h2⟩

theorem eq_same (w : World) (a : Addr) : (binOp .eql 26 (errV a) (errV a)).run Tryd.prog w = .ok (.bool true) w := by
  obtain ⟨i, hi, hc⟩ := Option.map_eq_some_iff.1 infoE
  obtain ⟨j, hj, _⟩ := Option.map_eq_some_iff.1 infoS
  exact run_eql_iface_ptr_same (P := Tryd.prog) w a Tryd.underlying26 Tryd.underlying79 hi hc hj
theorem eq_other (w : World) (a b : Addr) (g h : Nat) (ha : Sent w g a) (hb : Sent w h b) (hne : a ≠ b) : (binOp .eql 26 (errV a) (errV b)).run Tryd.prog w = .ok (.bool false) w := by
  obtain ⟨i, hi, hc⟩ := Option.map_eq_some_iff.1 infoE
  obtain ⟨j, hj, hs⟩ := Option.map_eq_some_iff.1 infoS
  obtain ⟨_, c, t, h1⟩ := ha
  obtain ⟨_, c', t', h2⟩ := hb
  exact run_eql_iface_ptr_other (P := Tryd.prog) w Tryd.underlying26 Tryd.underlying79 hi hc hj (by rw [hs]; decide) hne h1 h2

theorem num_nil (w : World) : Calls Tryd.prog 11 #[.nilIface] w fun e w' => e = .returned (.int .i64 0) ∧ w = w' := by
  go_enter Tryd.func11, Tryd.ntmps11
  go_wp2_with fail
  go_ret
  exact ⟨rfl, rfl⟩
theorem num_arg (w : World) (a : Addr) (hE : Sent w 0 a) :
    Calls Tryd.prog 11 #[errV a] w fun e w' => e = .returned (.int .i64 1) ∧ w = w' := by
  have he := eq_same w a
  have hc := hE.1
  clear hE
  unfold errV at *
  go_enter Tryd.func11, Tryd.ntmps11
  go_wp2_with fail
  go_ret
  exact ⟨rfl, rfl⟩
theorem num_text (w : World) (a b : Addr) (hE : Sent w 0 a) (hT : Sent w 1 b) (hne : b ≠ a) :
    Calls Tryd.prog 11 #[errV b] w fun e w' => e = .returned (.int .i64 2) ∧ w = w' := by
  have he := eq_same w b
  have hn := eq_other w b a 1 0 hT hE hne
  have hc := hE.1
  have hd := hT.1
  clear hE hT
  unfold errV at *
  go_enter Tryd.func11, Tryd.ntmps11
  go_wp2_with fail
  go_ret
  exact ⟨rfl, rfl⟩
end Go.Proofs.YtmejjhklknhniaaDoor
