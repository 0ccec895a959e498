/- Strings given by their bytes, through the walk: index, slices, equality. For any program. -/
import Derived.Test.YtmeahkijpipgnaaGreatDoorStrs
namespace Go.Proofs.YtmeahkijpipgnaaGreatDoor
open Go Go.RowKit

attribute [go_sem] strB_size strB_toList
@[go_sem] theorem getElem_strB (l : List UInt8) (n : Nat) (h : n < (strB l).size) : (strB l)[n]'h = l[n]'(by rw [strB_size] at h; exact h) := by
  show (strB l).data[n] = _
  simp [strB]
theorem extract_strB (l : List UInt8) (a b : Nat) : (strB l).extract a b = strB ((l.drop a).take (b - a)) := ByteArray.extract_mk l a b
@[go_sem] theorem extract_strB_end (l : List UInt8) (a : Nat) : (strB l).extract a l.length = strB (l.drop a) := by
  rw [extract_strB, List.take_of_length_le (by simp)]
@[go_sem] theorem extract_strB_size (l : List UInt8) (a : Nat) : (strB l).extract a (strB l).size = strB (l.drop a) := by
  rw [strB_size, extract_strB_end]
@[go_sem] theorem extract_strB_0 (l : List UInt8) (b : Nat) : (strB l).extract 0 b = strB (l.take b) := by
  rw [extract_strB]; simp
@[go_sem] theorem extract_strB_any (l : List UInt8) (a b : Nat) : (strB l).extract a b = strB ((l.take b).drop a) := by
  rw [extract_strB, List.drop_take]
/-- What CutPrefix leaves. -/
def cutR (l q : List UInt8) : List UInt8 := if q.isPrefixOf l then l.drop q.length else l
theorem isPrefixOf_take (q l : List UInt8) (h : q.length ≤ l.length) : (l.take q.length == q) = q.isPrefixOf l := by
  induction q generalizing l with
  | nil => simp
  | cons a q ih =>
    cases l with
    | nil => simp at h
    | cons b l =>
      simp only [List.length_cons, List.take_succ_cons, List.cons_beq_cons, List.isPrefixOf]
      rw [ih l (by simpa using h)]
      rw [show (b == a) = (a == b) from BEq.comm]
theorem isPrefixOf_short (q l : List UInt8) (h : l.length < q.length) : q.isPrefixOf l = false := by
  rcases hb : q.isPrefixOf l with _ | _
  · rfl
  · have := (List.isPrefixOf_iff_prefix.1 hb).length_le; omega
end Go.Proofs.YtmeahkijpipgnaaGreatDoor
