/- A row of bytes that a conversion of a string has made: cells that may be written, a mark behind the last. For any program. -/
import Derived.Test.YtmeahkijpipgnaaGreatDoorPut
import Derived.Laws.IdiomStrings
namespace Go.Proofs.YtmeahkijpipgnaaGreatDoor
open Go Go.RowKit

def frow (t : TypeId) (L : List Value) (m : Nat) : Obj := .cells L.toArray t (m, m + 1)
@[go_sem] theorem cell?_frow (w : World) (t : TypeId) (L : List Value) (m n i : Nat) (h : n = w.heap.size) : (w.alloc (frow t L m)).cell? ⟨n, i, none⟩ = L[i]? := by
  subst h; simp [frow, World.alloc, World.cell?, -World.alloc_eq]
@[go_sem] theorem frozen?_frow (w : World) (t : TypeId) (L : List Value) (m n i : Nat) (h : n = w.heap.size) (hi : i < m) : (w.alloc (frow t L m)).frozen? ⟨n, i, none⟩ = false := by
  subst h; simp [frow, World.alloc, World.frozen?, -World.alloc_eq]; omega
@[go_sem] theorem setCell_frow (w : World) (t : TypeId) (L : List Value) (m n i : Nat) (v : Value) (h : n = w.heap.size) : (w.alloc (frow t L m)).setCell ⟨n, i, none⟩ v = w.alloc (frow t (L.set i v) m) := by
  subst h
  have e : ∀ (a : Array Obj) (x : Obj) (f : Obj → Obj), (a.push x).modify a.size f = a.push (f x) := by
    intro a x f
    apply Array.ext
    · simp
    · intro i h1 h2
      simp only [Array.getElem_modify, Array.getElem_push]
      by_cases h : a.size = i
      · subst h; simp
      · have hi : i < a.size := by simp at h1; omega
        simp [h, hi]
  simp only [World.alloc, World.setCell, e, frow]
  simp
@[go_sem] theorem shape?_frow (w : World) (t : TypeId) (L : List Value) (m n : Nat) (h : n = w.heap.size) : (w.alloc (frow t L m)).shape? n = some (t, L.length) := by
  subst h; show (match (w.heap.push (frow t L m))[w.heap.size]? with | some (.cells c elem _) => some (elem, c.size) | _ => none) = _
  rw [Array.getElem?_push_size]; simp [frow]
/-- '[]byte(s)'. -/
theorem run_bytes_frow {P : Program} (w : World) (src dst e : TypeId) (l : List UInt8) (hs : P.underlying src = some .string) (hd : P.underlying dst = some (.slice e)) (he : P.underlying e = some (.int .u8)) :
    ∃ cap, (convert src dst (.string (strB l))).run P w = .ok (.slice (some ⟨w.heap.size, 0, none⟩) l.length (l.length + cap)) (w.drew.alloc (frow e (l.map byteV ++ List.replicate cap (.int .u8 0)) (l.length + cap))) := by
  have h := run_bytes_of_string (P := P) w src dst e (strB l) hs hd he
  have hc : l.length ≤ grownCap w (strB l).size 0 e := by
    have := grownCap_ge w (strB l).size 0 e
    rw [strB_size] at *; exact this
  refine ⟨grownCap w (strB l).size 0 e - l.length, ?_⟩
  rw [h, strB_size]
  congr 1
  · congr 1; rw [strB_size] at hc; omega
  · congr 1
    unfold frow
    have e1 : (l.map byteV ++ List.replicate (grownCap w l.length 0 e - l.length) (Value.int .u8 0)).toArray = bytesRow (strB l) (grownCap w l.length 0 e) := by
      unfold bytesRow
      rw [strB_size]
      apply Array.ext'
      simp [strB, byteV, Function.comp_def]
    rw [e1]
    have e2 : (bytesRow (strB l) (grownCap w l.length 0 e)).size = l.length + (grownCap w l.length 0 e - l.length) := by rw [← e1]; simp
    rw [e2]
end Go.Proofs.YtmeahkijpipgnaaGreatDoor
