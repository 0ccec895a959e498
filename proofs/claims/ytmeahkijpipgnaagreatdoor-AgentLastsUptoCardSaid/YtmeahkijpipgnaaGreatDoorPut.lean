/- A world in which one block holds a given row: the form in which methods of a pointer are walked. For any program. -/
import Derived.Test.YtmeahkijpipgnaaGreatDoorStrs
namespace Go.Proofs.YtmeahkijpipgnaaGreatDoor
open Go Go.RowKit

/-- w, but block b holds L. -/
def put (w : World) (b : Nat) (t : TypeId) (L : List Value) : World := { w with heap := w.heap.setIfInBounds b (.cells L.toArray t) }

section
variable (w : World) (b : Nat) (t : TypeId) (L : List Value)
@[go_sem] theorem size_put : (put w b t L).heap.size = w.heap.size := by simp [put]
theorem heap_put (h : b < w.heap.size) : (put w b t L).heap[b]? = some (.cells L.toArray t) := by simp [put, h]
theorem heap_put_other (k : Nat) (h : k ≠ b) : (put w b t L).heap[k]? = w.heap[k]? := by
  simp only [put, Array.getElem?_setIfInBounds]; rw [if_neg (fun e => h e.symm)]
@[go_sem] theorem cell?_put (i : Nat) (h : b < w.heap.size) : (put w b t L).cell? ⟨b, i, none⟩ = L[i]? := by
  simp only [World.cell?, heap_put w b t L h]; simp
@[go_sem] theorem cell?_put_other (k i : Nat) (h : ¬ k = b) : (put w b t L).cell? ⟨k, i, none⟩ = w.cell? ⟨k, i, none⟩ := by
  simp only [World.cell?, heap_put_other w b t L k h]
@[go_sem] theorem frozen?_put (i : Nat) (h : b < w.heap.size) : (put w b t L).frozen? ⟨b, i, none⟩ = false := by
  simp only [World.frozen?, heap_put w b t L h]; simp
@[go_sem] theorem frozen?_put_other (k i : Nat) (h : ¬ k = b) : (put w b t L).frozen? ⟨k, i, none⟩ = w.frozen? ⟨k, i, none⟩ := by
  simp only [World.frozen?, heap_put_other w b t L k h]
@[go_sem] theorem shape?_put (h : b < w.heap.size) : (put w b t L).shape? b = some (t, L.length) := by
  simp only [World.shape?, heap_put w b t L h]; simp
@[go_sem] theorem setCell_put (i : Nat) (v : Value) (h : b < w.heap.size) : (put w b t L).setCell ⟨b, i, none⟩ v = put w b t (L.set i v) := by
  simp only [put, World.setCell]
  congr 1
  apply Array.ext_getElem?
  intro k
  simp only [Array.getElem?_modify, Array.getElem?_setIfInBounds]
  by_cases hk : b = k
  · subst hk; simp [h]
  · simp [hk]
theorem setCell_put_other (k i : Nat) (v : Value) (h : ¬ k = b) : (put w b t L).setCell ⟨k, i, none⟩ v = put (w.setCell ⟨k, i, none⟩ v) b t L := by
  simp only [put, World.setCell]
  congr 1
  apply Array.ext_getElem?
  intro j
  simp only [Array.getElem?_modify, Array.getElem?_setIfInBounds, Array.size_modify]
  by_cases hj : b = j
  · subst hj; simp [h]
  · simp [hj]
@[go_sem] theorem put_put (M : List Value) : put (put w b t L) b t M = put w b t M := by
  simp only [put]
  congr 1
  apply Array.ext_getElem?
  intro k
  simp only [Array.getElem?_setIfInBounds, Array.size_setIfInBounds]
  by_cases hk : b = k
  · subst hk; simp
  · simp [hk]
@[go_sem] theorem drew_put : (put w b t L).drew = put w.drew b t L := rfl
@[go_sem] theorem drewN_put (n : Nat) : (put w b t L).drewN n = put (w.drewN n) b t L := rfl
theorem grown_put : w.grownBy (put w b t L) (some b) := ⟨rfl, rfl, rfl, by simp [put], fun k _ hk => heap_put_other w b t L k (fun e => hk (by rw [e]))⟩
theorem below_put {B : Nat} {a : World} (h : Below B a w) (hB : B ≤ b) : Below B a (put w b t L) :=
  h.trans ⟨rfl, rfl, rfl, by simp [put], fun k hk => heap_put_other w b t L k (by omega)⟩
/-- A world whose block b holds L is a put. -/
theorem eq_put (h : w.heap[b]? = some (.cells L.toArray t)) : w = put w b t L := by
  have hb : b < w.heap.size := by
    rcases Nat.lt_or_ge b w.heap.size with k | k
    · exact k
    · simp [Array.getElem?_eq_none k] at h
  cases w
  simp only [put] at *
  congr 1
  apply Array.ext_getElem?
  intro k
  rw [Array.getElem?_setIfInBounds]
  by_cases hk : b = k
  · subst hk; rw [if_pos rfl, if_pos hb]; exact h
  · simp [hk]
/-- A new block, as a put. -/
theorem alloc_put (L M : List Value) : put (w.alloc (.cells L.toArray t)) w.heap.size t M = w.alloc (.cells M.toArray t) := by
  simp only [put, World.alloc]
  congr 1
  apply Array.ext_getElem?
  intro k
  simp only [Array.getElem?_setIfInBounds, Array.getElem?_push, Array.size_push]
  by_cases hk : w.heap.size = k
  · subst hk; simp
  · simp [hk, Ne.symm hk]
end
end Go.Proofs.YtmeahkijpipgnaaGreatDoor
