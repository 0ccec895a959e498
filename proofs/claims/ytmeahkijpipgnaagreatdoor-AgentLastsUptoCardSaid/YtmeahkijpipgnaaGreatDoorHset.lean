/- A world in which one block holds a given object: a map that is written. For any program. -/
import Derived.Test.YtmeahkijpipgnaaGreatDoorPut
namespace Go.Proofs.YtmeahkijpipgnaaGreatDoor
open Go Go.RowKit

/-- w, but block m is O. -/
def hset (w : World) (m : Nat) (O : Obj) : World := { w with heap := w.heap.setIfInBounds m O }

section
variable (w : World) (m : Nat) (O : Obj)
@[go_sem] theorem size_hset : (hset w m O).heap.size = w.heap.size := by simp [hset]
theorem heap_hset (h : m < w.heap.size) : (hset w m O).heap[m]? = some O := by simp [hset, h]
theorem heap_hset_other (k : Nat) (h : k ≠ m) : (hset w m O).heap[k]? = w.heap[k]? := by
  simp only [hset, Array.getElem?_setIfInBounds]; rw [if_neg (fun e => h e.symm)]
@[go_sem] theorem cell?_hset_other (k i : Nat) (h : ¬ k = m) : (hset w m O).cell? ⟨k, i, none⟩ = w.cell? ⟨k, i, none⟩ := by
  simp only [World.cell?, heap_hset_other w m O k h]
@[go_sem] theorem frozen?_hset_other (k i : Nat) (h : ¬ k = m) : (hset w m O).frozen? ⟨k, i, none⟩ = w.frozen? ⟨k, i, none⟩ := by
  simp only [World.frozen?, heap_hset_other w m O k h]
@[go_sem] theorem shape?_hset_other (k : Nat) (h : ¬ k = m) : (hset w m O).shape? k = w.shape? k := by
  simp only [World.shape?, heap_hset_other w m O k h]
@[go_sem] theorem setCell_hset_other (k i : Nat) (v : Value) (h : ¬ k = m) : (hset w m O).setCell ⟨k, i, none⟩ v = hset (w.setCell ⟨k, i, none⟩ v) m O := by
  simp only [hset, World.setCell]
  congr 1
  apply Array.ext_getElem?
  intro j
  simp only [Array.getElem?_modify, Array.getElem?_setIfInBounds, Array.size_modify]
  by_cases hj : m = j
  · subst hj; simp [h]
  · simp [hj]
@[go_sem] theorem drew_hset : (hset w m O).drew = hset w.drew m O := rfl
@[go_sem] theorem drewN_hset (n : Nat) : (hset w m O).drewN n = hset (w.drewN n) m O := rfl
@[go_sem] theorem hset_hset (O' : Obj) : hset (hset w m O) m O' = hset w m O' := by
  simp only [hset]
  congr 1
  apply Array.ext_getElem?
  intro k
  simp only [Array.getElem?_setIfInBounds, Array.size_setIfInBounds]
  by_cases hk : m = k
  · subst hk; simp
  · simp [hk]
theorem below_hset {B : Nat} {a : World} (h : Below B a w) (hB : B ≤ m) : Below B a (hset w m O) :=
  h.trans ⟨rfl, rfl, rfl, by simp [hset], fun k hk => heap_hset_other w m O k (by omega)⟩
theorem hset_alloc (o : Obj) (h : m < w.heap.size) : hset (w.alloc o) m O = (hset w m O).alloc o := by
  simp only [hset, World.alloc]
  congr 1
  apply Array.ext_getElem?
  intro k
  simp only [Array.getElem?_setIfInBounds, Array.getElem?_push, Array.size_setIfInBounds, Array.size_push]
  by_cases hk : k = w.heap.size
  · subst hk; rw [if_neg (by omega), if_pos rfl, if_pos rfl]
  · rw [if_neg hk, if_neg hk]
    by_cases e : m = k
    · subst e; rw [if_pos rfl, if_pos rfl, if_pos (by omega), if_pos h]
    · rw [if_neg e, if_neg e]
theorem hset_ext (X : Array Obj) (n : Nat) (h : m < w.heap.size) : hset (ext w X n) m O = ext (hset w m O) X n := by
  simp only [ext, hset]
  congr 1
  apply Array.ext_getElem?
  intro k
  simp only [Array.getElem?_append, Array.getElem?_setIfInBounds, Array.size_setIfInBounds, Array.size_append]
  by_cases hk : k < w.heap.size
  · simp only [hk, if_true]
    by_cases e : m = k
    · subst e; simp [h]; omega
    · simp [e]
  · simp only [hk, if_false]
    rw [if_neg (by omega)]
theorem hset_same (h : w.heap[m]? = some O) : hset w m O = w := by
  have : w.heap.setIfInBounds m O = w.heap := by
    apply Array.ext_getElem?
    intro i
    rw [Array.getElem?_setIfInBounds]
    by_cases hi : m = i
    · subst hi; rw [if_pos rfl, if_pos (Array.getElem?_eq_some_iff.1 h).1, h]
    · rw [if_neg hi]
  simp only [hset, this]
theorem put_hset (b : Nat) (t : TypeId) (L : List Value) (h : ¬ b = m) : put (hset w m O) b t L = hset (put w b t L) m O := by
  simp only [hset, put]
  congr 1
  apply Array.ext_getElem?
  intro k
  simp only [Array.getElem?_setIfInBounds, Array.size_setIfInBounds]
  by_cases hk : b = k
  · subst hk; have h' : ¬ m = b := fun e => h e.symm
    simp [h']
  · simp [hk]
theorem hset_below {B : Nat} {V : World} (h : Below B w V) (hm : m < B) (hB : B ≤ w.heap.size := by omega) : Below B (hset w m O) (hset V m O) := by
  obtain ⟨h1, h2, h3, h4, h5⟩ := h
  refine ⟨h1, h2, h3, by simpa [hset] using h4, fun k hk => ?_⟩
  have e := h5 k hk
  simp only [hset, Array.getElem?_setIfInBounds]
  by_cases hkm : m = k
  · subst hkm
    rw [if_pos rfl, if_pos rfl, if_pos (by omega), if_pos (by have := h4; omega)]
  · rw [if_neg hkm, if_neg hkm, e]
end
end Go.Proofs.YtmeahkijpipgnaaGreatDoor
