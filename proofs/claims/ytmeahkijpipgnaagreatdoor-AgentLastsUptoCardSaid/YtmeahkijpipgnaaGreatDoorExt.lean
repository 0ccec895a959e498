/- A world with more blocks behind it, in a form that the walk computes with. -/
import Derived.WalkKit
import Derived.Deep.QuietTactic
namespace Go.Proofs.YtmeahkijpipgnaaGreatDoor
open Go Go.RowKit

@[go_sem] theorem lt_fam2 (a x2 : Nat) : (a < a + 1 + x2) = True := by simp only [eq_iff_iff, iff_true]; omega
@[go_sem] theorem le_fam2 (a x2 : Nat) : (a ≤ a + x2) = True := by simp only [eq_iff_iff, iff_true]; omega
@[go_sem] theorem lt_fam3 (a x2 x3 : Nat) : (a < a + 1 + x2 + x3) = True := by simp only [eq_iff_iff, iff_true]; omega
@[go_sem] theorem le_fam3 (a x2 x3 : Nat) : (a ≤ a + x2 + x3) = True := by simp only [eq_iff_iff, iff_true]; omega
@[go_sem] theorem lt_fam4 (a x2 x3 x4 : Nat) : (a < a + 1 + x2 + x3 + x4) = True := by simp only [eq_iff_iff, iff_true]; omega
@[go_sem] theorem le_fam4 (a x2 x3 x4 : Nat) : (a ≤ a + x2 + x3 + x4) = True := by simp only [eq_iff_iff, iff_true]; omega
@[go_sem] theorem lt_fam5 (a x2 x3 x4 x5 : Nat) : (a < a + 1 + x2 + x3 + x4 + x5) = True := by simp only [eq_iff_iff, iff_true]; omega
@[go_sem] theorem le_fam5 (a x2 x3 x4 x5 : Nat) : (a ≤ a + x2 + x3 + x4 + x5) = True := by simp only [eq_iff_iff, iff_true]; omega
@[go_sem] theorem lt_fam6 (a x2 x3 x4 x5 x6 : Nat) : (a < a + 1 + x2 + x3 + x4 + x5 + x6) = True := by simp only [eq_iff_iff, iff_true]; omega
@[go_sem] theorem le_fam6 (a x2 x3 x4 x5 x6 : Nat) : (a ≤ a + x2 + x3 + x4 + x5 + x6) = True := by simp only [eq_iff_iff, iff_true]; omega
@[go_sem] theorem lt_fam7 (a x2 x3 x4 x5 x6 x7 : Nat) : (a < a + 1 + x2 + x3 + x4 + x5 + x6 + x7) = True := by simp only [eq_iff_iff, iff_true]; omega
@[go_sem] theorem le_fam7 (a x2 x3 x4 x5 x6 x7 : Nat) : (a ≤ a + x2 + x3 + x4 + x5 + x6 + x7) = True := by simp only [eq_iff_iff, iff_true]; omega
@[go_sem] theorem lt_fam8 (a x2 x3 x4 x5 x6 x7 x8 : Nat) : (a < a + 1 + x2 + x3 + x4 + x5 + x6 + x7 + x8) = True := by simp only [eq_iff_iff, iff_true]; omega
@[go_sem] theorem le_fam8 (a x2 x3 x4 x5 x6 x7 x8 : Nat) : (a ≤ a + x2 + x3 + x4 + x5 + x6 + x7 + x8) = True := by simp only [eq_iff_iff, iff_true]; omega
@[go_sem] theorem lt_fam9 (a x2 x3 x4 x5 x6 x7 x8 x9 : Nat) : (a < a + 1 + x2 + x3 + x4 + x5 + x6 + x7 + x8 + x9) = True := by simp only [eq_iff_iff, iff_true]; omega
@[go_sem] theorem le_fam9 (a x2 x3 x4 x5 x6 x7 x8 x9 : Nat) : (a ≤ a + x2 + x3 + x4 + x5 + x6 + x7 + x8 + x9) = True := by simp only [eq_iff_iff, iff_true]; omega
@[go_sem] theorem lt_fam10 (a x2 x3 x4 x5 x6 x7 x8 x9 x10 : Nat) : (a < a + 1 + x2 + x3 + x4 + x5 + x6 + x7 + x8 + x9 + x10) = True := by simp only [eq_iff_iff, iff_true]; omega
@[go_sem] theorem le_fam10 (a x2 x3 x4 x5 x6 x7 x8 x9 x10 : Nat) : (a ≤ a + x2 + x3 + x4 + x5 + x6 + x7 + x8 + x9 + x10) = True := by simp only [eq_iff_iff, iff_true]; omega
@[go_sem] theorem lt_fam11 (a x2 x3 x4 x5 x6 x7 x8 x9 x10 x11 : Nat) : (a < a + 1 + x2 + x3 + x4 + x5 + x6 + x7 + x8 + x9 + x10 + x11) = True := by simp only [eq_iff_iff, iff_true]; omega
@[go_sem] theorem le_fam11 (a x2 x3 x4 x5 x6 x7 x8 x9 x10 x11 : Nat) : (a ≤ a + x2 + x3 + x4 + x5 + x6 + x7 + x8 + x9 + x10 + x11) = True := by simp only [eq_iff_iff, iff_true]; omega
@[go_sem] theorem lt_fam12 (a x2 x3 x4 x5 x6 x7 x8 x9 x10 x11 x12 : Nat) : (a < a + 1 + x2 + x3 + x4 + x5 + x6 + x7 + x8 + x9 + x10 + x11 + x12) = True := by simp only [eq_iff_iff, iff_true]; omega
@[go_sem] theorem le_fam12 (a x2 x3 x4 x5 x6 x7 x8 x9 x10 x11 x12 : Nat) : (a ≤ a + x2 + x3 + x4 + x5 + x6 + x7 + x8 + x9 + x10 + x11 + x12) = True := by simp only [eq_iff_iff, iff_true]; omega
@[go_sem] theorem lt_fam13 (a x2 x3 x4 x5 x6 x7 x8 x9 x10 x11 x12 x13 : Nat) : (a < a + 1 + x2 + x3 + x4 + x5 + x6 + x7 + x8 + x9 + x10 + x11 + x12 + x13) = True := by simp only [eq_iff_iff, iff_true]; omega
@[go_sem] theorem le_fam13 (a x2 x3 x4 x5 x6 x7 x8 x9 x10 x11 x12 x13 : Nat) : (a ≤ a + x2 + x3 + x4 + x5 + x6 + x7 + x8 + x9 + x10 + x11 + x12 + x13) = True := by simp only [eq_iff_iff, iff_true]; omega
@[go_sem] theorem lt_fam14 (a x2 x3 x4 x5 x6 x7 x8 x9 x10 x11 x12 x13 x14 : Nat) : (a < a + 1 + x2 + x3 + x4 + x5 + x6 + x7 + x8 + x9 + x10 + x11 + x12 + x13 + x14) = True := by simp only [eq_iff_iff, iff_true]; omega
@[go_sem] theorem le_fam14 (a x2 x3 x4 x5 x6 x7 x8 x9 x10 x11 x12 x13 x14 : Nat) : (a ≤ a + x2 + x3 + x4 + x5 + x6 + x7 + x8 + x9 + x10 + x11 + x12 + x13 + x14) = True := by simp only [eq_iff_iff, iff_true]; omega

/-- w with blocks X behind its own, and n draws behind it. -/
def ext (w : World) (X : Array Obj) (n : Nat) : World := { w with heap := w.heap ++ X, drawn := n }

theorem Below_ext {w w' : World} (h : Below w.heap.size w w') : ∃ X n, w' = ext w X n := by
  refine ⟨w'.heap.extract w.heap.size w'.heap.size, w'.drawn, ?_⟩
  obtain ⟨h1, h2, h3, h4, h5⟩ := h
  cases w'
  cases w
  simp only [ext] at *
  subst h1 h2 h3
  congr 1
  apply Array.ext_getElem?
  intro i
  rw [Array.getElem?_append]
  split
  · rename_i hi; exact h5 i hi
  · rename_i hi
    rw [Array.getElem?_extract]
    simp only [Nat.min_self]
    split
    · congr 1; omega
    · rename_i hj; exact Array.getElem?_eq_none (by omega)

theorem ext_below (w : World) (X : Array Obj) (n : Nat) : Below w.heap.size w (ext w X n) :=
  ⟨rfl, rfl, rfl, by simp [ext], fun k hk => by simp only [ext]; rw [Array.getElem?_append_left hk]⟩

@[go_sem] theorem size_ext (w : World) (X : Array Obj) (n : Nat) : (ext w X n).heap.size = w.heap.size + X.size := by simp [ext]
@[go_sem] theorem cell?_ext (w : World) (X : Array Obj) (n b i : Nat) (h : b < w.heap.size) : (ext w X n).cell? ⟨b, i, none⟩ = w.cell? ⟨b, i, none⟩ := by
  simp only [ext, World.cell?]; rw [Array.getElem?_append_left h]
@[go_sem] theorem frozen?_ext (w : World) (X : Array Obj) (n b i : Nat) (h : b < w.heap.size) : (ext w X n).frozen? ⟨b, i, none⟩ = w.frozen? ⟨b, i, none⟩ := by
  simp only [ext, World.frozen?]; rw [Array.getElem?_append_left h]
@[go_sem] theorem shape?_ext (w : World) (X : Array Obj) (n b : Nat) (h : b < w.heap.size) : (ext w X n).shape? b = w.shape? b := by
  simp only [ext, World.shape?]; rw [Array.getElem?_append_left h]
@[go_sem] theorem heap_ext (w : World) (X : Array Obj) (n b : Nat) (h : b < w.heap.size) : (ext w X n).heap[b]? = w.heap[b]? := by
  simp only [ext]; rw [Array.getElem?_append_left h]
@[go_sem] theorem setCell_ext (w : World) (X : Array Obj) (n b i : Nat) (v : Value) (h : b < w.heap.size) : (ext w X n).setCell ⟨b, i, none⟩ v = ext (w.setCell ⟨b, i, none⟩ v) X n := by
  simp only [ext, World.setCell]
  congr 1
  apply Array.ext_getElem?
  intro k
  simp only [Array.getElem?_modify, Array.getElem?_append, Array.size_modify]
  by_cases hk : b = k
  · subst hk; simp [h]
  · simp [hk]
@[go_sem] theorem drew_ext (w : World) (X : Array Obj) (n : Nat) : (ext w X n).drew = ext w X (n + 1) := rfl
@[go_sem] theorem drewN_ext (w : World) (X : Array Obj) (n m : Nat) : (ext w X n).drewN m = ext w X (n + m) := rfl
@[go_sem] theorem ext_drew (w : World) (X : Array Obj) (n : Nat) : ext w.drew X n = ext w X n := rfl
@[go_sem] theorem ext_drewN (w : World) (X : Array Obj) (n m : Nat) : ext (w.drewN m) X n = ext w X n := rfl
@[go_sem] theorem ext_ext (w : World) (X Y : Array Obj) (n m : Nat) : ext (ext w X n) Y m = ext w (X ++ Y) m := by simp [ext, Array.append_assoc]

/-- A block of cells that the walk does not look into: what it holds is a list. -/
def row (t : TypeId) (L : List Value) : Obj := .cells L.toArray t
@[go_sem] theorem cell?_row (w : World) (t : TypeId) (L : List Value) (n i : Nat) (h : n = w.heap.size) : (w.alloc (row t L)).cell? ⟨n, i, none⟩ = L[i]? := by
  subst h; unfold row; rw [World.cell?_alloc_new]; simp
@[go_sem] theorem frozen?_row (w : World) (t : TypeId) (L : List Value) (n i : Nat) (h : n = w.heap.size) : (w.alloc (row t L)).frozen? ⟨n, i, none⟩ = false := by
  subst h; unfold row; rw [World.frozen?_alloc_new]
@[go_sem] theorem setCell_row (w : World) (t : TypeId) (L : List Value) (n i : Nat) (v : Value) (h : n = w.heap.size) : (w.alloc (row t L)).setCell ⟨n, i, none⟩ v = w.alloc (row t (L.set i v)) := by
  subst h; unfold row; rw [World.setCell_alloc_at _ _ _ _ _ rfl]; simp
@[go_sem] theorem shape?_row (w : World) (t : TypeId) (L : List Value) (n : Nat) (h : n = w.heap.size) : (w.alloc (row t L)).shape? n = some (t, L.length) := by
  subst h; show (match (w.heap.push (row t L))[w.heap.size]? with | some (.cells c elem _) => some (elem, c.size) | _ => none) = _
  rw [Array.getElem?_push_size]; simp [row]
theorem alloc_row (w : World) (t : TypeId) (l : List Value) : w.alloc (.cells l.toArray t) = w.alloc (row t l) := rfl

theorem below_ext {B : Nat} {a w : World} (h : Below B a w) (hB : B ≤ w.heap.size) (X : Array Obj) (n : Nat) : Below B a (ext w X n) := h.trans ((ext_below w X n).mono hB)

end Go.Proofs.YtmeahkijpipgnaaGreatDoor
