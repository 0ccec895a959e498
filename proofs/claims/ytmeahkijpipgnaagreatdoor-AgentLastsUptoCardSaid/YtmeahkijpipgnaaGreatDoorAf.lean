/- The agent with an empty jar: what it sends, where it goes on to. -/
import Derived.Test.YtmeahkijpipgnaaGreatDoorAe
namespace Go.Proofs.YtmeahkijpipgnaaGreatDoor
open Go Go.RowKit

theorem ext_put (W : World) (b : Nat) (t : TypeId) (L : List Value) (X : Array Obj) (n : Nat) (h : b < W.heap.size) : ext (put W b t L) X n = put (ext W X n) b t L := by
  simp only [ext, put]
  congr 1
  apply Array.ext_getElem?
  intro k
  simp only [Array.getElem?_append, Array.getElem?_setIfInBounds, Array.size_setIfInBounds, Array.size_append]
  by_cases hk : k < W.heap.size
  · simp only [hk, if_true]
    by_cases e : b = k
    · subst e; simp [h]; omega
    · simp [e]
  · simp only [hk, if_false]
    rw [if_neg (by omega)]

set_option maxHeartbeats 2000000 in
theorem send_get (b m : Nat) (t : Int) (html wh tg : ByteArray) (there waits : Bool) (hops : Int) (W : World) (hb : b < W.heap.size) (hm : W.heap[m]? = some (.map #[] 0)) (hne : m ≠ b) :
    Calls Tryz.prog 29 #[.pointer (some ⟨b, 0, none⟩), .string { data := #[71, 69, 84] }, .string tg, .string { data := #[] }] (put W b 82 [.map (some m), .int .i64 t, .string html, .bool there, .string wh, .bool waits, .int .i64 hops]) fun e w' =>
      (∃ g : Nat, e = .returned (.agg #[.string (({ data := #[71, 69, 84] } : ByteArray)), .string tg, .int .i64 1, (.slice (some ⟨g, 0, none⟩) 1 1), .string { data := #[] }, .bool false])) ∧ Below W.heap.size (put W b 82 [.map (some m), .int .i64 t, .string html, .bool there, .string wh, .bool true, .int .i64 hops]) w' := by
  have hml : m < W.heap.size := (Array.getElem?_eq_some_iff.1 hm).1
  have HM := Lib.hid hm
  have hnb : ¬ b = m := fun e => hne e.symm
  clear hm
  have nb0 : ¬ b = W.heap.size := (by omega); have nb1 : ¬ b = W.heap.size + 1 := (by omega); have nb2 : ¬ b = W.heap.size + 1 + 1 := (by omega); have nb3 : ¬ b = W.heap.size + 1 + 1 + 1 := (by omega); have hb1 : b < W.heap.size + 1 := (by omega); have hb2 : b < W.heap.size + 1 + 1 := (by omega); have hb3 : b < W.heap.size + 1 + 1 + 1 := (by omega); have hb4 : b < W.heap.size + 1 + 1 + 1 + 1 := (by omega); have lb0 : b ≤ W.heap.size := (by omega); have lb1 : b ≤ W.heap.size + 1 := (by omega); have lb2 : b ≤ W.heap.size + 1 + 1 := (by omega); have lb3 : b ≤ W.heap.size + 1 + 1 + 1 := (by omega); have lb4 : b ≤ W.heap.size + 1 + 1 + 1 + 1 := (by omega)
  go_enter Tryz.func29, Tryz.ntmps29
  go_wp2_with fail
  refine (cookies_none b m t _ ?_ ?_).mono ?_
  · go_simp
  · rw [heap_alloc_old _ _ (by simp [go_sem]; omega), heap_alloc_old _ _ (by simp [go_sem]; omega), heap_alloc_old _ _ (by simp [go_sem]; omega), heap_put_other W b 82 _ m hne]; exact HM.out
  rintro e w1 ⟨rfl, hb1⟩
  obtain ⟨X1, n1, rfl⟩ := Below_ext hb1; clear hb1
  go_wp2_with fail
  refine bodyPost_ret (v := .agg #[.string (({ data := #[71, 69, 84] } : ByteArray)), .string tg, .int .i64 1, (.slice (some ⟨W.heap.size + 1, 0, none⟩) 1 1), .string { data := #[] }, .bool false]) ?_ rfl ⟨⟨_, rfl⟩, ?_⟩
  · simp [results, Tryz.results29, go_sem]
  · exact (by repeat (first | exact Below.refl _ _ | refine Below.alloc ?_ (by simp [go_sem]) _ | refine below_ext ?_ (by simp [go_sem]) _ _ | refine below_drewN ?_ _ | refine Below.drew ?_))
end Go.Proofs.YtmeahkijpipgnaaGreatDoor
