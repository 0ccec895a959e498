/- The agent with an empty jar: where it goes on to; what it keeps of a field that sets no cookie. -/
import Derived.Test.YtmeahkijpipgnaaGreatDoorAf
namespace Go.Proofs.YtmeahkijpipgnaaGreatDoor
open Go Go.RowKit

/-! A put comes out through what lies behind it. -/
theorem put_alloc_in (W : World) (o : Obj) (b : Nat) (t : TypeId) (L : List Value) (h : b < W.heap.size) : put (W.alloc o) b t L = (put W b t L).alloc o := by
  simp only [put, World.alloc]
  congr 1
  apply Array.ext_getElem?
  intro k
  simp only [Array.getElem?_setIfInBounds, Array.getElem?_push, Array.size_setIfInBounds, Array.size_push]
  by_cases hk : k = W.heap.size
  · subst hk; rw [if_neg (by omega), if_pos rfl, if_pos rfl]
  · rw [if_neg hk, if_neg hk]
    by_cases e : b = k
    · subst e; rw [if_pos rfl, if_pos rfl, if_pos (by omega), if_pos h]
    · rw [if_neg e, if_neg e]
theorem put_ext_in (W : World) (b : Nat) (t : TypeId) (L : List Value) (X : Array Obj) (n : Nat) (h : b < W.heap.size) : put (ext W X n) b t L = ext (put W b t L) X n := (ext_put W b t L X n h).symm
theorem Below_ext' {w w' : World} {B : Nat} (h : Below B w w') (hB : w.heap.size ≤ B) : ∃ X n, w' = ext w X n := Below_ext (h.mono hB)

theorem send_at (b m : Nat) (t : Int) (html wh tg : ByteArray) (there waits : Bool) (hops : Int) (V : World) (hV : V.heap[b]? = some (.cells ([.map (some m), .int .i64 t, .string html, .bool there, .string wh, .bool waits, .int .i64 hops]).toArray 82)) (hm : V.heap[m]? = some (.map #[] 0)) (hne : m ≠ b) :
    Calls Tryz.prog 29 #[.pointer (some ⟨b, 0, none⟩), .string { data := #[71, 69, 84] }, .string tg, .string { data := #[] }] V fun e w' =>
      (∃ g : Nat, e = .returned (.agg #[.string (({ data := #[71, 69, 84] } : ByteArray)), .string tg, .int .i64 1, (.slice (some ⟨g, 0, none⟩) 1 1), .string { data := #[] }, .bool false])) ∧ Below V.heap.size (put V b 82 [.map (some m), .int .i64 t, .string html, .bool there, .string wh, .bool true, .int .i64 hops]) w' := by
  have h := send_get b m t html wh tg there waits hops V (Array.getElem?_eq_some_iff.1 hV).1 hm hne
  rw [← eq_put V b 82 _ hV] at h
  exact h
set_option maxHeartbeats 2000000 in
theorem follow_on (b m : Nat) (t : Int) (html wh : ByteArray) (tg : List UInt8) (there waits : Bool) (hops : Int) (W : World) (hb : b < W.heap.size) (hm : W.heap[m]? = some (.map #[] 0)) (hne : m ≠ b) (htg : tg.length ≤ maxLen) (hp : placeB tg = true) (h0 : 0 ≤ hops) (h1 : hops < 10) :
    Calls Tryz.prog 31 #[.pointer (some ⟨b, 0, none⟩), .string (strB tg)] (put W b 82 [.map (some m), .int .i64 t, .string html, .bool there, .string wh, .bool waits, .int .i64 hops]) fun e w' =>
      (∃ g : Nat, e = .returned (.tuple #[.agg #[.string (({ data := #[71, 69, 84] } : ByteArray)), .string (strB tg), .int .i64 1, (.slice (some ⟨g, 0, none⟩) 1 1), .string { data := #[] }, .bool false], .int .i64 1, .nilIface])) ∧ Below W.heap.size (put W b 82 [.map (some m), .int .i64 t, .string html, .bool there, .string wh, .bool true, .int .i64 (hops + 1)]) w' := by
  have hml : m < W.heap.size := (Array.getElem?_eq_some_iff.1 hm).1
  have HM := Lib.hid hm
  have HP : Hid (∀ V : World, Calls Tryz.prog 28 #[.string (strB tg)] V fun e w' => e = .returned (.bool true) ∧ V = w') := fun V => by rw [← hp]; exact place_any tg V htg
  have hnb : ¬ b = m := fun e => hne e.symm
  have hlt : decide (10 ≤ hops) = false := by simp; omega
  have hh0 : -9223372036854775808 ≤ hops := by omega
  have hh1 : hops ≤ 9223372036854775806 := by omega
  clear hm hp
  have nb0 : ¬ b = W.heap.size := (by omega); have nb1 : ¬ b = W.heap.size + 1 := (by omega); have nb2 : ¬ b = W.heap.size + 1 + 1 := (by omega); have nb3 : ¬ b = W.heap.size + 1 + 1 + 1 := (by omega); have hb1 : b < W.heap.size + 1 := (by omega); have hb2 : b < W.heap.size + 1 + 1 := (by omega); have hb3 : b < W.heap.size + 1 + 1 + 1 := (by omega); have hb4 : b < W.heap.size + 1 + 1 + 1 + 1 := (by omega); have lb0 : b ≤ W.heap.size := (by omega); have lb1 : b ≤ W.heap.size + 1 := (by omega); have lb2 : b ≤ W.heap.size + 1 + 1 := (by omega); have lb3 : b ≤ W.heap.size + 1 + 1 + 1 := (by omega); have lb4 : b ≤ W.heap.size + 1 + 1 + 1 + 1 := (by omega)
  go_enter Tryz.func31, Tryz.ntmps31
  go_wp2_with fail
  refine (HP.out _).mono ?_
  rintro e w1 ⟨rfl, rfl⟩
  go_wp2_with fail
  refine (send_at b m t html wh (strB tg) there waits (hops + 1) _ ?_ ?_ hne).mono ?_
  · rw [heap_alloc_old _ _ (by simp [go_sem]; omega), heap_put _ _ _ _ hb]
  · rw [heap_alloc_old _ _ (by simp [go_sem]; omega), heap_put_other W b 82 _ m hne]; exact HM.out
  rintro e w1 ⟨⟨g, rfl⟩, hb1⟩
  rw [put_alloc_in _ _ _ _ _ (by simp [go_sem]; omega), put_put] at hb1
  obtain ⟨X1, n1, rfl⟩ := Below_ext' hb1 (by simp [go_sem])
  clear hb1
  go_wp2_with fail
  refine bodyPost_ret (v := .tuple #[.agg #[.string (({ data := #[71, 69, 84] } : ByteArray)), .string (strB tg), .int .i64 1, (.slice (some ⟨g, 0, none⟩) 1 1), .string { data := #[] }, .bool false], .int .i64 1, .nilIface]) ?_ (by rfl) ?_
  · simp [results, Tryz.results31, go_sem]
  · exact ⟨⟨_, rfl⟩, (by repeat (first | exact Below.refl _ _ | refine Below.alloc ?_ (by simp [go_sem]) _ | refine below_ext ?_ (by simp [go_sem]) _ _ | refine below_drewN ?_ _ | refine Below.drew ?_))⟩
end Go.Proofs.YtmeahkijpipgnaaGreatDoor
