/- A visit with an empty jar: what the request holds. What Lookup says of such fields. -/
import Derived.Test.YtmeahkijpipgnaaGreatDoorBd
namespace Go.Proofs.YtmeahkijpipgnaaGreatDoor
open Go Go.RowKit

set_option maxHeartbeats 4000000 in
theorem send_none (b m : Nat) (t : Int) (html wh tg : ByteArray) (there waits : Bool) (hops : Int) (W : World) (hb : b < W.heap.size) (hm : W.heap[m]? = some (.map #[] 0)) (hne : m ≠ b) :
    Calls Tryz.prog 29 #[.pointer (some ⟨b, 0, none⟩), .string { data := #[71, 69, 84] }, .string tg, .string { data := #[] }] (put W b 82 [.map (some m), .int .i64 t, .string html, .bool there, .string wh, .bool waits, .int .i64 hops]) fun e w' =>
      (∃ g : Nat, W.heap.size ≤ g ∧ e = .returned (.agg #[.string (({ data := #[71, 69, 84] } : ByteArray)), .string tg, .int .i64 1, (.slice (some ⟨g, 0, none⟩) 1 1), .string { data := #[] }, .bool false]) ∧ w'.cell? ⟨g, 0, none⟩ = some (.string { data := #[104, 111, 115, 116] }) ∧ w'.cell? ⟨g, 1, none⟩ = some (.string { data := #[117, 115, 104, 101, 114] })) ∧ Below W.heap.size (put W b 82 [.map (some m), .int .i64 t, .string html, .bool there, .string wh, .bool true, .int .i64 hops]) w' := by
  have hml : m < W.heap.size := (Array.getElem?_eq_some_iff.1 hm).1
  have HM := Lib.hid hm
  have hnb : ¬ b = m := fun e => hne e.symm
  clear hm
  have nb0 : ¬ b = W.heap.size := (by omega); have nb1 : ¬ b = W.heap.size + 1 := (by omega); have nb2 : ¬ b = W.heap.size + 1 + 1 := (by omega); have nb3 : ¬ b = W.heap.size + 1 + 1 + 1 := (by omega); have hb1 : b < W.heap.size + 1 := (by omega); have hb2 : b < W.heap.size + 1 + 1 := (by omega); have hb3 : b < W.heap.size + 1 + 1 + 1 := (by omega); have hb4 : b < W.heap.size + 1 + 1 + 1 + 1 := (by omega); have lb0 : b ≤ W.heap.size := (by omega); have lb1 : b ≤ W.heap.size + 1 := (by omega); have lb2 : b ≤ W.heap.size + 1 + 1 := (by omega); have lb3 : b ≤ W.heap.size + 1 + 1 + 1 := (by omega); have lb4 : b ≤ W.heap.size + 1 + 1 + 1 + 1 := (by omega)
  go_enter Tryz.func29, Tryz.ntmps29
  go_wp2_with fail
  refine (cookies_none b m t _ ?_ ?_).mono ?_
  · go_simp
  · rw [heap_alloc_old _ _ (by simp [go_sem]; omega), heap_alloc_old _ _ (by simp [go_sem]; omega), heap_alloc_old _ _ (by simp [go_sem]; omega), heap_put_other W b 82 _ m hne]; exact HM.out
  rintro e w1 ⟨rfl, hb1⟩
  obtain ⟨X1, n1, rfl⟩ := Below_ext hb1; clear hb1
  go_wp2_with fail
  refine bodyPost_ret (v := .agg #[.string (({ data := #[71, 69, 84] } : ByteArray)), .string tg, .int .i64 1, (.slice (some ⟨W.heap.size + 1, 0, none⟩) 1 1), .string { data := #[] }, .bool false]) ?_ rfl ⟨⟨_, Nat.le_succ _, rfl, ?_, ?_⟩, ?_⟩
  · simp [results, Tryz.results29, go_sem]
  · simp [go_sem]
  · simp [go_sem]
  · exact (by repeat (first | exact Below.refl _ _ | refine Below.alloc ?_ (by simp [go_sem]) _ | refine below_ext ?_ (by simp [go_sem]) _ _ | refine below_drewN ?_ _ | refine Below.drew ?_))
theorem visit_none (b m : Nat) (t now T : Int) (html wh : ByteArray) (tg : List UInt8) (there waits : Bool) (hops : Int) (V : World) (hV : V.heap[b]? = some (.cells ([.map (some m), .int .i64 t, .string html, .bool there, .string wh, .bool waits, .int .i64 hops]).toArray 82)) (htg : tg.length ≤ maxLen) (hp : placeB tg = true) (hT : T = max t now)
    (hm : V.heap[m]? = some (.map #[] 0)) (hne : m ≠ b) :
    Calls Tryz.prog 8 #[.pointer (some ⟨b, 0, none⟩), .int .i64 now, .string (strB tg)] V fun e w' =>
      (∃ a n1 k, e = .returned (.tuple #[.agg #[.string (({ data := #[71, 69, 84] } : ByteArray)), .string (strB tg), .int .i64 1, (.slice a n1 k), .string { data := #[] }, .bool false], .nilIface]) ∧ SentN V.heap.size a n1 k w') ∧ Below V.heap.size (put V b 82 [.map (some m), .int .i64 T, .string html, .bool there, .string wh, .bool true, .int .i64 0]) w' := by
  have hb : b < V.heap.size := (Array.getElem?_eq_some_iff.1 hV).1
  have hml : m < V.heap.size := (Array.getElem?_eq_some_iff.1 hm).1
  have h := visit_by (SentN V.heap.size) b m t now T html wh tg there waits hops V hb htg hp hT ?_ ?_
  · rw [← eq_put V b 82 _ hV] at h
    exact h
  · rintro a n1 k u u' ⟨g, hg, rfl, rfl, rfl, c0, c1⟩ hp
    exact ⟨g, hg, rfl, rfl, rfl, (cell_same (hp g (by omega))).trans c0, (cell_same (hp g (by omega))).trans c1⟩
  · intro U hlt hU hbU
    have hbu : b < U.heap.size := (Array.getElem?_eq_some_iff.1 hU).1
    have hmu : U.heap[m]? = some (.map #[] 0) := (hbU.block m hml).trans ((heap_put_other V b 82 _ m hne).trans hm)
    have hs := send_none b m T html wh (strB tg) there waits 0 U hbu hmu hne
    rw [← eq_put U b 82 _ hU] at hs
    refine hs.mono ?_
    rintro e w' ⟨⟨g, hg, he, c0, c1⟩, hbel⟩
    exact ⟨⟨_, _, _, he, g, by omega, rfl, rfl, rfl, c0, c1⟩, hbel⟩
end Go.Proofs.YtmeahkijpipgnaaGreatDoor
