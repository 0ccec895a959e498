/- The agent with an empty jar takes an answer. -/
import Derived.Test.YtmeahkijpipgnaaGreatDoorAi
import Derived.RegionTactic
import Derived.ChangeAlike
namespace Go.Proofs.YtmeahkijpipgnaaGreatDoor
open Go Go.RowKit

theorem follow_on_at (b m : Nat) (t : Int) (html wh : ByteArray) (tg : List UInt8) (there waits : Bool) (hops : Int) (V : World) (hV : V.heap[b]? = some (.cells ([.map (some m), .int .i64 t, .string html, .bool there, .string wh, .bool waits, .int .i64 hops]).toArray 82)) (hm : V.heap[m]? = some (.map #[] 0)) (hne : m ≠ b) (htg : tg.length ≤ maxLen) (hp : placeB tg = true) (h0 : 0 ≤ hops) (h1 : hops < 10) :
    Calls Tryz.prog 31 #[.pointer (some ⟨b, 0, none⟩), .string (strB tg)] V fun e w' =>
      (∃ g : Nat, e = .returned (.tuple #[.agg #[.string (({ data := #[71, 69, 84] } : ByteArray)), .string (strB tg), .int .i64 1, (.slice (some ⟨g, 0, none⟩) 1 1), .string { data := #[] }, .bool false], .int .i64 1, .nilIface])) ∧ Below V.heap.size (put V b 82 [.map (some m), .int .i64 t, .string html, .bool there, .string wh, .bool true, .int .i64 (hops + 1)]) w' := by
  have h := follow_on b m t html wh tg there waits hops V (Array.getElem?_eq_some_iff.1 hV).1 hm hne htg hp h0 h1
  rw [← eq_put V b 82 _ hV] at h
  exact h
theorem follow_many_at (b m : Nat) (t : Int) (html wh : ByteArray) (tg : List UInt8) (there waits : Bool) (hops : Int) (V : World) (A : Nat → Addr) (hV : V.heap[b]? = some (.cells ([.map (some m), .int .i64 t, .string html, .bool there, .string wh, .bool waits, .int .i64 hops]).toArray 82)) (h3 : V.cell? ⟨3, 0, none⟩ = some (errV (A 3))) (hn3 : 3 ≠ b) (htg : tg.length ≤ maxLen) (hp : placeB tg = true) (h0 : 10 ≤ hops) :
    Calls Tryz.prog 31 #[.pointer (some ⟨b, 0, none⟩), .string (strB tg)] V fun e w' => e = .returned (.tuple #[.agg #[.string { data := #[] }, .string { data := #[] }, .int .i64 0, .slice none 0 0, .string { data := #[] }, .bool false], .int .i64 0, errV (A 3)]) ∧ Below V.heap.size V w' := by
  have h := follow_many b m t html wh tg there waits hops V A (Array.getElem?_eq_some_iff.1 hV).1 h3 hn3 htg hp h0
  rw [← eq_put V b 82 _ hV] at h
  exact h

set_option maxRecDepth 100000 in
set_option maxHeartbeats 4000000 in
theorem take_follow (b m g : Nat) (t now st : Int) (html wh bo : ByteArray) (x tg : List UInt8) (there cl : Bool) (hops : Int) (W : World) (hb : b < W.heap.size) (hm : W.heap[m]? = some (.map #[] 0)) (hne : m ≠ b) (hst : st = 302 ∨ st = 303)
    (hx : x.length ≤ maxLen) (hlo : lowL x = lowL [76, 111, 99, 97, 116, 105, 111, 110]) (htg : tg.length ≤ maxLen) (hp : placeB tg = true) (h0 : 0 ≤ hops) (h1 : hops < 10) (hgb : g ≠ b) (hnt : now ≤ t)
    (c0 : W.cell? ⟨g, 0, none⟩ = some (.string (strB x))) (c1 : W.cell? ⟨g, 1, none⟩ = some (.string (strB tg))) :
    Calls Tryz.prog 11 #[.pointer (some ⟨b, 0, none⟩), .int .i64 now, .agg #[.int .i64 st, .slice (some ⟨g, 0, none⟩) 1 1, .string bo, .bool cl]] (put W b 82 [.map (some m), .int .i64 t, .string html, .bool there, .string wh, .bool true, .int .i64 hops]) fun e w' =>
      (∃ h : Nat, e = .returned (.tuple #[.agg #[.string (({ data := #[71, 69, 84] } : ByteArray)), .string (strB tg), .int .i64 1, (.slice (some ⟨h, 0, none⟩) 1 1), .string { data := #[] }, .bool false], .int .i64 1, .nilIface])) ∧ Below W.heap.size (put W b 82 [.map (some m), .int .i64 t, .string { data := #[] }, .bool false, .string { data := #[] }, .bool true, .int .i64 (hops + 1)]) w' := by
  have lg : g < W.heap.size := World.block_lt_of_cell? W _ c0
  have hml : m < W.heap.size := (Array.getElem?_eq_some_iff.1 hm).1
  have HM := Lib.hid hm
  have hnb : ¬ b = m := fun e => hne e.symm
  have hgb' : ¬ g = b := hgb
  have HS := Lib.hid hst
  have hmx : decide (t < now) = false := by simp; omega
  have LQ : Hid (lowL x ≠ lowL setCookieL) := by
    show _ ≠ _; rw [hlo]; decide
  clear hm hst
  have nb0 : ¬ b = W.heap.size := (by omega); have nb1 : ¬ b = W.heap.size + 1 := (by omega); have nb2 : ¬ b = W.heap.size + 1 + 1 := (by omega); have nb3 : ¬ b = W.heap.size + 1 + 1 + 1 := (by omega); have hb1 : b < W.heap.size + 1 := (by omega); have hb2 : b < W.heap.size + 1 + 1 := (by omega); have hb3 : b < W.heap.size + 1 + 1 + 1 := (by omega); have hb4 : b < W.heap.size + 1 + 1 + 1 + 1 := (by omega); have lb0 : b ≤ W.heap.size := (by omega); have lb1 : b ≤ W.heap.size + 1 := (by omega); have lb2 : b ≤ W.heap.size + 1 + 1 := (by omega); have lb3 : b ≤ W.heap.size + 1 + 1 + 1 := (by omega); have lb4 : b ≤ W.heap.size + 1 + 1 + 1 + 1 := (by omega)
  have nb0 : ¬ g = W.heap.size := (by omega); have nb1 : ¬ g = W.heap.size + 1 := (by omega); have nb2 : ¬ g = W.heap.size + 1 + 1 := (by omega); have nb3 : ¬ g = W.heap.size + 1 + 1 + 1 := (by omega); have hb1 : g < W.heap.size + 1 := (by omega); have hb2 : g < W.heap.size + 1 + 1 := (by omega); have hb3 : g < W.heap.size + 1 + 1 + 1 := (by omega); have hb4 : g < W.heap.size + 1 + 1 + 1 + 1 := (by omega); have lb0 : g ≤ W.heap.size := (by omega); have lb1 : g ≤ W.heap.size + 1 := (by omega); have lb2 : g ≤ W.heap.size + 1 + 1 := (by omega); have lb3 : g ≤ W.heap.size + 1 + 1 + 1 := (by omega); have lb4 : g ≤ W.heap.size + 1 + 1 + 1 + 1 := (by omega)
  go_enter Tryz.func11, Tryz.ntmps11
  go_wp2_with fail
  refine (keep_plain _ x (strB tg) bo st cl g _ hx LQ.out ?_ ?_).mono ?_
  · go_simp
  · go_simp
  rintro e w1 ⟨rfl, hb1⟩
  obtain ⟨X1, n1, rfl⟩ := Below_ext hb1; clear hb1
  rcases HS.out with rfl | rfl
  · go_wp2_with fail
    refine (lookup_yes x [76, 111, 99, 97, 116, 105, 111, 110] (strB tg) g 1 _ hx (by decide) (by omega) hlo ?_ ?_).mono ?_
    · go_simp
    · go_simp
    rintro e w1 ⟨rfl, hb1⟩
    obtain ⟨X2, n2, rfl⟩ := Below_ext hb1; clear hb1
    go_wp2_with fail
    refine (follow_on_at b m t { data := #[] } { data := #[] } tg false false hops _ ?_ ?_ hne htg hp h0 h1).mono ?_
    · rw [heap_ext _ _ _ _ (by simp [go_sem]; omega), heap_alloc_old _ _ (by simp [go_sem]; omega), heap_alloc_old _ _ (by simp [go_sem]; omega), heap_put _ _ _ _ hb]
    · rw [heap_ext _ _ _ _ (by simp [go_sem]; omega), heap_alloc_old _ _ (by simp [go_sem]; omega), heap_alloc_old _ _ (by simp [go_sem]; omega), heap_put_other W b 82 _ m hne]; exact HM.out
    rintro e w1 ⟨⟨h, rfl⟩, hb1⟩
    rw [put_ext_in _ _ _ _ _ _ (by simp [go_sem]; omega), put_alloc_in _ _ _ _ _ (by simp [go_sem]; omega), put_alloc_in _ _ _ _ _ (by simp [go_sem]; omega), put_put] at hb1
    obtain ⟨X3, n3, rfl⟩ := Below_ext' hb1 (by simp [go_sem])
    clear hb1
    go_wp2_with fail
    refine bodyPost_ret (v := .tuple #[.agg #[.string (({ data := #[71, 69, 84] } : ByteArray)), .string (strB tg), .int .i64 1, (.slice (some ⟨h, 0, none⟩) 1 1), .string { data := #[] }, .bool false], .int .i64 1, .nilIface]) ?_ (by rfl) ?_
    · simp [results, Tryz.results11, go_sem]
    · exact ⟨⟨_, rfl⟩, (by repeat (first | exact Below.refl _ _ | refine Below.alloc ?_ (by simp [go_sem]) _ | refine below_ext ?_ (by simp [go_sem]) _ _ | refine below_drewN ?_ _ | refine Below.drew ?_))⟩
  · go_wp2_with fail
    refine (lookup_yes x [76, 111, 99, 97, 116, 105, 111, 110] (strB tg) g 1 _ hx (by decide) (by omega) hlo ?_ ?_).mono ?_
    · go_simp
    · go_simp
    rintro e w1 ⟨rfl, hb1⟩
    obtain ⟨X2, n2, rfl⟩ := Below_ext hb1; clear hb1
    go_wp2_with fail
    refine (follow_on_at b m t { data := #[] } { data := #[] } tg false false hops _ ?_ ?_ hne htg hp h0 h1).mono ?_
    · rw [heap_ext _ _ _ _ (by simp [go_sem]; omega), heap_alloc_old _ _ (by simp [go_sem]; omega), heap_alloc_old _ _ (by simp [go_sem]; omega), heap_put _ _ _ _ hb]
    · rw [heap_ext _ _ _ _ (by simp [go_sem]; omega), heap_alloc_old _ _ (by simp [go_sem]; omega), heap_alloc_old _ _ (by simp [go_sem]; omega), heap_put_other W b 82 _ m hne]; exact HM.out
    rintro e w1 ⟨⟨h, rfl⟩, hb1⟩
    rw [put_ext_in _ _ _ _ _ _ (by simp [go_sem]; omega), put_alloc_in _ _ _ _ _ (by simp [go_sem]; omega), put_alloc_in _ _ _ _ _ (by simp [go_sem]; omega), put_put] at hb1
    obtain ⟨X3, n3, rfl⟩ := Below_ext' hb1 (by simp [go_sem])
    clear hb1
    go_wp2_with fail
    refine bodyPost_ret (v := .tuple #[.agg #[.string (({ data := #[71, 69, 84] } : ByteArray)), .string (strB tg), .int .i64 1, (.slice (some ⟨h, 0, none⟩) 1 1), .string { data := #[] }, .bool false], .int .i64 1, .nilIface]) ?_ (by rfl) ?_
    · simp [results, Tryz.results11, go_sem]
    · exact ⟨⟨_, rfl⟩, (by repeat (first | exact Below.refl _ _ | refine Below.alloc ?_ (by simp [go_sem]) _ | refine below_ext ?_ (by simp [go_sem]) _ _ | refine below_drewN ?_ _ | refine Below.drew ?_))⟩
end Go.Proofs.YtmeahkijpipgnaaGreatDoor
