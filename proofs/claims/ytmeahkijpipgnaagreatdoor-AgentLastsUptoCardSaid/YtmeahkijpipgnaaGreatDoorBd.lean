/- A visit, over what is sent; with a jar of one. -/
import Derived.Test.YtmeahkijpipgnaaGreatDoorBc
import Derived.Test.YtmeahkijpipgnaaGreatDoorAl
namespace Go.Proofs.YtmeahkijpipgnaaGreatDoor
open Go Go.RowKit

set_option maxRecDepth 100000 in
set_option maxHeartbeats 2000000 in
theorem visit_by (R : Option Addr → Nat → Nat → World → Prop) (b m : Nat) (t now T : Int) (html wh : ByteArray) (tg : List UInt8) (there waits : Bool) (hops : Int) (W : World) (hb : b < W.heap.size) (htg : tg.length ≤ maxLen) (hp : placeB tg = true) (hT : T = max t now)
    (RS : ∀ a n k (u u' : World), R a n k u → (∀ p, p ≠ W.heap.size → u'.heap[p]? = u.heap[p]?) → R a n k u')
    (SND : ∀ V : World, W.heap.size < V.heap.size → V.heap[b]? = some (.cells ([.map (some m), .int .i64 T, .string html, .bool there, .string wh, .bool waits, .int .i64 0]).toArray 82) → Below W.heap.size (put W b 82 [.map (some m), .int .i64 T, .string html, .bool there, .string wh, .bool waits, .int .i64 0]) V →
      Calls Tryz.prog 29 #[.pointer (some ⟨b, 0, none⟩), .string { data := #[71, 69, 84] }, .string (strB tg), .string { data := #[] }] V fun e w' =>
        (∃ a n k, e = .returned (.agg #[.string (({ data := #[71, 69, 84] } : ByteArray)), .string (strB tg), .int .i64 1, (.slice a n k), .string { data := #[] }, .bool false]) ∧ R a n k w') ∧ Below V.heap.size (put V b 82 [.map (some m), .int .i64 T, .string html, .bool there, .string wh, .bool true, .int .i64 0]) w') :
    Calls Tryz.prog 8 #[.pointer (some ⟨b, 0, none⟩), .int .i64 now, .string (strB tg)] (put W b 82 [.map (some m), .int .i64 t, .string html, .bool there, .string wh, .bool waits, .int .i64 hops]) fun e w' =>
      (∃ a n k, e = .returned (.tuple #[.agg #[.string (({ data := #[71, 69, 84] } : ByteArray)), .string (strB tg), .int .i64 1, (.slice a n k), .string { data := #[] }, .bool false], .nilIface]) ∧ R a n k w') ∧ Below W.heap.size (put W b 82 [.map (some m), .int .i64 T, .string html, .bool there, .string wh, .bool true, .int .i64 0]) w' := by
  have HP : Hid (∀ V : World, Calls Tryz.prog 28 #[.string (strB tg)] V fun e w' => e = .returned (.bool true) ∧ V = w') := fun V => by rw [← hp]; exact place_any tg V htg
  have HS := Lib.hid SND
  clear hp SND
  have nb0 : ¬ b = W.heap.size := (by omega); have nb1 : ¬ b = W.heap.size + 1 := (by omega); have nb2 : ¬ b = W.heap.size + 1 + 1 := (by omega); have nb3 : ¬ b = W.heap.size + 1 + 1 + 1 := (by omega); have hb1 : b < W.heap.size + 1 := (by omega); have hb2 : b < W.heap.size + 1 + 1 := (by omega); have hb3 : b < W.heap.size + 1 + 1 + 1 := (by omega); have hb4 : b < W.heap.size + 1 + 1 + 1 + 1 := (by omega); have lb0 : b ≤ W.heap.size := (by omega); have lb1 : b ≤ W.heap.size + 1 := (by omega); have lb2 : b ≤ W.heap.size + 1 + 1 := (by omega); have lb3 : b ≤ W.heap.size + 1 + 1 + 1 := (by omega); have lb4 : b ≤ W.heap.size + 1 + 1 + 1 + 1 := (by omega)
  by_cases hlt : t < now
  · obtain rfl : T = now := by omega
    have hmx : decide (t < T) = true := by simp; omega
    have hmm : max t T = T := by omega
    clear hT
    go_enter Tryz.func8, Tryz.ntmps8
    go_wp2_with fail
    refine (HP.out _).mono ?_
    rintro e w1 ⟨rfl, rfl⟩
    go_wp2_with fail
    refine (HS.out _ ?_ ?_ ?_).mono ?_
    · simp [go_sem]
    · rw [heap_alloc_old _ _ (by simp [go_sem]; omega), heap_put _ _ _ _ hb]
    · exact (by repeat (first | exact Below.refl _ _ | refine Below.alloc ?_ (by simp [go_sem]) _ | refine below_ext ?_ (by simp [go_sem]) _ _ | refine below_drewN ?_ _ | refine Below.drew ?_))
    rintro e w1 ⟨⟨a, n, k, rfl, hR⟩, hb1⟩
    have HR := Lib.hid hR
    rw [put_alloc_in _ _ _ _ _ (by simp [go_sem]; omega), put_put] at hb1
    obtain ⟨X1, n1, rfl⟩ := Below_ext' hb1 (by simp [go_sem])
    clear hb1 hR
    go_wp2_with fail
    refine bodyPost_ret (v := .tuple #[.agg #[.string (({ data := #[71, 69, 84] } : ByteArray)), .string (strB tg), .int .i64 1, (.slice a n k), .string { data := #[] }, .bool false], .nilIface]) ?_ (by rfl) ?_
    · simp [results, Tryz.results8, go_sem]
    · refine ⟨⟨_, _, _, rfl, RS _ _ _ _ _ HR.out ?_⟩, (by repeat (first | exact Below.refl _ _ | refine Below.alloc ?_ (by simp [go_sem]) _ | refine below_ext ?_ (by simp [go_sem]) _ _ | refine below_drewN ?_ _ | refine Below.drew ?_))⟩
      intro p hp
      simp only [ext, World.alloc, Array.getElem?_append, Array.getElem?_push, Array.size_push, size_put, if_neg hp]
  · obtain rfl : T = t := by omega
    have hmx : decide (T < now) = false := by simp; omega
    have hmm : max T now = T := by omega
    clear hT
    go_enter Tryz.func8, Tryz.ntmps8
    go_wp2_with fail
    refine (HP.out _).mono ?_
    rintro e w1 ⟨rfl, rfl⟩
    go_wp2_with fail
    refine (HS.out _ ?_ ?_ ?_).mono ?_
    · simp [go_sem]
    · rw [heap_alloc_old _ _ (by simp [go_sem]; omega), heap_put _ _ _ _ hb]
    · exact (by repeat (first | exact Below.refl _ _ | refine Below.alloc ?_ (by simp [go_sem]) _ | refine below_ext ?_ (by simp [go_sem]) _ _ | refine below_drewN ?_ _ | refine Below.drew ?_))
    rintro e w1 ⟨⟨a, n, k, rfl, hR⟩, hb1⟩
    have HR := Lib.hid hR
    rw [put_alloc_in _ _ _ _ _ (by simp [go_sem]; omega), put_put] at hb1
    obtain ⟨X1, n1, rfl⟩ := Below_ext' hb1 (by simp [go_sem])
    clear hb1 hR
    go_wp2_with fail
    refine bodyPost_ret (v := .tuple #[.agg #[.string (({ data := #[71, 69, 84] } : ByteArray)), .string (strB tg), .int .i64 1, (.slice a n k), .string { data := #[] }, .bool false], .nilIface]) ?_ (by rfl) ?_
    · simp [results, Tryz.results8, go_sem]
    · refine ⟨⟨_, _, _, rfl, RS _ _ _ _ _ HR.out ?_⟩, (by repeat (first | exact Below.refl _ _ | refine Below.alloc ?_ (by simp [go_sem]) _ | refine below_ext ?_ (by simp [go_sem]) _ _ | refine below_drewN ?_ _ | refine Below.drew ?_))⟩
      intro p hp
      simp only [ext, World.alloc, Array.getElem?_append, Array.getElem?_push, Array.size_push, size_put, if_neg hp]
/-- What a request with a cookie's field holds. -/
def SentC (B : Nat) (t : ByteArray) (a : Option Addr) (n k : Nat) (w : World) : Prop := ∃ g : Nat, B < g ∧ a = some ⟨g, 0, none⟩ ∧ n = 2 ∧ 2 ≤ k ∧ k ≤ maxLen ∧ w.cell? ⟨g, 0, none⟩ = some (.string { data := #[104, 111, 115, 116] }) ∧ w.cell? ⟨g, 1, none⟩ = some (.string { data := #[117, 115, 104, 101, 114] }) ∧ w.cell? ⟨g, 2, none⟩ = some (.string { data := #[99, 111, 111, 107, 105, 101] }) ∧ w.cell? ⟨g, 3, none⟩ = some (.string t)
/-- What a request without one holds. -/
def SentN (B : Nat) (a : Option Addr) (n k : Nat) (w : World) : Prop := ∃ g : Nat, B < g ∧ a = some ⟨g, 0, none⟩ ∧ n = 1 ∧ k = 1 ∧ w.cell? ⟨g, 0, none⟩ = some (.string { data := #[104, 111, 115, 116] }) ∧ w.cell? ⟨g, 1, none⟩ = some (.string { data := #[117, 115, 104, 101, 114] })
theorem cell_same {u u' : World} {g i : Nat} (h : u'.heap[g]? = u.heap[g]?) : u'.cell? ⟨g, i, none⟩ = u.cell? ⟨g, i, none⟩ := by simp only [World.cell?, h]
theorem visit_fresh (b m : Nat) (t now T : Int) (html wh : ByteArray) (tg : List UInt8) (there waits : Bool) (hops : Int) (V : World) (hV : V.heap[b]? = some (.cells ([.map (some m), .int .i64 t, .string html, .bool there, .string wh, .bool waits, .int .i64 hops]).toArray 82)) (htg : tg.length ≤ maxLen) (hp : placeB tg = true) (hT : T = max t now)
    (n v : List UInt8) (age at_ : Int) (born clock : Nat) (hJ : JarOne V b m n v age at_ born clock) (h1 : at_ ≤ T) (h2 : T ≤ 9223372036854775807) (hl : lastsB age at_ T = true) (hK : Kinds V) (hk : b ≠ 15) (hnl : n.length ≤ 1073741824) (hvl : v.length ≤ 1073741824) (hmay : cmayB n v = true) :
    Calls Tryz.prog 8 #[.pointer (some ⟨b, 0, none⟩), .int .i64 now, .string (strB tg)] V fun e w' =>
      (∃ a n1 k, e = .returned (.tuple #[.agg #[.string (({ data := #[71, 69, 84] } : ByteArray)), .string (strB tg), .int .i64 1, (.slice a n1 k), .string { data := #[] }, .bool false], .nilIface]) ∧ SentC V.heap.size (strB (cookL [(n, v)])) a n1 k w') ∧ Below V.heap.size (put V b 82 [.map (some m), .int .i64 T, .string html, .bool there, .string wh, .bool true, .int .i64 0]) w' := by
  have hb : b < V.heap.size := (Array.getElem?_eq_some_iff.1 hV).1
  have h := visit_by (SentC V.heap.size (strB (cookL [(n, v)]))) b m t now T html wh tg there waits hops V hb htg hp hT ?_ ?_
  · rw [← eq_put V b 82 _ hV] at h
    exact h
  · rintro a n1 k u u' ⟨g, hg, rfl, rfl, hk1, hk2, c0, c1, c2, c3⟩ hp
    have e := hp g (by omega)
    exact ⟨g, hg, rfl, rfl, hk1, hk2, (cell_same e).trans c0, (cell_same e).trans c1, (cell_same e).trans c2, (cell_same e).trans c3⟩
  · intro U hlt hU hbU
    have hbu : b < U.heap.size := (Array.getElem?_eq_some_iff.1 hU).1
    have hs := send_fresh b m T html wh (strB tg) there waits 0 U hbu n v age at_ born clock ((hJ.put 82 _).below (by rw [size_put]; exact hbU)) h1 h2 hl ((hK.put hk 82 _).below (by rw [size_put]; exact hbU)) hk hnl hvl hmay
    rw [← eq_put U b 82 _ hU] at hs
    refine hs.mono ?_
    rintro e w' ⟨⟨g, k, hg, hk1, hk2, he, c0, c1, c2, c3⟩, hbel⟩
    exact ⟨⟨_, _, _, he, g, by omega, rfl, rfl, hk1, hk2, c0, c1, c2, c3⟩, hbel⟩
theorem visit_stale (b m : Nat) (t now T : Int) (html wh : ByteArray) (tg : List UInt8) (there waits : Bool) (hops : Int) (V : World) (hV : V.heap[b]? = some (.cells ([.map (some m), .int .i64 t, .string html, .bool there, .string wh, .bool waits, .int .i64 hops]).toArray 82)) (htg : tg.length ≤ maxLen) (hp : placeB tg = true) (hT : T = max t now)
    (n v : List UInt8) (age at_ : Int) (born clock : Nat) (hJ : JarOne V b m n v age at_ born clock) (h1 : at_ ≤ T) (h2 : T ≤ 9223372036854775807) (hl : lastsB age at_ T = false) :
    Calls Tryz.prog 8 #[.pointer (some ⟨b, 0, none⟩), .int .i64 now, .string (strB tg)] V fun e w' =>
      (∃ a n1 k, e = .returned (.tuple #[.agg #[.string (({ data := #[71, 69, 84] } : ByteArray)), .string (strB tg), .int .i64 1, (.slice a n1 k), .string { data := #[] }, .bool false], .nilIface]) ∧ SentN V.heap.size a n1 k w') ∧ Below V.heap.size (put V b 82 [.map (some m), .int .i64 T, .string html, .bool there, .string wh, .bool true, .int .i64 0]) w' := by
  have hb : b < V.heap.size := (Array.getElem?_eq_some_iff.1 hV).1
  have h := visit_by (SentN V.heap.size) b m t now T html wh tg there waits hops V hb htg hp hT ?_ ?_
  · rw [← eq_put V b 82 _ hV] at h
    exact h
  · rintro a n1 k u u' ⟨g, hg, rfl, rfl, rfl, c0, c1⟩ hp
    exact ⟨g, hg, rfl, rfl, rfl, (cell_same (hp g (by omega))).trans c0, (cell_same (hp g (by omega))).trans c1⟩
  · intro U hlt hU hbU
    have hbu : b < U.heap.size := (Array.getElem?_eq_some_iff.1 hU).1
    have hs := send_stale b m T html wh (strB tg) there waits 0 U hbu n v age at_ born clock ((hJ.put 82 _).below (by rw [size_put]; exact hbU)) h1 h2 hl
    rw [← eq_put U b 82 _ hU] at hs
    refine hs.mono ?_
    rintro e w' ⟨⟨g, hg, he, c0, c1⟩, hbel⟩
    exact ⟨⟨_, _, _, he, g, by omega, rfl, rfl, rfl, c0, c1⟩, hbel⟩
end Go.Proofs.YtmeahkijpipgnaaGreatDoor
