/- The agent with an empty jar takes an answer that sets one cookie. -/
import Derived.Test.YtmeahkijpipgnaaGreatDoorBg
namespace Go.Proofs.YtmeahkijpipgnaaGreatDoor
open Go Go.RowKit

/-- What the jar holds behind a cookie with this age. -/
def jarOf (n v : List UInt8) (age t : Int) : Option (List UInt8 × List UInt8 × Int × Int) := if age = 0 then none else some (n, v, age, t)
theorem keep_one (b m : Nat) (t : Int) (html wh : ByteArray) (there waits : Bool) (hops : Int) (age : Int) (ha0 : -1 ≤ age) (ha1 : age ≤ 9223372036854775807) (x n v : List UInt8) (bo : ByteArray) (st : Int) (cl : Bool) (g : Nat) (V : World) (hb0 : V.heap[b]? = some (.cells ([.map (some m), .int .i64 t, .string html, .bool there, .string wh, .bool waits, .int .i64 hops]).toArray 82)) (hm : V.heap[m]? = some (.map #[] 0)) (hne : m ≠ b)
    (hx : x.length ≤ maxLen) (hq : lowL x = lowL setCookieL) (hK : Kinds V) (hnl : n.length ≤ 1073741824) (hvl : v.length ≤ 1073741824) (hmay : cmayB n v = true)
    (htab : Lib.TabIs Tryz.prog V "internal/strconv.uint64pow10" .u64 Lib.pow10Tab) (hmax : MaxLenIs V)
    (c0 : V.cell? ⟨g, 0, none⟩ = some (.string (strB x))) (c1 : V.cell? ⟨g, 1, none⟩ = some (.string (strB (setL n v age)))) :
    Calls Tryz.prog 30 #[.pointer (some ⟨b, 0, none⟩), .agg #[.int .i64 st, .slice (some ⟨g, 0, none⟩) 1 1, .string bo, .bool cl]] V fun e w' => e = .returned (.tuple #[]) ∧ Below V.heap.size (hset V m (jarObj (jarOf n v age t))) w' := by
  by_cases ha : age = 0
  · subst ha
    have e : hset V m (jarObj (jarOf n v 0 t)) = V := hset_same V m _ hm
    rw [e]
    exact keep_zero b m _ x n v bo st cl g V hb0 hm hne hx hq hK hnl hvl hmay htab hmax c0 c1
  · have e : jarOf n v age t = some (n, v, age, t) := by unfold jarOf; rw [if_neg ha]
    rw [e]
    exact keep_set b m t html wh there waits hops age ha ha0 ha1 x n v bo st cl g V hb0 hm hne hx hq hK hnl hvl hmay htab hmax c0 c1

set_option maxRecDepth 100000 in
set_option maxHeartbeats 8000000 in
theorem take_one (b m g : Nat) (t now T : Int) (html wh bo : ByteArray) (x n v : List UInt8) (age : Int) (there cl : Bool) (hops : Int) (W : World) (hb : b < W.heap.size) (hm : W.heap[m]? = some (.map #[] 0)) (hne : m ≠ b) (hgb : g ≠ b) (hgm : g ≠ m) (hT : T = max t now)
    (ha0 : -1 ≤ age) (ha1 : age ≤ 9223372036854775807) (hx : x.length ≤ maxLen) (hq : lowL x = lowL setCookieL) (hK : Kinds W) (hk : b ≠ 15) (hnl : n.length ≤ 1073741824) (hvl : v.length ≤ 1073741824) (hmay : cmayB n v = true)
    (htab : ∀ V : World, Below W.heap.size (put W b 82 [.map (some m), .int .i64 T, .string { data := #[] }, .bool false, .string { data := #[] }, .bool false, .int .i64 hops]) V → Lib.TabIs Tryz.prog V "internal/strconv.uint64pow10" .u64 Lib.pow10Tab)
    (hmax : ∀ V : World, Below W.heap.size (put W b 82 [.map (some m), .int .i64 T, .string { data := #[] }, .bool false, .string { data := #[] }, .bool false, .int .i64 hops]) V → MaxLenIs V)
    (c0 : W.cell? ⟨g, 0, none⟩ = some (.string (strB x))) (c1 : W.cell? ⟨g, 1, none⟩ = some (.string (strB (setL n v age)))) :
    Calls Tryz.prog 11 #[.pointer (some ⟨b, 0, none⟩), .int .i64 now, .agg #[.int .i64 200, .slice (some ⟨g, 0, none⟩) 1 1, .string bo, .bool cl]] (put W b 82 [.map (some m), .int .i64 t, .string html, .bool there, .string wh, .bool true, .int .i64 hops]) fun e w' =>
      e = .returned (.tuple #[.agg #[.string { data := #[] }, .string { data := #[] }, .int .i64 0, .slice none 0 0, .string { data := #[] }, .bool false], .int .i64 0, .nilIface]) ∧ Below W.heap.size (hset (put W b 82 [.map (some m), .int .i64 T, .string { data := #[] }, .bool false, .string { data := #[] }, .bool false, .int .i64 hops]) m (jarObj (jarOf n v age T))) w' := by
  have lg : g < W.heap.size := World.block_lt_of_cell? W _ c0
  have hml : m < W.heap.size := (Array.getElem?_eq_some_iff.1 hm).1
  have HM := Lib.hid hm
  have hnb : ¬ b = m := fun e => hne e.symm
  have hgb' : ¬ g = b := hgb
  have hgm' : ¬ g = m := hgm
  obtain ⟨sv, hsv⟩ : ∃ sv, sv = setL n v age := ⟨_, rfl⟩
  have KP : Hid (∀ U : World, U.heap[b]? = some (.cells ([.map (some m), .int .i64 T, .string { data := #[] }, .bool false, .string { data := #[] }, .bool false, .int .i64 hops]).toArray 82) → U.cell? ⟨g, 0, none⟩ = some (.string (strB x)) → U.cell? ⟨g, 1, none⟩ = some (.string (strB sv)) →
      Below W.heap.size (put W b 82 [.map (some m), .int .i64 T, .string { data := #[] }, .bool false, .string { data := #[] }, .bool false, .int .i64 hops]) U →
      Calls Tryz.prog 30 #[.pointer (some ⟨b, 0, none⟩), .agg #[.int .i64 200, .slice (some ⟨g, 0, none⟩) 1 1, .string bo, .bool cl]] U fun e w' => e = .returned (.tuple #[]) ∧ Below U.heap.size (hset U m (jarObj (jarOf n v age T))) w') := by
    intro U ub u0 u1 hbel
    rw [hsv] at u1
    exact keep_one b m T { data := #[] } { data := #[] } false false hops age ha0 ha1 x n v bo 200 cl g U ub ((hbel.block m hml).trans ((heap_put_other W b 82 _ m hne).trans hm)) hne hx hq
      ((hK.put hk 82 _).below (by rw [size_put]; exact hbel)) hnl hvl hmay (htab U hbel) (hmax U hbel) u0 u1
  rw [← hsv] at c1
  have LN : Hid (∀ U : World, U.cell? ⟨g, 0, none⟩ = some (.string (strB x)) → U.cell? ⟨g, 1, none⟩ = some (.string (strB sv)) →
      Calls Tryz.prog 18 #[.slice (some ⟨g, 0, none⟩) 1 1, .string { data := #[67, 111, 110, 116, 101, 110, 116, 45, 84, 121, 112, 101] }] U fun e w' => e = .returned (.tuple #[.string { data := #[] }, .int .i64 0]) ∧ Below U.heap.size U w') := by
    intro U u0 u1
    exact lookup_no x [67, 111, 110, 116, 101, 110, 116, 45, 84, 121, 112, 101] (strB sv) g 1 U hx (by decide) (by omega) (by rw [hq]; decide) u0 u1
  clear hm hq htab hmax hsv hK hmay
  have nb0 : ¬ b = W.heap.size := (by omega); have nb1 : ¬ b = W.heap.size + 1 := (by omega); have nb2 : ¬ b = W.heap.size + 1 + 1 := (by omega); have nb3 : ¬ b = W.heap.size + 1 + 1 + 1 := (by omega); have hb1 : b < W.heap.size + 1 := (by omega); have hb2 : b < W.heap.size + 1 + 1 := (by omega); have hb3 : b < W.heap.size + 1 + 1 + 1 := (by omega); have hb4 : b < W.heap.size + 1 + 1 + 1 + 1 := (by omega); have lb0 : b ≤ W.heap.size := (by omega); have lb1 : b ≤ W.heap.size + 1 := (by omega); have lb2 : b ≤ W.heap.size + 1 + 1 := (by omega); have lb3 : b ≤ W.heap.size + 1 + 1 + 1 := (by omega); have lb4 : b ≤ W.heap.size + 1 + 1 + 1 + 1 := (by omega)
  have nb0 : ¬ g = W.heap.size := (by omega); have nb1 : ¬ g = W.heap.size + 1 := (by omega); have nb2 : ¬ g = W.heap.size + 1 + 1 := (by omega); have nb3 : ¬ g = W.heap.size + 1 + 1 + 1 := (by omega); have hb1 : g < W.heap.size + 1 := (by omega); have hb2 : g < W.heap.size + 1 + 1 := (by omega); have hb3 : g < W.heap.size + 1 + 1 + 1 := (by omega); have hb4 : g < W.heap.size + 1 + 1 + 1 + 1 := (by omega); have lb0 : g ≤ W.heap.size := (by omega); have lb1 : g ≤ W.heap.size + 1 := (by omega); have lb2 : g ≤ W.heap.size + 1 + 1 := (by omega); have lb3 : g ≤ W.heap.size + 1 + 1 + 1 := (by omega); have lb4 : g ≤ W.heap.size + 1 + 1 + 1 + 1 := (by omega)
  have nb0 : ¬ m = W.heap.size := (by omega); have nb1 : ¬ m = W.heap.size + 1 := (by omega); have nb2 : ¬ m = W.heap.size + 1 + 1 := (by omega); have nb3 : ¬ m = W.heap.size + 1 + 1 + 1 := (by omega); have hb1 : m < W.heap.size + 1 := (by omega); have hb2 : m < W.heap.size + 1 + 1 := (by omega); have hb3 : m < W.heap.size + 1 + 1 + 1 := (by omega); have hb4 : m < W.heap.size + 1 + 1 + 1 + 1 := (by omega); have lb0 : m ≤ W.heap.size := (by omega); have lb1 : m ≤ W.heap.size + 1 := (by omega); have lb2 : m ≤ W.heap.size + 1 + 1 := (by omega); have lb3 : m ≤ W.heap.size + 1 + 1 + 1 := (by omega); have lb4 : m ≤ W.heap.size + 1 + 1 + 1 + 1 := (by omega)
  by_cases hlt : t < now
  · obtain rfl : T = now := by omega
    have hmx : decide (t < T) = true := by simp; omega
    have hmm : max t T = T := by omega
    clear hT
    go_enter Tryz.func11, Tryz.ntmps11
    go_wp2_with fail
    refine (KP.out _ ?_ ?_ ?_ ?_).mono ?_
    · rw [heap_alloc_old _ _ (by simp [go_sem]; omega), heap_alloc_old _ _ (by simp [go_sem]; omega), heap_put _ _ _ _ hb]
    · go_simp
    · go_simp
    · exact (by repeat (first | exact Below.refl _ _ | refine Below.alloc ?_ (by simp [go_sem]) _ | refine below_ext ?_ (by simp [go_sem]) _ _ | refine below_drewN ?_ _ | refine Below.drew ?_))
    rintro e w1 ⟨rfl, hb1⟩
    rw [hset_alloc _ _ _ _ (by simp [go_sem]; omega), hset_alloc _ _ _ _ (by simp [go_sem]; omega)] at hb1
    obtain ⟨X1, n1, rfl⟩ := Below_ext' hb1 (by simp [go_sem])
    clear hb1
    go_wp2_with fail
    refine (LN.out _ ?_ ?_).mono ?_
    · go_simp
    · go_simp
    rintro e w1 ⟨rfl, hb1⟩
    obtain ⟨X2, n2, rfl⟩ := Below_ext hb1; clear hb1
    go_wp2_with fail
    refine bodyPost_ret (v := .tuple #[.agg #[.string { data := #[] }, .string { data := #[] }, .int .i64 0, .slice none 0 0, .string { data := #[] }, .bool false], .int .i64 0, .nilIface]) ?_ (by rfl) ?_
    · simp [results, Tryz.results11, go_sem]
    · exact ⟨rfl, (by repeat (first | exact Below.refl _ _ | refine Below.alloc ?_ (by simp [go_sem]) _ | refine below_ext ?_ (by simp [go_sem]) _ _ | refine below_drewN ?_ _ | refine Below.drew ?_))⟩
  · obtain rfl : T = t := by omega
    have hmx : decide (T < now) = false := by simp; omega
    have hmm : max T now = T := by omega
    clear hT
    go_enter Tryz.func11, Tryz.ntmps11
    go_wp2_with fail
    refine (KP.out _ ?_ ?_ ?_ ?_).mono ?_
    · rw [heap_alloc_old _ _ (by simp [go_sem]; omega), heap_alloc_old _ _ (by simp [go_sem]; omega), heap_put _ _ _ _ hb]
    · go_simp
    · go_simp
    · exact (by repeat (first | exact Below.refl _ _ | refine Below.alloc ?_ (by simp [go_sem]) _ | refine below_ext ?_ (by simp [go_sem]) _ _ | refine below_drewN ?_ _ | refine Below.drew ?_))
    rintro e w1 ⟨rfl, hb1⟩
    rw [hset_alloc _ _ _ _ (by simp [go_sem]; omega), hset_alloc _ _ _ _ (by simp [go_sem]; omega)] at hb1
    obtain ⟨X1, n1, rfl⟩ := Below_ext' hb1 (by simp [go_sem])
    clear hb1
    go_wp2_with fail
    refine (LN.out _ ?_ ?_).mono ?_
    · go_simp
    · go_simp
    rintro e w1 ⟨rfl, hb1⟩
    obtain ⟨X2, n2, rfl⟩ := Below_ext hb1; clear hb1
    go_wp2_with fail
    refine bodyPost_ret (v := .tuple #[.agg #[.string { data := #[] }, .string { data := #[] }, .int .i64 0, .slice none 0 0, .string { data := #[] }, .bool false], .int .i64 0, .nilIface]) ?_ (by rfl) ?_
    · simp [results, Tryz.results11, go_sem]
    · exact ⟨rfl, (by repeat (first | exact Below.refl _ _ | refine Below.alloc ?_ (by simp [go_sem]) _ | refine below_ext ?_ (by simp [go_sem]) _ _ | refine below_drewN ?_ _ | refine Below.drew ?_))⟩
theorem take_one_at (b m g : Nat) (t now T : Int) (html wh bo : ByteArray) (x n v : List UInt8) (age : Int) (there cl : Bool) (hops : Int) (V : World) (hV : V.heap[b]? = some (.cells ([.map (some m), .int .i64 t, .string html, .bool there, .string wh, .bool true, .int .i64 hops]).toArray 82)) (hm : V.heap[m]? = some (.map #[] 0)) (hne : m ≠ b) (hgb : g ≠ b) (hgm : g ≠ m) (hT : T = max t now)
    (ha0 : -1 ≤ age) (ha1 : age ≤ 9223372036854775807) (hx : x.length ≤ maxLen) (hq : lowL x = lowL setCookieL) (hK : Kinds V) (hk : b ≠ 15) (hnl : n.length ≤ 1073741824) (hvl : v.length ≤ 1073741824) (hmay : cmayB n v = true)
    (htab : ∀ U : World, Below V.heap.size (put V b 82 [.map (some m), .int .i64 T, .string { data := #[] }, .bool false, .string { data := #[] }, .bool false, .int .i64 hops]) U → Lib.TabIs Tryz.prog U "internal/strconv.uint64pow10" .u64 Lib.pow10Tab)
    (hmax : ∀ U : World, Below V.heap.size (put V b 82 [.map (some m), .int .i64 T, .string { data := #[] }, .bool false, .string { data := #[] }, .bool false, .int .i64 hops]) U → MaxLenIs U)
    (c0 : V.cell? ⟨g, 0, none⟩ = some (.string (strB x))) (c1 : V.cell? ⟨g, 1, none⟩ = some (.string (strB (setL n v age)))) :
    Calls Tryz.prog 11 #[.pointer (some ⟨b, 0, none⟩), .int .i64 now, .agg #[.int .i64 200, .slice (some ⟨g, 0, none⟩) 1 1, .string bo, .bool cl]] V fun e w' =>
      e = .returned (.tuple #[.agg #[.string { data := #[] }, .string { data := #[] }, .int .i64 0, .slice none 0 0, .string { data := #[] }, .bool false], .int .i64 0, .nilIface]) ∧ Below V.heap.size (hset (put V b 82 [.map (some m), .int .i64 T, .string { data := #[] }, .bool false, .string { data := #[] }, .bool false, .int .i64 hops]) m (jarObj (jarOf n v age T))) w' := by
  have h := take_one b m g t now T html wh bo x n v age there cl hops V (Array.getElem?_eq_some_iff.1 hV).1 hm hne hgb hgm hT ha0 ha1 hx hq hK hk hnl hvl hmay htab hmax c0 c1
  rw [← eq_put V b 82 _ hV] at h
  exact h
end Go.Proofs.YtmeahkijpipgnaaGreatDoor
