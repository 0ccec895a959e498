/- The agent with an empty jar: too many redirects; fields that set no cookie; no page; a new one. -/
import Derived.Test.YtmeahkijpipgnaaGreatDoorAh
import Derived.RegionTactic
import Derived.ChangeAlike
namespace Go.Proofs.YtmeahkijpipgnaaGreatDoor
open Go Go.RowKit

set_option maxHeartbeats 2000000 in
theorem follow_many (b m : Nat) (t : Int) (html wh : ByteArray) (tg : List UInt8) (there waits : Bool) (hops : Int) (W : World) (A : Nat → Addr) (hb : b < W.heap.size) (h3 : W.cell? ⟨3, 0, none⟩ = some (errV (A 3))) (hn3 : 3 ≠ b) (htg : tg.length ≤ maxLen) (hp : placeB tg = true) (h0 : 10 ≤ hops) :
    Calls Tryz.prog 31 #[.pointer (some ⟨b, 0, none⟩), .string (strB tg)] (put W b 82 [.map (some m), .int .i64 t, .string html, .bool there, .string wh, .bool waits, .int .i64 hops]) fun e w' =>
      e = .returned (.tuple #[.agg #[.string { data := #[] }, .string { data := #[] }, .int .i64 0, .slice none 0 0, .string { data := #[] }, .bool false], .int .i64 0, errV (A 3)]) ∧ Below W.heap.size (put W b 82 [.map (some m), .int .i64 t, .string html, .bool there, .string wh, .bool waits, .int .i64 hops]) w' := by
  have HP : Hid (∀ V : World, Calls Tryz.prog 28 #[.string (strB tg)] V fun e w' => e = .returned (.bool true) ∧ V = w') := fun V => by rw [← hp]; exact place_any tg V htg
  have hlt : decide (10 ≤ hops) = true := by simp; omega
  have l3 : 3 < W.heap.size := World.block_lt_of_cell? W _ h3
  have hn3' : ¬ 3 = b := hn3
  clear hp
  unfold errV at *
  have nb0 : ¬ b = W.heap.size := (by omega); have nb1 : ¬ b = W.heap.size + 1 := (by omega); have nb2 : ¬ b = W.heap.size + 1 + 1 := (by omega); have nb3 : ¬ b = W.heap.size + 1 + 1 + 1 := (by omega); have hb1 : b < W.heap.size + 1 := (by omega); have hb2 : b < W.heap.size + 1 + 1 := (by omega); have hb3 : b < W.heap.size + 1 + 1 + 1 := (by omega); have hb4 : b < W.heap.size + 1 + 1 + 1 + 1 := (by omega); have lb0 : b ≤ W.heap.size := (by omega); have lb1 : b ≤ W.heap.size + 1 := (by omega); have lb2 : b ≤ W.heap.size + 1 + 1 := (by omega); have lb3 : b ≤ W.heap.size + 1 + 1 + 1 := (by omega); have lb4 : b ≤ W.heap.size + 1 + 1 + 1 + 1 := (by omega)
  go_enter Tryz.func31, Tryz.ntmps31
  go_wp2_with fail
  refine (HP.out _).mono ?_
  rintro e w1 ⟨rfl, rfl⟩
  go_wp2_with fail
  go_region
  go_wp2_with fail
  refine bodyPost_ret (v := .tuple #[.agg #[.string { data := #[] }, .string { data := #[] }, .int .i64 0, .slice none 0 0, .string { data := #[] }, .bool false], .int .i64 0, .iface 250 (.pointer (some (A 3)))]) ?_ (by rfl) ?_
  · simp [results, Tryz.results31, go_sem]
  · exact ⟨rfl, (by repeat (first | exact Below.refl _ _ | refine Below.alloc ?_ (by simp [go_sem]) _ | refine below_ext ?_ (by simp [go_sem]) _ _ | refine below_drewN ?_ _ | refine Below.drew ?_))⟩

/-- Two requests that are nothing are the same. -/
theorem pairs_none (w : World) : Calls Tryz.prog 34 #[.slice none 0 0, .slice none 0 0] w fun e w' => e = .returned (.bool true) ∧ w = w' := by
  go_enter Tryz.func34, Tryz.ntmps34
  go_wp2_with fail
  go_loopg [5] 1 (fun g v5 wr => v5 = .int .i64 0 ∧ wr = w ∧ 0 < g)
  case atStart => exact ⟨rfl, rfl, by omega⟩
  case round =>
    obtain ⟨rfl, rfl, hg⟩ := hrel
    go_wp2_with fail
    go_ret
    exact ⟨rfl, rfl⟩
theorem same_none (w : World) : Calls Tryz.prog 12 #[.agg #[.string { data := #[] }, .string { data := #[] }, .int .i64 0, .slice none 0 0, .string { data := #[] }, .bool false], .agg #[.string { data := #[] }, .string { data := #[] }, .int .i64 0, .slice none 0 0, .string { data := #[] }, .bool false]] w fun e w' => e = .returned (.bool true) ∧ Below w.heap.size w w' := by
  go_enter Tryz.func12, Tryz.ntmps12
  go_wp2_with fail
  refine (pairs_none _).mono ?_
  rintro e w1 ⟨rfl, rfl⟩
  go_wp2_with fail
  go_ret
  exact ⟨rfl, (by repeat (first | exact Below.refl _ _ | refine Below.alloc ?_ (by simp [go_sem]) _ | refine below_ext ?_ (by simp [go_sem]) _ _ | refine below_drewN ?_ _ | refine Below.drew ?_))⟩
theorem page_none (b m : Nat) (t : Int) (html wh : ByteArray) (waits : Bool) (hops : Int) (W : World) (hb : b < W.heap.size) :
    Calls Tryz.prog 14 #[.pointer (some ⟨b, 0, none⟩)] (put W b 82 [.map (some m), .int .i64 t, .string html, .bool false, .string wh, .bool waits, .int .i64 hops]) fun e w' =>
      e = .returned (.tuple #[.agg #[.string { data := #[] }, .slice none 0 0, .slice none 0 0], .bool false]) ∧ Below W.heap.size (put W b 82 [.map (some m), .int .i64 t, .string html, .bool false, .string wh, .bool waits, .int .i64 hops]) w' := by
  have nb0 : ¬ b = W.heap.size := (by omega); have nb1 : ¬ b = W.heap.size + 1 := (by omega); have nb2 : ¬ b = W.heap.size + 1 + 1 := (by omega); have nb3 : ¬ b = W.heap.size + 1 + 1 + 1 := (by omega); have hb1 : b < W.heap.size + 1 := (by omega); have hb2 : b < W.heap.size + 1 + 1 := (by omega); have hb3 : b < W.heap.size + 1 + 1 + 1 := (by omega); have hb4 : b < W.heap.size + 1 + 1 + 1 + 1 := (by omega); have lb0 : b ≤ W.heap.size := (by omega); have lb1 : b ≤ W.heap.size + 1 := (by omega); have lb2 : b ≤ W.heap.size + 1 + 1 := (by omega); have lb3 : b ≤ W.heap.size + 1 + 1 + 1 := (by omega); have lb4 : b ≤ W.heap.size + 1 + 1 + 1 + 1 := (by omega)
  go_enter Tryz.func14, Tryz.ntmps14
  go_wp2_with fail
  refine bodyPost_ret (v := .tuple #[.agg #[.string { data := #[] }, .slice none 0 0, .slice none 0 0], .bool false]) ?_ (by rfl) ?_
  · simp [results, Tryz.results14, go_sem]
  · exact ⟨rfl, (by repeat (first | exact Below.refl _ _ | refine Below.alloc ?_ (by simp [go_sem]) _ | refine below_ext ?_ (by simp [go_sem]) _ _ | refine below_drewN ?_ _ | refine Below.drew ?_))⟩
theorem new_any (w : World) : Calls Tryz.prog 7 #[] w fun e w' => e = .returned (.pointer (some ⟨w.heap.size + 1, 0, none⟩)) ∧ w' = (w.alloc (.map #[] 0)).alloc (.cells ([.map (some w.heap.size), .int .i64 0, .string { data := #[] }, .bool false, .string { data := #[] }, .bool false, .int .i64 0]).toArray 82) := by
  have hmm := @run_makeMap Tryz.prog
  go_enter Tryz.func7, Tryz.ntmps7
  go_wp2_with fail
  go_ret
  exact ⟨rfl, rfl⟩
def setCookieL : List UInt8 := [83, 101, 116, 45, 67, 111, 111, 107, 105, 101]
set_option maxRecDepth 100000 in
set_option maxHeartbeats 2000000 in
/-- A field of another name sets no cookie. -/
theorem keep_plain (p : Value) (x : List UInt8) (v bo : ByteArray) (st : Int) (cl : Bool) (g : Nat) (V : World) (hx : x.length ≤ maxLen) (hq : lowL x ≠ lowL setCookieL)
    (c0 : V.cell? ⟨g, 0, none⟩ = some (.string (strB x))) (c1 : V.cell? ⟨g, 1, none⟩ = some (.string v)) :
    Calls Tryz.prog 30 #[p, .agg #[.int .i64 st, .slice (some ⟨g, 0, none⟩) 1 1, .string bo, .bool cl]] V fun e w' => e = .returned (.tuple #[]) ∧ Below V.heap.size V w' := by
  have lg : g < V.heap.size := World.block_lt_of_cell? V _ c0
  have LK : Hid (∀ (h : Nat) (U : World), U.cell? ⟨h, 0, none⟩ = some (.string (strB x)) → U.cell? ⟨h, 1, none⟩ = some (.string v) →
      Calls Tryz.prog 18 #[.slice (some ⟨h, 0, none⟩) 1 1, .string { data := #[83, 101, 116, 45, 67, 111, 111, 107, 105, 101] }] U fun e w' => e = .returned (.tuple #[.string { data := #[] }, .int .i64 0]) ∧ Below U.heap.size U w') :=
    fun h U a b => lookup_no x setCookieL v h 1 U hx (by decide) (by omega) hq a b
  clear hq
  have nb0 : ¬ g = V.heap.size := (by omega); have nb1 : ¬ g = V.heap.size + 1 := (by omega); have nb2 : ¬ g = V.heap.size + 1 + 1 := (by omega); have nb3 : ¬ g = V.heap.size + 1 + 1 + 1 := (by omega); have hb1 : g < V.heap.size + 1 := (by omega); have hb2 : g < V.heap.size + 1 + 1 := (by omega); have hb3 : g < V.heap.size + 1 + 1 + 1 := (by omega); have hb4 : g < V.heap.size + 1 + 1 + 1 + 1 := (by omega); have lb0 : g ≤ V.heap.size := (by omega); have lb1 : g ≤ V.heap.size + 1 := (by omega); have lb2 : g ≤ V.heap.size + 1 + 1 := (by omega); have lb3 : g ≤ V.heap.size + 1 + 1 + 1 := (by omega); have lb4 : g ≤ V.heap.size + 1 + 1 + 1 + 1 := (by omega)
  go_enter Tryz.func30, Tryz.ntmps30
  go_wp2_with fail
  generalize hU : V.alloc _ = U
  have hB : Below V.heap.size V U := by rw [← hU]; exact (by repeat (first | exact Below.refl _ _ | refine Below.alloc ?_ (by simp [go_sem]) _ | refine below_ext ?_ (by simp [go_sem]) _ _ | refine below_drewN ?_ _ | refine Below.drew ?_))
  have d0 : U.cell? ⟨g, 0, none⟩ = some (.string (strB x)) := by rw [← hU]; simp [go_sem, c0, lg]
  have d1 : U.cell? ⟨g, 1, none⟩ = some (.string v) := by rw [← hU]; simp [go_sem, c1, lg]
  have lu : g < U.heap.size := World.block_lt_of_cell? U _ d0
  have HB := Lib.hid hB
  clear hU hB
  go_loopg [15] 2 (fun gg v15 wr => ∃ X n, wr = ext U X n ∧ ((v15 = .int .i64 0 ∧ 1 < gg) ∨ (v15 = .int .i64 1 ∧ 0 < gg)))
  case atStart => exact ⟨#[], U.drawn, by simp [ext], .inl ⟨rfl, by omega⟩⟩
  case round =>
    obtain ⟨X, n, rfl, ⟨rfl, hg⟩ | ⟨rfl, hg⟩⟩ := hrel
    · go_wp2_with fail
      refine (LK.out _ _ ?_ ?_).mono ?_
      · simp [go_sem]
      · simp [go_sem]
      rintro e w1 ⟨rfl, hb⟩
      obtain ⟨X2, n2, rfl⟩ := Below_ext hb; clear hb
      go_wp2_with fail
      obtain ⟨Y, k, hY⟩ := Below_ext (show Below U.heap.size U (ext (((ext U X n).alloc (Obj.cells #[Value.string (strB x), Value.string v] 40)).alloc (Obj.cells #[Value.string (strB x), Value.string v] 40)) X2 n2) from (by repeat (first | exact Below.refl _ _ | refine Below.alloc ?_ (by simp [go_sem]) _ | refine below_ext ?_ (by simp [go_sem]) _ _ | refine below_drewN ?_ _ | refine Below.drew ?_)))
      rw [hY]
      clear hY
      go_roundg 1
      case measure => omega
      case rel => exact ⟨Y, k, rfl, .inr ⟨rfl, by omega⟩⟩
    · go_wp2_with fail
      go_end0
      exact ⟨rfl, HB.out.trans ((ext_below _ _ _).mono HB.out.size)⟩
end Go.Proofs.YtmeahkijpipgnaaGreatDoor
