/- AgentHops: the walk of the statement. -/
import Derived.Test.YtmeahkijpipgnaaGreatDoorAk
import Derived.Deep.RegionHeld3
import Derived.Deep.CutBlock
import Derived.Deep.CutRange
namespace Go.Proofs.YtmeahkijpipgnaaGreatDoor
open Go Go.RowKit

/-! The same, where the agent stands in the memory at hand. -/
theorem take_follow_at (b m g : Nat) (t now st : Int) (html wh bo : ByteArray) (x tg : List UInt8) (there cl : Bool) (hops : Int) (V : World) (hV : V.heap[b]? = some (.cells ([.map (some m), .int .i64 t, .string html, .bool there, .string wh, .bool true, .int .i64 hops]).toArray 82)) (hm : V.heap[m]? = some (.map #[] 0)) (hne : m ≠ b) (hst : st = 302 ∨ st = 303)
    (hx : x.length ≤ maxLen) (hlo : lowL x = lowL [76, 111, 99, 97, 116, 105, 111, 110]) (htg : tg.length ≤ maxLen) (hp : placeB tg = true) (h0 : 0 ≤ hops) (h1 : hops < 10) (hgb : g ≠ b) (hnt : now ≤ t)
    (c0 : V.cell? ⟨g, 0, none⟩ = some (.string (strB x))) (c1 : V.cell? ⟨g, 1, none⟩ = some (.string (strB tg))) :
    Calls Tryz.prog 11 #[.pointer (some ⟨b, 0, none⟩), .int .i64 now, .agg #[.int .i64 st, .slice (some ⟨g, 0, none⟩) 1 1, .string bo, .bool cl]] V fun e w' =>
      (∃ h : Nat, e = .returned (.tuple #[.agg #[.string (({ data := #[71, 69, 84] } : ByteArray)), .string (strB tg), .int .i64 1, (.slice (some ⟨h, 0, none⟩) 1 1), .string { data := #[] }, .bool false], .int .i64 1, .nilIface])) ∧ Below V.heap.size (put V b 82 [.map (some m), .int .i64 t, .string { data := #[] }, .bool false, .string { data := #[] }, .bool true, .int .i64 (hops + 1)]) w' := by
  have h := take_follow b m g t now st html wh bo x tg there cl hops V (Array.getElem?_eq_some_iff.1 hV).1 hm hne hst hx hlo htg hp h0 h1 hgb hnt c0 c1
  rw [← eq_put V b 82 _ hV] at h
  exact h
theorem take_many_at (b m g : Nat) (t now st : Int) (html wh bo : ByteArray) (x tg : List UInt8) (there cl : Bool) (hops : Int) (V : World) (hV : V.heap[b]? = some (.cells ([.map (some m), .int .i64 t, .string html, .bool there, .string wh, .bool true, .int .i64 hops]).toArray 82)) (hm : V.heap[m]? = some (.map #[] 0)) (hne : m ≠ b) (hst : st = 302 ∨ st = 303)
    (hx : x.length ≤ maxLen) (hlo : lowL x = lowL [76, 111, 99, 97, 116, 105, 111, 110]) (htg : tg.length ≤ maxLen) (hp : placeB tg = true) (h0 : 10 ≤ hops) (A : Nat → Addr) (h3 : V.cell? ⟨3, 0, none⟩ = some (errV (A 3))) (hn3 : 3 ≠ b) (hgb : g ≠ b) (hnt : now ≤ t)
    (c0 : V.cell? ⟨g, 0, none⟩ = some (.string (strB x))) (c1 : V.cell? ⟨g, 1, none⟩ = some (.string (strB tg))) :
    Calls Tryz.prog 11 #[.pointer (some ⟨b, 0, none⟩), .int .i64 now, .agg #[.int .i64 st, .slice (some ⟨g, 0, none⟩) 1 1, .string bo, .bool cl]] V fun e w' =>
      e = .returned (.tuple #[.agg #[.string { data := #[] }, .string { data := #[] }, .int .i64 0, .slice none 0 0, .string { data := #[] }, .bool false], .int .i64 0, errV (A 3)]) ∧ Below V.heap.size (put V b 82 [.map (some m), .int .i64 t, .string { data := #[] }, .bool false, .string { data := #[] }, .bool false, .int .i64 hops]) w' := by
  have h := take_many b m g t now st html wh bo x tg there cl hops V (Array.getElem?_eq_some_iff.1 hV).1 hm hne hst hx hlo htg hp h0 A h3 hn3 hgb hnt c0 c1
  rw [← eq_put V b 82 _ hV] at h
  exact h
theorem take_lost_at (b m : Nat) (t now st : Int) (html wh bo : ByteArray) (sl : Option Addr) (n c : Nat) (there cl : Bool) (hops : Int) (V : World) (A : Nat → Addr) (hV : V.heap[b]? = some (.cells ([.map (some m), .int .i64 t, .string html, .bool there, .string wh, .bool false, .int .i64 hops]).toArray 82)) (h1 : V.cell? ⟨1, 0, none⟩ = some (errV (A 1))) (hn1 : 1 ≠ b) :
    Calls Tryz.prog 11 #[.pointer (some ⟨b, 0, none⟩), .int .i64 now, .agg #[.int .i64 st, .slice sl n c, .string bo, .bool cl]] V fun e w' =>
      e = .returned (.tuple #[.agg #[.string { data := #[] }, .string { data := #[] }, .int .i64 0, .slice none 0 0, .string { data := #[] }, .bool false], .int .i64 0, errV (A 1)]) ∧ Below V.heap.size V w' := by
  have h := take_lost b m t now st html wh bo sl n c there cl hops V A (Array.getElem?_eq_some_iff.1 hV).1 h1 hn1
  rw [← eq_put V b 82 _ hV] at h
  exact h
theorem page_none_at (b m : Nat) (t : Int) (html wh : ByteArray) (waits : Bool) (hops : Int) (V : World) (hV : V.heap[b]? = some (.cells ([.map (some m), .int .i64 t, .string html, .bool false, .string wh, .bool waits, .int .i64 hops]).toArray 82)) :
    Calls Tryz.prog 14 #[.pointer (some ⟨b, 0, none⟩)] V fun e w' => e = .returned (.tuple #[.agg #[.string { data := #[] }, .slice none 0 0, .slice none 0 0], .bool false]) ∧ Below V.heap.size V w' := by
  have h := page_none b m t html wh waits hops V (Array.getElem?_eq_some_iff.1 hV).1
  rw [← eq_put V b 82 _ hV] at h
  exact h
theorem visit_at (b m : Nat) (t now T : Int) (html wh : ByteArray) (tg : List UInt8) (there waits : Bool) (hops : Int) (V : World) (hV : V.heap[b]? = some (.cells ([.map (some m), .int .i64 t, .string html, .bool there, .string wh, .bool waits, .int .i64 hops]).toArray 82)) (hm : V.heap[m]? = some (.map #[] 0)) (hne : m ≠ b) (htg : tg.length ≤ maxLen) (hp : placeB tg = true) (hT : T = max t now) :
    Calls Tryz.prog 8 #[.pointer (some ⟨b, 0, none⟩), .int .i64 now, .string (strB tg)] V fun e w' =>
      (∃ h : Nat, e = .returned (.tuple #[.agg #[.string (({ data := #[71, 69, 84] } : ByteArray)), .string (strB tg), .int .i64 1, (.slice (some ⟨h, 0, none⟩) 1 1), .string { data := #[] }, .bool false], .nilIface])) ∧ Below V.heap.size (put V b 82 [.map (some m), .int .i64 T, .string html, .bool there, .string wh, .bool true, .int .i64 0]) w' := by
  have h := visit_go b m t now T html wh tg there waits hops V (Array.getElem?_eq_some_iff.1 hV).1 hm hne htg hp hT
  rw [← eq_put V b 82 _ hV] at h
  exact h

/-- What stands while the agent is led on: the memory from before, the argument's box, the empty jar, the agent. -/
structure HInv (w : World) (bx m b : Nat) (v0 v1 : Value) (now : Int) (L : List Value) (wr : World) : Prop where
  below : Below w.heap.size w wr
  x0 : wr.cell? ⟨bx, 0, none⟩ = some v0
  x1 : wr.cell? ⟨bx, 1, none⟩ = some v1
  x2 : wr.cell? ⟨bx, 2, none⟩ = some (.int .i64 now)
  mp : wr.heap[m]? = some (.map #[] 0)
  ag : wr.heap[b]? = some (.cells L.toArray 82)
theorem HInv.keep {w wr V : World} {bx m b : Nat} {v0 v1 : Value} {now : Int} {L : List Value} (h : HInv w bx m b v0 v1 now L wr) (hv : Below wr.heap.size wr V) : HInv w bx m b v0 v1 now L V := by
  obtain ⟨h1, h2, h3, h4, h5, h6⟩ := h
  exact ⟨h1.trans (hv.mono h1.size), (hv.cell (p := ⟨bx, 0, none⟩) (World.block_lt_of_cell? wr _ h2)).trans h2, (hv.cell (p := ⟨bx, 1, none⟩) (World.block_lt_of_cell? wr _ h3)).trans h3, (hv.cell (p := ⟨bx, 2, none⟩) (World.block_lt_of_cell? wr _ h4)).trans h4,
    (hv.block m (Array.getElem?_eq_some_iff.1 h5).1).trans h5, (hv.block b (Array.getElem?_eq_some_iff.1 h6).1).trans h6⟩
theorem HInv.turn {w V w' : World} {bx m b : Nat} {v0 v1 : Value} {now : Int} {L : List Value} (M : List Value) (h : HInv w bx m b v0 v1 now L V) (hb : Below V.heap.size (put V b 82 M) w') (hbx : bx ≠ b) (hm : m ≠ b) (hw : w.heap.size ≤ b) : HInv w bx m b v0 v1 now M w' := by
  have hlb := (Array.getElem?_eq_some_iff.1 h.ag).1
  have hp : HInv w bx m b v0 v1 now M (put V b 82 M) := by
    obtain ⟨h1, h2, h3, h4, h5, h6⟩ := h
    exact ⟨below_put V b 82 M h1 hw, (cell?_put_other V b 82 M bx 0 hbx).trans h2, (cell?_put_other V b 82 M bx 1 hbx).trans h3, (cell?_put_other V b 82 M bx 2 hbx).trans h4, (heap_put_other V b 82 M m hm).trans h5, heap_put V b 82 M hlb⟩
  exact hp.keep (hb.mono (by rw [size_put]; exact Nat.le_refl _))
/-- The agent's cells ahead of its j-th answer. -/
def hopL (m : Nat) (T : Int) (j : Nat) : List Value := if j ≤ 10 then [.map (some m), .int .i64 T, .string { data := #[] }, .bool false, .string { data := #[] }, .bool true, .int .i64 (j : Int)] else [.map (some m), .int .i64 T, .string { data := #[] }, .bool false, .string { data := #[] }, .bool false, .int .i64 10]

theorem placeB_slash : placeB [47] = true := by decide
theorem okc_sm (c : UInt8) (h : smc c = true) : okc c = true := by
  have := (smc_and c).1 h
  exact (okc_and c).2 (by omega)
theorem wordL_sm (l : List UInt8) : wordL l ≠ [] ∧ ∀ c ∈ wordL l, smc c = true := by
  unfold wordL
  split
  · exact ⟨by simp, by intro c hc; simp at hc; subst hc; decide⟩
  · rename_i h; exact ⟨h, fun c hc => (List.mem_filter.1 hc).2⟩
theorem wordL_len (l : List UInt8) : (wordL l).length ≤ l.length + 1 := by
  unfold wordL
  split
  · simp
  · exact Nat.le_succ_of_le (List.length_filter_le _ _)
theorem placeB_word (l : List UInt8) : placeB (47 :: wordL l) = true := by
  obtain ⟨h0, h1⟩ := wordL_sm l
  generalize wordL l = k at h0 h1
  cases k with
  | nil => exact absurd rfl h0
  | cons c k =>
    have hc := (smc_and c).1 (h1 c (by simp))
    have e1 : (c == 47) = false := by rw [beq_eq_false_iff_ne]; intro e; subst e; revert hc; decide
    have e2 : (c == 92) = false := by rw [beq_eq_false_iff_ne]; intro e; subst e; revert hc; decide
    have e3 : (47 == c) = false := by rw [BEq.comm]; exact e1
    have e4 : (92 == c) = false := by rw [BEq.comm]; exact e2
    unfold placeB
    have ha : (47 :: c :: k).all okc = true := by
      rw [List.all_eq_true]
      intro d hd
      rcases List.mem_cons.1 hd with rfl | hd
      · decide
      · exact okc_sm d (h1 d hd)
    rw [ha]
    simp [List.isPrefixOf, e3, e4]
end Go.Proofs.YtmeahkijpipgnaaGreatDoor
