/- The cookies of a jar of one. -/
import Derived.Test.YtmeahkijpipgnaaGreatDoorAi
import Derived.Laws.IdiomRangeMap
namespace Go.Proofs.YtmeahkijpipgnaaGreatDoor
open Go Go.RowKit

/-- 'next' where nothing is left, wherever the iterator lies. -/
theorem run_next_done {P : Program} (W : World) (ty : TypeId) (r bm since c0 clock : Nat) (seen : Array Nat) (es : Array MapEntry) (hr : W.heap[r]? = some (.mapIter (some bm) since seen c0)) (hb : W.heap[bm]? = some (.map es clock)) (hold : ∀ x ∈ es.toList, x.born < since) (hsc : since ≤ c0)
    (hl : leftOf es seen = #[]) : (Instr.next (.pointer (some ⟨r, 0, none⟩)) false ty).run P W = .ok (.tuple #[.bool false]) W := by
  unfold leftOf at hl
  simp only [Instr.next, getObj, Sem.run_bind, Sem.run, hr, hb, Result.andThen, next_test_false seen es since c0 hold hsc, Bool.false_eq_true, if_false, hl]
  simp [choose, Sem.run, Question.forced]
/-- 'next' of a map of one, at the start. -/
theorem run_next_one {P : Program} (w : World) (ty : TypeId) (m clock : Nat) (x : MapEntry) (hb : w.heap[m]? = some (.map #[x] clock)) (hx : x.born < clock) :
    (Instr.next (.pointer (some ⟨w.heap.size, 0, none⟩)) false ty).run P (w.alloc (.mapIter (some m) clock #[] clock)) = .ok (.tuple #[.bool true, x.key, x.val]) (w.alloc (.mapIter (some m) clock #[x.born] clock)) := by
  have hlt : m < w.heap.size := (Array.getElem?_eq_some_iff.1 hb).1
  have hb' : (w.alloc (.mapIter (some m) clock #[] clock)).heap[m]? = some (.map #[x] clock) := by rw [heap_alloc_old w _ hlt, hb]
  have hp : ∀ (h : Array Obj) (x y : Obj), (h.push x).setIfInBounds h.size y = h.push y := by
    intro h x y
    apply Array.toList_inj.1
    simp
  have hset : ∀ (a : Option Nat) (b : Nat) (c : Array Nat) (d : Nat) (o' : Obj), (setObj w.heap.size o').run P (w.alloc (.mapIter a b c d)) = .ok () (w.alloc o') := fun a b c d o' => by
    simp only [setObj, Sem.run]
    rw [heap_alloc_new]
    show Result.ok () ({ w.alloc (.mapIter a b c d) with heap := (w.heap.push (.mapIter a b c d)).setIfInBounds w.heap.size o' } : World) = _
    rw [hp]
    rfl
  simp only [Instr.next, getObj, Sem.run_bind, Sem.run, heap_alloc_new, hb', Result.andThen]
  simp [choose, Sem.run, Question.forced, hset, hx]
/-- Does a cookie last? -/
def lastsB (age at_ t : Int) : Bool := decide (age < 0) || decide (t - at_ < age)
set_option maxHeartbeats 1000000 in
theorem lasts_any (v : ByteArray) (age at_ t : Int) (w : World) (h0 : 0 ≤ at_) (h1 : at_ ≤ t) (h2 : t ≤ 9223372036854775807) (h3 : -9223372036854775808 ≤ age) (h4 : age ≤ 9223372036854775807) :
    Calls Tryz.prog 61 #[.agg #[.string v, .int .i64 age, .int .i64 at_], .int .i64 t] w fun e w' => e = .returned (.bool (lastsB age at_ t)) ∧ Below w.heap.size w w' := by
  have hb0 : -9223372036854775808 ≤ t - at_ := by omega
  have hb1 : t - at_ ≤ 9223372036854775807 := by omega
  by_cases ha : age < 0
  · have HB : Hid (lastsB age at_ t = true) := by show _ = _; simp [lastsB, ha]
    go_enter Tryz.func61, Tryz.ntmps61
    go_wp2_with fail
    go_ret
    exact ⟨ret_bool HB.out.symm, (Below.refl _ _).alloc (Nat.le_refl _) _⟩
  · have HB : Hid (lastsB age at_ t = decide (t - at_ < age)) := by show _ = _; simp [lastsB, ha]
    go_enter Tryz.func61, Tryz.ntmps61
    go_wp2_with fail
    go_ret
    exact ⟨ret_bool HB.out.symm, (Below.refl _ _).alloc (Nat.le_refl _) _⟩
def crumbV (v : ByteArray) (age at_ : Int) : Value := .agg #[.string v, .int .i64 age, .int .i64 at_]
def entryOf (n v : ByteArray) (age at_ : Int) (born : Nat) : MapEntry := ⟨.string n, crumbV v age at_, born⟩
set_option maxHeartbeats 4000000 in
/-- The cookies of a jar of one, which lasts. -/
theorem cookies_yes (b m : Nat) (n v : ByteArray) (age at_ t : Int) (born clock : Nat) (w : World) (hc : w.cell? ⟨b, 0, none⟩ = some (.map (some m))) (hm : w.heap[m]? = some (.map #[entryOf n v age at_ born] clock)) (hbc : born < clock)
    (h0 : 0 ≤ at_) (h1 : at_ ≤ t) (h2 : t ≤ 9223372036854775807) (h3 : -9223372036854775808 ≤ age) (h4 : age ≤ 9223372036854775807) (hl : lastsB age at_ t = true) :
    Calls Tryz.prog 41 #[.pointer (some ⟨b, 0, none⟩), .int .i64 t] w fun e w' => (∃ g k, 1 ≤ k ∧ k ≤ maxLen ∧ e = .returned (.slice (some ⟨g, 0, none⟩) 1 k) ∧ w'.cell? ⟨g, 0, none⟩ = some (.string n) ∧ w'.cell? ⟨g, 1, none⟩ = some (.string v)) ∧ Below w.heap.size w w' := by
  have hr := run_range_map (P := Tryz.prog) w 80 9 123 m #[entryOf n v age at_ born] clock Tryz.underlying80 hm
  have hlt : m < w.heap.size := (Array.getElem?_eq_some_iff.1 hm).1
  have hn : (Instr.next (.pointer (some ⟨w.heap.size, 0, none⟩)) false 0).run Tryz.prog (w.alloc (.mapIter (some m) clock #[] clock)) = .ok (.tuple #[.bool true, .string n, crumbV v age at_]) (w.alloc (.mapIter (some m) clock #[born] clock)) := run_next_one w 0 m clock (entryOf n v age at_ born) hm hbc
  have hen : (Instr.entry (.pointer (some ⟨w.heap.size, 0, none⟩))).run Tryz.prog (w.alloc (.mapIter (some m) clock #[born] clock)) = .ok (.tuple #[.string n, .agg #[.string v, .int .i64 age, .int .i64 at_]]) (w.alloc (.mapIter (some m) clock #[born] clock)) :=
    run_entry_map (P := Tryz.prog) w m clock #[] #[entryOf n v age at_ born] clock (entryOf n v age at_ born) hm (by simp) (by simp)
  have LS := Lib.hid (fun V => lasts_any v age at_ t V h0 h1 h2 h3 h4)
  have HL := Lib.hid hl
  clear hl
  go_enter Tryz.func41, Tryz.ntmps41
  go_wp2_with fail
  clear hr
  go_loopg [5] 2 (fun g v5 wr => (v5 = .slice none 0 0 ∧ wr = w.alloc (.mapIter (some m) clock #[] clock) ∧ 1 < g) ∨ ((∃ b5 cap, v5 = .slice (some ⟨b5, 0, none⟩) 1 cap ∧ 1 ≤ cap ∧ cap ≤ maxLen ∧ wr.heap[w.heap.size]? = some (.mapIter (some m) clock #[born] clock) ∧ wr.heap[m]? = some (.map #[entryOf n v age at_ born] clock) ∧ wr.cell? ⟨b5, 0, none⟩ = some (.string n) ∧ wr.cell? ⟨b5, 1, none⟩ = some (.string v) ∧ Below w.heap.size w wr) ∧ 0 < g))
  case atStart => exact .inl ⟨rfl, rfl, by omega⟩
  case round =>
    rcases hrel with ⟨rfl, rfl, hg⟩ | ⟨⟨b5, cap, rfl, hc1, hc2, hit, hmm, hx0, hx1, hbel⟩, hg⟩
    · go_wp2_with fail
      refine (LS.out _).mono ?_
      rintro e w1 ⟨rfl, hb⟩
      obtain ⟨X, k, rfl⟩ := Below_ext hb; clear hb
      rw [HL.out]
      obtain ⟨V, hV⟩ : ∃ V, V = ext ((w.alloc (Obj.mapIter (some m) clock #[born] clock)).alloc (Obj.cells #[Value.string v, Value.int IntKind.i64 age, Value.int IntKind.i64 at_] 123)) X k := ⟨_, rfl⟩
      have hV1 : V.heap[w.heap.size]? = some (.mapIter (some m) clock #[born] clock) := by
        rw [hV, heap_ext _ _ _ _ (by simp [go_sem]), heap_alloc_old _ _ (by simp [go_sem])]; exact heap_alloc_new w _
      have hV2 : V.heap[m]? = some (.map #[entryOf n v age at_ born] clock) := by
        rw [hV, heap_ext _ _ _ _ (by simp [go_sem]; omega), heap_alloc_old _ _ (by simp [go_sem]; omega), heap_alloc_old _ _ hlt]; exact hm
      have hVb : Below w.heap.size w V := by rw [hV]; exact (by repeat (first | exact Below.refl _ _ | refine Below.alloc ?_ (by simp [go_sem]) _ | refine below_ext ?_ (by simp [go_sem]) _ _ | refine below_drewN ?_ _ | refine Below.drew ?_))
      have hV3 : w.heap.size < V.heap.size := (Array.getElem?_eq_some_iff.1 hV1).1
      have hc0 : V.cell? ⟨w.heap.size + 1, 0, none⟩ = some (.string v) := by rw [hV]; simp [go_sem]
      have hlV : m < V.heap.size := by omega
      have HV1 := Lib.hid hV1
      have HV2 := Lib.hid hV2
      have HVb := Lib.hid hVb
      rw [← hV]
      clear hV hV1 hV2 hVb hn hen
      go_wp2_with fail
      obtain ⟨cap, hcap⟩ : ∃ cap, cap = (Question.appendCap 1 0 40).cut (V.tape V.drawn (Question.appendCap 1 0 40)) := ⟨_, rfl⟩
      have hc1 : 1 ≤ cap ∧ cap ≤ maxLen := by
        rw [hcap]
        show 1 ≤ 1 + _ % (2 ^ 63 - 1) ∧ 1 + _ % (2 ^ 63 - 1) ≤ maxLen
        have := Nat.mod_lt (V.tape V.drawn (Question.appendCap 1 0 40)) (show 0 < 2 ^ 63 - 1 by decide)
        unfold maxLen
        omega
      rw [← hcap]
      clear hcap
      go_roundg 1
      case measure => omega
      case rel =>
        have hB : Below V.heap.size V ((V.alloc (Obj.cells #[Value.string n, Value.string v] 40)).alloc (Obj.cells (#[Value.string n, Value.string v] ++ Builtin.zeroCells #[Value.string { data := #[] }, Value.string { data := #[] }] (cap - 1)) 40)).drew := (by repeat (first | exact Below.refl _ _ | refine Below.alloc ?_ (by simp [go_sem]) _ | refine below_ext ?_ (by simp [go_sem]) _ _ | refine below_drewN ?_ _ | refine Below.drew ?_))
        refine .inr ⟨⟨_, _, rfl, hc1.1, hc1.2, (hB.block _ hV3).trans HV1.out, (hB.block _ hlV).trans HV2.out, ?_, ?_, HVb.out.trans (hB.mono (Nat.le_of_lt hV3))⟩, by omega⟩
        · rw [show ∀ W : World, ∀ p, W.drew.cell? p = W.cell? p from fun _ _ => rfl, World.cell?_alloc_at _ _ _ _ (by simp only [World.size_alloc]), Array.getElem?_append_left (by simp)]
          rfl
        · rw [show ∀ W : World, ∀ p, W.drew.cell? p = W.cell? p from fun _ _ => rfl, World.cell?_alloc_at _ _ _ _ (by simp only [World.size_alloc]), Array.getElem?_append_left (by simp)]
          rfl
    · have hn2 := run_next_done (P := Tryz.prog) wr 0 w.heap.size m clock clock clock #[born] #[entryOf n v age at_ born] hit hmm (by simp [entryOf]; exact hbc) (Nat.le_refl _) (by simp [leftOf, entryOf])
      have HB := Lib.hid hbel
      clear hbel
      go_wp2_with fail
      refine (sort_small _ _ 1 cap (by omega) _).mono ?_
      rintro e w1 ⟨rfl, rfl⟩
      go_wp2_with fail
      go_ret
      exact ⟨⟨_, _, hc1, hc2, rfl, hx0, hx1⟩, HB.out⟩
set_option maxHeartbeats 4000000 in
/-- The cookies of a jar of one, which lasts no longer. -/
theorem cookies_no (b m : Nat) (n v : ByteArray) (age at_ t : Int) (born clock : Nat) (w : World) (hc : w.cell? ⟨b, 0, none⟩ = some (.map (some m))) (hm : w.heap[m]? = some (.map #[entryOf n v age at_ born] clock)) (hbc : born < clock)
    (h0 : 0 ≤ at_) (h1 : at_ ≤ t) (h2 : t ≤ 9223372036854775807) (h3 : -9223372036854775808 ≤ age) (h4 : age ≤ 9223372036854775807) (hl : lastsB age at_ t = false) :
    Calls Tryz.prog 41 #[.pointer (some ⟨b, 0, none⟩), .int .i64 t] w fun e w' => e = .returned (.slice none 0 0) ∧ Below w.heap.size w w' := by
  have hr := run_range_map (P := Tryz.prog) w 80 9 123 m #[entryOf n v age at_ born] clock Tryz.underlying80 hm
  have hlt : m < w.heap.size := (Array.getElem?_eq_some_iff.1 hm).1
  have hn : (Instr.next (.pointer (some ⟨w.heap.size, 0, none⟩)) false 0).run Tryz.prog (w.alloc (.mapIter (some m) clock #[] clock)) = .ok (.tuple #[.bool true, .string n, crumbV v age at_]) (w.alloc (.mapIter (some m) clock #[born] clock)) := run_next_one w 0 m clock (entryOf n v age at_ born) hm hbc
  have hen : (Instr.entry (.pointer (some ⟨w.heap.size, 0, none⟩))).run Tryz.prog (w.alloc (.mapIter (some m) clock #[born] clock)) = .ok (.tuple #[.string n, .agg #[.string v, .int .i64 age, .int .i64 at_]]) (w.alloc (.mapIter (some m) clock #[born] clock)) :=
    run_entry_map (P := Tryz.prog) w m clock #[] #[entryOf n v age at_ born] clock (entryOf n v age at_ born) hm (by simp) (by simp)
  have LS := Lib.hid (fun V => lasts_any v age at_ t V h0 h1 h2 h3 h4)
  have HL := Lib.hid hl
  clear hl
  go_enter Tryz.func41, Tryz.ntmps41
  go_wp2_with fail
  clear hr
  go_loopg [5] 2 (fun g v5 wr => v5 = .slice none 0 0 ∧ ((wr = w.alloc (.mapIter (some m) clock #[] clock) ∧ 1 < g) ∨ (wr.heap[w.heap.size]? = some (.mapIter (some m) clock #[born] clock) ∧ wr.heap[m]? = some (.map #[entryOf n v age at_ born] clock) ∧ Below w.heap.size w wr ∧ 0 < g)))
  case atStart => exact ⟨rfl, .inl ⟨rfl, by omega⟩⟩
  case round =>
    obtain ⟨rfl, ⟨rfl, hg⟩ | ⟨hit, hmm, hbel, hg⟩⟩ := hrel
    · go_wp2_with fail
      refine (LS.out _).mono ?_
      rintro e w1 ⟨rfl, hb⟩
      obtain ⟨X, k, rfl⟩ := Below_ext hb; clear hb
      rw [HL.out]
      obtain ⟨V, hV⟩ : ∃ V, V = ext ((w.alloc (Obj.mapIter (some m) clock #[born] clock)).alloc (Obj.cells #[Value.string v, Value.int IntKind.i64 age, Value.int IntKind.i64 at_] 123)) X k := ⟨_, rfl⟩
      have hV1 : V.heap[w.heap.size]? = some (.mapIter (some m) clock #[born] clock) := by
        rw [hV, heap_ext _ _ _ _ (by simp [go_sem]), heap_alloc_old _ _ (by simp [go_sem])]; exact heap_alloc_new w _
      have hV2 : V.heap[m]? = some (.map #[entryOf n v age at_ born] clock) := by
        rw [hV, heap_ext _ _ _ _ (by simp [go_sem]; omega), heap_alloc_old _ _ (by simp [go_sem]; omega), heap_alloc_old _ _ hlt]; exact hm
      have hVb : Below w.heap.size w V := by rw [hV]; exact (by repeat (first | exact Below.refl _ _ | refine Below.alloc ?_ (by simp [go_sem]) _ | refine below_ext ?_ (by simp [go_sem]) _ _ | refine below_drewN ?_ _ | refine Below.drew ?_))
      have HV1 := Lib.hid hV1
      have HV2 := Lib.hid hV2
      have HVb := Lib.hid hVb
      rw [← hV]
      clear hV hV1 hV2 hVb hn hen
      go_wp2_with fail
      go_roundg 1
      case measure => omega
      case rel => exact ⟨rfl, .inr ⟨HV1.out, HV2.out, HVb.out, by omega⟩⟩
    · have hn2 := run_next_done (P := Tryz.prog) wr 0 w.heap.size m clock clock clock #[born] #[entryOf n v age at_ born] hit hmm (by simp [entryOf]; exact hbc) (Nat.le_refl _) (by simp [leftOf, entryOf])
      have HB := Lib.hid hbel
      clear hbel
      go_wp2_with fail
      refine (sort_small _ _ 0 0 (by omega) _).mono ?_
      rintro e w1 ⟨rfl, rfl⟩
      go_wp2_with fail
      go_ret
      exact ⟨rfl, HB.out⟩
end Go.Proofs.YtmeahkijpipgnaaGreatDoor
