/- What the agent keeps of one Set-Cookie field, its jar empty: an age that is not 0. -/
import Derived.Test.YtmeahkijpipgnaaGreatDoorBf
import Derived.WideMake
import Derived.Deep.RegionHeld3
import Derived.Test.YtmeahkijpipgnaaGreatDoorHset
import Derived.Test.YtmeahkijpipgnaaGreatDoorBh
namespace Go.Proofs.YtmeahkijpipgnaaGreatDoor
open Go Go.RowKit

/-- A look-up with 'comma ok' in an empty map. -/
theorem run_lookup_empty {P : Program} (w : World) {t k e : TypeId} {z : Value} (r clock : Nat) (ht : P.underlying t = some (.map k e)) (hk : P.underlying k = some .string) (hz : (zeroValue e).run P w = .ok z w) (hb : w.heap[r]? = some (.map #[] clock)) (s : ByteArray) : (Instr.lookup t (.map (some r)) (.string s) true).run P w = .ok (.tuple #[z, .bool false]) w := by
  have hf : Instr.findNow .string (.string s) ([] : List MapEntry) 0 = some none := rfl
  have hc : (Instr.checkKey true 10000 k (.string s)).run P w = .ok () w := MapKept.run_checkKey (k := .string s) hk (by simp [MapKept.IsKey]) true 9999
  simp [Instr.lookup, run_underlying ht, MapKept.run_getObj_map hb, hc, MapKept.run_findKey hk hf, Result.andThen, hz]
set_option maxRecDepth 100000 in
set_option maxHeartbeats 8000000 in
/-- An age that is not 0: the cookie is laid into the jar. -/
theorem keep_set (b m : Nat) (t : Int) (html wh : ByteArray) (there waits : Bool) (hops : Int) (age : Int) (ha : age ≠ 0) (ha0 : -1 ≤ age) (ha1 : age ≤ 9223372036854775807) (x n v : List UInt8) (bo : ByteArray) (st : Int) (cl : Bool) (g : Nat) (V : World) (hb0 : V.heap[b]? = some (.cells ([.map (some m), .int .i64 t, .string html, .bool there, .string wh, .bool waits, .int .i64 hops]).toArray 82)) (hm : V.heap[m]? = some (.map #[] 0)) (hne : m ≠ b)
    (hx : x.length ≤ maxLen) (hq : lowL x = lowL setCookieL) (hK : Kinds V) (hnl : n.length ≤ 1073741824) (hvl : v.length ≤ 1073741824) (hmay : cmayB n v = true)
    (htab : Lib.TabIs Tryz.prog V "internal/strconv.uint64pow10" .u64 Lib.pow10Tab) (hmax : MaxLenIs V)
    (c0 : V.cell? ⟨g, 0, none⟩ = some (.string (strB x))) (c1 : V.cell? ⟨g, 1, none⟩ = some (.string (strB (setL n v age)))) :
    Calls Tryz.prog 30 #[.pointer (some ⟨b, 0, none⟩), .agg #[.int .i64 st, .slice (some ⟨g, 0, none⟩) 1 1, .string bo, .bool cl]] V fun e w' => e = .returned (.tuple #[]) ∧ Below V.heap.size (hset V m (jarObj (some (n, v, age, t)))) w' := by
  have lg : g < V.heap.size := World.block_lt_of_cell? V _ c0
  obtain ⟨s, hs⟩ : ∃ s, s = setL n v age := ⟨_, rfl⟩
  have LK : Hid (∀ (h : Nat) (U : World), U.cell? ⟨h, 0, none⟩ = some (.string (strB x)) → U.cell? ⟨h, 1, none⟩ = some (.string (strB s)) →
      Calls Tryz.prog 18 #[.slice (some ⟨h, 0, none⟩) 1 1, .string { data := #[83, 101, 116, 45, 67, 111, 111, 107, 105, 101] }] U fun e w' => e = .returned (.tuple #[.string (strB s), .int .i64 1]) ∧ Below U.heap.size U w') :=
    fun h U a b => lookup_yes x setCookieL (strB s) h 1 U hx (by decide) (by omega) hq a b
  have RD : Hid (∀ U : World, Below V.heap.size V U → Calls Tryz.prog 60 #[.string (strB s)] U fun e w' => e = .returned (.tuple #[.agg #[.string (strB n), .string (strB v), .int .i64 age], .nilIface]) ∧ Below U.heap.size U w') := by
    intro U hU
    rw [hs]
    exact readSetCookie_ok n v age U (hK.below hU) hnl hvl ha0 ha1 hmay (Joins.tab_stays (g := 17) (by kernel_rfl) htab hU (Nat.le_refl _)) (hmax.below hU)
  rw [← hs] at c1
  clear hq hs htab hmax hK
  have nb0 : ¬ g = V.heap.size := (by omega); have nb1 : ¬ g = V.heap.size + 1 := (by omega); have nb2 : ¬ g = V.heap.size + 1 + 1 := (by omega); have nb3 : ¬ g = V.heap.size + 1 + 1 + 1 := (by omega); have hb1 : g < V.heap.size + 1 := (by omega); have hb2 : g < V.heap.size + 1 + 1 := (by omega); have hb3 : g < V.heap.size + 1 + 1 + 1 := (by omega); have hb4 : g < V.heap.size + 1 + 1 + 1 + 1 := (by omega); have lb0 : g ≤ V.heap.size := (by omega); have lb1 : g ≤ V.heap.size + 1 := (by omega); have lb2 : g ≤ V.heap.size + 1 + 1 := (by omega); have lb3 : g ≤ V.heap.size + 1 + 1 + 1 := (by omega); have lb4 : g ≤ V.heap.size + 1 + 1 + 1 + 1 := (by omega)
  go_enter Tryz.func30, Tryz.ntmps30
  go_wp2_with fail
  generalize hU : V.alloc _ = U
  have hB : Below V.heap.size V U := by rw [← hU]; exact (by repeat (first | exact Below.refl _ _ | refine Below.alloc ?_ (by simp [go_sem]) _ | refine below_ext ?_ (by simp [go_sem]) _ _ | refine below_drewN ?_ _ | refine Below.drew ?_))
  have d0 : U.cell? ⟨g, 0, none⟩ = some (.string (strB x)) := by rw [← hU]; simp [go_sem, c0, lg]
  have d1 : U.cell? ⟨g, 1, none⟩ = some (.string (strB s)) := by rw [← hU]; simp [go_sem, c1, lg]
  have lu : g < U.heap.size := World.block_lt_of_cell? U _ d0
  have ub : U.heap[b]? = some (.cells ([.map (some m), .int .i64 t, .string html, .bool there, .string wh, .bool waits, .int .i64 hops]).toArray 82) := (hB.block _ (Array.getElem?_eq_some_iff.1 hb0).1).trans hb0
  have um : U.heap[m]? = some (.map #[] 0) := (hB.block _ (Array.getElem?_eq_some_iff.1 hm).1).trans hm
  have HB := Lib.hid hB
  clear hU hB
  go_loopg [15] 2 (fun gg v15 wr => (∃ X i, wr = ext U X i ∧ v15 = .int .i64 0 ∧ 1 < gg) ∨ (∃ X i, wr = ext (hset U m (jarObj (some (n, v, age, t)))) X i ∧ v15 = .int .i64 1 ∧ 0 < gg))
  case atStart => exact .inl ⟨#[], U.drawn, by simp [ext], rfl, by omega⟩
  case round =>
    rcases hrel with ⟨X, i, rfl, rfl, hg⟩ | ⟨X, i, rfl, rfl, hg⟩
    · go_wp2_with fail
      refine (LK.out _ _ ?_ ?_).mono ?_
      · simp [go_sem]
      · simp [go_sem]
      rintro e w1 ⟨rfl, hb⟩
      obtain ⟨X2, n2, rfl⟩ := Below_ext hb; clear hb
      go_wp2_with fail
      have hE : Below U.heap.size U (ext (((ext U X i).alloc (Obj.cells #[Value.string (strB x), Value.string (strB s)] 40)).alloc (Obj.cells #[Value.string (strB x), Value.string (strB s)] 40)) X2 n2) := (by repeat (first | exact Below.refl _ _ | refine Below.alloc ?_ (by simp [go_sem]) _ | refine below_ext ?_ (by simp [go_sem]) _ _ | refine below_drewN ?_ _ | refine Below.drew ?_))
      refine (RD.out _ (HB.out.trans (hE.mono HB.out.size))).mono ?_
      rintro e w1 ⟨rfl, hb⟩
      obtain ⟨Y, j, hY⟩ := Below_ext (hE.trans (hb.mono hE.size))
      rw [hY]
      clear hY hb hE
      have hub : b < U.heap.size := (Array.getElem?_eq_some_iff.1 ub).1
      have ub0 : U.cell? ⟨b, 0, none⟩ = some (.map (some m)) := by rw [Lib.cell_of_heap ub]; rfl
      have um0 : ∀ q : Nat, (ext U Y q).heap[m]? = some (.map #[] 0) := fun q => (heap_ext U Y q m (Array.getElem?_eq_some_iff.1 um).1).trans um
      have DL : ∀ q, (Instr.lookup 80 (.map (some m)) (.string (strB n)) true).run Tryz.prog ((ext U Y q).alloc (Obj.cells #[.string (strB n), .string (strB v), .int .i64 age] 54)) = .ok (.tuple #[.agg #[.string { data := #[] }, .int .i64 0, .int .i64 0], .bool false]) ((ext U Y q).alloc (Obj.cells #[.string (strB n), .string (strB v), .int .i64 age] 54)) := fun q =>
        run_lookup_empty _ m 0 Tryz.underlying80 Tryz.underlying9 (Tryz.zeroValue123 _) ((heap_alloc_old _ _ (Array.getElem?_eq_some_iff.1 (um0 q)).1).trans (um0 q)) (strB n)
      have DL2 : ∀ q, (Instr.lookup 80 (.map (some m)) (.string (strB n)) true).run Tryz.prog ((ext U Y q).alloc (Obj.cells #[.string (strB n), .string (strB v), .int .i64 age] 54)).drew = .ok (.tuple #[.agg #[.string { data := #[] }, .int .i64 0, .int .i64 0], .bool false]) ((ext U Y q).alloc (Obj.cells #[.string (strB n), .string (strB v), .int .i64 age] 54)).drew := fun q =>
        run_lookup_empty ((ext U Y q).alloc (Obj.cells #[.string (strB n), .string (strB v), .int .i64 age] 54)).drew m 0 Tryz.underlying80 Tryz.underlying9 (Tryz.zeroValue123 _) ((heap_alloc_old _ _ (Array.getElem?_eq_some_iff.1 (um0 q)).1).trans (um0 q)) (strB n)
      have DL3 : ∀ q, (Instr.lookup 80 (.map (some m)) (.string (strB n)) true).run Tryz.prog (((ext U Y q).alloc (Obj.cells #[.string (strB n), .string (strB v), .int .i64 age] 54)).alloc (Obj.cells #[.string { data := #[] }, .int .i64 0, .int .i64 0] 123)).drew = .ok (.tuple #[.agg #[.string { data := #[] }, .int .i64 0, .int .i64 0], .bool false]) (((ext U Y q).alloc (Obj.cells #[.string (strB n), .string (strB v), .int .i64 age] 54)).alloc (Obj.cells #[.string { data := #[] }, .int .i64 0, .int .i64 0] 123)).drew := fun q => by
        have u2 := (heap_alloc_old (ext U Y q) (Obj.cells #[.string (strB n), .string (strB v), .int .i64 age] 54) (Array.getElem?_eq_some_iff.1 (um0 q)).1).trans (um0 q)
        exact run_lookup_empty (((ext U Y q).alloc (Obj.cells #[.string (strB n), .string (strB v), .int .i64 age] 54)).alloc (Obj.cells #[.string { data := #[] }, .int .i64 0, .int .i64 0] 123)).drew m 0 Tryz.underlying80 Tryz.underlying9 (Tryz.zeroValue123 _) ((heap_alloc_old _ _ (Array.getElem?_eq_some_iff.1 u2).1).trans u2) (strB n)
      clear um0
      have nb0 : ¬ b = (U.heap.size + Y.size) := (by omega); have nb1 : ¬ b = (U.heap.size + Y.size) + 1 := (by omega); have nb2 : ¬ b = (U.heap.size + Y.size) + 1 + 1 := (by omega); have nb3 : ¬ b = (U.heap.size + Y.size) + 1 + 1 + 1 := (by omega); have hb1 : b < (U.heap.size + Y.size) + 1 := (by omega); have hb2 : b < (U.heap.size + Y.size) + 1 + 1 := (by omega); have hb3 : b < (U.heap.size + Y.size) + 1 + 1 + 1 := (by omega); have hb4 : b < (U.heap.size + Y.size) + 1 + 1 + 1 + 1 := (by omega); have lb0 : b ≤ (U.heap.size + Y.size) := (by omega); have lb1 : b ≤ (U.heap.size + Y.size) + 1 := (by omega); have lb2 : b ≤ (U.heap.size + Y.size) + 1 + 1 := (by omega); have lb3 : b ≤ (U.heap.size + Y.size) + 1 + 1 + 1 := (by omega); have lb4 : b ≤ (U.heap.size + Y.size) + 1 + 1 + 1 + 1 := (by omega)
      have hby : b < U.heap.size + Y.size := (by omega)
      go_wp2_with fail
      go_region
      all_goals
        go_wp2_with fail
        obtain ⟨V2, hV2⟩ : ∃ V2, V2 = (((ext U Y j).alloc (Obj.cells #[.string (strB n), .string (strB v), .int .i64 age] 54)).alloc (Obj.cells #[.string { data := #[] }, .int .i64 0, .int .i64 0] 123)).drew := ⟨_, rfl⟩
        have k2 : Below U.heap.size U V2 := by rw [hV2]; exact (by repeat (first | exact Below.refl _ _ | refine Below.alloc ?_ (by simp [go_sem]) _ | refine below_ext ?_ (by simp [go_sem]) _ _ | refine below_drewN ?_ _ | refine Below.drew ?_))
        have vb : V2.heap[b]? = some (.cells ([.map (some m), .int .i64 t, .string html, .bool there, .string wh, .bool waits, .int .i64 hops]).toArray 82) := (k2.block _ (Array.getElem?_eq_some_iff.1 ub).1).trans ub
        have vm : V2.heap[m]? = some (.map #[] 0) := (k2.block _ (Array.getElem?_eq_some_iff.1 um).1).trans um
        have v0 : V2.cell? ⟨U.heap.size + Y.size, 0, none⟩ = some (.string (strB n)) := by rw [hV2]; simp [go_sem]
        have v1 : V2.cell? ⟨U.heap.size + Y.size, 1, none⟩ = some (.string (strB v)) := by rw [hV2]; simp [go_sem]
        have v2 : V2.cell? ⟨U.heap.size + Y.size, 2, none⟩ = some (.int .i64 age) := by rw [hV2]; simp [go_sem]
        have vz : U.heap.size + Y.size + 1 < V2.heap.size := by rw [hV2]; simp [go_sem]
        rw [← hV2]
        clear hV2 DL DL2 DL3
        have CK : Hid (∀ W : World, Below V2.heap.size V2 W → Calls Tryz.prog 41 #[.pointer (some ⟨b, 0, none⟩), .int .i64 t] W fun e w' => e = .returned (.slice none 0 0) ∧ Below W.heap.size W w') := fun W hW =>
          cookies_none b m t W (by rw [Lib.cell_of_heap ((hW.block _ (Array.getElem?_eq_some_iff.1 vb).1).trans vb)]; rfl) ((hW.block _ (Array.getElem?_eq_some_iff.1 vm).1).trans vm)
        have vb0 : V2.cell? ⟨b, 0, none⟩ = some (.map (some m)) := by rw [Lib.cell_of_heap vb]; rfl
        have vb1 : V2.cell? ⟨b, 1, none⟩ = some (.int .i64 t) := by rw [Lib.cell_of_heap vb]; rfl
        have lbv : b < V2.heap.size := (Array.getElem?_eq_some_iff.1 vb).1
        have lmv : m < V2.heap.size := (Array.getElem?_eq_some_iff.1 vm).1
        have vz0 : U.heap.size + Y.size < V2.heap.size := by omega
        refine wp_region_held_drew (S := fun w' => Below V2.heap.size V2 w' ∧ w'.cell? ⟨b, 1, none⟩ = some (.int .i64 t)) (by kernel_rfl) ⟨(Below.refl _ _).drew, vb1⟩ (fun hHeld => ?_)
        (refine wpAnyH_take (i := 0) (oi := ⟨some 54, _, _, _, _, _⟩) (v := ?_) rfl (by kernel_rfl) (by kernel_rfl) (by kernel_rfl) (fun _ _ _ h => h) (Or.inl ⟨by rfl, ?_⟩) (by assumption) ?_; rotate_left; (intro w hSw; (try dsimp only at hSw); go_simp; (first | done | with_reducible rfl)); try simp only [Act.put, List.setIfInBounds_toArray, List.set_cons_zero, List.set_cons_succ])
        (refine wpAnyH_take (i := 1) (oi := ⟨some 55, _, _, _, _, _⟩) (v := ?_) rfl (by kernel_rfl) (by kernel_rfl) (by kernel_rfl) (fun _ _ _ h => h) (Or.inl ⟨by rfl, ?_⟩) (by assumption) ?_; rotate_left; (intro w hSw; (try dsimp only at hSw); go_simp; (first | done | with_reducible rfl)); try simp only [Act.put, List.setIfInBounds_toArray, List.set_cons_zero, List.set_cons_succ])
        (refine wpAnyH_take (i := 2) (oi := ⟨some 56, _, _, _, _, _⟩) (v := _) rfl (by kernel_rfl) (by kernel_rfl) (by kernel_rfl) (fun _ _ _ h => h) (Or.inr ⟨by rfl, rfl⟩) (by assumption) ?_; try simp only [Act.put, List.setIfInBounds_toArray, List.set_cons_zero, List.set_cons_succ])
        (refine wpAnyH_take (i := 3) (oi := ⟨some 57, _, _, _, _, _⟩) (v := _) rfl (by kernel_rfl) (by kernel_rfl) (by kernel_rfl) (fun _ _ _ h => h) (Or.inr ⟨by rfl, rfl⟩) (by assumption) ?_; try simp only [Act.put, List.setIfInBounds_toArray, List.set_cons_zero, List.set_cons_succ])
        (refine wpAnyH_take (i := 4) (oi := ⟨some 58, _, _, _, _, _⟩) (v := _) rfl (by kernel_rfl) (by kernel_rfl) (by kernel_rfl) (fun _ _ _ h => h) (Or.inr ⟨by rfl, rfl⟩) (by assumption) ?_; try simp only [Act.put, List.setIfInBounds_toArray, List.set_cons_zero, List.set_cons_succ])
        (refine wpAnyH_take (i := 5) (oi := ⟨some 59, _, _, _, _, _⟩) (v := _) rfl (by kernel_rfl) (by kernel_rfl) (by kernel_rfl) (fun _ _ _ h => h) (Or.inr ⟨by rfl, rfl⟩) (by assumption) ?_; try simp only [Act.put, List.setIfInBounds_toArray, List.set_cons_zero, List.set_cons_succ])
        (refine wpAnyH_take (i := 6) (oi := ⟨some 60, _, _, _, _, _⟩) (v := _) rfl (by kernel_rfl) (by kernel_rfl) (by kernel_rfl) (fun _ _ _ h => h) (Or.inr ⟨by rfl, rfl⟩) (by assumption) ?_; try simp only [Act.put, List.setIfInBounds_toArray, List.set_cons_zero, List.set_cons_succ])
        (refine wpAnyH_take (i := 7) (oi := ⟨some 61, _, _, _, _, _⟩) (v := _) rfl (by kernel_rfl) (by kernel_rfl) (by kernel_rfl) (fun _ _ _ h => h) (Or.inr ⟨by rfl, rfl⟩) (by assumption) ?_; try simp only [Act.put, List.setIfInBounds_toArray, List.set_cons_zero, List.set_cons_succ])
        (refine wpAnyH_take (i := 8) (oi := ⟨some 62, _, _, _, _, _⟩) (v := ?_) rfl (by kernel_rfl) (by kernel_rfl) (by kernel_rfl) (fun _ _ _ h => h) (Or.inl ⟨by rfl, ?_⟩) (by assumption) ?_; rotate_left; (intro w hSw; (try dsimp only at hSw); go_simp; (first | done | with_reducible rfl)); try simp only [Act.put, List.setIfInBounds_toArray, List.set_cons_zero, List.set_cons_succ])
        (refine wpAnyH_take (i := 9) (oi := ⟨some 63, _, _, _, _, _⟩) (v := ?_) rfl (by kernel_rfl) (by kernel_rfl) (by kernel_rfl) (fun _ _ _ h => h) (Or.inl ⟨by rfl, ?_⟩) (by assumption) ?_; rotate_left; (intro w hSw; (try dsimp only at hSw); go_simp; (first | done | with_reducible rfl)); try simp only [Act.put, List.setIfInBounds_toArray, List.set_cons_zero, List.set_cons_succ])
        (refine wpAnyH_take (i := 10) (oi := ⟨some 64, _, _, _, _, _⟩) (v := ?_) rfl (by kernel_rfl) (by kernel_rfl) (by kernel_rfl) (fun _ _ _ h => h) (Or.inl ⟨by rfl, ?_⟩) (by assumption) ?_; rotate_left; (intro w hSw; (try dsimp only at hSw); go_simp; (first | done | with_reducible rfl)); try simp only [Act.put, List.setIfInBounds_toArray, List.set_cons_zero, List.set_cons_succ])
        (refine wpAnyH_take (i := 11) (oi := ⟨some 65, _, _, _, _, _⟩) (v := ?_) rfl (by kernel_rfl) (by kernel_rfl) (by kernel_rfl) (fun _ _ _ h => h) (Or.inl ⟨by rfl, ?_⟩) (by assumption) ?_; rotate_left; (intro w hSw; (try dsimp only at hSw); go_simp; (first | done | with_reducible rfl)); try simp only [Act.put, List.setIfInBounds_toArray, List.set_cons_zero, List.set_cons_succ])
        (refine wpAnyH_take (i := 12) (oi := ⟨some 66, _, _, _, _, _⟩) (v := ?_) rfl (by kernel_rfl) (by kernel_rfl) (by kernel_rfl) (fun _ _ _ h => h) (Or.inl ⟨by rfl, ?_⟩) (by assumption) ?_; rotate_left; (intro w hSw; (try dsimp only at hSw); go_simp; (first | done | with_reducible rfl)); try simp only [Act.put, List.setIfInBounds_toArray, List.set_cons_zero, List.set_cons_succ])
        (refine wpAnyH_take (i := 13) (oi := ⟨some 67, _, _, _, _, _⟩) (v := ?_) rfl (by kernel_rfl) (by kernel_rfl) (by kernel_rfl) (fun _ _ _ h => h) (Or.inl ⟨by rfl, ?_⟩) (by assumption) ?_; rotate_left; (intro w hSw; (try dsimp only at hSw); go_simp; (first | done | with_reducible rfl)); try simp only [Act.put, List.setIfInBounds_toArray, List.set_cons_zero, List.set_cons_succ])
        (refine wpAnyH_take (i := 14) (oi := ⟨some 68, _, _, _, _, _⟩) (v := ?_) rfl (by kernel_rfl) (by kernel_rfl) (by kernel_rfl) (fun _ _ _ h => h) (Or.inl ⟨by rfl, ?_⟩) (by assumption) ?_; rotate_left; (intro w hSw; (try dsimp only at hSw); go_simp; (first | done | with_reducible rfl)); try simp only [Act.put, List.setIfInBounds_toArray, List.set_cons_zero, List.set_cons_succ])
        (refine wpAnyH_take (i := 15) (oi := ⟨some 69, _, _, _, _, _⟩) (v := ?_) rfl (by kernel_rfl) (by kernel_rfl) (by kernel_rfl) (fun _ _ _ h => h) (Or.inl ⟨by rfl, ?_⟩) (by assumption) ?_; rotate_left; (intro w hSw; (try dsimp only at hSw); go_simp; (first | done | with_reducible rfl)); try simp only [Act.put, List.setIfInBounds_toArray, List.set_cons_zero, List.set_cons_succ])
        refine wpAnyH_ready (rs := [16]) (by kernel_rfl) (by simp) ?_
        refine AllReadyH.cons (o := ⟨some 70, _, _, _, _, _⟩) rfl (fun K hK => ?_) AllReadyH.nil
        go_simp
        refine (CK.out _ hHeld.1).mono ?_
        rintro e w' ⟨rfl, hb⟩
        refine hK.out _ _ ?_ (fun hHeld2 => ?_)
        · exact ⟨hHeld.1.trans (hb.mono hHeld.1.size), (hb.cell (p := ⟨b, 1, none⟩) (Nat.lt_of_lt_of_le lbv hHeld.1.size)).trans hHeld.2⟩
        clear hK K hHeld hb
        try simp only [Act.put, List.setIfInBounds_toArray, List.set_cons_zero, List.set_cons_succ]
        (refine wpAnyH_take (i := 17) (oi := ⟨some 71, _, _, _, _, _⟩) (v := ?_) rfl (by kernel_rfl) (by kernel_rfl) (by kernel_rfl) (fun _ _ _ h => h) (Or.inl ⟨by rfl, ?_⟩) (by assumption) ?_; rotate_left; (intro w hSw; (try dsimp only at hSw); go_simp; (first | done | with_reducible rfl)); try simp only [Act.put, List.setIfInBounds_toArray, List.set_cons_zero, List.set_cons_succ])
        (refine wpAnyH_take (i := 18) (oi := ⟨some 72, _, _, _, _, _⟩) (v := ?_) rfl (by kernel_rfl) (by kernel_rfl) (by kernel_rfl) (fun _ _ _ h => h) (Or.inl ⟨by rfl, ?_⟩) (by assumption) ?_; rotate_left; (intro w hSw; (try dsimp only at hSw); go_simp; (first | done | with_reducible rfl)); try simp only [Act.put, List.setIfInBounds_toArray, List.set_cons_zero, List.set_cons_succ])
        (refine wpAnyH_take (i := 19) (oi := ⟨some 73, _, _, _, _, _⟩) (v := ?_) rfl (by kernel_rfl) (by kernel_rfl) (by kernel_rfl) (fun _ _ _ h => h) (Or.inl ⟨by rfl, ?_⟩) (by assumption) ?_; rotate_left; (intro w hSw; (try dsimp only at hSw); go_simp; (first | done | with_reducible rfl)); try simp only [Act.put, List.setIfInBounds_toArray, List.set_cons_zero, List.set_cons_succ])
        refine wpAnyH_done (by kernel_rfl) ?_ _
        have hS := hHeld2.1
        clear hHeld2
        obtain ⟨X3, n3, rfl⟩ := Below_ext hS
        clear hS
        go_wp2_with fail
        obtain ⟨D, hD⟩ : ∃ D : World, D = (ext V2 X3 n3).drew := ⟨_, rfl⟩
        have kD : Below V2.heap.size V2 D := by rw [hD]; exact (by repeat (first | exact Below.refl _ _ | refine Below.alloc ?_ (by simp [go_sem]) _ | refine below_ext ?_ (by simp [go_sem]) _ _ | refine below_drewN ?_ _ | refine Below.drew ?_))
        have d0 : D.cell? ⟨b, 0, none⟩ = some (.map (some m)) := (kD.cell (p := ⟨b, 0, none⟩) lbv).trans vb0
        have d1 : D.cell? ⟨b, 1, none⟩ = some (.int .i64 t) := (kD.cell (p := ⟨b, 1, none⟩) lbv).trans vb1
        have d2 : D.cell? ⟨U.heap.size + Y.size, 0, none⟩ = some (.string (strB n)) := (kD.cell (p := ⟨U.heap.size + Y.size, 0, none⟩) vz0).trans v0
        have d3 : D.cell? ⟨U.heap.size + Y.size, 1, none⟩ = some (.string (strB v)) := (kD.cell (p := ⟨U.heap.size + Y.size, 1, none⟩) vz0).trans v1
        have d4 : D.cell? ⟨U.heap.size + Y.size, 2, none⟩ = some (.int .i64 age) := (kD.cell (p := ⟨U.heap.size + Y.size, 2, none⟩) vz0).trans v2
        have dm : D.heap[m]? = some (.map #[] 0) := (kD.block _ lmv).trans vm
        have UP : (Instr.mapUpdate 80 (.map (some m)) (.string (strB n)) (.agg #[.string (strB v), .int .i64 age, .int .i64 t])).run Tryz.prog D = .ok () (hset D m (jarObj (some (n, v, age, t)))) :=
          run_mapUpdate_first D 80 9 123 m 0 (strB n) _ Tryz.underlying80 Tryz.underlying9 dm
        have cm : ¬ U.heap.size + Y.size = m := by have := (Array.getElem?_eq_some_iff.1 um).1; omega
        have hnb : ¬ b = m := fun e => hne e.symm
        have kH : Below U.heap.size (hset U m (jarObj (some (n, v, age, t)))) (hset D m (jarObj (some (n, v, age, t)))) :=
          hset_below U m _ (k2.trans (kD.mono k2.size)) (Array.getElem?_eq_some_iff.1 um).1
        refine wp_region_held_drew (S := fun w' => w'.cell? ⟨b, 0, none⟩ = some (.map (some m)) ∧ w'.cell? ⟨b, 1, none⟩ = some (.int .i64 t) ∧ w'.cell? ⟨U.heap.size + Y.size, 0, none⟩ = some (.string (strB n)) ∧ w'.cell? ⟨U.heap.size + Y.size, 1, none⟩ = some (.string (strB v)) ∧ w'.cell? ⟨U.heap.size + Y.size, 2, none⟩ = some (.int .i64 age)) (by kernel_rfl) (by rw [← hD]; exact ⟨d0, d1, d2, d3, d4⟩) (fun hHeld => ?_)
        rw [← hD] at hHeld ⊢
        clear hD kD d0 d1 d2 d3 d4 v0 v1 v2 vb0 vb1
        (refine wpAnyH_take (i := 0) (oi := ⟨some 74, _, _, _, _, _⟩) (v := ?_) rfl (by kernel_rfl) (by kernel_rfl) (by kernel_rfl) (fun _ _ _ h => h) (Or.inl ⟨by rfl, ?_⟩) (by assumption) ?_; rotate_left; (intro w hSw; (try dsimp only at hSw); go_simp; (first | done | with_reducible rfl)); try simp only [Act.put, List.setIfInBounds_toArray, List.set_cons_zero, List.set_cons_succ])
        (refine wpAnyH_take (i := 1) (oi := ⟨some 75, _, _, _, _, _⟩) (v := ?_) rfl (by kernel_rfl) (by kernel_rfl) (by kernel_rfl) (fun _ _ _ h => h) (Or.inl ⟨by rfl, ?_⟩) (by assumption) ?_; rotate_left; (intro w hSw; (try dsimp only at hSw); go_simp; (first | done | with_reducible rfl)); try simp only [Act.put, List.setIfInBounds_toArray, List.set_cons_zero, List.set_cons_succ])
        (refine wpAnyH_take (i := 2) (oi := ⟨some 76, _, _, _, _, _⟩) (v := ?_) rfl (by kernel_rfl) (by kernel_rfl) (by kernel_rfl) (fun _ _ _ h => h) (Or.inl ⟨by rfl, ?_⟩) (by assumption) ?_; rotate_left; (intro w hSw; (try dsimp only at hSw); go_simp; (first | done | with_reducible rfl)); try simp only [Act.put, List.setIfInBounds_toArray, List.set_cons_zero, List.set_cons_succ])
        (refine wpAnyH_take (i := 3) (oi := ⟨some 77, _, _, _, _, _⟩) (v := ?_) rfl (by kernel_rfl) (by kernel_rfl) (by kernel_rfl) (fun _ _ _ h => h) (Or.inl ⟨by rfl, ?_⟩) (by assumption) ?_; rotate_left; (intro w hSw; (try dsimp only at hSw); go_simp; (first | done | with_reducible rfl)); try simp only [Act.put, List.setIfInBounds_toArray, List.set_cons_zero, List.set_cons_succ])
        (refine wpAnyH_take (i := 4) (oi := ⟨some 78, _, _, _, _, _⟩) (v := ?_) rfl (by kernel_rfl) (by kernel_rfl) (by kernel_rfl) (fun _ _ _ h => h) (Or.inl ⟨by rfl, ?_⟩) (by assumption) ?_; rotate_left; (intro w hSw; (try dsimp only at hSw); go_simp; (first | done | with_reducible rfl)); try simp only [Act.put, List.setIfInBounds_toArray, List.set_cons_zero, List.set_cons_succ])
        (refine wpAnyH_take (i := 5) (oi := ⟨some 79, _, _, _, _, _⟩) (v := ?_) rfl (by kernel_rfl) (by kernel_rfl) (by kernel_rfl) (fun _ _ _ h => h) (Or.inl ⟨by rfl, ?_⟩) (by assumption) ?_; rotate_left; (intro w hSw; (try dsimp only at hSw); go_simp; (first | done | with_reducible rfl)); try simp only [Act.put, List.setIfInBounds_toArray, List.set_cons_zero, List.set_cons_succ])
        (refine wpAnyH_take (i := 6) (oi := ⟨some 80, _, _, _, _, _⟩) (v := ?_) rfl (by kernel_rfl) (by kernel_rfl) (by kernel_rfl) (fun _ _ _ h => h) (Or.inl ⟨by rfl, ?_⟩) (by assumption) ?_; rotate_left; (intro w hSw; (try dsimp only at hSw); go_simp; (first | done | with_reducible rfl)); try simp only [Act.put, List.setIfInBounds_toArray, List.set_cons_zero, List.set_cons_succ])
        (refine wpAnyH_take (i := 7) (oi := ⟨some 81, _, _, _, _, _⟩) (v := ?_) rfl (by kernel_rfl) (by kernel_rfl) (by kernel_rfl) (fun _ _ _ h => h) (Or.inl ⟨by rfl, ?_⟩) (by assumption) ?_; rotate_left; (intro w hSw; (try dsimp only at hSw); go_simp; (first | done | with_reducible rfl)); try simp only [Act.put, List.setIfInBounds_toArray, List.set_cons_zero, List.set_cons_succ])
        (refine wpAnyH_take (i := 8) (oi := ⟨some 82, _, _, _, _, _⟩) (v := ?_) rfl (by kernel_rfl) (by kernel_rfl) (by kernel_rfl) (fun _ _ _ h => h) (Or.inl ⟨by rfl, ?_⟩) (by assumption) ?_; rotate_left; (intro w hSw; (try dsimp only at hSw); go_simp; (first | done | with_reducible rfl)); try simp only [Act.put, List.setIfInBounds_toArray, List.set_cons_zero, List.set_cons_succ])
        (refine wpAnyH_take (i := 9) (oi := ⟨some 83, _, _, _, _, _⟩) (v := ?_) rfl (by kernel_rfl) (by kernel_rfl) (by kernel_rfl) (fun _ _ _ h => h) (Or.inl ⟨by rfl, ?_⟩) (by assumption) ?_; rotate_left; (intro w hSw; (try dsimp only at hSw); go_simp; (first | done | with_reducible rfl)); try simp only [Act.put, List.setIfInBounds_toArray, List.set_cons_zero, List.set_cons_succ])
        (refine wpAnyH_take (i := 10) (oi := ⟨some 84, _, _, _, _, _⟩) (v := ?_) rfl (by kernel_rfl) (by kernel_rfl) (by kernel_rfl) (fun _ _ _ h => h) (Or.inl ⟨by rfl, ?_⟩) (by assumption) ?_; rotate_left; (intro w hSw; (try dsimp only at hSw); go_simp; (first | done | with_reducible rfl)); try simp only [Act.put, List.setIfInBounds_toArray, List.set_cons_zero, List.set_cons_succ])
        (refine wpAnyH_take (i := 11) (oi := ⟨some 85, _, _, _, _, _⟩) (v := ?_) rfl (by kernel_rfl) (by kernel_rfl) (by kernel_rfl) (fun _ _ _ h => h) (Or.inl ⟨by rfl, ?_⟩) (by assumption) ?_; rotate_left; (intro w hSw; (try dsimp only at hSw); go_simp; (first | done | with_reducible rfl)); try simp only [Act.put, List.setIfInBounds_toArray, List.set_cons_zero, List.set_cons_succ])
        (refine wpAnyH_take (i := 12) (oi := ⟨some 86, _, _, _, _, _⟩) (v := ?_) rfl (by kernel_rfl) (by kernel_rfl) (by kernel_rfl) (fun _ _ _ h => h) (Or.inl ⟨by rfl, ?_⟩) (by assumption) ?_; rotate_left; (intro w hSw; (try dsimp only at hSw); go_simp; (first | done | with_reducible rfl)); try simp only [Act.put, List.setIfInBounds_toArray, List.set_cons_zero, List.set_cons_succ])
        (refine wpAnyH_take (i := 13) (oi := ⟨some 87, _, _, _, _, _⟩) (v := ?_) rfl (by kernel_rfl) (by kernel_rfl) (by kernel_rfl) (fun _ _ _ h => h) (Or.inl ⟨by rfl, ?_⟩) (by assumption) ?_; rotate_left; (intro w hSw; (try dsimp only at hSw); go_simp; (first | done | with_reducible rfl)); try simp only [Act.put, List.setIfInBounds_toArray, List.set_cons_zero, List.set_cons_succ])
        (refine wpAnyH_take (i := 14) (oi := ⟨some 88, _, _, _, _, _⟩) (v := ?_) rfl (by kernel_rfl) (by kernel_rfl) (by kernel_rfl) (fun _ _ _ h => h) (Or.inl ⟨by rfl, ?_⟩) (by assumption) ?_; rotate_left; (intro w hSw; (try dsimp only at hSw); go_simp; (first | done | with_reducible rfl)); try simp only [Act.put, List.setIfInBounds_toArray, List.set_cons_zero, List.set_cons_succ])
        refine wpAnyH_ready (rs := [15]) (by kernel_rfl) (by simp) ?_
        refine AllReadyH.cons (o := ⟨none, _, _, _, _, _⟩) rfl (fun K hK => ?_) AllReadyH.nil
        go_simp
        refine hK.out _ _ ?_ (fun hHeld2 => ?_)
        · obtain ⟨d0, d1, d2, d3, d4⟩ := hHeld
          exact ⟨(cell?_hset_other _ _ _ _ _ hnb).trans d0, (cell?_hset_other _ _ _ _ _ hnb).trans d1, (cell?_hset_other _ _ _ _ _ cm).trans d2, (cell?_hset_other _ _ _ _ _ cm).trans d3, (cell?_hset_other _ _ _ _ _ cm).trans d4⟩
        clear hK K hHeld hHeld2
        try simp only [Act.put, List.setIfInBounds_toArray, List.set_cons_zero, List.set_cons_succ]
        refine wpAnyH_done (by kernel_rfl) ?_ _
        clear UP
        go_wp2_with fail
        obtain ⟨Z, z, hZ⟩ := Below_ext (show Below (hset U m (jarObj (some (n, v, age, t)))).heap.size _ _ from by rw [size_hset]; exact kH)
        rw [hZ]
        clear hZ kH
        go_roundg 1
        case measure => omega
        case rel => exact .inr ⟨Z, z, rfl, rfl, by omega⟩
    · have lgm : g < (hset U m (jarObj (some (n, v, age, t)))).heap.size := by rw [size_hset]; exact lu
      go_wp2_with fail
      go_end0
      have HBS := HB.out.size
      exact ⟨rfl, (hset_below V m _ HB.out (Array.getElem?_eq_some_iff.1 hm).1).trans ((ext_below _ _ _).mono (by rw [size_hset]; exact HBS))⟩
end Go.Proofs.YtmeahkijpipgnaaGreatDoor
