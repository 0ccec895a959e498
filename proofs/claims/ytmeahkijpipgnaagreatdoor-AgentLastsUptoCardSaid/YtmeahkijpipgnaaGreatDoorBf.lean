/- What the agent keeps of one Set-Cookie field, its jar empty. -/
import Derived.Test.YtmeahkijpipgnaaGreatDoorBe
import Derived.Test.YtmeahkijpipgnaaGreatDoorRsc
import Derived.RegionTactic
namespace Go.Proofs.YtmeahkijpipgnaaGreatDoor
open Go Go.RowKit

/-- 'delete' of an empty map: nothing turns. -/
theorem run_delete_empty {P : Program} (w : World) {t k e ty : TypeId} (r clock : Nat) (ht : P.underlying t = some (.map k e)) (hk : P.underlying k = some .string) (hb : w.heap[r]? = some (.map #[] clock)) (s : ByteArray) : (Builtin.delete_ #[t, k] ty #[.map (some r), .string s]).run P w = .ok (.tuple #[]) w := by
  have hset : ({ w with heap := w.heap.setIfInBounds r (.map #[] clock) } : World) = w := by
    have : w.heap.setIfInBounds r (.map #[] clock) = w.heap := by
      apply Array.ext_getElem?
      intro i
      rw [Array.getElem?_setIfInBounds]
      by_cases hi : r = i
      · subst hi; rw [if_pos rfl, if_pos (Array.getElem?_eq_some_iff.1 hb).1, hb]
      · rw [if_neg hi]
    rw [this]
  have hf : Instr.findNow .string (.string s) ([] : List MapEntry) 0 = some none := rfl
  have hc : (Instr.checkKey true 10000 k (.string s)).run P w = .ok () w := MapKept.run_checkKey (k := .string s) hk (by simp [MapKept.IsKey]) true 9999
  simp [Builtin.delete_, run_underlying ht, MapKept.run_getObj_map hb, hc, MapKept.run_findKey hk hf, MapKept.run_setObj_map _ hb, Result.andThen, hset]
set_option maxRecDepth 100000 in
set_option maxHeartbeats 8000000 in
/-- An age of 0: nothing is kept. -/
theorem keep_zero (b m : Nat) (L : List Value) (x n v : List UInt8) (bo : ByteArray) (st : Int) (cl : Bool) (g : Nat) (V : World) (hb0 : V.heap[b]? = some (.cells (Value.map (some m) :: L).toArray 82)) (hm : V.heap[m]? = some (.map #[] 0)) (hne : m ≠ b)
    (hx : x.length ≤ maxLen) (hq : lowL x = lowL setCookieL) (hK : Kinds V) (hnl : n.length ≤ 1073741824) (hvl : v.length ≤ 1073741824) (hmay : cmayB n v = true)
    (htab : Lib.TabIs Tryz.prog V "internal/strconv.uint64pow10" .u64 Lib.pow10Tab) (hmax : MaxLenIs V)
    (c0 : V.cell? ⟨g, 0, none⟩ = some (.string (strB x))) (c1 : V.cell? ⟨g, 1, none⟩ = some (.string (strB (setL n v 0)))) :
    Calls Tryz.prog 30 #[.pointer (some ⟨b, 0, none⟩), .agg #[.int .i64 st, .slice (some ⟨g, 0, none⟩) 1 1, .string bo, .bool cl]] V fun e w' => e = .returned (.tuple #[]) ∧ Below V.heap.size V w' := by
  have lg : g < V.heap.size := World.block_lt_of_cell? V _ c0
  obtain ⟨s, hs⟩ : ∃ s, s = setL n v 0 := ⟨_, rfl⟩
  have LK : Hid (∀ (h : Nat) (U : World), U.cell? ⟨h, 0, none⟩ = some (.string (strB x)) → U.cell? ⟨h, 1, none⟩ = some (.string (strB s)) →
      Calls Tryz.prog 18 #[.slice (some ⟨h, 0, none⟩) 1 1, .string { data := #[83, 101, 116, 45, 67, 111, 111, 107, 105, 101] }] U fun e w' => e = .returned (.tuple #[.string (strB s), .int .i64 1]) ∧ Below U.heap.size U w') :=
    fun h U a b => lookup_yes x setCookieL (strB s) h 1 U hx (by decide) (by omega) hq a b
  have RD : Hid (∀ U : World, Below V.heap.size V U → Calls Tryz.prog 60 #[.string (strB s)] U fun e w' => e = .returned (.tuple #[.agg #[.string (strB n), .string (strB v), .int .i64 0], .nilIface]) ∧ Below U.heap.size U w') := by
    intro U hU
    rw [hs]
    exact readSetCookie_ok n v 0 U (hK.below hU) hnl hvl (by omega) (by omega) hmay (Joins.tab_stays (g := 17) (by kernel_rfl) htab hU (Nat.le_refl _)) (hmax.below hU)
  rw [← hs] at c1
  clear hq hs htab hmax hK
  have nb0 : ¬ g = V.heap.size := (by omega); have nb1 : ¬ g = V.heap.size + 1 := (by omega); have nb2 : ¬ g = V.heap.size + 1 + 1 := (by omega); have nb3 : ¬ g = V.heap.size + 1 + 1 + 1 := (by omega); have hb1 : g < V.heap.size + 1 := (by omega); have hb2 : g < V.heap.size + 1 + 1 := (by omega); have hb3 : g < V.heap.size + 1 + 1 + 1 := (by omega); have hb4 : g < V.heap.size + 1 + 1 + 1 + 1 := (by omega); have lb0 : g ≤ V.heap.size := (by omega); have lb1 : g ≤ V.heap.size + 1 := (by omega); have lb2 : g ≤ V.heap.size + 1 + 1 := (by omega); have lb3 : g ≤ V.heap.size + 1 + 1 + 1 := (by omega); have lb4 : g ≤ V.heap.size + 1 + 1 + 1 + 1 := (by omega)
  go_enter Tryz.func30, Tryz.ntmps30
  go_wp2_with fail
  generalize hU : V.alloc _ = U
  have hB : Below V.heap.size V U := by rw [← hU]; exact (by repeat (first | exact Below.refl _ _ | refine Below.alloc ?_ (by simp [go_sem]) _ | refine below_ext ?_ (by simp [go_sem]) _ _ | refine below_drewN ?_ _ | refine Below.drew ?_))
  have d0 : U.cell? ⟨g, 0, none⟩ = some (.string (strB x)) := by rw [← hU]; simp [go_sem, c0, lg]
  have d1 : U.cell? ⟨g, 1, none⟩ = some (.string (strB s)) := by rw [← hU]; simp [go_sem, c1, lg]
  have lu : g < U.heap.size := World.block_lt_of_cell? U _ d0
  have ub : U.heap[b]? = some (.cells (Value.map (some m) :: L).toArray 82) := (hB.block _ (Array.getElem?_eq_some_iff.1 hb0).1).trans hb0
  have um : U.heap[m]? = some (.map #[] 0) := (hB.block _ (Array.getElem?_eq_some_iff.1 hm).1).trans hm
  have HB := Lib.hid hB
  clear hU hB
  go_loopg [15] 2 (fun gg v15 wr => ∃ X i, wr = ext U X i ∧ ((v15 = .int .i64 0 ∧ 1 < gg) ∨ (v15 = .int .i64 1 ∧ 0 < gg)))
  case atStart => exact ⟨#[], U.drawn, by simp [ext], .inl ⟨rfl, by omega⟩⟩
  case round =>
    obtain ⟨X, i, rfl, ⟨rfl, hg⟩ | ⟨rfl, hg⟩⟩ := hrel
    · go_wp2_with fail
      refine (LK.out _ _ ?_ ?_).mono ?_
      · simp [go_sem]
      · simp [go_sem]
      rintro e w1 ⟨rfl, hb⟩
      obtain ⟨X2, n2, rfl⟩ := Below_ext hb; clear hb
      go_wp2_with fail
      have hE : Below U.heap.size U (ext (((ext U X i).alloc (Obj.cells #[Value.string (strB x), Value.string (strB s)] 40)).alloc (Obj.cells #[Value.string (strB x), Value.string (strB s)] 40)) X2 n2) := (by repeat (first | exact Below.refl _ _ | refine Below.alloc ?_ (by simp [go_sem]) _ | refine below_ext ?_ (by simp [go_sem]) _ _ | refine below_drewN ?_ _ | refine Below.drew ?_))
      refine (RD.out _ (HB.out.trans (hE.mono HB.out.size))).mono ?_
      rintro e w1 ⟨rfl, hb⟩
      obtain ⟨Y, j, hY⟩ := Below_ext (hE.trans (hb.mono hE.size))
      rw [hY]
      clear hY hb hE
      have hub : b < U.heap.size := (Array.getElem?_eq_some_iff.1 ub).1
      have ub0 : U.cell? ⟨b, 0, none⟩ = some (.map (some m)) := by rw [Lib.cell_of_heap ub]; rfl
      have um0 : ∀ q : Nat, (ext U Y q).heap[m]? = some (.map #[] 0) := fun q => (heap_ext U Y q m (Array.getElem?_eq_some_iff.1 um).1).trans um
      have DL : ∀ q ty, (Builtin.delete_ #[80, 9] ty #[.map (some m), .string (strB n)]).run Tryz.prog ((ext U Y q).alloc (Obj.cells #[.string (strB n), .string (strB v), .int .i64 0] 54)) = .ok (.tuple #[]) ((ext U Y q).alloc (Obj.cells #[.string (strB n), .string (strB v), .int .i64 0] 54)) := fun q ty =>
        run_delete_empty _ m 0 Tryz.underlying80 Tryz.underlying9 ((heap_alloc_old _ _ (Array.getElem?_eq_some_iff.1 (um0 q)).1).trans (um0 q)) (strB n)
      have DL2 : ∀ q ty, (Builtin.delete_ #[80, 9] ty #[.map (some m), .string (strB n)]).run Tryz.prog ((ext U Y q).alloc (Obj.cells #[.string (strB n), .string (strB v), .int .i64 0] 54)).drew = .ok (.tuple #[]) ((ext U Y q).alloc (Obj.cells #[.string (strB n), .string (strB v), .int .i64 0] 54)).drew := fun q ty =>
        run_delete_empty ((ext U Y q).alloc (Obj.cells #[.string (strB n), .string (strB v), .int .i64 0] 54)).drew m 0 Tryz.underlying80 Tryz.underlying9 ((heap_alloc_old _ _ (Array.getElem?_eq_some_iff.1 (um0 q)).1).trans (um0 q)) (strB n)
      clear um0
      have nb0 : ¬ b = (U.heap.size + Y.size) := (by omega); have nb1 : ¬ b = (U.heap.size + Y.size) + 1 := (by omega); have nb2 : ¬ b = (U.heap.size + Y.size) + 1 + 1 := (by omega); have nb3 : ¬ b = (U.heap.size + Y.size) + 1 + 1 + 1 := (by omega); have hb1 : b < (U.heap.size + Y.size) + 1 := (by omega); have hb2 : b < (U.heap.size + Y.size) + 1 + 1 := (by omega); have hb3 : b < (U.heap.size + Y.size) + 1 + 1 + 1 := (by omega); have hb4 : b < (U.heap.size + Y.size) + 1 + 1 + 1 + 1 := (by omega); have lb0 : b ≤ (U.heap.size + Y.size) := (by omega); have lb1 : b ≤ (U.heap.size + Y.size) + 1 := (by omega); have lb2 : b ≤ (U.heap.size + Y.size) + 1 + 1 := (by omega); have lb3 : b ≤ (U.heap.size + Y.size) + 1 + 1 + 1 := (by omega); have lb4 : b ≤ (U.heap.size + Y.size) + 1 + 1 + 1 + 1 := (by omega)
      have hby : b < U.heap.size + Y.size := (by omega)
      go_wp2_with fail
      go_region
      go_wp2_with fail
      obtain ⟨Z, z, hZ⟩ := Below_ext (show Below U.heap.size U (((ext U Y j).alloc (Obj.cells #[.string (strB n), .string (strB v), .int .i64 0] 54)).drew) from (by repeat (first | exact Below.refl _ _ | refine Below.alloc ?_ (by simp [go_sem]) _ | refine below_ext ?_ (by simp [go_sem]) _ _ | refine below_drewN ?_ _ | refine Below.drew ?_)))
      rw [hZ]
      clear hZ
      go_roundg 1
      case measure => omega
      case rel => exact ⟨Z, z, rfl, .inr ⟨rfl, by omega⟩⟩
    · go_wp2_with fail
      go_end0
      exact ⟨rfl, HB.out.trans ((ext_below _ _ _).mono HB.out.size)⟩
end Go.Proofs.YtmeahkijpipgnaaGreatDoor
