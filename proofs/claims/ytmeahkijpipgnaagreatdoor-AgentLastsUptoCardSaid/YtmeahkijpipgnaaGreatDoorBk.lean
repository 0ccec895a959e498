/- AgentLasts: the walk of the statement. -/
import Derived.Test.YtmeahkijpipgnaaGreatDoorBj
import Derived.Deep.RegionHeld3
import Derived.Deep.CutBlock
import Derived.Deep.CutRange
namespace Go.Proofs.YtmeahkijpipgnaaGreatDoor
open Go Go.RowKit

set_option maxRecDepth 100000 in
set_option maxHeartbeats 16000000 in
theorem lasts_walk (nm vl : List UInt8) (ag0 at0 wt0 : Int) (v5 : Value) (n5 : Nat) (w : World) (hK : Kinds w) (hT : Lib.TabIs Tryz.prog w "internal/strconv.uint64pow10" .u64 Lib.pow10Tab) (hM : MaxLenIs w) (hz : 15 < w.heap.size)
    (hn : nm.length ≤ 1048576) (hv : vl.length ≤ 1048576) (g0 : -9223372036854775808 ≤ ag0) (g1 : ag0 ≤ 9223372036854775807) (h5 : IntsR w v5 n5) :
    Calls Tryz.prog 4 #[.agg #[.string (strB nm), .string (strB vl), .int .i64 ag0, .int .i64 at0, .int .i64 wt0, v5]] w fun e w' => e = .returned (.bool true) ∧ Below w.heap.size w w' := by
  obtain ⟨a5, k5, rfl, hm5, hc5⟩ := h5
  have HC5 := Lib.hid hc5
  clear hc5
  unfold maxLen at hm5
  have PK : Hid (∀ (k : Int) (V : World), Calls Tryz.prog 10 #[.int .i64 k, .int .i64 1099511627776] V fun e w' => e = .returned (.int .i64 (k % 1099511627776)) ∧ V = w') := fun k V => pick_any k 1099511627776 V (by omega) (by omega)
  go_enter Tryz.func4, Tryz.ntmps4
  go_wp2_with fail
  refine (new_any _).mono ?_
  rintro e w1 ⟨rfl, rfl⟩
  go_wp2_with fail
  refine (PK.out _ _).mono ?_
  rintro e w1 ⟨rfl, rfl⟩
  go_wp2_with fail
  refine (PK.out _ _).mono ?_
  rintro e w1 ⟨rfl, rfl⟩
  go_wp2_with fail
  generalize hat : at0 % 1099511627776 = at_
  generalize hwt : wt0 % 1099511627776 = wt
  have b0 : 0 ≤ at_ := by rw [← hat]; exact Int.emod_nonneg _ (by omega)
  have b1 : at_ < 1099511627776 := by rw [← hat]; exact Int.emod_lt_of_pos _ (by omega)
  have b2 : 0 ≤ wt := by rw [← hwt]; exact Int.emod_nonneg _ (by omega)
  have b3 : wt < 1099511627776 := by rw [← hwt]; exact Int.emod_lt_of_pos _ (by omega)
  clear hat hwt
  obtain ⟨V0, hV0⟩ : ∃ V0 : World, V0 = ((w.alloc (Obj.cells ([.string (strB nm), .string (strB vl), .int .i64 ag0, .int .i64 at0, .int .i64 wt0, .slice a5 n5 k5]).toArray 52)).alloc (Obj.map #[] 0)).alloc (Obj.cells ([.map (some (w.heap.size + 1)), .int .i64 0, .string { data := #[] }, .bool false, .string { data := #[] }, .bool false, .int .i64 0]).toArray 82) := ⟨_, rfl⟩
  have z0 : V0.heap.size = w.heap.size + 1 + 1 + 1 := by rw [hV0]; simp [go_sem]
  have K0 : BInv w (w.heap.size + 1 + 1) (w.heap.size + 1) [(w.heap.size, [.string (strB nm), .string (strB vl), .int .i64 ag0, .int .i64 at0, .int .i64 wt0, .slice a5 n5 k5], 52)] [.map (some (w.heap.size + 1)), .int .i64 0, .string { data := #[] }, .bool false, .string { data := #[] }, .bool false, .int .i64 0] none 0 V0 := by
    rw [hV0]
    refine ⟨(by repeat (first | exact Below.refl _ _ | refine Below.alloc ?_ (by simp [go_sem]) _ | refine below_ext ?_ (by simp [go_sem]) _ _ | refine below_drewN ?_ _ | refine Below.drew ?_)), ?_, ?_, ⟨by omega, ?_, ?_⟩⟩
    · intro p hp
      simp only [List.mem_singleton] at hp
      subst hp
      refine ⟨by simp only; omega, by simp only; omega, ?_⟩
      rw [heap_alloc_old _ _ (by simp [go_sem]), heap_alloc_old _ _ (by simp [go_sem])]
      exact heap_alloc_new w _
    · have := heap_alloc_new ((w.alloc (Obj.cells ([.string (strB nm), .string (strB vl), .int .i64 ag0, .int .i64 at0, .int .i64 wt0, .slice a5 n5 k5]).toArray 52)).alloc (Obj.map #[] 0)) (Obj.cells ([.map (some (w.heap.size + 1)), .int .i64 0, .string { data := #[] }, .bool false, .string { data := #[] }, .bool false, .int .i64 0]).toArray 82)
      rwa [show ((w.alloc (Obj.cells ([.string (strB nm), .string (strB vl), .int .i64 ag0, .int .i64 at0, .int .i64 wt0, .slice a5 n5 k5]).toArray 52)).alloc (Obj.map #[] 0)).heap.size = w.heap.size + 1 + 1 by simp [go_sem]] at this
    · rw [heap_alloc_old _ _ (by simp [go_sem])]
      have := heap_alloc_new (w.alloc (Obj.cells ([.string (strB nm), .string (strB vl), .int .i64 ag0, .int .i64 at0, .int .i64 wt0, .slice a5 n5 k5]).toArray 52)) (Obj.map #[] 0)
      rwa [show (w.alloc (Obj.cells ([.string (strB nm), .string (strB vl), .int .i64 ag0, .int .i64 at0, .int .i64 wt0, .slice a5 n5 k5]).toArray 52)).heap.size = w.heap.size + 1 by simp [go_sem]] at this
    · intro n v age at_ h; cases h
  rw [← hV0]
  clear hV0
  have HK0 := Lib.hid K0
  obtain ⟨bx, hbx⟩ : ∃ bx, bx = w.heap.size := ⟨_, rfl⟩
  rw [← hbx] at HK0 z0 hz ⊢
  have WZ := Lib.hid hbx
  have hx := (HK0.out.fx _ (List.mem_singleton.2 rfl)).2.2
  have lx : bx < V0.heap.size := by omega
  have x0 : V0.cell? ⟨bx, 0, none⟩ = some (.string (strB nm)) := by rw [Lib.cell_of_heap hx]; rfl
  have x1 : V0.cell? ⟨bx, 1, none⟩ = some (.string (strB vl)) := by rw [Lib.cell_of_heap hx]; rfl
  have x2 : V0.cell? ⟨bx, 2, none⟩ = some (.int .i64 ag0) := by rw [Lib.cell_of_heap hx]; rfl
  have WO : Hid (∀ V : World, Calls Tryz.prog 9 #[.string (strB nm)] V fun e w' => e = .returned (.string (strB (wordL nm))) ∧ Below V.heap.size V w') := fun V => wordOf_any nm V (by omega)
  have CO : Hid (∀ V : World, Calls Tryz.prog 15 #[.string (strB vl)] V fun e w' => e = .returned (.string (strB (crumbL vl))) ∧ Below V.heap.size V w') := fun V => crumbOf_any vl V (by omega)
  have MK : ∀ W : World, Below V0.heap.size V0 W → Below V0.heap.size V0 W ∧ W.cell? ⟨bx, 0, none⟩ = some (.string (strB nm)) ∧ W.cell? ⟨bx, 1, none⟩ = some (.string (strB vl)) ∧ W.cell? ⟨bx, 2, none⟩ = some (.int .i64 ag0) := fun W h =>
    ⟨h, (h.cell (p := ⟨bx, 0, none⟩) lx).trans x0, (h.cell (p := ⟨bx, 1, none⟩) lx).trans x1, (h.cell (p := ⟨bx, 2, none⟩) lx).trans x2⟩
  clear K0 hx hbx
  have HMK := Lib.hid MK
  clear MK x0 x1 x2
  obtain ⟨age, hage⟩ : ∃ age, age = max ag0 (-1) := ⟨_, rfl⟩
  obtain ⟨n, hn'⟩ : ∃ n, n = wordL nm := ⟨_, rfl⟩
  obtain ⟨v, hv'⟩ : ∃ v, v = crumbL vl := ⟨_, rfl⟩
  have hnl : n.length ≤ 1048577 := by rw [hn']; have := wordL_len nm; omega
  have hvl : v.length ≤ 1048576 := by rw [hv']; have := crumbL_len vl; omega
  have MAY : Hid (cmayB n v = true) := by show _ = _; rw [hn', hv']; exact word_may nm vl
  rw [← hn'] at WO
  rw [← hv'] at CO
  have a0 : -1 ≤ age := by omega
  have a1 : age ≤ 9223372036854775807 := by omega
  have HA := Lib.hid hage
  clear hn' hv' hage
  go_cut [6] from 35 to 44 (fun v6 wx => ∃ bc V, v6 = .pointer (some ⟨bc, 0, none⟩) ∧ V = wx ∧ bx + 2 < bc ∧ BInv w (bx + 1 + 1) (bx + 1) [(bc, [.string (strB n), .string (strB v), .int .i64 age], 54), (bx, [.string (strB nm), .string (strB vl), .int .i64 ag0, .int .i64 at0, .int .i64 wt0, .slice a5 n5 k5], 52)] [.map (some (bx + 1)), .int .i64 0, .string { data := #[] }, .bool false, .string { data := #[] }, .bool false, .int .i64 0] none 0 V)
  case first =>
    have hmx : (decide (ag0 < -1) = true ∧ max ag0 (-1) = age ∧ -1 = age) ∨ (decide (ag0 < -1) = false ∧ max ag0 (-1) = age ∧ ag0 = age) := by
      have := HA.out
      rcases Int.lt_or_le ag0 (-1) with h | h
      · exact .inl ⟨by simpa using h, by omega, by omega⟩
      · exact .inr ⟨by simpa using h, by omega, by omega⟩
    clear HA
    rcases hmx with ⟨m1, m2, m3⟩ | ⟨m1, m2, m3⟩
    · subst m3
      refine wp_region_held_drew (S := fun w' => Below V0.heap.size V0 w' ∧ w'.cell? ⟨bx, 0, none⟩ = some (.string (strB nm)) ∧ w'.cell? ⟨bx, 1, none⟩ = some (.string (strB vl)) ∧ w'.cell? ⟨bx, 2, none⟩ = some (.int .i64 ag0)) (by kernel_rfl) (HMK.out _ (Below.refl _ _).drew) (fun hHeld => ?_)
      (refine wpAnyH_take (i := 0) (oi := ⟨some 35, _, _, _, _, _⟩) (v := ?_) rfl (by kernel_rfl) (by kernel_rfl) (by kernel_rfl) (fun _ _ _ h => h) (Or.inl ⟨by rfl, ?_⟩) (by assumption) ?_; rotate_left; (intro w hSw; (try dsimp only at hSw); go_simp; (first | done | with_reducible rfl)); try simp only [Act.put, List.setIfInBounds_toArray, List.set_cons_zero, List.set_cons_succ])
      (refine wpAnyH_take (i := 1) (oi := ⟨some 36, _, _, _, _, _⟩) (v := ?_) rfl (by kernel_rfl) (by kernel_rfl) (by kernel_rfl) (fun _ _ _ h => h) (Or.inl ⟨by rfl, ?_⟩) (by assumption) ?_; rotate_left; (intro w hSw; (try dsimp only at hSw); go_simp; (first | done | with_reducible rfl)); try simp only [Act.put, List.setIfInBounds_toArray, List.set_cons_zero, List.set_cons_succ])
      (refine wpAnyH_take (i := 3) (oi := ⟨some 38, _, _, _, _, _⟩) (v := ?_) rfl (by kernel_rfl) (by kernel_rfl) (by kernel_rfl) (fun _ _ _ h => h) (Or.inl ⟨by rfl, ?_⟩) (by assumption) ?_; rotate_left; (intro w hSw; (try dsimp only at hSw); go_simp; (first | done | with_reducible rfl)); try simp only [Act.put, List.setIfInBounds_toArray, List.set_cons_zero, List.set_cons_succ])
      (refine wpAnyH_take (i := 4) (oi := ⟨some 39, _, _, _, _, _⟩) (v := ?_) rfl (by kernel_rfl) (by kernel_rfl) (by kernel_rfl) (fun _ _ _ h => h) (Or.inl ⟨by rfl, ?_⟩) (by assumption) ?_; rotate_left; (intro w hSw; (try dsimp only at hSw); go_simp; (first | done | with_reducible rfl)); try simp only [Act.put, List.setIfInBounds_toArray, List.set_cons_zero, List.set_cons_succ])
      (refine wpAnyH_take (i := 6) (oi := ⟨some 41, _, _, _, _, _⟩) (v := ?_) rfl (by kernel_rfl) (by kernel_rfl) (by kernel_rfl) (fun _ _ _ h => h) (Or.inl ⟨by rfl, ?_⟩) (by assumption) ?_; rotate_left; (intro w hSw; (try dsimp only at hSw); go_simp; (first | done | with_reducible rfl)); try simp only [Act.put, List.setIfInBounds_toArray, List.set_cons_zero, List.set_cons_succ])
      (refine wpAnyH_take (i := 7) (oi := ⟨some 42, _, _, _, _, _⟩) (v := ?_) rfl (by kernel_rfl) (by kernel_rfl) (by kernel_rfl) (fun _ _ _ h => h) (Or.inl ⟨by rfl, ?_⟩) (by assumption) ?_; rotate_left; (intro w hSw; (try dsimp only at hSw); go_simp; (first | done | with_reducible rfl)); try simp only [Act.put, List.setIfInBounds_toArray, List.set_cons_zero, List.set_cons_succ])
      (refine wpAnyH_take (i := 8) (oi := ⟨some 43, _, _, _, _, _⟩) (v := ?_) rfl (by kernel_rfl) (by kernel_rfl) (by kernel_rfl) (fun _ _ _ h => h) (Or.inl ⟨by rfl, ?_⟩) (by assumption) ?_; rotate_left; (intro w hSw; (try dsimp only at hSw); go_simp; (first | done | with_reducible rfl)); try simp only [Act.put, List.setIfInBounds_toArray, List.set_cons_zero, List.set_cons_succ])
      refine wpAnyH_ready (rs := [2, 10]) (by kernel_rfl) (by simp) ?_
      refine AllReadyH.cons (o := ⟨some 37, _, _, _, _, _⟩) rfl (fun K hK => ?_) (AllReadyH.cons (o := ⟨some 6, _, _, _, _, _⟩) rfl (fun K hK => ?_) AllReadyH.nil)
      · go_simp
        refine (WO.out _).mono ?_
        rintro e w1 ⟨rfl, hb1⟩
        refine hK.out _ _ (HMK.out _ (hHeld.1.trans (hb1.mono hHeld.1.size))) (fun hH1 => ?_)
        clear hK K hHeld hb1
        try simp only [Act.put, List.setIfInBounds_toArray, List.set_cons_zero, List.set_cons_succ]
        refine wpAnyH_ready (rs := [5, 10]) (by kernel_rfl) (by simp) ?_
        refine AllReadyH.cons (o := ⟨some 40, _, _, _, _, _⟩) rfl (fun K hK => ?_) (AllReadyH.cons (o := ⟨some 6, _, _, _, _, _⟩) rfl (fun K hK => ?_) AllReadyH.nil)
        · go_simp
          refine (CO.out _).mono ?_
          rintro e w2 ⟨rfl, hb2⟩
          refine hK.out _ _ (HMK.out _ (hH1.1.trans (hb2.mono hH1.1.size))) (fun hH2 => ?_)
          clear hK K hH1 hb2
          try simp only [Act.put, List.setIfInBounds_toArray, List.set_cons_zero, List.set_cons_succ]
          (refine wpAnyH_take (i := 9) (oi := ⟨some 44, _, _, _, _, _⟩) (v := ?_) rfl (by kernel_rfl) (by kernel_rfl) (by kernel_rfl) (fun _ _ _ h => h) (Or.inl ⟨by rfl, ?_⟩) (by assumption) ?_; rotate_left; (intro w hSw; (try dsimp only at hSw); go_simp; (first | done | with_reducible rfl)); try simp only [Act.put, List.setIfInBounds_toArray, List.set_cons_zero, List.set_cons_succ])
          refine wpAnyH_ready (rs := [10]) (by kernel_rfl) (by simp) ?_
          refine AllReadyH.cons (o := ⟨some 6, _, _, _, _, _⟩) rfl (fun K hK => ?_) AllReadyH.nil
          go_simp
          refine hK.out _ _ (HMK.out _ (hH2.1.alloc hH2.1.size _)) (fun hH3 => ?_)
          clear hK K hH3
          try simp only [Act.put, List.setIfInBounds_toArray, List.set_cons_zero, List.set_cons_succ]
          refine wpAnyH_ready (rs := [11]) (by kernel_rfl) (by simp) ?_
          refine AllReadyH.cons (o := ⟨none, _, _, _, _, _⟩) rfl (fun K hK => ?_) AllReadyH.nil
          go_simp
          refine hK.out _ _ (HMK.out _ (hH2.1.alloc hH2.1.size _)) (fun hH3 => ?_)
          clear hK K hH3
          try simp only [Act.put, List.setIfInBounds_toArray, List.set_cons_zero, List.set_cons_succ]
          refine wpAnyH_done (by kernel_rfl) ?_ _
          go_wp2_with fail
          go_meet
          case rel =>
            have hs := hH2.1.size
            exact ⟨_, _, rfl, rfl, by omega, (HK0.out.keep (hH2.1.alloc hH2.1.size _)).more _ _ _ (heap_alloc_new _ _) (by omega) (by omega)⟩
        · go_simp
          refine hK.out _ _ (HMK.out _ (hH1.1.alloc hH1.1.size _)) (fun hH2 => ?_)
          clear hK K hH2
          try simp only [Act.put, List.setIfInBounds_toArray, List.set_cons_zero, List.set_cons_succ]
          refine wpAnyH_ready (rs := [5]) (by kernel_rfl) (by simp) ?_
          refine AllReadyH.cons (o := ⟨some 40, _, _, _, _, _⟩) rfl (fun K hK => ?_) AllReadyH.nil
          go_simp
          refine (CO.out _).mono ?_
          rintro e w2 ⟨rfl, hb2⟩
          obtain ⟨X2, k2, rfl⟩ := Below_ext hb2; clear hb2
          refine hK.out _ _ (HMK.out _ (below_ext (hH1.1.alloc hH1.1.size _) (by have := hH1.1.size; simp [go_sem]; omega) X2 k2)) (fun hH2 => ?_)
          clear hK K
          try simp only [Act.put, List.setIfInBounds_toArray, List.set_cons_zero, List.set_cons_succ]
          (refine wpAnyH_take (i := 9) (oi := ⟨some 44, _, _, _, _, _⟩) (v := ?_) rfl (by kernel_rfl) (by kernel_rfl) (by kernel_rfl) (fun _ _ _ h => h) (Or.inl ⟨by rfl, ?_⟩) (by assumption) ?_; rotate_left; (intro w hSw; (try dsimp only at hSw); go_simp; (first | done | with_reducible rfl)); try simp only [Act.put, List.setIfInBounds_toArray, List.set_cons_zero, List.set_cons_succ])
          refine wpAnyH_ready (rs := [11]) (by kernel_rfl) (by simp) ?_
          refine AllReadyH.cons (o := ⟨none, _, _, _, _, _⟩) rfl (fun K hK => ?_) AllReadyH.nil
          go_simp
          refine hK.out _ _ (HMK.out _ (below_ext (hH1.1.alloc hH1.1.size _) (by have := hH1.1.size; simp [go_sem]; omega) X2 k2)) (fun hH3 => ?_)
          clear hK K hH3
          try simp only [Act.put, List.setIfInBounds_toArray, List.set_cons_zero, List.set_cons_succ]
          refine wpAnyH_done (by kernel_rfl) ?_ _
          go_wp2_with fail
          go_meet
          case rel =>
            have hs := hH1.1.size
            exact ⟨_, _, rfl, rfl, by omega, (HK0.out.keep (below_ext (hH1.1.alloc hH1.1.size _) (by simp [go_sem]; omega) X2 k2)).more _ _ _ ((heap_ext _ _ _ _ (by simp [go_sem])).trans (heap_alloc_new _ _)) (by omega) (by omega)⟩
      · go_simp
        refine hK.out _ _ (HMK.out _ (hHeld.1.alloc hHeld.1.size _)) (fun hH1 => ?_)
        clear hK K hH1
        try simp only [Act.put, List.setIfInBounds_toArray, List.set_cons_zero, List.set_cons_succ]
        refine wpAnyH_ready (rs := [2]) (by kernel_rfl) (by simp) ?_
        refine AllReadyH.cons (o := ⟨some 37, _, _, _, _, _⟩) rfl (fun K hK => ?_) AllReadyH.nil
        go_simp
        refine (WO.out _).mono ?_
        rintro e w1 ⟨rfl, hb1⟩
        obtain ⟨X1, k1, rfl⟩ := Below_ext hb1; clear hb1
        refine hK.out _ _ (HMK.out _ (below_ext (hHeld.1.alloc hHeld.1.size _) (by simp [go_sem]) X1 k1)) (fun hH2 => ?_)
        clear hK K hH2
        try simp only [Act.put, List.setIfInBounds_toArray, List.set_cons_zero, List.set_cons_succ]
        refine wpAnyH_ready (rs := [5]) (by kernel_rfl) (by simp) ?_
        refine AllReadyH.cons (o := ⟨some 40, _, _, _, _, _⟩) rfl (fun K hK => ?_) AllReadyH.nil
        go_simp
        refine (CO.out _).mono ?_
        rintro e w2 ⟨rfl, hb2⟩
        obtain ⟨X2, k2, rfl⟩ := Below_ext hb2; clear hb2
        rw [ext_ext]
        refine hK.out _ _ (HMK.out _ (below_ext (hHeld.1.alloc hHeld.1.size _) (by simp [go_sem]) (X1 ++ X2) k2)) (fun hH2 => ?_)
        clear hK K
        try simp only [Act.put, List.setIfInBounds_toArray, List.set_cons_zero, List.set_cons_succ]
        (refine wpAnyH_take (i := 9) (oi := ⟨some 44, _, _, _, _, _⟩) (v := ?_) rfl (by kernel_rfl) (by kernel_rfl) (by kernel_rfl) (fun _ _ _ h => h) (Or.inl ⟨by rfl, ?_⟩) (by assumption) ?_; rotate_left; (intro w hSw; (try dsimp only at hSw); go_simp; (first | done | with_reducible rfl)); try simp only [Act.put, List.setIfInBounds_toArray, List.set_cons_zero, List.set_cons_succ])
        refine wpAnyH_ready (rs := [11]) (by kernel_rfl) (by simp) ?_
        refine AllReadyH.cons (o := ⟨none, _, _, _, _, _⟩) rfl (fun K hK => ?_) AllReadyH.nil
        go_simp
        refine hK.out _ _ (HMK.out _ (below_ext (hHeld.1.alloc hHeld.1.size _) (by simp [go_sem]) (X1 ++ X2) k2)) (fun hH3 => ?_)
        clear hK K hH3
        try simp only [Act.put, List.setIfInBounds_toArray, List.set_cons_zero, List.set_cons_succ]
        refine wpAnyH_done (by kernel_rfl) ?_ _
        go_wp2_with fail
        go_meet
        case rel =>
          have hs := hHeld.1.size
          exact ⟨_, _, rfl, rfl, by omega, (HK0.out.keep (below_ext (hHeld.1.alloc hHeld.1.size _) (by simp [go_sem]) (X1 ++ X2) k2)).more _ _ _ (by rw [heap_ext _ _ _ _ (by simp [go_sem]; omega), ← z0]; exact heap_alloc_new V0.drew _) (by omega) (by omega)⟩
    · subst m3
      refine wp_region_held_drew (S := fun w' => Below V0.heap.size V0 w' ∧ w'.cell? ⟨bx, 0, none⟩ = some (.string (strB nm)) ∧ w'.cell? ⟨bx, 1, none⟩ = some (.string (strB vl)) ∧ w'.cell? ⟨bx, 2, none⟩ = some (.int .i64 ag0)) (by kernel_rfl) (HMK.out _ (Below.refl _ _).drew) (fun hHeld => ?_)
      (refine wpAnyH_take (i := 0) (oi := ⟨some 35, _, _, _, _, _⟩) (v := ?_) rfl (by kernel_rfl) (by kernel_rfl) (by kernel_rfl) (fun _ _ _ h => h) (Or.inl ⟨by rfl, ?_⟩) (by assumption) ?_; rotate_left; (intro w hSw; (try dsimp only at hSw); go_simp; (first | done | with_reducible rfl)); try simp only [Act.put, List.setIfInBounds_toArray, List.set_cons_zero, List.set_cons_succ])
      (refine wpAnyH_take (i := 1) (oi := ⟨some 36, _, _, _, _, _⟩) (v := ?_) rfl (by kernel_rfl) (by kernel_rfl) (by kernel_rfl) (fun _ _ _ h => h) (Or.inl ⟨by rfl, ?_⟩) (by assumption) ?_; rotate_left; (intro w hSw; (try dsimp only at hSw); go_simp; (first | done | with_reducible rfl)); try simp only [Act.put, List.setIfInBounds_toArray, List.set_cons_zero, List.set_cons_succ])
      (refine wpAnyH_take (i := 3) (oi := ⟨some 38, _, _, _, _, _⟩) (v := ?_) rfl (by kernel_rfl) (by kernel_rfl) (by kernel_rfl) (fun _ _ _ h => h) (Or.inl ⟨by rfl, ?_⟩) (by assumption) ?_; rotate_left; (intro w hSw; (try dsimp only at hSw); go_simp; (first | done | with_reducible rfl)); try simp only [Act.put, List.setIfInBounds_toArray, List.set_cons_zero, List.set_cons_succ])
      (refine wpAnyH_take (i := 4) (oi := ⟨some 39, _, _, _, _, _⟩) (v := ?_) rfl (by kernel_rfl) (by kernel_rfl) (by kernel_rfl) (fun _ _ _ h => h) (Or.inl ⟨by rfl, ?_⟩) (by assumption) ?_; rotate_left; (intro w hSw; (try dsimp only at hSw); go_simp; (first | done | with_reducible rfl)); try simp only [Act.put, List.setIfInBounds_toArray, List.set_cons_zero, List.set_cons_succ])
      (refine wpAnyH_take (i := 6) (oi := ⟨some 41, _, _, _, _, _⟩) (v := ?_) rfl (by kernel_rfl) (by kernel_rfl) (by kernel_rfl) (fun _ _ _ h => h) (Or.inl ⟨by rfl, ?_⟩) (by assumption) ?_; rotate_left; (intro w hSw; (try dsimp only at hSw); go_simp; (first | done | with_reducible rfl)); try simp only [Act.put, List.setIfInBounds_toArray, List.set_cons_zero, List.set_cons_succ])
      (refine wpAnyH_take (i := 7) (oi := ⟨some 42, _, _, _, _, _⟩) (v := ?_) rfl (by kernel_rfl) (by kernel_rfl) (by kernel_rfl) (fun _ _ _ h => h) (Or.inl ⟨by rfl, ?_⟩) (by assumption) ?_; rotate_left; (intro w hSw; (try dsimp only at hSw); go_simp; (first | done | with_reducible rfl)); try simp only [Act.put, List.setIfInBounds_toArray, List.set_cons_zero, List.set_cons_succ])
      (refine wpAnyH_take (i := 8) (oi := ⟨some 43, _, _, _, _, _⟩) (v := ?_) rfl (by kernel_rfl) (by kernel_rfl) (by kernel_rfl) (fun _ _ _ h => h) (Or.inl ⟨by rfl, ?_⟩) (by assumption) ?_; rotate_left; (intro w hSw; (try dsimp only at hSw); go_simp; (first | done | with_reducible rfl)); try simp only [Act.put, List.setIfInBounds_toArray, List.set_cons_zero, List.set_cons_succ])
      refine wpAnyH_ready (rs := [2, 10]) (by kernel_rfl) (by simp) ?_
      refine AllReadyH.cons (o := ⟨some 37, _, _, _, _, _⟩) rfl (fun K hK => ?_) (AllReadyH.cons (o := ⟨some 6, _, _, _, _, _⟩) rfl (fun K hK => ?_) AllReadyH.nil)
      · go_simp
        refine (WO.out _).mono ?_
        rintro e w1 ⟨rfl, hb1⟩
        refine hK.out _ _ (HMK.out _ (hHeld.1.trans (hb1.mono hHeld.1.size))) (fun hH1 => ?_)
        clear hK K hHeld hb1
        try simp only [Act.put, List.setIfInBounds_toArray, List.set_cons_zero, List.set_cons_succ]
        refine wpAnyH_ready (rs := [5, 10]) (by kernel_rfl) (by simp) ?_
        refine AllReadyH.cons (o := ⟨some 40, _, _, _, _, _⟩) rfl (fun K hK => ?_) (AllReadyH.cons (o := ⟨some 6, _, _, _, _, _⟩) rfl (fun K hK => ?_) AllReadyH.nil)
        · go_simp
          refine (CO.out _).mono ?_
          rintro e w2 ⟨rfl, hb2⟩
          refine hK.out _ _ (HMK.out _ (hH1.1.trans (hb2.mono hH1.1.size))) (fun hH2 => ?_)
          clear hK K hH1 hb2
          try simp only [Act.put, List.setIfInBounds_toArray, List.set_cons_zero, List.set_cons_succ]
          (refine wpAnyH_take (i := 9) (oi := ⟨some 44, _, _, _, _, _⟩) (v := ?_) rfl (by kernel_rfl) (by kernel_rfl) (by kernel_rfl) (fun _ _ _ h => h) (Or.inl ⟨by rfl, ?_⟩) (by assumption) ?_; rotate_left; (intro w hSw; (try dsimp only at hSw); go_simp; (first | done | with_reducible rfl)); try simp only [Act.put, List.setIfInBounds_toArray, List.set_cons_zero, List.set_cons_succ])
          refine wpAnyH_ready (rs := [10]) (by kernel_rfl) (by simp) ?_
          refine AllReadyH.cons (o := ⟨some 6, _, _, _, _, _⟩) rfl (fun K hK => ?_) AllReadyH.nil
          go_simp
          refine hK.out _ _ (HMK.out _ (hH2.1.alloc hH2.1.size _)) (fun hH3 => ?_)
          clear hK K hH3
          try simp only [Act.put, List.setIfInBounds_toArray, List.set_cons_zero, List.set_cons_succ]
          refine wpAnyH_ready (rs := [11]) (by kernel_rfl) (by simp) ?_
          refine AllReadyH.cons (o := ⟨none, _, _, _, _, _⟩) rfl (fun K hK => ?_) AllReadyH.nil
          go_simp
          refine hK.out _ _ (HMK.out _ (hH2.1.alloc hH2.1.size _)) (fun hH3 => ?_)
          clear hK K hH3
          try simp only [Act.put, List.setIfInBounds_toArray, List.set_cons_zero, List.set_cons_succ]
          refine wpAnyH_done (by kernel_rfl) ?_ _
          go_wp2_with fail
          go_meet
          case rel =>
            have hs := hH2.1.size
            exact ⟨_, _, rfl, rfl, by omega, (HK0.out.keep (hH2.1.alloc hH2.1.size _)).more _ _ _ (heap_alloc_new _ _) (by omega) (by omega)⟩
        · go_simp
          refine hK.out _ _ (HMK.out _ (hH1.1.alloc hH1.1.size _)) (fun hH2 => ?_)
          clear hK K hH2
          try simp only [Act.put, List.setIfInBounds_toArray, List.set_cons_zero, List.set_cons_succ]
          refine wpAnyH_ready (rs := [5]) (by kernel_rfl) (by simp) ?_
          refine AllReadyH.cons (o := ⟨some 40, _, _, _, _, _⟩) rfl (fun K hK => ?_) AllReadyH.nil
          go_simp
          refine (CO.out _).mono ?_
          rintro e w2 ⟨rfl, hb2⟩
          obtain ⟨X2, k2, rfl⟩ := Below_ext hb2; clear hb2
          refine hK.out _ _ (HMK.out _ (below_ext (hH1.1.alloc hH1.1.size _) (by have := hH1.1.size; simp [go_sem]; omega) X2 k2)) (fun hH2 => ?_)
          clear hK K
          try simp only [Act.put, List.setIfInBounds_toArray, List.set_cons_zero, List.set_cons_succ]
          (refine wpAnyH_take (i := 9) (oi := ⟨some 44, _, _, _, _, _⟩) (v := ?_) rfl (by kernel_rfl) (by kernel_rfl) (by kernel_rfl) (fun _ _ _ h => h) (Or.inl ⟨by rfl, ?_⟩) (by assumption) ?_; rotate_left; (intro w hSw; (try dsimp only at hSw); go_simp; (first | done | with_reducible rfl)); try simp only [Act.put, List.setIfInBounds_toArray, List.set_cons_zero, List.set_cons_succ])
          refine wpAnyH_ready (rs := [11]) (by kernel_rfl) (by simp) ?_
          refine AllReadyH.cons (o := ⟨none, _, _, _, _, _⟩) rfl (fun K hK => ?_) AllReadyH.nil
          go_simp
          refine hK.out _ _ (HMK.out _ (below_ext (hH1.1.alloc hH1.1.size _) (by have := hH1.1.size; simp [go_sem]; omega) X2 k2)) (fun hH3 => ?_)
          clear hK K hH3
          try simp only [Act.put, List.setIfInBounds_toArray, List.set_cons_zero, List.set_cons_succ]
          refine wpAnyH_done (by kernel_rfl) ?_ _
          go_wp2_with fail
          go_meet
          case rel =>
            have hs := hH1.1.size
            exact ⟨_, _, rfl, rfl, by omega, (HK0.out.keep (below_ext (hH1.1.alloc hH1.1.size _) (by simp [go_sem]; omega) X2 k2)).more _ _ _ ((heap_ext _ _ _ _ (by simp [go_sem])).trans (heap_alloc_new _ _)) (by omega) (by omega)⟩
      · go_simp
        refine hK.out _ _ (HMK.out _ (hHeld.1.alloc hHeld.1.size _)) (fun hH1 => ?_)
        clear hK K hH1
        try simp only [Act.put, List.setIfInBounds_toArray, List.set_cons_zero, List.set_cons_succ]
        refine wpAnyH_ready (rs := [2]) (by kernel_rfl) (by simp) ?_
        refine AllReadyH.cons (o := ⟨some 37, _, _, _, _, _⟩) rfl (fun K hK => ?_) AllReadyH.nil
        go_simp
        refine (WO.out _).mono ?_
        rintro e w1 ⟨rfl, hb1⟩
        obtain ⟨X1, k1, rfl⟩ := Below_ext hb1; clear hb1
        refine hK.out _ _ (HMK.out _ (below_ext (hHeld.1.alloc hHeld.1.size _) (by simp [go_sem]) X1 k1)) (fun hH2 => ?_)
        clear hK K hH2
        try simp only [Act.put, List.setIfInBounds_toArray, List.set_cons_zero, List.set_cons_succ]
        refine wpAnyH_ready (rs := [5]) (by kernel_rfl) (by simp) ?_
        refine AllReadyH.cons (o := ⟨some 40, _, _, _, _, _⟩) rfl (fun K hK => ?_) AllReadyH.nil
        go_simp
        refine (CO.out _).mono ?_
        rintro e w2 ⟨rfl, hb2⟩
        obtain ⟨X2, k2, rfl⟩ := Below_ext hb2; clear hb2
        rw [ext_ext]
        refine hK.out _ _ (HMK.out _ (below_ext (hHeld.1.alloc hHeld.1.size _) (by simp [go_sem]) (X1 ++ X2) k2)) (fun hH2 => ?_)
        clear hK K
        try simp only [Act.put, List.setIfInBounds_toArray, List.set_cons_zero, List.set_cons_succ]
        (refine wpAnyH_take (i := 9) (oi := ⟨some 44, _, _, _, _, _⟩) (v := ?_) rfl (by kernel_rfl) (by kernel_rfl) (by kernel_rfl) (fun _ _ _ h => h) (Or.inl ⟨by rfl, ?_⟩) (by assumption) ?_; rotate_left; (intro w hSw; (try dsimp only at hSw); go_simp; (first | done | with_reducible rfl)); try simp only [Act.put, List.setIfInBounds_toArray, List.set_cons_zero, List.set_cons_succ])
        refine wpAnyH_ready (rs := [11]) (by kernel_rfl) (by simp) ?_
        refine AllReadyH.cons (o := ⟨none, _, _, _, _, _⟩) rfl (fun K hK => ?_) AllReadyH.nil
        go_simp
        refine hK.out _ _ (HMK.out _ (below_ext (hHeld.1.alloc hHeld.1.size _) (by simp [go_sem]) (X1 ++ X2) k2)) (fun hH3 => ?_)
        clear hK K hH3
        try simp only [Act.put, List.setIfInBounds_toArray, List.set_cons_zero, List.set_cons_succ]
        refine wpAnyH_done (by kernel_rfl) ?_ _
        go_wp2_with fail
        go_meet
        case rel =>
          have hs := hHeld.1.size
          exact ⟨_, _, rfl, rfl, by omega, (HK0.out.keep (below_ext (hHeld.1.alloc hHeld.1.size _) (by simp [go_sem]) (X1 ++ X2) k2)).more _ _ _ (by rw [heap_ext _ _ _ _ (by simp [go_sem]; omega), ← z0]; exact heap_alloc_new V0.drew _) (by omega) (by omega)⟩
  case rest =>
    obtain ⟨bc, V, rfl, hV, hbc, hI⟩ := hcut
    subst hV
    have hwb : w.heap.size ≤ bx + 1 + 1 := by have := WZ.out; omega
    have hwm : w.heap.size ≤ bx + 1 := by have := WZ.out; omega
    have SC : Hid (∀ U : World, Below w.heap.size w U → Calls Tryz.prog 16 #[.agg #[.string (strB n), .string (strB v), .int .i64 age]] U fun e w' =>
      e = .returned (.tuple #[.string (strB (setL n v age)), .nilIface]) ∧ Below U.heap.size U w') := fun U hU =>
      setCookie_ok n v age U (hK.below hU) (by omega) (by omega) (by omega) a1 MAY.out (Joins.tab_stays (g := 17) (by kernel_rfl) hT hU (Nat.le_refl _))
    generalize hst : setL n v age = st at SC
    have CT : Hid (∀ (U : World) (g : Nat), Below w.heap.size w U → U.cell? ⟨g, 0, none⟩ = some (.string (strB n)) → U.cell? ⟨g, 1, none⟩ = some (.string (strB v)) →
      Calls Tryz.prog 17 #[.slice (some ⟨g, 0, none⟩) 1 1] U fun e w' => e = .returned (.tuple #[.string (strB (cookL [(n, v)])), .nilIface]) ∧ Below U.heap.size U w') := fun U g hU u0 u1 =>
      cookieText_ok [(n, v)] _ U (pairs_one (Nat.le_refl _) (by decide) u0 u1 (Nat.le_trans hnl (by decide)) (Nat.le_trans hvl (by decide))) (hK.below hU) (by simp)
        (by intro p hp; simp only [List.mem_singleton] at hp; subst hp; simp only; omega) (by intro p hp; simp only [List.mem_singleton] at hp; subst hp; exact MAY.out)
    generalize htx : cookL [(n, v)] = tx at CT
    have HST := Lib.hid hst
    have HTX := Lib.hid htx
    clear hst htx
    generalize hb' : bx + 1 + 1 = b at *
    generalize hm' : bx + 1 = m at *
    have K1 := Lib.hid hI
    clear hI HK0 HMK WO CO PK z0 lx
    have hxc := (K1.out.fx (bc, [.string (strB n), .string (strB v), .int .i64 age], 54) (.head _)).2.2; have hxx := (K1.out.fx (bx, [.string (strB nm), .string (strB vl), .int .i64 ag0, .int .i64 at0, .int .i64 wt0, .slice a5 n5 k5], 52) (.tail _ (.head _))).2.2; have c0 : World.cell? V ⟨bc, 0, none⟩ = some (.string (strB n)) := (by rw [Lib.cell_of_heap hxc]; rfl); have c1 : World.cell? V ⟨bc, 1, none⟩ = some (.string (strB v)) := (by rw [Lib.cell_of_heap hxc]; rfl); have c2 : World.cell? V ⟨bc, 2, none⟩ = some (.int .i64 age) := (by rw [Lib.cell_of_heap hxc]; rfl); have x5 : World.cell? V ⟨bx, 5, none⟩ = some (.slice a5 n5 k5) := (by rw [Lib.cell_of_heap hxx]; rfl); have lc : bc < (World.heap V).size := (Array.getElem?_eq_some_iff.1 hxc).1; have lx : bx < (World.heap V).size := (Array.getElem?_eq_some_iff.1 hxx).1; clear hxc hxx
    go_wp2_with fail
    refine (SC.out _ K1.out.below).mono ?_
    rintro e V2 ⟨rfl, hb2⟩
    have K2 := Lib.hid (K1.out.keep hb2)
    clear c0 c1 c2 x5 lc lx
    clear hb2 K1
    have hxc := (K2.out.fx (bc, [.string (strB n), .string (strB v), .int .i64 age], 54) (.head _)).2.2; have hxx := (K2.out.fx (bx, [.string (strB nm), .string (strB vl), .int .i64 ag0, .int .i64 at0, .int .i64 wt0, .slice a5 n5 k5], 52) (.tail _ (.head _))).2.2; have c0 : World.cell? V2 ⟨bc, 0, none⟩ = some (.string (strB n)) := (by rw [Lib.cell_of_heap hxc]; rfl); have c1 : World.cell? V2 ⟨bc, 1, none⟩ = some (.string (strB v)) := (by rw [Lib.cell_of_heap hxc]; rfl); have c2 : World.cell? V2 ⟨bc, 2, none⟩ = some (.int .i64 age) := (by rw [Lib.cell_of_heap hxc]; rfl); have x5 : World.cell? V2 ⟨bx, 5, none⟩ = some (.slice a5 n5 k5) := (by rw [Lib.cell_of_heap hxx]; rfl); have lc : bc < (World.heap V2).size := (Array.getElem?_eq_some_iff.1 hxc).1; have lx : bx < (World.heap V2).size := (Array.getElem?_eq_some_iff.1 hxx).1; clear hxc hxx
    go_wp2_with fail
    refine (CT.out _ _ (K2.out.below.alloc K2.out.below.size _) ?_ ?_).mono ?_
    · go_simp
    · go_simp
    rintro e V3 ⟨rfl, hb3⟩
    have K3 := Lib.hid (K2.out.keep (((Below.refl _ _).alloc (Nat.le_refl _) _).trans (hb3.mono (by simp))))
    clear c0 c1 c2 x5 lc lx
    clear hb3 K2
    have hxc := (K3.out.fx (bc, [.string (strB n), .string (strB v), .int .i64 age], 54) (.head _)).2.2; have hxx := (K3.out.fx (bx, [.string (strB nm), .string (strB vl), .int .i64 ag0, .int .i64 at0, .int .i64 wt0, .slice a5 n5 k5], 52) (.tail _ (.head _))).2.2; have c0 : World.cell? V3 ⟨bc, 0, none⟩ = some (.string (strB n)) := (by rw [Lib.cell_of_heap hxc]; rfl); have c1 : World.cell? V3 ⟨bc, 1, none⟩ = some (.string (strB v)) := (by rw [Lib.cell_of_heap hxc]; rfl); have c2 : World.cell? V3 ⟨bc, 2, none⟩ = some (.int .i64 age) := (by rw [Lib.cell_of_heap hxc]; rfl); have x5 : World.cell? V3 ⟨bx, 5, none⟩ = some (.slice a5 n5 k5) := (by rw [Lib.cell_of_heap hxx]; rfl); have lc : bc < (World.heap V3).size := (Array.getElem?_eq_some_iff.1 hxc).1; have lx : bx < (World.heap V3).size := (Array.getElem?_eq_some_iff.1 hxx).1; clear hxc hxx
    go_wp2_with fail
    have J0 := Lib.hid (K3.out.later b0)
    have VJ := visit_J b m none 0 at_ at_ { data := #[] } { data := #[] } [47] false false 0 V3 K3.out.ag (by decide) placeB_slash (by omega) K3.out.jar (by omega) (hK.below K3.out.below) (by omega)
    refine VJ.mono ?_
    rintro e V4 ⟨⟨sl, rfl, hp⟩, hb4⟩
    have K4 := Lib.hid (J0.out.turn _ hb4 hwb)
    have hp' : PairsV V4 sl [(hostL, usherL)] := hp
    obtain ⟨sa, sk, rfl, _, _, _⟩ := hp
    have LU : Hid (∀ U : World, Below V4.heap.size V4 U → Calls Tryz.prog 18 #[.slice sa 1 sk, .string { data := #[99, 111, 111, 107, 105, 101] }] U fun e w' => e = .returned (.tuple #[.string { data := #[] }, .int .i64 0]) ∧ Below U.heap.size U w') := fun U hU =>
      (lookup_any [(hostL, usherL)] cookieL _ U (hp'.below hU) (by decide)).mono fun e w' ⟨he, hb⟩ => ⟨by rw [he]; rfl, hb⟩
    clear c0 c1 c2 x5 lc lx
    clear hb4 K3 J0 VJ hp'
    have hxc := (K4.out.fx (bc, [.string (strB n), .string (strB v), .int .i64 age], 54) (.head _)).2.2; have hxx := (K4.out.fx (bx, [.string (strB nm), .string (strB vl), .int .i64 ag0, .int .i64 at0, .int .i64 wt0, .slice a5 n5 k5], 52) (.tail _ (.head _))).2.2; have c0 : World.cell? V4 ⟨bc, 0, none⟩ = some (.string (strB n)) := (by rw [Lib.cell_of_heap hxc]; rfl); have c1 : World.cell? V4 ⟨bc, 1, none⟩ = some (.string (strB v)) := (by rw [Lib.cell_of_heap hxc]; rfl); have c2 : World.cell? V4 ⟨bc, 2, none⟩ = some (.int .i64 age) := (by rw [Lib.cell_of_heap hxc]; rfl); have x5 : World.cell? V4 ⟨bx, 5, none⟩ = some (.slice a5 n5 k5) := (by rw [Lib.cell_of_heap hxx]; rfl); have lc : bc < (World.heap V4).size := (Array.getElem?_eq_some_iff.1 hxc).1; have lx : bx < (World.heap V4).size := (Array.getElem?_eq_some_iff.1 hxx).1; clear hxc hxx
    go_wp2_with fail
    refine (LU.out _ (by repeat (first | exact Below.refl _ _ | refine Below.alloc ?_ (by simp [go_sem]) _ | refine below_ext ?_ (by simp [go_sem]) _ _ | refine below_drewN ?_ _ | refine Below.drew ?_))).mono ?_
    rintro e V5 ⟨rfl, hb5⟩
    obtain ⟨X5, k5', rfl⟩ := Below_ext hb5; clear hb5
    go_wp2_with fail
    generalize hU : World.alloc (ext (V4.alloc _) X5 k5') _ = U
    have K5 := Lib.hid (K4.out.keep (show Below V4.heap.size V4 U by rw [← hU]; exact (by repeat (first | exact Below.refl _ _ | refine Below.alloc ?_ (by simp [go_sem]) _ | refine below_ext ?_ (by simp [go_sem]) _ _ | refine below_drewN ?_ _ | refine Below.drew ?_))))
    have u0 : U.cell? ⟨V4.heap.size + 1 + X5.size, 0, none⟩ = some (.string (strB [83, 69, 84, 45, 99, 111, 111, 107, 105, 101])) := by rw [← hU]; simp [go_sem]; rfl
    have u1 : U.cell? ⟨V4.heap.size + 1 + X5.size, 1, none⟩ = some (.string (strB (setL n v age))) := by rw [HST.out, ← hU]; simp [go_sem]
    have lV4 : bc < V4.heap.size := lc
    have zV4 : b < V4.heap.size := (Array.getElem?_eq_some_iff.1 K4.out.ag).1
    clear c0 c1 c2 x5 lc lx
    clear hU LU K4
    have HTB : ∀ W : World, Below U.heap.size (put U b 82 [.map (some m), .int .i64 at_, .string { data := #[] }, .bool false, .string { data := #[] }, .bool false, .int .i64 0]) W → Below w.heap.size w W := fun W hW =>
      (K5.out.put [.map (some m), .int .i64 at_, .string { data := #[] }, .bool false, .string { data := #[] }, .bool false, .int .i64 0] hwb).below.trans (hW.mono K5.out.below.size)
    have TK1 := take_one_at b m (V4.heap.size + 1 + X5.size) at_ at_ at_ { data := #[] } { data := #[] } { data := #[] } [83, 69, 84, 45, 99, 111, 111, 107, 105, 101] n v age false false 0 U K5.out.ag K5.out.jar.mp (by omega) (by omega) (by omega) (by omega)
      a0 a1 (by decide) (by decide) (hK.below K5.out.below) (by omega) (by omega) (by omega) MAY.out (fun W hW => Joins.tab_stays (g := 17) (by kernel_rfl) hT (HTB W hW) (Nat.le_refl _)) (fun W hW => hM.below (HTB W hW)) u0 u1
    refine TK1.mono ?_
    rintro e V6 ⟨rfl, hb6⟩
    obtain ⟨J, hJ⟩ : ∃ J, J = jarOf n v age at_ := ⟨_, rfl⟩
    rw [← hJ] at hb6
    have K6 := Lib.hid (K5.out.jarred (J' := J) (T' := at_) _ hb6 hwb hwm (by
      intro n1 v1 age1 at1 e
      rw [hJ] at e
      unfold jarOf at e
      split at e
      · cases e
      · simp only [Option.some.injEq, Prod.mk.injEq] at e
        obtain ⟨rfl, rfl, rfl, rfl⟩ := e
        exact ⟨b0, Int.le_refl _, by omega, a1, by omega, by omega, MAY.out⟩))
    have HJ := Lib.hid hJ
    clear hb6 hJ TK1 HTB u0 u1 K5
    have hxc := (K6.out.fx (bc, [.string (strB n), .string (strB v), .int .i64 age], 54) (.head _)).2.2; have hxx := (K6.out.fx (bx, [.string (strB nm), .string (strB vl), .int .i64 ag0, .int .i64 at0, .int .i64 wt0, .slice a5 n5 k5], 52) (.tail _ (.head _))).2.2; have c0 : World.cell? V6 ⟨bc, 0, none⟩ = some (.string (strB n)) := (by rw [Lib.cell_of_heap hxc]; rfl); have c1 : World.cell? V6 ⟨bc, 1, none⟩ = some (.string (strB v)) := (by rw [Lib.cell_of_heap hxc]; rfl); have c2 : World.cell? V6 ⟨bc, 2, none⟩ = some (.int .i64 age) := (by rw [Lib.cell_of_heap hxc]; rfl); have x5 : World.cell? V6 ⟨bx, 5, none⟩ = some (.slice a5 n5 k5) := (by rw [Lib.cell_of_heap hxx]; rfl); have lc : bc < (World.heap V6).size := (Array.getElem?_eq_some_iff.1 hxc).1; have lx : bx < (World.heap V6).size := (Array.getElem?_eq_some_iff.1 hxx).1; clear hxc hxx
    go_wp2_with fail
    obtain ⟨V7, hV7⟩ : ∃ V7 : World, V7 = V6.alloc (Obj.cells #[.string { data := #[] }, .string { data := #[] }, .int .i64 0, .slice none 0 0, .string { data := #[] }, .bool false] 30) := ⟨_, rfl⟩
    have K7 := Lib.hid (K6.out.keep (show Below V6.heap.size V6 V7 by rw [hV7]; exact (by repeat (first | exact Below.refl _ _ | refine Below.alloc ?_ (by simp [go_sem]) _ | refine below_ext ?_ (by simp [go_sem]) _ _ | refine below_drewN ?_ _ | refine Below.drew ?_))))
    rw [← hV7]
    clear hV7 K6
    clear c0 c1 c2 x5 lc lx
    generalize reqL (lives none at_) = rq0
    have ls0 : ∀ ls, ls = (decide (age < 0) || decide (wt < age)) → lives J (at_ + wt) = if ls = true then [(n, v)] else [] := by
      intro ls hls
      rw [HJ.out]
      unfold jarOf
      split
      · rename_i h
        have : ls = false := by rw [hls]; simp; omega
        rw [this]; rfl
      · have e : lastsB age at_ (at_ + wt) = ls := by rw [hls]; unfold lastsB; rw [show at_ + wt - at_ = wt by omega]
        show (if lastsB age at_ (at_ + wt) = true then _ else _) = _
        rw [e]
    have hls : ∃ ls, ls = (decide (age < 0) || decide (wt < age)) ∧ ((decide (age < 0) = true ∧ ls = true) ∨ (decide (age < 0) = false ∧ decide (wt < age) = ls)) := by
      refine ⟨_, rfl, ?_⟩
      rcases Int.lt_or_le age 0 with h | h
      · exact .inl ⟨by simpa using h, by simp [h]⟩
      · exact .inr ⟨by simpa using h, by have e : decide (age < 0) = false := (by simpa using h); rw [e]; simp⟩
    obtain ⟨ls, hls1, hls2⟩ := hls
    have LS := Lib.hid (ls0 ls hls1)
    have LS2 := Lib.hid hls2
    clear ls0 hls1 hls2
    have JR : ∀ (U : World) (z T : Int), BInv w b m [(bc, [.string (strB n), .string (strB v), .int .i64 age], 54), (bx, [.string (strB nm), .string (strB vl), .int .i64 ag0, .int .i64 at0, .int .i64 wt0, .slice a5 n5 k5], 52)] [.map (some m), .int .i64 at_, .string { data := #[] }, .bool false, .string { data := #[] }, .bool false, .int .i64 0] J at_ U → z ≤ 9223372036854775807 → T = max at_ z →
        Calls Tryz.prog 19 #[.pointer (some ⟨b, 0, none⟩), .int .i64 z] U fun e w' => (∃ sl, e = .returned sl ∧ PairsV w' sl (lives J T)) ∧ Below U.heap.size U w' := fun U z T hU hz hT =>
      jar_J b m J at_ z T { data := #[] } { data := #[] } false false 0 U hU.ag hU.jar hT (by omega)
    have HJR := Lib.hid JR
    clear JR
    go_loopg [18] (n5 + 1) (fun g v18 wr => ∃ (i : Nat) (V : World), i ≤ n5 ∧ v18 = .int .i64 (i : Int) ∧ V = wr ∧ BInv w b m [(bc, [.string (strB n), .string (strB v), .int .i64 age], 54), (bx, [.string (strB nm), .string (strB vl), .int .i64 ag0, .int .i64 at0, .int .i64 wt0, .slice a5 n5 k5], 52)] [.map (some m), .int .i64 at_, .string { data := #[] }, .bool false, .string { data := #[] }, .bool false, .int .i64 0] J at_ V ∧ n5 - i < g)
    case atStart => exact ⟨0, _, by omega, rfl, rfl, K7.out, by omega⟩
    case round =>
      obtain ⟨i, V, hi, rfl, hV, hI, hg⟩ := hrel
      subst hV
      have K8 := Lib.hid hI
      clear hI K7
      have hxc := (K8.out.fx (bc, [.string (strB n), .string (strB v), .int .i64 age], 54) (.head _)).2.2; have hxx := (K8.out.fx (bx, [.string (strB nm), .string (strB vl), .int .i64 ag0, .int .i64 at0, .int .i64 wt0, .slice a5 n5 k5], 52) (.tail _ (.head _))).2.2; have c0 : World.cell? V ⟨bc, 0, none⟩ = some (.string (strB n)) := (by rw [Lib.cell_of_heap hxc]; rfl); have c1 : World.cell? V ⟨bc, 1, none⟩ = some (.string (strB v)) := (by rw [Lib.cell_of_heap hxc]; rfl); have c2 : World.cell? V ⟨bc, 2, none⟩ = some (.int .i64 age) := (by rw [Lib.cell_of_heap hxc]; rfl); have x5 : World.cell? V ⟨bx, 5, none⟩ = some (.slice a5 n5 k5) := (by rw [Lib.cell_of_heap hxx]; rfl); have lc : bc < (World.heap V).size := (Array.getElem?_eq_some_iff.1 hxc).1; have lx : bx < (World.heap V).size := (Array.getElem?_eq_some_iff.1 hxx).1; clear hxc hxx
      by_cases hlt : i < n5
      · obtain ⟨g5, o5, rfl, hc⟩ := HC5.out.resolve_left (by omega)
        obtain ⟨z, hz1, hcz⟩ := hc i hlt
        have xz : V.cell? ⟨g5, o5 + i, none⟩ = some (.int .i64 z) := (K8.out.below.cell (p := ⟨g5, o5 + i, none⟩) (World.block_lt_of_cell? w _ hcz)).trans hcz
        clear hc hcz
        go_wp2_with fail
        refine (HJR.out _ z _ K8.out hz1 rfl).mono ?_
        rintro e V9 ⟨⟨sl, rfl, _⟩, hb9⟩
        have K9 := Lib.hid (K8.out.keep hb9)
        clear c0 c1 c2 x5 lc lx
        clear hb9 xz K8
        go_wp2_with fail
        go_roundg (gk - 1)
        case measure => omega
        case rel => exact ⟨i + 1, _, by omega, by go_num, rfl, K9.out, by omega⟩
      · obtain ⟨j, hj⟩ : ∃ j, j = i := ⟨_, rfl⟩
        obtain rfl : n5 = i := by omega
        clear hj
        go_upto_region 20 with (fail)
        go_cut [19] from 123 to 131 (fun v19 wx => v19 = .bool ls ∧ wx = V)
        case first =>
          rcases LS2.out with ⟨d1, rfl⟩ | ⟨d1, d2⟩
          · go_wp2_with fail
            go_meet
            case rel => exact ⟨rfl, rfl⟩
          · go_wp2_with fail
            go_meet
            case rel => exact ⟨rfl, rfl⟩
        case rest =>
          obtain ⟨rfl, rfl⟩ := hcut
          go_wp2_with fail
          refine (HJR.out _ (at_ + wt) (at_ + wt) K8.out (by omega) (by omega)).mono ?_
          rintro e V9 ⟨⟨jl, rfl, hpj⟩, hb9⟩
          have K9 := Lib.hid (K8.out.keep hb9)
          have HPJ := Lib.hid hpj
          clear c0 c1 c2 x5 lc lx
          clear hb9 hpj K8 HJR
          have hxc := (K9.out.fx (bc, [.string (strB n), .string (strB v), .int .i64 age], 54) (.head _)).2.2; have hxx := (K9.out.fx (bx, [.string (strB nm), .string (strB vl), .int .i64 ag0, .int .i64 at0, .int .i64 wt0, .slice a5 n5 k5], 52) (.tail _ (.head _))).2.2; have c0 : World.cell? V9 ⟨bc, 0, none⟩ = some (.string (strB n)) := (by rw [Lib.cell_of_heap hxc]; rfl); have c1 : World.cell? V9 ⟨bc, 1, none⟩ = some (.string (strB v)) := (by rw [Lib.cell_of_heap hxc]; rfl); have c2 : World.cell? V9 ⟨bc, 2, none⟩ = some (.int .i64 age) := (by rw [Lib.cell_of_heap hxc]; rfl); have x5 : World.cell? V9 ⟨bx, 5, none⟩ = some (.slice a5 n5 k5) := (by rw [Lib.cell_of_heap hxx]; rfl); have lc : bc < (World.heap V9).size := (Array.getElem?_eq_some_iff.1 hxc).1; have lx : bx < (World.heap V9).size := (Array.getElem?_eq_some_iff.1 hxx).1; clear hxc hxx
          go_wp2_with fail
          refine (visit_J b m J at_ (at_ + wt) (at_ + wt) { data := #[] } { data := #[] } [47, 120] false false 0 V9 K9.out.ag (by decide) (by decide) (by omega) K9.out.jar (by omega) (hK.below K9.out.below) (by omega)).mono ?_
          rintro e V10 ⟨⟨sl, rfl, hp⟩, hb10⟩
          have K10 := Lib.hid ((K9.out.later (by omega : at_ ≤ at_ + wt)).turn _ hb10 hwb)
          rw [LS.out] at hp
          clear c0 c1 c2 x5 lc lx
          clear LS2
          cases ls with
          | true =>
            have hp' : PairsV V10 sl [(hostL, usherL), (cookieL, tx)] := by rw [← HTX.out]; exact hp
            have hj : PairsV V9 jl [(n, v)] := by have := HPJ.out; rw [LS.out] at this; exact this
            have hj' : PairsV V10 jl [(n, v)] := (pairs_put hj K9.out.ag).below (by rw [size_put]; exact hb10)
            obtain ⟨sa2, sk2, rfl, _, _, _⟩ := hp
            have LU : Hid (∀ U : World, Below V10.heap.size V10 U → Calls Tryz.prog 18 #[.slice sa2 2 sk2, .string { data := #[99, 111, 111, 107, 105, 101] }] U fun e w' => e = .returned (.tuple #[.string (strB tx), .int .i64 1]) ∧ Below U.heap.size U w') := fun U hU =>
              (lookup_any [(hostL, usherL), (cookieL, tx)] cookieL _ U (hp'.below hU) (by decide)).mono fun e w' ⟨he, hb⟩ => ⟨by rw [he]; rfl, hb⟩
            have HS : Hid (∀ U : World, Below V10.heap.size V10 U → Calls Tryz.prog 20 #[jl, .string (strB n), .string (strB v)] U fun e w' => e = .returned (.bool true) ∧ U = w') := fun U hU => has_yes n v jl U (hj'.below hU)
            clear hp' hj hj' hb10 K9 HPJ LS
            have hxc := (K10.out.fx (bc, [.string (strB n), .string (strB v), .int .i64 age], 54) (.head _)).2.2; have hxx := (K10.out.fx (bx, [.string (strB nm), .string (strB vl), .int .i64 ag0, .int .i64 at0, .int .i64 wt0, .slice a5 n5 k5], 52) (.tail _ (.head _))).2.2; have c0 : World.cell? V10 ⟨bc, 0, none⟩ = some (.string (strB n)) := (by rw [Lib.cell_of_heap hxc]; rfl); have c1 : World.cell? V10 ⟨bc, 1, none⟩ = some (.string (strB v)) := (by rw [Lib.cell_of_heap hxc]; rfl); have c2 : World.cell? V10 ⟨bc, 2, none⟩ = some (.int .i64 age) := (by rw [Lib.cell_of_heap hxc]; rfl); have x5 : World.cell? V10 ⟨bx, 5, none⟩ = some (.slice a5 n5 k5) := (by rw [Lib.cell_of_heap hxx]; rfl); have lc : bc < (World.heap V10).size := (Array.getElem?_eq_some_iff.1 hxc).1; have lx : bx < (World.heap V10).size := (Array.getElem?_eq_some_iff.1 hxx).1; clear hxc hxx
            go_wp2_with fail
            refine (LU.out _ (by repeat (first | exact Below.refl _ _ | refine Below.alloc ?_ (by simp [go_sem]) _ | refine below_ext ?_ (by simp [go_sem]) _ _ | refine below_drewN ?_ _ | refine Below.drew ?_))).mono ?_
            rintro e V11 ⟨rfl, hb11⟩
            obtain ⟨X11, k11, rfl⟩ := Below_ext hb11; clear hb11
            go_wp2_with fail
            refine (HS.out _ (by repeat (first | exact Below.refl _ _ | refine Below.alloc ?_ (by simp [go_sem]) _ | refine below_ext ?_ (by simp [go_sem]) _ _ | refine below_drewN ?_ _ | refine Below.drew ?_))).mono ?_
            rintro e V12 ⟨rfl, rfl⟩
            go_wp2_with fail
            go_ret
            exact ⟨rfl, K10.out.below.trans ((show Below V10.heap.size V10 _ from (by repeat (first | exact Below.refl _ _ | refine Below.alloc ?_ (by simp [go_sem]) _ | refine below_ext ?_ (by simp [go_sem]) _ _ | refine below_drewN ?_ _ | refine Below.drew ?_))).mono K10.out.below.size)⟩
          | false =>
            have hp' : PairsV V10 sl [(hostL, usherL)] := hp
            have hj : PairsV V9 jl [] := by have := HPJ.out; rw [LS.out] at this; exact this
            obtain ⟨ja, jk, rfl, _, _, _⟩ := hj
            obtain ⟨sa2, sk2, rfl, _, _, _⟩ := hp
            have LU : Hid (∀ U : World, Below V10.heap.size V10 U → Calls Tryz.prog 18 #[.slice sa2 1 sk2, .string { data := #[99, 111, 111, 107, 105, 101] }] U fun e w' => e = .returned (.tuple #[.string { data := #[] }, .int .i64 0]) ∧ Below U.heap.size U w') := fun U hU =>
              (lookup_any [(hostL, usherL)] cookieL _ U (hp'.below hU) (by decide)).mono fun e w' ⟨he, hb⟩ => ⟨by rw [he]; rfl, hb⟩
            clear hp' hb10 K9 HPJ LS
            have hxc := (K10.out.fx (bc, [.string (strB n), .string (strB v), .int .i64 age], 54) (.head _)).2.2; have hxx := (K10.out.fx (bx, [.string (strB nm), .string (strB vl), .int .i64 ag0, .int .i64 at0, .int .i64 wt0, .slice a5 n5 k5], 52) (.tail _ (.head _))).2.2; have c0 : World.cell? V10 ⟨bc, 0, none⟩ = some (.string (strB n)) := (by rw [Lib.cell_of_heap hxc]; rfl); have c1 : World.cell? V10 ⟨bc, 1, none⟩ = some (.string (strB v)) := (by rw [Lib.cell_of_heap hxc]; rfl); have c2 : World.cell? V10 ⟨bc, 2, none⟩ = some (.int .i64 age) := (by rw [Lib.cell_of_heap hxc]; rfl); have x5 : World.cell? V10 ⟨bx, 5, none⟩ = some (.slice a5 n5 k5) := (by rw [Lib.cell_of_heap hxx]; rfl); have lc : bc < (World.heap V10).size := (Array.getElem?_eq_some_iff.1 hxc).1; have lx : bx < (World.heap V10).size := (Array.getElem?_eq_some_iff.1 hxx).1; clear hxc hxx
            go_wp2_with fail
            refine (LU.out _ (by repeat (first | exact Below.refl _ _ | refine Below.alloc ?_ (by simp [go_sem]) _ | refine below_ext ?_ (by simp [go_sem]) _ _ | refine below_drewN ?_ _ | refine Below.drew ?_))).mono ?_
            rintro e V11 ⟨rfl, hb11⟩
            obtain ⟨X11, k11, rfl⟩ := Below_ext hb11; clear hb11
            go_wp2_with fail
            go_ret
            exact ⟨rfl, K10.out.below.trans ((show Below V10.heap.size V10 _ from (by repeat (first | exact Below.refl _ _ | refine Below.alloc ?_ (by simp [go_sem]) _ | refine below_ext ?_ (by simp [go_sem]) _ _ | refine below_drewN ?_ _ | refine Below.drew ?_))).mono K10.out.below.size)⟩
end Go.Proofs.YtmeahkijpipgnaaGreatDoor
