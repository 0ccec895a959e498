/- AgentHops: the walk of the statement. -/
import Derived.Test.YtmeahkijpipgnaaGreatDoorAl
namespace Go.Proofs.YtmeahkijpipgnaaGreatDoor
open Go Go.RowKit

/-- A list that came in: strings. -/
def StrsIn (w : World) (v : Value) (n : Nat) : Prop := ∃ a c, v = .slice a n c ∧ n ≤ maxLen ∧ (n = 0 ∨ ∃ g o, a = some ⟨g, o, none⟩ ∧ ∀ i, i < n → ∃ l : List UInt8, w.cell? ⟨g, o + i, none⟩ = some (.string (strB l)) ∧ l.length ≤ 140737488351232)
def IntsIn (w : World) (v : Value) (n : Nat) : Prop := ∃ a c, v = .slice a n c ∧ n ≤ maxLen ∧ (n = 0 ∨ ∃ g o, a = some ⟨g, o, none⟩ ∧ ∀ i, i < n → ∃ z : Int, w.cell? ⟨g, o + i, none⟩ = some (.int .i64 z))

theorem keep3 {W u v : World} {p q : Addr} {a c : Value} (h : Below W.heap.size W u ∧ u.cell? ⟨p.block, p.off, none⟩ = some a ∧ u.cell? ⟨q.block, q.off, none⟩ = some c) (hb : Below u.heap.size u v) (hp : p.block < W.heap.size) (hq : q.block < W.heap.size) :
    Below W.heap.size W v ∧ v.cell? ⟨p.block, p.off, none⟩ = some a ∧ v.cell? ⟨q.block, q.off, none⟩ = some c :=
  ⟨h.1.trans (hb.mono h.1.size), (hb.cell (p := ⟨p.block, p.off, none⟩) (Nat.lt_of_lt_of_le hp h.1.size)).trans h.2.1, (hb.cell (p := ⟨q.block, q.off, none⟩) (Nat.lt_of_lt_of_le hq h.1.size)).trans h.2.2⟩

set_option maxRecDepth 100000 in
set_option maxHeartbeats 8000000 in
theorem hops_walk (v0 v1 : Value) (n0 n1 : Nat) (now : Int) (w : World) (A : Nat → Addr) (hE : ErrEnv w A) (h0 : StrsIn w v0 n0) (h1 : IntsIn w v1 n1) :
    Calls Tryz.prog 3 #[.agg #[v0, v1, .int .i64 now]] w fun e w' => e = .returned (.bool true) ∧ Below w.heap.size w w' := by
  have HE := Lib.hid hE
  obtain ⟨a0, k0, rfl, hm0, hc0⟩ := h0
  obtain ⟨a1, k1, rfl, hm1, hc1⟩ := h1
  have HC0 := Lib.hid hc0
  have HC1 := Lib.hid hc1
  have l12 : 12 < w.heap.size := World.block_lt_of_cell? w _ (hE.s 12 (by omega)).1
  clear hE hc0 hc1
  unfold maxLen at hm0 hm1
  go_enter Tryz.func3, Tryz.ntmps3
  go_wp2_with fail
  refine (new_any _).mono ?_
  rintro e w1 ⟨rfl, rfl⟩
  go_wp2_with fail
  have I0 : HInv w w.heap.size (w.heap.size + 1) (w.heap.size + 1 + 1) (.slice a0 n0 k0) (.slice a1 n1 k1) now [.map (some (w.heap.size + 1)), .int .i64 0, .string { data := #[] }, .bool false, .string { data := #[] }, .bool false, .int .i64 0]
      (((w.alloc (Obj.cells #[Value.slice a0 n0 k0, Value.slice a1 n1 k1, Value.int IntKind.i64 now] 25)).alloc (Obj.map #[] 0)).alloc (.cells ([.map (some (w.heap.size + 1)), .int .i64 0, .string { data := #[] }, .bool false, .string { data := #[] }, .bool false, .int .i64 0]).toArray 82)) := by
    refine ⟨(by repeat (first | exact Below.refl _ _ | refine Below.alloc ?_ (by simp [go_sem]) _ | refine below_ext ?_ (by simp [go_sem]) _ _ | refine below_drewN ?_ _ | refine Below.drew ?_)), by simp [go_sem], by simp [go_sem], by simp [go_sem], ?_, ?_⟩
    · rw [heap_alloc_old _ _ (by simp [go_sem])]
      have := heap_alloc_new (w.alloc (Obj.cells #[Value.slice a0 n0 k0, Value.slice a1 n1 k1, Value.int IntKind.i64 now] 25)) (Obj.map #[] 0)
      rwa [show (w.alloc (Obj.cells #[Value.slice a0 n0 k0, Value.slice a1 n1 k1, Value.int IntKind.i64 now] 25)).heap.size = w.heap.size + 1 by simp [go_sem]] at this
    · have := heap_alloc_new ((w.alloc (Obj.cells #[Value.slice a0 n0 k0, Value.slice a1 n1 k1, Value.int IntKind.i64 now] 25)).alloc (Obj.map #[] 0)) (.cells ([.map (some (w.heap.size + 1)), .int .i64 0, .string { data := #[] }, .bool false, .string { data := #[] }, .bool false, .int .i64 0]).toArray 82)
      rwa [show ((w.alloc (Obj.cells #[Value.slice a0 n0 k0, Value.slice a1 n1 k1, Value.int IntKind.i64 now] 25)).alloc (Obj.map #[] 0)).heap.size = w.heap.size + 1 + 1 by simp [go_sem]] at this
  have J0 := Lib.hid I0
  clear I0
  refine (visit_at (w.heap.size + 1 + 1) (w.heap.size + 1) 0 now (max 0 now) { data := #[] } { data := #[] } [47] false false 0 _ J0.out.ag J0.out.mp (by omega) (by decide) placeB_slash rfl).mono ?_
  rintro e w2 ⟨⟨h, rfl⟩, hb⟩
  obtain ⟨T, hT⟩ : ∃ T, T = max 0 now := ⟨_, rfl⟩
  rw [← hT] at hb
  have hTn : now ≤ T := by omega
  have hT0 : 0 ≤ T := by omega
  have J1 := Lib.hid (J0.out.turn _ hb (by omega) (by omega) (by omega))
  clear hb J0 hT
  generalize hbb : w.heap.size + 1 + 1 = b at J1 ⊢
  generalize hmm : w.heap.size + 1 = m at J1 ⊢
  obtain ⟨bx, hbx⟩ : ∃ bx, bx = w.heap.size := ⟨_, rfl⟩
  rw [← hbx] at J1 ⊢
  have q1 : bx < b := by omega
  have q2 : m < b := by omega
  have q3 : w.heap.size ≤ b := by omega
  have q4 : 12 < bx := by omega
  have q5 : bx < m := by omega
  clear hbb hmm hbx
  go_wp2_with fail
  generalize hU : w2.alloc _ = U
  have J2 : Hid (HInv w bx m b (.slice a0 n0 k0) (.slice a1 n1 k1) now (hopL m T 0) U) := by
    rw [← hU]; exact J1.out.keep (by repeat (first | exact Below.refl _ _ | refine Below.alloc ?_ (by simp [go_sem]) _ | refine below_ext ?_ (by simp [go_sem]) _ _ | refine below_drewN ?_ _ | refine Below.drew ?_))
  clear hU J1
  go_loopg [6] 12 (fun g v6 wr => ∃ j : Nat, j ≤ 11 ∧ v6 = .int .i64 (j : Int) ∧ HInv w bx m b (.slice a0 n0 k0) (.slice a1 n1 k1) now (hopL m T j) wr ∧ 11 - j < g)
  case atStart => exact ⟨0, by omega, rfl, J2.out, by omega⟩
  case round =>
    obtain ⟨j, hj, rfl, hI, hg⟩ := hrel
    have x0 := hI.x0
    have x1 := hI.x1
    have x2 := hI.x2
    have lx : bx < wr.heap.size := World.block_lt_of_cell? wr _ x0
    have INV := Lib.hid hI
    clear hI J2
    by_cases hj11 : j ≤ 10
    · have hjd : decide ((j : Int) ≤ 10) = true := by simp; omega
      go_upto_if 42 with fail
      go_cut [7] from 39 to 53 (fun v7 wx => ∃ tg : List UInt8, v7 = .string (strB tg) ∧ placeB tg = true ∧ tg.length ≤ 140737488351234 ∧ ∃ V, V = wx ∧ HInv w bx m b (.slice a0 n0 k0) (.slice a1 n1 k1) now (hopL m T j) V)
      case first =>
        by_cases hn : n0 = 0
        · have hd : decide (0 < (n0 : Int)) = false := by simp; omega
          have hd' : decide (0 < n0) = false := by simp; omega
          have hd2 : ¬ 0 < n0 := by omega
          clear hn
          go_wp2_with fail
          go_meet
          case rel => exact ⟨[47], by rfl, placeB_slash, by decide, _, rfl, INV.out⟩
        · have hd : decide (0 < (n0 : Int)) = true := by simp; omega
          obtain ⟨gt, ot, rfl, hcell⟩ := HC0.out.resolve_left hn
          obtain ⟨r, hr⟩ : ∃ r, r = j % n0 := ⟨_, rfl⟩
          have hrl : r < n0 := by rw [hr]; exact Nat.mod_lt _ (by omega)
          obtain ⟨l, hl, hll⟩ := hcell r hrl
          have lgt : gt < w.heap.size := World.block_lt_of_cell? w _ hl
          have cl : wr.cell? ⟨gt, ot + r, none⟩ = some (.string (strB l)) := (INV.out.below.cell (p := ⟨gt, ot + r, none⟩) lgt).trans hl
          have tm : ((j : Nat) : Int).tmod (n0 : Int) = (r : Int) := by rw [Int.tmod_eq_emod_of_nonneg (by omega), hr]; rfl
          have r0 : (0 : Int) ≤ (r : Int) := by omega
          have r1 : (r : Int) < (n0 : Int) := by omega
          have nz : ((n0 : Int) == 0) = false := by rw [beq_eq_false_iff_ne]; omega
          have nz' : ¬ (n0 : Int) = 0 := by omega
          have lgw : gt < wr.heap.size := World.block_lt_of_cell? wr _ cl
          have WO : Hid (∀ V : World, Calls Tryz.prog 9 #[.string (strB l)] V fun e w' => e = .returned (.string (strB (wordL l))) ∧ Below V.heap.size V w') := fun V => wordOf_any l V hll
          have WL : (strB (wordL l)).size ≤ 140737488351233 := by rw [strB_size]; have := wordL_len l; omega
          obtain ⟨wz, hwz, hwl⟩ : ∃ n : Nat, (strB (wordL l)).size = n ∧ n ≤ 140737488351233 := ⟨_, rfl, WL⟩
          have hw1 : ¬ (9223372036854775807 < 1 + wz) := by omega
          clear hr hrl hl hcell WL
          go_wp2_with fail
          go_region_held3 (fun w' => Below wr.heap.size wr w' ∧ w'.cell? ⟨bx, 0, none⟩ = some (.slice (some ⟨gt, ot, none⟩) n0 k0) ∧ w'.cell? ⟨gt, ot + r, none⟩ = some (.string (strB l)))
            (first | (exact ⟨(Below.refl _ _).drew, x0, cl⟩) | (exact keep3 (p := ⟨bx, 0, none⟩) (q := ⟨gt, ot + r, none⟩) (by assumption) (by assumption) lx lgw) | go_keep)
            ((go_at_call 9; refine (WO.out _).mono ?_; rintro e w' ⟨rfl, hb⟩))
          go_wp2_with fail
          have hS := (by assumption : Below wr.heap.size wr _ ∧ _).1
          go_meet
          case rel => exact ⟨47 :: wordL l, by rfl, placeB_word l, by have := wordL_len l; simp only [List.length_cons]; omega, _, rfl, INV.out.keep hS⟩
      case rest =>
        obtain ⟨tg, rfl, hp, htl, V, rfl, hI⟩ := hcut
        have x0 := hI.x0
        have x1 := hI.x1
        have x2 := hI.x2
        have lx : bx < V.heap.size := World.block_lt_of_cell? V _ x0
        have INV := Lib.hid hI
        have HP := Lib.hid hp
        clear hI hp
        go_upto_if 57 with fail
        go_cut [8] from 54 to 68 (fun v8 wy => (∃ st : Int, v8 = .int .i64 st ∧ (st = 302 ∨ st = 303)) ∧ ∃ k, wy = V.drewN k)
        case first =>
          by_cases hn : n1 = 0
          · have hd : decide (0 < (n1 : Int)) = false := by simp; omega
            have hd' : decide (0 < n1) = false := by simp; omega
            have hd2 : ¬ 0 < n1 := by omega
            clear hn
            go_wp2_with fail
            go_meet
            case rel => exact ⟨⟨302, by rfl, .inl rfl⟩, 0, rfl⟩
          · have hd : decide (0 < (n1 : Int)) = true := by simp; omega
            obtain ⟨gt, ot, rfl, hcell⟩ := HC1.out.resolve_left hn
            obtain ⟨r, hr⟩ : ∃ r, r = j % n1 := ⟨_, rfl⟩
            have hrl : r < n1 := by rw [hr]; exact Nat.mod_lt _ (by omega)
            obtain ⟨z, hl⟩ := hcell r hrl
            have lgt : gt < w.heap.size := World.block_lt_of_cell? w _ hl
            have cl : V.cell? ⟨gt, ot + r, none⟩ = some (.int .i64 z) := (INV.out.below.cell (p := ⟨gt, ot + r, none⟩) lgt).trans hl
            have tm : ((j : Nat) : Int).tmod (n1 : Int) = (r : Int) := by rw [Int.tmod_eq_emod_of_nonneg (by omega), hr]; rfl
            have r0 : (0 : Int) ≤ (r : Int) := by omega
            have r1 : (r : Int) < (n1 : Int) := by omega
            have PK : Hid (∀ V : World, Calls Tryz.prog 10 #[.int .i64 z, .int .i64 2] V fun e w' => e = .returned (.int .i64 (z % 2)) ∧ V = w') := fun V => pick_any z 2 V (by omega) (by omega)
            have z0 := Int.emod_nonneg z (b := 2) (by omega)
            have z1 := Int.emod_lt_of_pos z (b := 2) (by omega)
            generalize z % 2 = y at *
            have wr1 : IntKind.i64.wrap (302 + y) = 302 + y := IntWalk.i64_in _ (by omega)
            clear hr hrl hl hcell
            go_wp2_with fail
            go_quiet ((go_at_call 10; exact quiet_left (PK.out _)))
            go_wp2_with fail
            go_meet
            case rel => exact ⟨⟨302 + y, by rfl, by omega⟩, _, rfl⟩
        case rest =>
          obtain ⟨⟨st, rfl, hst⟩, k, rfl⟩ := hcut
          have HST := Lib.hid hst
          have TL : Hid (tg.length ≤ maxLen) := by show _ ≤ _; unfold maxLen; omega
          clear hst
          have lb : b < V.heap.size := (Array.getElem?_eq_some_iff.1 INV.out.ag).1
          go_wp2_with fail
          have I1 : Hid (HInv w bx m b (.slice a0 n0 k0) (.slice a1 n1 k1) now (hopL m T j) ((V.drewN k).alloc (Obj.cells #[Value.string { data := #[108, 111, 99, 97, 116, 105, 111, 110] }, Value.string (strB tg)] 40))) := INV.out.keep (by repeat (first | exact Below.refl _ _ | refine Below.alloc ?_ (by simp [go_sem]) _ | refine below_ext ?_ (by simp [go_sem]) _ _ | refine below_drewN ?_ _ | refine Below.drew ?_))
          by_cases hj9 : j ≤ 9
          · have e0 : hopL m T j = [.map (some m), .int .i64 T, .string { data := #[] }, .bool false, .string { data := #[] }, .bool true, .int .i64 (j : Int)] := by unfold hopL; rw [if_pos hj11]
            have A1 := I1.out.ag
            rw [e0] at A1
            refine (take_follow_at b m V.heap.size T now st { data := #[] } { data := #[] } { data := #[] } [108, 111, 99, 97, 116, 105, 111, 110] tg false false (j : Int) _ A1 I1.out.mp (by omega) HST.out (by decide) (by decide) TL.out HP.out (by omega) (by omega) (by omega) hTn ?_ ?_).mono ?_
            · rw [show V.heap.size = (V.drewN k).heap.size from rfl, World.cell?_alloc_new]; rfl
            · rw [show V.heap.size = (V.drewN k).heap.size from rfl, World.cell?_alloc_new]; rfl
            rintro e w3 ⟨⟨hh, rfl⟩, hb⟩
            have I2 : Hid (HInv w bx m b (.slice a0 n0 k0) (.slice a1 n1 k1) now (hopL m T (j + 1)) w3) := by
              have e1 : hopL m T (j + 1) = [.map (some m), .int .i64 T, .string { data := #[] }, .bool false, .string { data := #[] }, .bool true, .int .i64 ((j : Int) + 1)] := by unfold hopL; rw [if_pos (by omega)]; rfl
              rw [show HInv w bx m b (.slice a0 n0 k0) (.slice a1 n1 k1) now (hopL m T (j + 1)) w3 = HInv w bx m b (.slice a0 n0 k0) (.slice a1 n1 k1) now [.map (some m), .int .i64 T, .string { data := #[] }, .bool false, .string { data := #[] }, .bool true, .int .i64 ((j : Int) + 1)] w3 from by rw [e1]]
              exact I1.out.turn _ hb (by omega) (by omega) q3
            have j10 : ((j : Int) == 10) = false := by rw [beq_eq_false_iff_ne]; omega
            clear hb A1 e0 I1 INV x0 x1 x2 lx
            go_wp2_with fail
            go_roundg (gk - 1)
            case measure => omega
            case rel => exact ⟨j + 1, by omega, by go_num, I2.out.keep (by repeat (first | exact Below.refl _ _ | refine Below.alloc ?_ (by simp [go_sem]) _ | refine below_ext ?_ (by simp [go_sem]) _ _ | refine below_drewN ?_ _ | refine Below.drew ?_)), by omega⟩
          · obtain rfl : j = 10 := by omega
            have e0 : hopL m T 10 = [.map (some m), .int .i64 T, .string { data := #[] }, .bool false, .string { data := #[] }, .bool true, .int .i64 10] := by unfold hopL; rw [if_pos hj11]; rfl
            have A1 := I1.out.ag
            rw [e0] at A1
            have E1 := HE.out.below I1.out.below
            refine (take_many_at b m V.heap.size T now st { data := #[] } { data := #[] } { data := #[] } [108, 111, 99, 97, 116, 105, 111, 110] tg false false 10 _ A1 I1.out.mp (by omega) HST.out (by decide) (by decide) TL.out HP.out (by omega) A (E1.s 3 (by omega)).1 (by omega) (by omega) hTn ?_ ?_).mono ?_
            · rw [show V.heap.size = (V.drewN k).heap.size from rfl, World.cell?_alloc_new]; rfl
            · rw [show V.heap.size = (V.drewN k).heap.size from rfl, World.cell?_alloc_new]; rfl
            rintro e w3 ⟨rfl, hb⟩
            have I2 : Hid (HInv w bx m b (.slice a0 n0 k0) (.slice a1 n1 k1) now (hopL m T 11) w3) := by
              have e1 : hopL m T 11 = [.map (some m), .int .i64 T, .string { data := #[] }, .bool false, .string { data := #[] }, .bool false, .int .i64 10] := by unfold hopL; rw [if_neg (by omega)]
              rw [show HInv w bx m b (.slice a0 n0 k0) (.slice a1 n1 k1) now (hopL m T 11) w3 = HInv w bx m b (.slice a0 n0 k0) (.slice a1 n1 k1) now [.map (some m), .int .i64 T, .string { data := #[] }, .bool false, .string { data := #[] }, .bool false, .int .i64 10] w3 from by rw [e1]]
              exact I1.out.turn _ hb (by omega) (by omega) q3
            have NM : Hid (∀ U, Below w3.heap.size w3 U → Calls Tryz.prog 13 #[.iface 250 (.pointer (some (A 3)))] U fun e w' => e = .returned (.int .i64 3) ∧ U = w') := fun U hU => num_many U A (HE.out.below (I2.out.below.trans (hU.mono I2.out.below.size)))
            clear hb A1 e0 I1 INV x0 x1 x2 lx E1
            unfold errV
            go_wp2_with fail
            refine (same_none _).mono ?_
            rintro e w4 ⟨rfl, hb⟩
            obtain ⟨X4, n4, rfl⟩ := Below_ext hb; clear hb
            go_wp2_with fail
            refine (NM.out _ (by repeat (first | exact Below.refl _ _ | refine Below.alloc ?_ (by simp [go_sem]) _ | refine below_ext ?_ (by simp [go_sem]) _ _ | refine below_drewN ?_ _ | refine Below.drew ?_))).mono ?_
            rintro e w5 ⟨rfl, rfl⟩
            go_wp2_with fail
            go_roundg (gk - 1)
            case measure => omega
            case rel => exact ⟨11, by omega, by go_num, I2.out.keep (by repeat (first | exact Below.refl _ _ | refine Below.alloc ?_ (by simp [go_sem]) _ | refine below_ext ?_ (by simp [go_sem]) _ _ | refine below_drewN ?_ _ | refine Below.drew ?_)), by omega⟩
    · obtain rfl : j = 11 := by omega
      have e0 : hopL m T 11 = [.map (some m), .int .i64 T, .string { data := #[] }, .bool false, .string { data := #[] }, .bool false, .int .i64 10] := by unfold hopL; rw [if_neg hj11]
      have hI := INV.out
      rw [e0] at hI
      have K0 := Lib.hid hI
      clear hI e0 INV
      go_wp2_with fail
      refine (page_none_at b m T { data := #[] } { data := #[] } false 10 _ K0.out.ag).mono ?_
      rintro e w3 ⟨rfl, hb⟩
      have K1 := Lib.hid (K0.out.keep hb)
      have y2 := K1.out.x2
      clear hb x0 x1 x2 lx
      have lx : bx < w3.heap.size := World.block_lt_of_cell? w3 _ y2
      go_wp2_with fail
      generalize hU3 : w3.alloc _ = U3
      have K2 : Hid (HInv w bx m b (.slice a0 n0 k0) (.slice a1 n1 k1) now [.map (some m), .int .i64 T, .string { data := #[] }, .bool false, .string { data := #[] }, .bool false, .int .i64 10] U3) := by rw [← hU3]; exact K1.out.keep (by repeat (first | exact Below.refl _ _ | refine Below.alloc ?_ (by simp [go_sem]) _ | refine below_ext ?_ (by simp [go_sem]) _ _ | refine below_drewN ?_ _ | refine Below.drew ?_))
      clear hU3 K1 y2 lx
      refine (take_lost_at b m T now 200 { data := #[] } { data := #[] } { data := #[] } none 0 0 false false 10 _ A K2.out.ag ((HE.out.below K2.out.below).s 1 (by omega)).1 (by omega)).mono ?_
      rintro e w4 ⟨rfl, hb⟩
      have K3 := Lib.hid (K2.out.keep hb)
      have y2 := K3.out.x2
      clear hb K2
      have lx : bx < w4.heap.size := World.block_lt_of_cell? w4 _ y2
      unfold errV
      go_wp2_with fail
      generalize hU4 : w4.alloc _ = U4
      have K4 : Hid (HInv w bx m b (.slice a0 n0 k0) (.slice a1 n1 k1) now [.map (some m), .int .i64 T, .string { data := #[] }, .bool false, .string { data := #[] }, .bool false, .int .i64 10] U4) := by rw [← hU4]; exact K3.out.keep (by repeat (first | exact Below.refl _ _ | refine Below.alloc ?_ (by simp [go_sem]) _ | refine below_ext ?_ (by simp [go_sem]) _ _ | refine below_drewN ?_ _ | refine Below.drew ?_))
      clear hU4 K3 y2 lx
      refine (visit_at b m T now T { data := #[] } { data := #[] } [47, 97, 103, 97, 105, 110] false false 10 _ K4.out.ag K4.out.mp (by omega) (by decide) (by decide) (by omega)).mono ?_
      rintro e w5 ⟨⟨g5, rfl⟩, hb⟩
      have K5 := Lib.hid (K4.out.turn _ hb (by omega) (by omega) q3)
      have y2 := K5.out.x2
      clear hb K4
      have lx : bx < w5.heap.size := World.block_lt_of_cell? w5 _ y2
      go_wp2_with fail
      generalize hU5 : World.alloc (w5.alloc _) _ = U5
      have K6 : Hid (HInv w bx m b (.slice a0 n0 k0) (.slice a1 n1 k1) now [.map (some m), .int .i64 T, .string { data := #[] }, .bool false, .string { data := #[] }, .bool true, .int .i64 0] U5) := by rw [← hU5]; exact K5.out.keep (by repeat (first | exact Below.refl _ _ | refine Below.alloc ?_ (by simp [go_sem]) _ | refine below_ext ?_ (by simp [go_sem]) _ _ | refine below_drewN ?_ _ | refine Below.drew ?_))
      have lb5 : b < w5.heap.size := (Array.getElem?_eq_some_iff.1 K5.out.ag).1
      have c5 : U5.cell? ⟨w5.heap.size + 1, 0, none⟩ = some (.string (strB [76, 111, 99, 97, 116, 105, 111, 110])) := by rw [← hU5]; simp [go_sem]; rfl
      have c6 : U5.cell? ⟨w5.heap.size + 1, 1, none⟩ = some (.string (strB [47, 109, 111, 114, 101])) := by rw [← hU5]; simp [go_sem]; rfl
      clear hU5 K5 y2 lx
      refine (take_follow_at b m (w5.heap.size + 1) T now 303 { data := #[] } { data := #[] } { data := #[] } [76, 111, 99, 97, 116, 105, 111, 110] [47, 109, 111, 114, 101] false false 0 _ K6.out.ag K6.out.mp (by omega) (.inr rfl) (by decide) rfl (by decide) (by decide) (by omega) (by omega) (by omega) hTn c5 c6).mono ?_
      rintro e w6 ⟨⟨g6, rfl⟩, hb⟩
      have K7 := Lib.hid (K6.out.turn _ hb (by omega) (by omega) q3)
      have NL : Hid (∀ U, Below w6.heap.size w6 U → Calls Tryz.prog 13 #[.iface 250 (.pointer (some (A 1)))] U fun e w' => e = .returned (.int .i64 12) ∧ U = w') := fun U hU => num_lost U A (HE.out.below (K7.out.below.trans (hU.mono K7.out.below.size)))
      clear hb K6 c5 c6 lb5
      go_wp2_with fail
      refine (NL.out _ (by repeat (first | exact Below.refl _ _ | refine Below.alloc ?_ (by simp [go_sem]) _ | refine below_ext ?_ (by simp [go_sem]) _ _ | refine below_drewN ?_ _ | refine Below.drew ?_))).mono ?_
      rintro e w7 ⟨rfl, rfl⟩
      go_wp2_with fail
      go_ret
      exact ⟨rfl, K7.out.below.trans ((show Below w6.heap.size w6 _ from (by repeat (first | exact Below.refl _ _ | refine Below.alloc ?_ (by simp [go_sem]) _ | refine below_ext ?_ (by simp [go_sem]) _ _ | refine below_drewN ?_ _ | refine Below.drew ?_))).mono K7.out.below.size)⟩
end Go.Proofs.YtmeahkijpipgnaaGreatDoor
