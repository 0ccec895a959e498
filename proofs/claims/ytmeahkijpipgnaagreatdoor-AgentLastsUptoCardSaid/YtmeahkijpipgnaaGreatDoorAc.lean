/- The small letters of a text. -/
import Derived.Test.YtmeahkijpipgnaaGreatDoorAb
import Derived.Laws.OwnMore
namespace Go.Proofs.YtmeahkijpipgnaaGreatDoor
open Go Go.RowKit

theorem info5 : (Tryz.prog.info? 5).map (fun i => (i.zero, i.size, i.bytes)) = some (some (.int .u8 0), 1, 1) := by kernel_rfl
def smc (c : UInt8) : Bool := decide (97 ≤ c.toNat) && decide (c.toNat ≤ 122)
theorem smc_and (c : UInt8) : smc c = true ↔ 97 ≤ c.toNat ∧ c.toNat ≤ 122 := by simp [smc]
def wordL (l : List UInt8) : List UInt8 := if l.filter smc = [] then [97] else l.filter smc
theorem filt_snoc (l : List UInt8) (k : Nat) (h : k < l.length) : (l.take (k + 1)).filter smc = (l.take k).filter smc ++ (if smc l[k] = true then [l[k]] else []) := by
  rw [List.take_succ_eq_append_getElem h, List.filter_append]
  congr 1
  simp [List.filter_cons]

set_option maxHeartbeats 1600000 in
theorem wordOf_any (l : List UInt8) (w : World) (hl : l.length ≤ 140737488351232) :
    Calls Tryz.prog 9 #[.string (strB l)] w fun e w' => e = .returned (.string (strB (wordL l))) ∧ Below w.heap.size w w' := by
  obtain ⟨i0, hi, hz0, hz1, hz2⟩ := info_parts info5
  have HI := Lib.hid hi; have HZ0 := Lib.hid hz0; have HZ1 := Lib.hid hz1; have HZ2 := Lib.hid hz2
  clear hi hz0 hz1 hz2
  go_enter Tryz.func9, Tryz.ntmps9
  go_wp2
  go_loopg [3, 4] (l.length + 1) (fun g v3 v4 wr => ∃ k : Nat, k ≤ l.length ∧ v4 = .int .i64 (k : Int) ∧ wr.ownsRow w.heap.size 5 1 v3 ((l.take k).filter smc).length (((l.take k).filter smc).map byteV) ∧ Below w.heap.size w wr ∧ l.length - k < g)
  case atStart => exact ⟨0, by omega, rfl, World.ownsRow_nil _ _ _ _, Below.refl _ _, by omega⟩
  case round =>
    obtain ⟨k, hk, rfl, hown, hb, hg⟩ := hrel
    have HOWN := Lib.hid hown
    have HB := Lib.hid hb
    have hsz := hb.size
    have hfl : ((l.take k).filter smc).length ≤ k := Nat.le_trans (List.length_filter_le _ _) (List.length_take_le _ _)
    clear hown hb
    by_cases hlt : k < l.length
    · have hcz : l[k].toNat < 256 := UInt8.toNat_lt _
      have HF := Lib.hid (filt_snoc l k hlt)
      by_cases h0 : smc l[k] = true
      · have h1 := (smc_and _).1 h0
        have HF' : Hid ((l.take (k + 1)).filter smc = (l.take k).filter smc ++ [l[k]]) := by
          show _ = _
          rw [HF.out, if_pos h0]
        have g1 : decide (97 ≤ (l[k].toNat : Int)) = true := by simp; omega
        have g2 : decide ((l[k].toNat : Int) ≤ 122) = true := by simp; omega
        clear h0 h1 HF
        generalize hL : (l.take k).filter smc = L at HOWN hfl HF'
        have HL := Lib.hid hL
        clear hL
        go_wp2_with (at_builtin; refine wpList_append_own _ rfl _ _ 85 rfl w.heap.size 5 i0 (.int .u8 0) 1 1 Tryz.underlying85 HI.out HZ0.out HZ1.out HZ2.out rfl (by decide) _ _ _ rfl (HOWN.out.alloc _) ⟨wr.heap.size, 0, none⟩ 1 1 [.int .u8 (l[k].toNat : Int)] rfl rfl ?c1 ?c2 ?c3 ?c4 ?c5 ?_)
        case c1 => intro i u h; cases i with
          | zero => simp at h; subst h; simp [Addr.add]
          | succ i => simp at h
        case c2 => simp [Value.oneCell']
        case c3 => simp [maxLen]; omega
        case c4 => omega
        case c5 => simp; omega
        intro v' w1 hown1 hgrow _
        have hb1 : Below w.heap.size w w1 := (HB.out.alloc (by omega) _).grown hgrow (by simp; omega) (fun k hk => (HOWN.out.lt k hk).1)
        have HO1 : Hid (w1.ownsRow w.heap.size 5 1 v' ((l.take (k + 1)).filter smc).length (((l.take (k + 1)).filter smc).map byteV)) := by
          show World.ownsRow _ _ _ _ _ _ _
          rw [HF'.out, List.length_append, List.map_append]; exact hown1
        have HB1 := Lib.hid hb1
        clear hown1 hgrow hb1
        go_wp2
        go_roundg (gk - 1)
        case measure => omega
        case rel => exact ⟨k + 1, by omega, by go_num, HO1.out, HB1.out, by omega⟩
      · have HF' : Hid ((l.take (k + 1)).filter smc = (l.take k).filter smc) := by
          show _ = _
          rw [HF.out, if_neg h0]; simp
        have h1 : ¬ (97 ≤ l[k].toNat ∧ l[k].toNat ≤ 122) := fun h => h0 ((smc_and _).2 h)
        have g3 : (decide (97 ≤ (l[k].toNat : Int)) = false) ∨ (decide (97 ≤ (l[k].toNat : Int)) = true ∧ decide ((l[k].toNat : Int) ≤ 122) = false) := by simp; omega
        clear h0 h1 HF
        rcases g3 with g1 | ⟨g1, g2⟩
        all_goals
          go_wp2
          go_roundg (gk - 1)
          case measure => omega
          case rel => exact ⟨k + 1, by omega, by go_num, by rw [HF'.out]; exact HOWN.out, HB.out, by omega⟩
    · obtain rfl : k = l.length := by omega
      have HT : Hid ((l.take l.length).filter smc = l.filter smc) := by show _ = _; rw [List.take_length]
      have HOWN' : Hid (wr.ownsRow w.heap.size 5 1 u3 (l.filter smc).length ((l.filter smc).map byteV)) := by
        show World.ownsRow _ _ _ _ _ _ _
        rw [← HT.out]; exact HOWN.out
      clear HOWN hfl
      have HW : Hid (wordL l = if l.filter smc = [] then [97] else l.filter smc) := rfl
      have hfl : (l.filter smc).length ≤ l.length := List.length_filter_le _ _
      generalize l.filter smc = L at HOWN' HW HT hfl
      cases L with
      | nil =>
        rcases HOWN'.out.2 with ⟨rfl, _⟩ | ⟨g, cap, _, rfl, _⟩
        all_goals
          clear HOWN'
          go_wp2
          go_ret
          exact ⟨ret_str (by rw [HW.out]; rfl), HB.out⟩
      | cons c L =>
        obtain ⟨g, cap, rfl⟩ : ∃ g cap, u3 = .slice (some ⟨g, 0, none⟩) (L.length + 1) cap := by
          rcases HOWN'.out.2 with ⟨_, h⟩ | ⟨g, cap, _, h, _⟩
          · simp at h
          · exact ⟨g, cap, by simpa using h⟩
        have hcv := conv_row (P := Tryz.prog) wr 85 5 9 Tryz.underlying85 Tryz.underlying5 Tryz.underlying9 g 0 (L.length + 1) cap (c :: L) rfl (fun i hi => by
          rw [Nat.zero_add, HOWN'.out.cellAt i (by simpa using hi), List.getElem?_map, List.getD_eq_getElem?_getD, List.getElem?_eq_getElem (show i < (c :: L).length from hi)]; rfl)
        clear HOWN'
        have HCV := Lib.hid hcv
        generalize hx : (c :: L : List UInt8) = x at hcv HW HCV
        have HX := Lib.hid hx
        clear hx HCV
        have hn1 : 1 ≤ L.length + 1 := by omega
        generalize L.length + 1 = n at hcv hfl hn1 ⊢
        have hn0 : ((n : Int) == 0) = false := by rw [beq_eq_false_iff_ne]; omega
        go_wp2
        go_ret
        exact ⟨ret_str (by rw [HW.out, if_neg (by rw [← HX.out]; simp)]), HB.out⟩
end Go.Proofs.YtmeahkijpipgnaaGreatDoor
