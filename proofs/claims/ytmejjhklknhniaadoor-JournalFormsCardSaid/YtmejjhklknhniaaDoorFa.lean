import Derived.Test.YtmejjhklknhniaaDoorPm
namespace Go.Proofs.YtmejjhklknhniaaDoor
open Go Go.RowKit

theorem quiet_add {P : Program} {f : FuncId} {args : Array Value} {w : World} {a n : Nat} {v : Value}
    (h : Calls P f args (w.drewN (a + n)) fun e w' => e = .returned v ∧ ∃ m, w' = (w.drewN (a + n)).drewN m) :
    Calls P f args (w.drewN (a + n)) fun e w'' => e = .returned v ∧ ∃ m, w'' = w.drewN (a + m) :=
  h.mono fun _ _ ⟨he, m, hm⟩ => ⟨he, n + m, by rw [hm, World.drewN_drewN, Nat.add_assoc]⟩
def digB (q : Int) : ByteArray := { data := #[UInt8.ofNat (48 + q).toNat] }
theorem dig_slice (q : Int) (h0 : 0 ≤ q) (h1 : q ≤ 9) (W : World) : (Instr.slice 9 (.string { data := #[48, 49, 50, 51, 52, 53, 54, 55, 56, 57] }) (some (.int .i64 q)) (some (.int .i64 (q + 1))) none).run Tryd.prog W = .ok (.string (digB q)) W := by
  have h : q = 0 ∨ q = 1 ∨ q = 2 ∨ q = 3 ∨ q = 4 ∨ q = 5 ∨ q = 6 ∨ q = 7 ∨ q = 8 ∨ q = 9 := by omega
  rcases h with rfl | rfl | rfl | rfl | rfl | rfl | rfl | rfl | rfl | rfl <;> (simp [go_sem]; rfl)
theorem pad2 (n : Int) : padS 2 n = digB (n / 10 % 10) ++ digB (n % 10) := by
  unfold padS digB
  rw [show ({ data := #[UInt8.ofNat (48 + n / 10 % 10).toNat] } : ByteArray) = strB [UInt8.ofNat (48 + n / 10 % 10).toNat] from rfl, show ({ data := #[UInt8.ofNat (48 + n % 10).toNat] } : ByteArray) = strB [UInt8.ofNat (48 + n % 10).toNat] from rfl, strB_append]
  rfl
set_option maxHeartbeats 1000000 in
theorem two_any (n : Int) (w : World) (h0 : 0 ≤ n) (h1 : n ≤ 99) :
    Calls Tryd.prog 41 #[.int .i64 n] w fun e w' => e = .returned (.string (padS 2 n)) ∧ ∃ k, w' = w.drewN k := by
  have wr1 : IntKind.i64.wrap (n / 10 % 10 + 1) = n / 10 % 10 + 1 := IntWalk.i64_in _ (by omega)
  have wr2 : IntKind.i64.wrap (n % 10 + 1) = n % 10 + 1 := IntWalk.i64_in _ (by omega)
  have t1 : n.tdiv 10 = n / 10 := Int.tdiv_eq_ediv_of_nonneg h0
  have t2 : (n / 10).tmod 10 = n / 10 % 10 := Int.tmod_eq_emod_of_nonneg (by omega)
  have t3 : n.tmod 10 = n % 10 := Int.tmod_eq_emod_of_nonneg h0
  have s1 := dig_slice (n / 10 % 10) (by omega) (by omega)
  have s2 := dig_slice (n % 10) (by omega) (by omega)
  have E : Hid (padS 2 n = digB (n / 10 % 10) ++ digB (n % 10)) := pad2 n
  have b1 : (digB (n / 10 % 10)).size = 1 := rfl
  have b2 : (digB (n % 10)).size = 1 := rfl
  go_enter Tryd.func41, Tryd.ntmps41
  go_wp2_with fail
  go_quiet (fail)
  go_wp2_with fail
  go_ret
  exact ⟨ret_str E.out.symm, _, rfl⟩
end Go.Proofs.YtmejjhklknhniaaDoor
