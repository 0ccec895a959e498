/- AgentLasts: what the listed variables and the argument give to the walk. -/
import Derived.Test.YtmeahkijpipgnaaGreatDoorBk
import Derived.Test.YtmeahkijpipgnaaGreatDoorAn
import Derived.Test.YtmeahkijpipgnaaGreatDoorShelf
namespace Go.Proofs.YtmeahkijpipgnaaGreatDoor
open Go Go.ChangeShapes Go.WideShapes Go.RowKit

def agentLastsUlaid : List (String × DataW Unit) := (Rows.agentLastsUptoRow).laid

set_option maxRecDepth 100000 in
theorem kinds_of_laid {W : World} {laid : List (String × DataW Unit)} (h : laidMet Tryz.prog laid W) (i : Nat) (hl : laid[i]? = some ("usher/field.kinds", .agg (kindsL.map fun z => .lit (.int .u8 z)))) : Kinds W := by
  have e : kindsL.length = 256 := by simp [kindsL]
  intro j hj
  have := ints_of_laid h i "usher/field.kinds" kindsL 15 191 5 .u8 hl (by kernel_rfl) (by kernel_rfl) (by kernel_rfl) (by kernel_rfl) (by kernel_rfl) (by kernel_rfl) j (by omega)
  rw [this]
  congr 2
  simp [kindsL, List.getD_eq_getElem?_getD, hj]
theorem pow10_of_laid {W : World} {laid : List (String × DataW Unit)} (h : laidMet Tryz.prog laid W) (i : Nat) (hl : laid[i]? = some ("internal/strconv.uint64pow10", Lib.tabData .u64 Lib.pow10Tab)) : Lib.TabIs Tryz.prog W "internal/strconv.uint64pow10" .u64 Lib.pow10Tab :=
  tab_of_laid h i "internal/strconv.uint64pow10" Lib.pow10Tab 17 219 195 .u64 hl (by kernel_rfl) (by kernel_rfl) (by kernel_rfl) (by kernel_rfl) (by kernel_rfl) (by kernel_rfl)

theorem i64_wf {n : Int} (h : (Lit.int .i64 n).wf = true) : -9223372036854775808 ≤ n ∧ n ≤ 9223372036854775807 := by
  simp [Lit.wf, IntKind.min, IntKind.max, IntKind.signed, IntKind.bits] at h
  omega
theorem intsR_of {H : Type} {enc : TypeId × Value → H} {W : World} {n : Nat} {v : Value} {x : DataW H × List MemPlace} (h : DataW.trod enc Tryz.prog W 0 (fun _ => true) true n 23 [v] = some x) : ∃ m, IntsR W v m := by
  rcases open_ints Tryz.underlying23 Tryz.underlying3 (by kernel_rfl) h with ⟨hv, _⟩ | ⟨a, len, cap, ss, hv, _, hlc, hcm, hsl, hx, hc, hwf⟩
  · simp only [List.cons.injEq, and_true] at hv; subst hv
    exact ⟨0, none, 0, rfl, by simp, .inl rfl⟩
  · simp only [List.cons.injEq, and_true] at hv; subst hv
    refine ⟨len, some a, cap, rfl, Nat.le_trans hlc hcm, ?_⟩
    by_cases h0 : len = 0
    · exact .inl h0
    right
    have hsl' : ss.length = cap := by simpa using hsl
    have ha : a = ⟨a.block, a.off, none⟩ := by
      have := addr_plain (hc 0 (by omega))
      simpa [Addr.add] using this
    refine ⟨a.block, a.off, by rw [← ha], fun i hi => ?_⟩
    have hci := hc i (by omega)
    rw [ha, show Addr.add ⟨a.block, a.off, none⟩ i = ⟨a.block, a.off + i, none⟩ from by simp [Addr.add]] at hci
    have hm : ss.getD i 0 ∈ ss := by rw [List.getD_eq_getElem?_getD, List.getElem?_eq_getElem (by omega)]; exact List.getElem_mem _
    have hw := hwf _ hm
    exact ⟨_, (i64_wf hw).2, hci⟩

set_option maxRecDepth 100000 in
theorem agentLasts_ucall {H : Type} {enc : TypeId × Value → H} {W : World} {v : Value} {d : DataW H} {p : List MemPlace} {base : Nat} (hv : Value.okWide Tryz.prog W .any base 52 v) (h0 : DataW.Trod enc Tryz.prog W 0 (fun _ => true) true 52 v d p)
    (hbk : Rows.uptoBulk d ≤ 1048576) (hL : laidMetH Tryz.prog agentLastsUlaid W) (hS : W.ShapedOpen Tryz.prog) : Calls Tryz.prog 4 #[v] W fun e w' => e = .returned (.bool true) ∧ Below W.heap.size W w' := by
  have hL' := hL
  rw [MakeChecks.laidMetH_plain _ _ _ (by kernel_rfl)] at hL'
  have hK : Kinds W := kinds_of_laid hL' 9 (by kernel_rfl)
  have hT := pow10_of_laid hL' 2 (by kernel_rfl)
  have hM : MaxLenIs W := Tryz.laysM145.s1_3 W hS
  have hz : 15 < W.heap.size := World.block_lt_of_cell? W _ (hK 0 (by omega))
  obtain ⟨cs, rfl, hcz⟩ := okWide_struct Tryz.underlying52 hv
  obtain ⟨fuel, hf⟩ := h0
  obtain ⟨xs, n, _, hx, hl, hxl, hff⟩ := DataW.trod_struct Tryz.underlying52 hf
  have c52 : Tryz.prog.cellsOf 52 = 6 := by kernel_rfl
  have c9 : Tryz.prog.cellsOf 9 = 1 := by kernel_rfl
  have c23 : Tryz.prog.cellsOf 23 = 1 := by kernel_rfl
  have c3 : Tryz.prog.cellsOf 3 = 1 := by kernel_rfl
  obtain ⟨l⟩ := cs
  rw [c52] at hl
  simp only [Value.cells] at hl hff
  match l, hl, hff with
  | [v0, v1, v2, v3, v4, v5], _, hff =>
    match xs, hxl, hff, hx with
    | [x0, x1, x2, x3, x4, x5], _, hff, hx =>
      have hd : d = .agg [x0.1, x1.1, x2.1, x3.1, x4.1, x5.1] := (Prod.mk.inj hx).1
      obtain ⟨s0, e0, q0, _⟩ := DataW.trod_string Tryz.underlying9 (show DataW.trod enc Tryz.prog W 0 (fun _ => true) true n 9 [v0] = some x0 by have := hff 0 _ rfl; simpa [c9] using this)
      obtain ⟨s1, e1, q1, _⟩ := DataW.trod_string Tryz.underlying9 (show DataW.trod enc Tryz.prog W 0 (fun _ => true) true n 9 [v1] = some x1 by have := hff 1 _ rfl; simpa [c9] using this)
      obtain ⟨z2, e2, _, g2⟩ := DataW.trod_int Tryz.underlying3 (show DataW.trod enc Tryz.prog W 0 (fun _ => true) true n 3 [v2] = some x2 by have := hff 2 _ rfl; simpa [c3, c9] using this)
      obtain ⟨z3, e3, _, _⟩ := DataW.trod_int Tryz.underlying3 (show DataW.trod enc Tryz.prog W 0 (fun _ => true) true n 3 [v3] = some x3 by have := hff 3 _ rfl; simpa [c3, c9] using this)
      obtain ⟨z4, e4, _, _⟩ := DataW.trod_int Tryz.underlying3 (show DataW.trod enc Tryz.prog W 0 (fun _ => true) true n 3 [v4] = some x4 by have := hff 4 _ rfl; simpa [c3, c9] using this)
      have t5 : DataW.trod enc Tryz.prog W 0 (fun _ => true) true n 23 [v5] = some x5 := by have := hff 5 _ rfl; simpa [c3, c9, c23] using this
      simp only [List.cons.injEq, and_true] at e0 e1 e2 e3 e4
      subst e0 e1 e2 e3 e4
      obtain ⟨n5, hr⟩ := intsR_of t5
      have hw2 := i64_wf g2
      have hb : s0.data.toList.length ≤ 1048576 ∧ s1.data.toList.length ≤ 1048576 := by
        rw [hd, q0, q1] at hbk
        simp only [Rows.uptoBulk, Rows.uptoBulkAll] at hbk
        omega
      have := lasts_walk s0.data.toList s1.data.toList z2 z3 z4 v5 n5 W hK hT hM hz hb.1 hb.2 hw2.1 hw2.2 hr
      rw [strB_eta, strB_eta] at this
      exact this
end Go.Proofs.YtmeahkijpipgnaaGreatDoor
