/- AgentHops: what the listed variables and the argument give to the walk. -/
import Derived.Test.YtmeahkijpipgnaaGreatDoorAm
import Derived.Test.YtmeahkijpipgnaaGreatDoorLaid
import Derived.Test.YtmeahkijpipgnaaGreatDoorRows
import Derived.SliceStrings
import Derived.ChangeSlices
namespace Go.Proofs.YtmeahkijpipgnaaGreatDoor
open Go Go.ChangeShapes Go.WideShapes Go.RowKit

theorem star250 : "*" ++ "errors.errorString" = "*errors.errorString" := by decide
theorem errTypes : ErrTypes Tryz.prog 32 250 252 9 where
  i := ⟨_, Tryz.underlying32⟩
  row u h := typeName_ptr_named (nm := "errors.errorString") (by rw [star250]; kernel_rfl) (by kernel_rfl) (by decide) u (by rw [star250]; exact h)
  p := Tryz.underlying250
  e := ⟨_, Tryz.underlying252, rfl, rfl⟩
  s := Tryz.underlying9
  ce := by kernel_rfl
  cs := by kernel_rfl

theorem addr_plain {w : World} {a : Addr} {v : Value} (h : w.cell? a = some v) : a = ⟨a.block, a.off, none⟩ := by
  have : a.spot = none := by
    unfold World.cell? at h
    split at h
    · cases hs : a.spot with
      | none => rfl
      | some _ => simp [hs] at h
    · cases h
  cases a; simp at this; subst this; rfl
theorem weightsAll_mem {H : Type} {P : Program} {e : TypeId} : ∀ {l : List (DataW H)} {d : DataW H}, d ∈ l → ∀ n ∈ d.weights P e, n ∈ DataW.weightsAll P e l
  | d' :: r, d, hd, n, hn => by
    simp only [DataW.weightsAll, List.mem_append]
    rcases List.mem_cons.1 hd with rfl | h
    · exact Or.inl hn
    · exact Or.inr (weightsAll_mem h n hn)

theorem strsIn_of {H : Type} {enc : TypeId × Value → H} {W : World} {n : Nat} {v : Value} {x : DataW H × List MemPlace} (h : DataW.trod enc Tryz.prog W 0 (fun _ => true) true n 22 [v] = some x)
    (hs : ∀ k ∈ DataW.weights Tryz.prog 22 x.1, k ≤ reachBytes) : ∃ m, StrsIn W v m := by
  rcases open_strings Tryz.underlying22 Tryz.underlying9 (by kernel_rfl) h with ⟨hv, _⟩ | ⟨a, len, cap, ss, hv, _, hlc, hcm, hsl, hx, hc, _⟩
  · simp only [List.cons.injEq, and_true] at hv; subst hv
    exact ⟨0, none, 0, rfl, by simp, .inl rfl⟩
  · simp only [List.cons.injEq, and_true] at hv; subst hv
    refine ⟨len, some a, cap, rfl, Nat.le_trans hlc hcm, ?_⟩
    by_cases h0 : len = 0
    · exact .inl h0
    right
    have hsl' : ss.length = cap := by simpa using hsl
    have ha : a = ⟨a.block, a.off, none⟩ := by
      have := addr_plain (hc 0 (by omega))
      simpa [Addr.add] using this
    refine ⟨a.block, a.off, by rw [← ha], fun i hi => ?_⟩
    have hci := hc i (by omega)
    rw [ha] at hci
    have e : Addr.add ⟨a.block, a.off, none⟩ i = ⟨a.block, a.off + i, none⟩ := by simp [Addr.add]
    rw [e] at hci
    have hil : i < ss.length := by omega
    refine ⟨(ss.getD i ByteArray.empty).data.toList, by rw [strB_eta]; exact hci, ?_⟩
    have hmem : (.lit (.string (ss.getD i ByteArray.empty).data.toList) : DataW H) ∈ (strs (ss.take len) : List (DataW H)) := by
      unfold strs
      refine List.mem_map.2 ⟨ss.getD i ByteArray.empty, ?_, rfl⟩
      rw [List.getD_eq_getElem?_getD, List.getElem?_eq_getElem hil]
      exact List.mem_take_iff_getElem.2 ⟨i, by omega, rfl⟩
    have hw := weightsAll_mem (P := Tryz.prog) (e := 9) hmem (ss.getD i ByteArray.empty).data.toList.length (by simp [DataW.weights])
    refine Nat.le_trans (hs _ ?_) (by decide)
    rw [hx]
    simp only [DataW.weights, Tryz.underlying22, List.mem_cons, List.mem_append]
    exact .inr (.inl hw)
theorem intsIn_of {H : Type} {enc : TypeId × Value → H} {W : World} {n : Nat} {v : Value} {x : DataW H × List MemPlace} (h : DataW.trod enc Tryz.prog W 0 (fun _ => true) true n 23 [v] = some x) : ∃ m, IntsIn W v m := by
  rcases open_ints Tryz.underlying23 Tryz.underlying3 (by kernel_rfl) h with ⟨hv, _⟩ | ⟨a, len, cap, ss, hv, _, hlc, hcm, hsl, hx, hc, _⟩
  · simp only [List.cons.injEq, and_true] at hv; subst hv
    exact ⟨0, none, 0, rfl, by simp, .inl rfl⟩
  · simp only [List.cons.injEq, and_true] at hv; subst hv
    refine ⟨len, some a, cap, rfl, Nat.le_trans hlc hcm, ?_⟩
    by_cases h0 : len = 0
    · exact .inl h0
    right
    have hsl' : ss.length = cap := by simpa using hsl
    have ha : a = ⟨a.block, a.off, none⟩ := by
      have := addr_plain (hc 0 (by omega))
      simpa [Addr.add] using this
    refine ⟨a.block, a.off, by rw [← ha], fun i hi => ?_⟩
    have hci := hc i (by omega)
    rw [ha, show Addr.add ⟨a.block, a.off, none⟩ i = ⟨a.block, a.off + i, none⟩ from by simp [Addr.add]] at hci
    exact ⟨_, hci⟩

def agentHopsLaid : List (String × DataW Unit) := (Rows.agentHopsRow).laid
def hopsIdx (g : Nat) : Nat := [6, 16, 5, 7, 8, 9, 10, 11, 12, 13, 14, 15, 17].getD g 0
set_option maxRecDepth 100000 in
theorem agentHops_env {W : World} (h : laidMetH Tryz.prog agentHopsLaid W) : ∃ A, ErrEnv W A := by
  rw [MakeChecks.laidMetH_plain _ _ _ (by kernel_rfl)] at h
  obtain ⟨A, hA, hne⟩ := sentinels_of_laid errTypes h
  have key : ∀ g, g ≤ 12 → ∃ n bs, agentHopsLaid[hopsIdx g]? = some (n, sentD bs) ∧ Tryz.prog.globalNamed n = some g ∧ (Tryz.prog.globals[g]?).map (·.type) = some 32 := by
    intro g hg
    have h13 : g = 0 ∨ g = 1 ∨ g = 2 ∨ g = 3 ∨ g = 4 ∨ g = 5 ∨ g = 6 ∨ g = 7 ∨ g = 8 ∨ g = 9 ∨ g = 10 ∨ g = 11 ∨ g = 12 := by omega
    rcases h13 with rfl | rfl | rfl | rfl | rfl | rfl | rfl | rfl | rfl | rfl | rfl | rfl | rfl <;> exact ⟨_, _, rfl, by kernel_rfl, by kernel_rfl⟩
  refine ⟨fun g => A (hopsIdx g), fun g hg => ?_, fun i j hi hj e => ?_⟩
  · obtain ⟨n, bs, h1, h2, h3⟩ := key g hg
    exact hA _ _ _ g h1 h2 h3
  · obtain ⟨n, bs, h1, h2, h3⟩ := key i hi
    obtain ⟨m, cs, k1, k2, k3⟩ := key j hj
    have := hne _ _ _ _ _ _ i j h1 h2 h3 k1 k2 k3 e
    have inj : ∀ i j : Fin 13, hopsIdx i = hopsIdx j → i = j := by decide
    have := inj ⟨i, by omega⟩ ⟨j, by omega⟩ this
    simpa using this

set_option maxRecDepth 100000 in
theorem agentHops_call {H : Type} {enc : TypeId × Value → H} {W : World} {v : Value} {d : DataW H} {p : List MemPlace} {base : Nat} (hv : Value.okWide Tryz.prog W .any base 25 v) (h0 : DataW.Trod enc Tryz.prog W 0 (fun _ => true) true 25 v d p)
    (hsz : (DataW.weights Tryz.prog 25 d).all (· ≤ reachBytes) = true) (hL : laidMetH Tryz.prog agentHopsLaid W) : Calls Tryz.prog 3 #[v] W fun e w' => e = .returned (.bool true) ∧ Below W.heap.size W w' := by
  obtain ⟨A, hE⟩ := agentHops_env hL
  obtain ⟨cs, rfl, hcz⟩ := okWide_struct Tryz.underlying25 hv
  obtain ⟨fuel, hf⟩ := h0
  obtain ⟨xs, n, _, hx, hl, hxl, hff⟩ := DataW.trod_struct Tryz.underlying25 hf
  have c25 : Tryz.prog.cellsOf 25 = 3 := by kernel_rfl
  have c22 : Tryz.prog.cellsOf 22 = 1 := by kernel_rfl
  have c23 : Tryz.prog.cellsOf 23 = 1 := by kernel_rfl
  have c3 : Tryz.prog.cellsOf 3 = 1 := by kernel_rfl
  obtain ⟨l⟩ := cs
  rw [c25] at hl
  simp only [Value.cells] at hl hff
  match l, hl, hff with
  | [v0, v1, v2], _, hff =>
    match xs, hxl, hff, hx with
    | [x0, x1, x2], _, hff, hx =>
      have hd : d = .agg [x0.1, x1.1, x2.1] := (Prod.mk.inj hx).1
      have t0 : DataW.trod enc Tryz.prog W 0 (fun _ => true) true n 22 [v0] = some x0 := by have := hff 0 _ rfl; simpa [c22] using this
      have t1 : DataW.trod enc Tryz.prog W 0 (fun _ => true) true n 23 [v1] = some x1 := by have := hff 1 _ rfl; simpa [c23, c22] using this
      obtain ⟨z, e2, _, _⟩ := DataW.trod_int Tryz.underlying3 (show DataW.trod enc Tryz.prog W 0 (fun _ => true) true n 3 [v2] = some x2 by have := hff 2 _ rfl; simpa [c3, c22, c23] using this)
      simp only [List.cons.injEq, and_true] at e2
      subst e2
      obtain ⟨n0, s0⟩ := strsIn_of t0 (fun k hk => by
        have := List.all_eq_true.1 hsz k (by
          rw [hd]
          simp only [DataW.weights, Tryz.underlying25]
          simp only [DataW.weightsEach, List.map_cons, List.mem_append]
          exact .inl hk)
        simpa using this)
      obtain ⟨n1, s1⟩ := intsIn_of t1
      exact hops_walk v0 v1 n0 n1 z W A hE s0 s1
end Go.Proofs.YtmeahkijpipgnaaGreatDoor
