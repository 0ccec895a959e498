/- What the condition on the listed package-level variables gives: the sentinels' cells, apart from one another; the tables' cells. For any program. -/
import Derived.LaidMore
import Derived.LaidLaws
import Derived.LaidHandle
import Derived.OpenShut
import Derived.KernelRfl
import Derived.Lib.LaidTab
namespace Go.Proofs.YtmeahkijpipgnaaGreatDoor
open Go Go.ChangeShapes Go.WideShapes

def sentD (bs : List UInt8) : DataW Unit := .iface "*errors.errorString" (.ptr (.agg [.lit (.string bs)]))

def ReadsAs (P : Program) (w : World) (n : String) (d : DataW Unit) (ps : List MemPlace) : Prop :=
  ∃ g t cs fuel p, P.globalNamed n = some g ∧ (P.globals[g]?).map (·.type) = some t ∧ w.var? P n = some cs ∧ DataW.trod (fun _ => ()) P w 0 (fun _ => true) false fuel t cs.toList = some (d, p) ∧ ps = MemPlace.row ⟨g, 0, none⟩ cs.size ++ p

theorem laid_each {P : Program} {w : World} : ∀ (laid : List (String × DataW Unit)) (ps : List MemPlace), DataW.LaidVars P w laid ps →
    ∃ pss : List (List MemPlace), ps = pss.flatten ∧ ∀ (i : Nat) x, laid[i]? = some x → ∃ pi, pss[i]? = some pi ∧ ReadsAs P w x.1 x.2 pi
  | [], ps, h => ⟨[], h, fun i x hx => by simp at hx⟩
  | (n, d) :: r, ps, h => by
    obtain ⟨g, t, cs, fuel, p, q, h1, h2, h3, h4, h5, h6⟩ := h
    obtain ⟨pss, hq, hall⟩ := laid_each r q h5
    refine ⟨(MemPlace.row ⟨g, 0, none⟩ cs.size ++ p) :: pss, by rw [h6, hq]; simp, fun i x hx => ?_⟩
    cases i with
    | zero => simp at hx; subst hx; exact ⟨_, rfl, g, t, cs, fuel, p, h1, h2, h3, h4, rfl⟩
    | succ i => simp at hx; obtain ⟨pi, a, b⟩ := hall i x hx; exact ⟨pi, by simpa using a, b⟩

theorem flatten_apart {α : Type} : ∀ (l : List (List α)), l.flatten.Nodup → ∀ (i j : Nat) a b x, l[i]? = some a → l[j]? = some b → x ∈ a → x ∈ b → i = j
  | [], _, i, _, _, _, _, h, _, _, _ => by simp at h
  | c :: l, hn, i, j, a, b, x, hi, hj, ha, hb => by
    rw [List.flatten_cons, List.nodup_append] at hn
    obtain ⟨_, hl, hd⟩ := hn
    cases i with
    | zero =>
      cases j with
      | zero => rfl
      | succ j =>
        simp at hi hj; subst hi
        exact (hd x ha x (List.mem_flatten.2 ⟨b, List.mem_of_getElem? hj, hb⟩) rfl).elim
    | succ i =>
      cases j with
      | zero =>
        simp at hi hj; subst hj
        exact (hd x hb x (List.mem_flatten.2 ⟨a, List.mem_of_getElem? hi, ha⟩) rfl).elim
      | succ j =>
        simp at hi hj
        rw [flatten_apart l hl i j a b x hi hj ha hb]

/-- The facts on the type of an error made by errors.New, of a program P. -/
structure ErrTypes (P : Program) (ti tp te ts : TypeId) : Prop where
  i : ∃ ms, P.underlying ti = some (.interface ms)
  row : ∀ u, P.typeName? 3 u = some "*errors.errorString" → u = tp
  p : P.underlying tp = some (.pointer te)
  e : ∃ f : Field, P.underlying te = some (.struct #[f]) ∧ f.type = ts ∧ f.offset = 0
  s : P.underlying ts = some .string
  ce : P.cellsOf te = 1
  cs : P.cellsOf ts = 1

/-- The listed sentinels: each variable holds a pointer of its own, into a block that may be written. -/
theorem sentinels_of_laid {P : Program} {w : World} {laid : List (String × DataW Unit)} {ti tp te ts : TypeId} (T : ErrTypes P ti tp te ts) (h : laidMet P laid w) :
    ∃ A : Nat → Addr, (∀ (i : Nat) n bs g, laid[i]? = some (n, sentD bs) → P.globalNamed n = some g → (P.globals[g]?).map (·.type) = some ti →
        w.cell? ⟨g, 0, none⟩ = some (.iface tp (.pointer (some (A i)))) ∧ ∃ c t, w.heap[(A i).block]? = some (.cells c t (0, 0))) ∧
      ∀ (i j : Nat) n m bs bs' g g', laid[i]? = some (n, sentD bs) → P.globalNamed n = some g → (P.globals[g]?).map (·.type) = some ti → laid[j]? = some (m, sentD bs') → P.globalNamed m = some g' → (P.globals[g']?).map (·.type) = some ti → A i = A j → i = j := by
  obtain ⟨ps, hv, hnd, hrows⟩ := h
  obtain ⟨pss, rfl, hall⟩ := laid_each laid ps hv
  obtain ⟨ms, hi⟩ := T.i
  obtain ⟨f, he, hft, hfo⟩ := T.e
  have key : ∀ (i : Nat), ∃ a : Addr, ∀ n bs g, laid[i]? = some (n, sentD bs) → P.globalNamed n = some g → (P.globals[g]?).map (·.type) = some ti →
      w.cell? ⟨g, 0, none⟩ = some (.iface tp (.pointer (some a))) ∧ ∃ pi, pss[i]? = some pi ∧ MemPlace.cell a.block a.off ∈ pi ∧ a.spot = none := by
    intro i
    by_cases hex : ∃ n bs g, laid[i]? = some (n, sentD bs) ∧ P.globalNamed n = some g ∧ (P.globals[g]?).map (·.type) = some ti
    · obtain ⟨n, bs, g, hl, hg, ht⟩ := hex
      obtain ⟨pi, hpi, g', t', cs, fuel, p, hg', ht', hvar, htr, hps⟩ := hall i _ hl
      obtain rfl := Option.some.inj (hg.symm.trans hg')
      obtain rfl := Option.some.inj (ht.symm.trans ht')
      have hok : ∀ u v, cs.toList = [.iface u v] → Value.okWide P w .any 0 u v := fun u v e => by
        obtain ⟨l⟩ := cs
        simp at e; subst e
        refine (hrows g 0 ?_).2 u v (by simpa using World.var?_cell hg hvar 0)
        exact List.mem_flatten.2 ⟨pi, List.mem_of_getElem? hpi, by rw [hps]; simp [MemPlace.row]⟩
      obtain ⟨a, s, hcs, hc, _, _, hp⟩ := errorString_of_trod hi T.row T.p he hft hfo T.s T.ce T.cs htr hok
      have hspot : a.spot = none := by
        unfold World.cell? at hc
        split at hc
        · cases hs : a.spot with
          | none => rfl
          | some _ => simp [hs] at hc
        · cases hc
      refine ⟨a, fun n' bs' g2 hl' hg2 ht2 => ?_⟩
      obtain ⟨rfl, _⟩ := Prod.mk.inj (Option.some.inj (hl.symm.trans hl'))
      obtain rfl := Option.some.inj (hg.symm.trans hg2)
      refine ⟨?_, pi, hpi, by rw [hps, hp]; simp [MemPlace.row], hspot⟩
      obtain ⟨l⟩ := cs
      simp at hcs; subst hcs
      simpa using World.var?_cell hg hvar 0
    · exact ⟨default, fun n bs g a b c => (hex ⟨n, bs, g, a, b, c⟩).elim⟩
  refine ⟨fun i => Classical.choose (key i), fun i n bs g a b c => ?_, fun i j n m bs bs' g g' a b c a' b' c' e => ?_⟩
  · obtain ⟨h1, pi, h2, h3, _⟩ := Classical.choose_spec (key i) n bs g a b c
    exact ⟨h1, (hrows _ _ (List.mem_flatten.2 ⟨pi, List.mem_of_getElem? h2, h3⟩)).1⟩
  · obtain ⟨_, pi, h2, h3, _⟩ := Classical.choose_spec (key i) n bs g a b c
    obtain ⟨_, pj, k2, k3, _⟩ := Classical.choose_spec (key j) m bs' g' a' b' c'
    refine flatten_apart pss hnd i j pi pj _ h2 k2 h3 ?_
    have e' : Classical.choose (key i) = Classical.choose (key j) := e
    rw [e']; exact k3

theorem drop_take_one {α : Type} (l : List α) (i : Nat) (h : i < l.length) : (l.drop (i * 1)).take 1 = [l[i]] := by
  rw [Nat.mul_one, List.drop_eq_getElem_cons h]; rfl

/-- A listed table, as the shelf's contracts want it. -/
theorem tab_of_laid {P : Program} {w : World} {laid : List (String × DataW Unit)} (h : laidMet P laid w) (i : Nat) (n : String) (zs : List Int) (g : Nat) (t e : TypeId) (k : IntKind)
    (hl : laid[i]? = some (n, Lib.tabData k zs)) (hg : P.globalNamed n = some g) (ht : (P.globals[g]?).map (·.type) = some t)
    (hu : P.underlying t = some (.array zs.length e)) (he : P.underlying e = some (.int k)) (hce : P.cellsOf e = 1) (hct : P.cellsOf t = zs.length) : Lib.TabIs P w n k zs := by
  obtain ⟨ps, hv, hnd, hrows⟩ := h
  obtain ⟨pss, rfl, hall⟩ := laid_each laid ps hv
  obtain ⟨pi, hpi, g', t', cs, fuel, p, hg', ht', hvar, htr, hps⟩ := hall i _ hl
  obtain rfl := Option.some.inj (hg.symm.trans hg')
  obtain rfl := Option.some.inj (ht.symm.trans ht')
  unfold Lib.TabIs
  rw [hvar, ← Lib.cells_of_tab hu he hce hct htr]
/-- A listed array of ints. -/
theorem ints_of_laid {P : Program} {w : World} {laid : List (String × DataW Unit)} (h : laidMet P laid w) (i : Nat) (n : String) (zs : List Int) (g : Nat) (t e : TypeId) (k : IntKind)
    (hl : laid[i]? = some (n, .agg (zs.map fun z => .lit (.int k z)))) (hg : P.globalNamed n = some g) (ht : (P.globals[g]?).map (·.type) = some t)
    (hu : P.underlying t = some (.array zs.length e)) (he : P.underlying e = some (.int k)) (hce : P.cellsOf e = 1) (hct : P.cellsOf t = zs.length) :
    ∀ j : Nat, j < zs.length → w.cell? ⟨g, j, none⟩ = some (.int k (zs.getD j 0)) := by
  obtain ⟨ps, hv, hnd, hrows⟩ := h
  obtain ⟨pss, rfl, hall⟩ := laid_each laid ps hv
  obtain ⟨pi, hpi, g', t', cs, fuel, p, hg', ht', hvar, htr, hps⟩ := hall i _ hl
  obtain rfl := Option.some.inj (hg.symm.trans hg')
  obtain rfl := Option.some.inj (ht.symm.trans ht')
  obtain ⟨xs, m, _, hx, hlen, hxl, hel⟩ := DataW.trod_array hu htr
  intro j hj
  have hj' : j < cs.toList.length := by rw [hlen, hct]; exact hj
  have h1 := hel j hj
  rw [hce, drop_take_one _ _ hj', List.getElem?_eq_getElem (by omega)] at h1
  obtain ⟨z, hz, hd, _⟩ := DataW.trod_int he h1
  have hcell := World.var?_cell hg hvar j
  rw [Array.getElem?_eq_getElem (by simpa using hj')] at hcell
  have hz' : cs[j]'(by simpa using hj') = .int k z := by simpa using hz
  rw [hz'] at hcell
  rw [hcell]
  have hagg := congrArg (fun q => q) hx
  simp only [Prod.mk.injEq, DataW.agg.injEq] at hagg
  have hjx : (xs.map (·.1))[j]? = some (.lit (.int k z)) := by rw [List.getElem?_map, List.getElem?_eq_getElem (by omega)]; simp [hd]
  rw [← hagg.1, List.getElem?_map, List.getElem?_eq_getElem hj] at hjx
  simp at hjx
  simp [List.getElem?_eq_getElem hj, hjx]

/-- A listed array of strings. -/
theorem strings_of_laid {P : Program} {w : World} {laid : List (String × DataW Unit)} (h : laidMet P laid w) (i : Nat) (n : String) (zs : List (List UInt8)) (g : Nat) (t e : TypeId)
    (hl : laid[i]? = some (n, .agg (zs.map fun z => .lit (.string z)))) (hg : P.globalNamed n = some g) (ht : (P.globals[g]?).map (·.type) = some t)
    (hu : P.underlying t = some (.array zs.length e)) (he : P.underlying e = some .string) (hce : P.cellsOf e = 1) (hct : P.cellsOf t = zs.length) :
    ∀ j : Nat, j < zs.length → w.cell? ⟨g, j, none⟩ = some (.string ⟨(zs.getD j []).toArray⟩) := by
  obtain ⟨ps, hv, hnd, hrows⟩ := h
  obtain ⟨pss, rfl, hall⟩ := laid_each laid ps hv
  obtain ⟨pi, hpi, g', t', cs, fuel, p, hg', ht', hvar, htr, hps⟩ := hall i _ hl
  obtain rfl := Option.some.inj (hg.symm.trans hg')
  obtain rfl := Option.some.inj (ht.symm.trans ht')
  obtain ⟨xs, m, _, hx, hlen, hxl, hel⟩ := DataW.trod_array hu htr
  intro j hj
  have hj' : j < cs.toList.length := by rw [hlen, hct]; exact hj
  have h1 := hel j hj
  rw [hce, drop_take_one _ _ hj', List.getElem?_eq_getElem (by omega)] at h1
  obtain ⟨z, hz, hd, _⟩ := DataW.trod_string he h1
  have hcell := World.var?_cell hg hvar j
  rw [Array.getElem?_eq_getElem (by simpa using hj')] at hcell
  have hz' : cs[j]'(by simpa using hj') = .string z := by simpa using hz
  rw [hz'] at hcell
  rw [hcell]
  have hagg := congrArg (fun q => q) hx
  simp only [Prod.mk.injEq, DataW.agg.injEq] at hagg
  have hjx : (xs.map (·.1))[j]? = some (.lit (.string z.data.toList)) := by rw [List.getElem?_map, List.getElem?_eq_getElem (by omega)]; simp [hd]
  rw [← hagg.1, List.getElem?_map, List.getElem?_eq_getElem hj] at hjx
  simp at hjx
  simp [List.getElem?_eq_getElem hj, hjx]

end Go.Proofs.YtmeahkijpipgnaaGreatDoor
