/- The last step of a law's row: it answered true, and what was there below the heap's old size is as it was. For any program. -/
import Derived.ProofKit
import Derived.Carry
import Derived.WideKeyArgs
namespace Go.Proofs.YtmeahkijpipgnaaGreatDoor
open Go Go.ChangeShapes Go.WideShapes Go.ChangeAt Go.RowKit

section
variable {H : Type} {enc : TypeId × Value → H} {P : Program}
theorem post_of_below {f : Func} {s : ChangeSpec} {apart fresh handsOn again : Bool} {W W' : World} {args : Array Value} {v : Value} {ds gs : List (DataW H)} {before pa pv : List MemPlace}
    (hW : DataW.Whole enc P f.params.toList s.vars apart W args.toList ds gs before)
    (hres : ∀ (b : Nat) (sp : Nat → Bool) (hd : Bool), DataW.TrodAll enc P W' b sp hd f.resultTypes.toList (v.resultList f.resultTypes.size) (s.fn H (ds ++ gs)).results [])
    (hargs : ∀ sp : Nat → Bool, (∀ p ∈ before, sp p.block = true) → DataW.TrodAll enc P W' 0 sp true f.params.toList args.toList (s.fn H (ds ++ gs)).args pa)
    (hvars : ∀ sp : Nat → Bool, (∀ p ∈ before, sp p.block = true) → DataW.TrodVars enc P W' sp s.vars (s.fn H (ds ++ gs)).vars pv)
    (hps : before = pa ++ pv) (hb : Below W.heap.size W W')
    (hok : ∀ (j : Nat) (t : TypeId) (r : Value), f.resultTypes[j]? = some t → (v.resultList f.resultTypes.size)[j]? = some r → Value.okWide P W' .any 0 t r) :
    s.post enc P f apart fresh handsOn again W args v W' := by
  have hlt : ∀ p ∈ before, p.block < W.heap.size := fun p hp => hW.lt p hp
  have hold : ∀ p ∈ before, (fun b => decide (b < W.heap.size)) p.block = true := fun p hp => by simpa using hlt p hp
  refine ⟨ds, gs, before, [], pa, pv, hW, hres _ _ _, hargs _ hold, hvars _ hold, World.keptBut_mono (fun p hp => ⟨hp, ?_⟩) (hb.frame (· ∈ before)), fun _ => ?_⟩
  · rw [hps, List.mem_append] at hp
    exact Or.inr hp
  · obtain ⟨_, _, _, _, _, hz, hn⟩ := hW
    refine ⟨hok, _, _, ([] ++ pa) ++ pv, ⟨[] ++ pa, pv, trodAll_append (hargs _ (fun _ _ => rfl)) (hres _ _ _), hvars _ (fun _ _ => rfl), rfl, ?_, ?_⟩, ?_⟩
    · intro b off hp
      have hin : MemPlace.cell b off ∈ before := by rw [hps]; simpa using hp
      rw [hb.frozen (hlt _ hin)]
      exact hz b off hin
    · intro h; rw [hps] at hn; simpa using hn h
    · simp [hps]
      exact fun p hp _ => hp

/-- A law of one argument. -/
theorem law_post {f : Func} {s : ChangeSpec} {W W' : World} {v : Value} {d : DataW H} {p : List MemPlace} {t tb : TypeId}
    (hl : laidOutB P = true) (hr : P.readableRec t = true) (hrow : t < P.types.size) (hpar : f.params = #[t]) (hres : f.resultTypes = #[tb]) (hb : P.underlying tb = some .bool)
    (hvars : s.vars = []) (hfn : s.fn H [d] = { results := [.lit (.bool true)], args := [d] })
    (hW : DataW.Whole enc P f.params.toList s.vars false W [v] [d] [] p) (h0 : DataW.Trod enc P W 0 (fun _ => true) true t v d p) (hbel : Below W.heap.size W W') :
    s.post enc P f false true false false W #[v] (.bool true) W' := by
  refine post_of_below (pa := p) (pv := []) hW (fun _ _ _ => ?_) (fun sp hsp => ?_) (fun _ _ => ?_) (by simp) hbel ?_
  · rw [hres]; simp only [List.append_nil, hfn]
    exact trodAll_mk1 (shut_bool hb _)
  · rw [hpar]; simp only [List.append_nil, hfn]
    exact trodAll_mk1 (WideElems.Trod_stays hl hr hrow h0 (fun x hx => hbel.same (hW.lt x hx)) hsp)
  · rw [hvars]; simp only [List.append_nil, hfn]; rfl
  · exact ok_one hres rfl (okWide_bool_mk hb _)
end
end Go.Proofs.YtmeahkijpipgnaaGreatDoor
