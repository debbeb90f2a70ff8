/- From contracts of the kit to abstract ones. -/
import Derived.Test.YtggcmnoacplbkaaDoorOwn
import Derived.Below
import Derived.WalkSmall
namespace Go.Proofs.YtggcmnoacplbkaaDoor.AM
open Go Go.RowKit
set_option linter.unusedVariables false
/-- A contract that leaves all that was there as it was is an abstract one. -/
theorem HR.below {g : Gh} {h : Hp} {w w' : World} (k : HR g h w) (hb : Below w.heap.size w w') : HR g h w' := by
  have old : ∀ (b : Nat) (o : Obj), w.heap[b]? = some o → w'.heap[b]? = some o := fun b o q => by
    rw [hb.block b (Array.getElem?_eq_some_iff.1 q).1]; exact q
  refine ⟨hb.os.trans k.os, hb.tape.trans k.tape, hb.output.trans k.output, Nat.le_trans k.size hb.size, fun b o q => old b o (k.fz b o q), fun b x q => ?_, fun b o q => ?_, k.gl, fun b o q => ⟨⟨old b o (k.raw b o q).1.1, (k.raw b o q).1.2⟩, (k.raw b o q).2⟩⟩
  · have h1 := k.shp b x q
    have : w'.heap[b]? = w.heap[b]? := by
      cases e2 : w.heap[b]? with
      | none => simp [World.shape?, e2] at h1
      | some o => exact old b o e2
    simpa only [World.shape?, this] using h1
  · obtain ⟨q1, c, e, q2, q3, q4⟩ := k.ob b o q
    exact ⟨q1, c, e, q2.of (old b), q3, q4⟩

/-- From a call's contract to the abstract one. -/
theorem apure_of_below {P : Program} {n : Nat} {args : List AV} {x : AV} (hc : callable P n) (H : ∀ (g : Gh) (h : Hp) (w : World) (vs : Array Value), VRs g args vs.toList → HR g h w → Calls P n vs w fun e w' => ∃ v, e = .returned v ∧ VR g x v ∧ Below w.heap.size w w') : APure P n args x :=
  fun h => ⟨hc, fun g w vs hv hh => (H g h w vs hv hh).mono fun e w' ⟨v, he, hx, hb⟩ => by
    subst he
    exact ⟨g, h, .ret x, Gh.le.refl g, hh.below hb, ⟨rfl, rfl⟩, hx⟩⟩

end Go.Proofs.YtggcmnoacplbkaaDoor.AM
