/- Pages: the walks of the document's answer and of the law. -/
import Derived.Test.YtdobeigblnpjhaaCodeD
import Derived.Test.YtdobeigblnpjhaaPuB
import Derived.Test.YtdobeigblnpjhaaPuC
import Derived.Test.YtdobeigblnpjhaaPuE
namespace Go.Proofs.Ytdobeigblnpjhaa
open Go Go.Proofs.Ytdobeigblnpjhaa.AM
set_option maxRecDepth 100000
set_option linter.unusedSimpArgs false
set_option maxHeartbeats 4000000

theorem fill_length (H : Int) : ∀ (n : Nat) (l : List Strip), l.length ≤ n → (fill l H).length ≤ l.length + 1
  | n, l, hn => by
    cases hb : (firstN l H 0).2 with
    | true => rw [fill_all hb]; simp
    | false =>
      have h1 := firstN_pos l H 0 (firstN_more hb)
      have h2 := firstN_le l H 0
      rw [fill_cut hb]
      match n, hn with
      | 0, hn => omega
      | n + 1, hn =>
        have := fill_length H n (l.drop (firstN l H 0).1) (by simp; omega)
        simp at this ⊢; omega

def encPages (l : List (List Strip)) : List (List AV) := l.map fun p => [.isl 6 (p.map encStrip)]

theorem refFill_pure (H : Int) : ∀ (n : Nat) (l : List Strip), l.length ≤ n → l.length + notesN l ≤ 1000000000 → APure Try.prog n_stylusref22_Fill [.isl 6 (l.map encStrip), aint H] (.isl 1 (encPages (fill l H)))
  | n, l, hn, hl => by
    intro h
    refine enter_stylusref22_Fill ?_
    simp -implicitDefEqProofs (disch := omega) only [push_cast, wrap_i64, Nat.reduceAdd, Nat.reduceLeDiff, Nat.reduceMul, Nat.reduceSub, Nat.reduceLT, Nat.reduceEqDiff, Int.reduceAdd, Int.reduceSub, Int.reduceLE, Int.reduceLT, Int.reduceEq, Int.reduceNe, Int.reduceToNat, Int.reduceNeg, reduceIte, reduceCtorEq, ac_stylusref22_Fill]
    refine pures_of _ (first_pure l H (by omega)) ?_
    have h2 := firstN_le l H 0
    simp -implicitDefEqProofs (disch := omega) only [push_cast, wrap_i64, Nat.reduceAdd, Nat.reduceLeDiff, Nat.reduceMul, Nat.reduceSub, Nat.reduceLT, Nat.reduceEqDiff, Int.reduceAdd, Int.reduceSub, Int.reduceLE, Int.reduceLT, Int.reduceEq, Int.reduceNe, Int.reduceToNat, Int.reduceNeg, reduceIte, reduceCtorEq, h2, Nat.zero_le]
    intro b14 hb14
    simp -implicitDefEqProofs (disch := omega) only [push_cast, wrap_i64, Nat.reduceAdd, Nat.reduceLeDiff, Nat.reduceMul, Nat.reduceSub, Nat.reduceLT, Nat.reduceEqDiff, Int.reduceAdd, Int.reduceSub, Int.reduceLE, Int.reduceLT, Int.reduceEq, Int.reduceNe, Int.reduceToNat, Int.reduceNeg, reduceIte, reduceCtorEq, h2, Nat.zero_le, ← List.map_take, List.length_map]
    have hml : (l.take (firstN l H 0).1).length ≤ 1000000000 := by simp; omega
    refine ⟨by omega, ?_⟩
    rw [Hp.upd_del hb14]
    intro b18 hb18
    simp -implicitDefEqProofs (disch := omega) only [push_cast, wrap_i64, Nat.reduceAdd, Nat.reduceLeDiff, Nat.reduceMul, Nat.reduceSub, Nat.reduceLT, Nat.reduceEqDiff, Int.reduceAdd, Int.reduceSub, Int.reduceLE, Int.reduceLT, Int.reduceEq, Int.reduceNe, Int.reduceToNat, Int.reduceNeg, reduceIte, reduceCtorEq]
    intro b19 hb19
    simp -implicitDefEqProofs (disch := omega) only [push_cast, wrap_i64, Nat.reduceAdd, Nat.reduceLeDiff, Nat.reduceMul, Nat.reduceSub, Nat.reduceLT, Nat.reduceEqDiff, Int.reduceAdd, Int.reduceSub, Int.reduceLE, Int.reduceLT, Int.reduceEq, Int.reduceNe, Int.reduceToNat, Int.reduceNeg, reduceIte, reduceCtorEq]
    have acc : Acc h 1 ([] ++ [[.osl b18 6 0 (l.take (firstN l H 0).1).length]]) (.osl b19 1 0 1) ((h.upd b18 ⟨6, (l.take (firstN l H 0).1).map encStrip⟩).upd b19 ⟨1, [[.osl b18 6 0 (l.take (firstN l H 0).1).length]]⟩) :=
      ⟨((Hp.sub.refl h).upd _ hb18).upd _ (Hp.upd_none hb19).2, .inr ⟨b19, (Hp.upd_none hb19).2, rfl, Hp.upd_same _ _ _⟩⟩
    obtain ⟨h3, rt, acc3⟩ := acc.cell (k := 0) (b2 := b18) (sz2 := 6) (rs := (l.take (firstN l H 0).1).map encStrip) (by simp) (Hp.upd_old hb19 (Hp.upd_same _ _ _)) hb18 (by decide)
    refine awp_ghost _ rt ?_
    cases hb : (firstN l H 0).2 with
    | true =>
      simp -implicitDefEqProofs (disch := omega) only [push_cast, wrap_i64, Nat.reduceAdd, Nat.reduceLeDiff, Nat.reduceMul, Nat.reduceSub, Nat.reduceLT, Nat.reduceEqDiff, Int.reduceAdd, Int.reduceSub, Int.reduceLE, Int.reduceLT, Int.reduceEq, Int.reduceNe, Int.reduceToNat, Int.reduceNeg, reduceIte, reduceCtorEq, hb]
      refine awp_ghost _ (Retell.refl _) ?_
      simp -implicitDefEqProofs (disch := omega) only [push_cast, wrap_i64, Nat.reduceAdd, Nat.reduceLeDiff, Nat.reduceMul, Nat.reduceSub, Nat.reduceLT, Nat.reduceEqDiff, Int.reduceAdd, Int.reduceSub, Int.reduceLE, Int.reduceLT, Int.reduceEq, Int.reduceNe, Int.reduceToNat, Int.reduceNeg, reduceIte, reduceCtorEq]
      obtain ⟨h4, sh, hs4⟩ := acc3.freeze
      refine ⟨_, _, h, rfl, sh.trans (Shift.forget hs4), ?_, rfl⟩
      rw [fill_all hb]; rfl
    | false =>
      simp -implicitDefEqProofs (disch := omega) only [push_cast, wrap_i64, Nat.reduceAdd, Nat.reduceLeDiff, Nat.reduceMul, Nat.reduceSub, Nat.reduceLT, Nat.reduceEqDiff, Int.reduceAdd, Int.reduceSub, Int.reduceLE, Int.reduceLT, Int.reduceEq, Int.reduceNe, Int.reduceToNat, Int.reduceNeg, reduceIte, reduceCtorEq, hb]
      refine awp_ghost _ (Retell.refl _) ?_
      have h1 := firstN_pos l H 0 (firstN_more hb)
      have hlen : (l.drop (firstN l H 0).1).length = l.length - (firstN l H 0).1 := by simp
      have hnd := notesN_drop l (firstN l H 0).1
      have htl : List.take l.length (l.map encStrip) = l.map encStrip := List.take_of_length_le (by rw [List.length_map]; exact Nat.le_refl _)
      simp -implicitDefEqProofs (disch := omega) only [push_cast, wrap_i64, Nat.reduceAdd, Nat.reduceLeDiff, Nat.reduceMul, Nat.reduceSub, Nat.reduceLT, Nat.reduceEqDiff, Int.reduceAdd, Int.reduceSub, Int.reduceLE, Int.reduceLT, Int.reduceEq, Int.reduceNe, Int.reduceToNat, Int.reduceNeg, reduceIte, reduceCtorEq, h2, Nat.zero_le, ← List.map_drop, htl, Nat.le_refl]
      match n, hn with
      | 0, hn => omega
      | n + 1, hn =>
        refine pures_of _ (refFill_pure H n (l.drop (firstN l H 0).1) (by omega) (by omega)) ?_
        rcases acc3.2 with ⟨e, _⟩ | ⟨b', hb0, e, h19⟩
        · simp at e
        · cases e
          have hfl := fill_length H n (l.drop (firstN l H 0).1) (by omega)
          simp -implicitDefEqProofs (disch := omega) only [push_cast, wrap_i64, Nat.reduceAdd, Nat.reduceLeDiff, Nat.reduceMul, Nat.reduceSub, Nat.reduceLT, Nat.reduceEqDiff, Int.reduceAdd, Int.reduceSub, Int.reduceLE, Int.reduceLT, Int.reduceEq, Int.reduceNe, Int.reduceToNat, Int.reduceNeg, reduceIte, reduceCtorEq, h19]
          refine ⟨by simp [encPages]; omega, ?_⟩
          intro b28 hb28
          have hs3 : h.sub (h3.del b19) := acc3.1.del hb0
          have ef : encPages (fill l H) = [.isl 6 ((l.take (firstN l H 0).1).map encStrip)] :: encPages (fill (l.drop (firstN l H 0).1) H) := by rw [fill_cut hb]; rfl
          have acc4 : Acc h 1 ([.isl 6 ((l.take (firstN l H 0).1).map encStrip)] :: encPages (fill (l.drop (firstN l H 0).1) H)) (.osl b28 1 0 (1 + (encPages (fill (l.drop (firstN l H 0).1) H)).length))
              ((h3.del b19).upd b28 ⟨1, [.isl 6 ((l.take (firstN l H 0).1).map encStrip)] :: encPages (fill (l.drop (firstN l H 0).1) H)⟩) :=
            ⟨hs3.upd _ (hs3.none hb28), .inr ⟨b28, hs3.none hb28, by rw [List.length_cons, Nat.add_comm], Hp.upd_same _ _ _⟩⟩
          obtain ⟨h5, sh, hs5⟩ := acc4.freeze
          rw [ef]
          exact ⟨_, _, h, rfl, sh.trans (Shift.forget hs5), rfl, rfl⟩
end Go.Proofs.Ytdobeigblnpjhaa
