/- Pages: the walks of the copies. -/
import Derived.Test.YtdobeigblnpjhaaCodeB
import Derived.Test.YtdobeigblnpjhaaMore
import Derived.Test.YtdobeigblnpjhaaSp
namespace Go.Proofs.Ytdobeigblnpjhaa
open Go Go.Proofs.Ytdobeigblnpjhaa.AM
set_option maxRecDepth 100000
set_option linter.unusedSimpArgs false

def LineOk (y : Line) : Prop := y.spots.length * 32 ≤ 140737488355328

theorem own20_pure (l : List Line) (hl : l.length * 40 ≤ 140737488355328) (ha : ∀ y ∈ l, LineOk y) :
    APure Try.prog n_stylusref20_Own [.isl 3 (l.map encLine)] (.isl 3 (l.map encLine)) := by
  intro h
  refine enter_stylusref20_Own ?_
  simp -implicitDefEqProofs (disch := omega) only [push_cast, wrap_i64, Nat.reduceAdd, Nat.reduceLeDiff, Nat.reduceMul, Nat.reduceSub, Nat.reduceLT, Nat.reduceEqDiff, Int.reduceAdd, Int.reduceSub, Int.reduceLE, Int.reduceLT, Int.reduceEq, Int.reduceNe, Int.reduceToNat, Int.reduceNeg, reduceIte, reduceCtorEq, ac_stylusref20_Own]
  refine awp_loop (σ := Nat × AV × Hp) (fun s => ⟨[.isl 3 (l.map encLine), .any, .any, s.2.1, aint s.1] ++ List.replicate 28 .any, s.2.2⟩)
    (fun s => s.1 ≤ l.length ∧ Acc h 3 ((l.take s.1).map encLine) s.2.1 s.2.2) (fun s => l.length - s.1) (0, anil, h) (Retell.weak (by simp [Weak, push_cast]) (Hp.sub.refl _)) ⟨Nat.zero_le _, by simpa using Acc.nil h 3⟩ ?_
  rintro ⟨i, x, h1⟩ ⟨hi, acc⟩
  simp only at hi acc ⊢
  by_cases hlt : i < l.length
  · have hx : l[i]? = some l[i] := List.getElem?_eq_getElem hlt
    have hc : ((i : Int) < (l.length : Int)) := by omega
    have hsp := ha _ (List.getElem_mem hlt)
    unfold LineOk at hsp
    simp -implicitDefEqProofs (disch := omega) only [push_cast, wrap_i64, Nat.reduceAdd, Nat.reduceLeDiff, Nat.reduceMul, Nat.reduceSub, Nat.reduceLT, Nat.reduceEqDiff, Int.reduceAdd, Int.reduceSub, Int.reduceLE, Int.reduceLT, Int.reduceEq, Int.reduceNe, Int.reduceToNat, Int.reduceNeg, reduceIte, reduceCtorEq, hc, hx, encLine]
    intro b12 hb12
    simp -implicitDefEqProofs (disch := omega) only [push_cast, wrap_i64, Nat.reduceAdd, Nat.reduceLeDiff, Nat.reduceMul, Nat.reduceSub, Nat.reduceLT, Nat.reduceEqDiff, Int.reduceAdd, Int.reduceSub, Int.reduceLE, Int.reduceLT, Int.reduceEq, Int.reduceNe, Int.reduceToNat, Int.reduceNeg, reduceIte, reduceCtorEq, encLine]
    refine ⟨hsp, ?_⟩
    rw [Hp.upd_del hb12]
    intro b18 hb18
    have acc2 := acc.new ⟨4, l[i].spots.map encSpot⟩ hb18
    simp -implicitDefEqProofs (disch := omega) only [push_cast, wrap_i64, Nat.reduceAdd, Nat.reduceLeDiff, Nat.reduceMul, Nat.reduceSub, Nat.reduceLT, Nat.reduceEqDiff, Int.reduceAdd, Int.reduceSub, Int.reduceLE, Int.reduceLT, Int.reduceEq, Int.reduceNe, Int.reduceToNat, Int.reduceNeg, reduceIte, reduceCtorEq]
    intro b30 hb30
    have acc3 := acc2.new ⟨3, [[.osl b18 4 0 l[i].spots.length, .val (.int .i64 l[i].width), .val (.int .i64 l[i].bits)]]⟩ hb30
    simp -implicitDefEqProofs (disch := omega) only [push_cast, wrap_i64, Nat.reduceAdd, Nat.reduceLeDiff, Nat.reduceMul, Nat.reduceSub, Nat.reduceLT, Nat.reduceEqDiff, Int.reduceAdd, Int.reduceSub, Int.reduceLE, Int.reduceLT, Int.reduceEq, Int.reduceNe, Int.reduceToNat, Int.reduceNeg, reduceIte, reduceCtorEq]
    refine appR_acc acc3 rfl (by omega) (by simp) (by simp; omega) ?_
    intro x' h' acc4 keep _
    have hb18' := keep b18 ⟨4, l[i].spots.map encSpot⟩ (Hp.upd_old hb30 (by simp)) (acc.ne hb18)
    simp -implicitDefEqProofs (disch := omega) only [push_cast, wrap_i64, Nat.reduceAdd, Nat.reduceLeDiff, Nat.reduceMul, Nat.reduceSub, Nat.reduceLT, Nat.reduceEqDiff, Int.reduceAdd, Int.reduceSub, Int.reduceLE, Int.reduceLT, Int.reduceEq, Int.reduceNe, Int.reduceToNat, Int.reduceNeg, reduceIte, reduceCtorEq]
    have h18 : h b18 = none := acc.1.none hb18
    obtain ⟨h'', rt, acc5⟩ := acc4.cell (k := 0) (b2 := b18) (sz2 := 4) (rs := l[i].spots.map encSpot) (by simp) hb18' h18 (by decide)
    refine awp_ghost _ rt ?_
    simp -implicitDefEqProofs (disch := omega) only [push_cast, wrap_i64, Nat.reduceAdd, Nat.reduceLeDiff, Nat.reduceMul, Nat.reduceSub, Nat.reduceLT, Nat.reduceEqDiff, Int.reduceAdd, Int.reduceSub, Int.reduceLE, Int.reduceLT, Int.reduceEq, Int.reduceNe, Int.reduceToNat, Int.reduceNeg, reduceIte, reduceCtorEq]
    refine ⟨(i + 1, x', h''), by simp only; omega, ⟨hlt, ?_⟩, Retell.weak ?_ (Hp.sub.refl _)⟩
    · rw [List.take_succ_eq_append_getElem hlt, List.map_append]
      exact acc5
    · simp [Weak, push_cast]
  · have hc : ¬ ((i : Int) < (l.length : Int)) := by omega
    obtain rfl : i = l.length := by omega
    simp -implicitDefEqProofs (disch := omega) only [push_cast, wrap_i64, Nat.reduceAdd, Nat.reduceLeDiff, Nat.reduceMul, Nat.reduceSub, Nat.reduceLT, Nat.reduceEqDiff, Int.reduceAdd, Int.reduceSub, Int.reduceLE, Int.reduceLT, Int.reduceEq, Int.reduceNe, Int.reduceToNat, Int.reduceNeg, reduceIte, reduceCtorEq, hc]
    rw [List.take_length] at acc
    obtain ⟨h', sh, hs⟩ := acc.freeze
    refine awp_ghost _ (Retell.slot (k := 3) rfl sh) ?_
    simp -implicitDefEqProofs (disch := omega) only [push_cast, wrap_i64, Nat.reduceAdd, Nat.reduceLeDiff, Nat.reduceMul, Nat.reduceSub, Nat.reduceLT, Nat.reduceEqDiff, Int.reduceAdd, Int.reduceSub, Int.reduceLE, Int.reduceLT, Int.reduceEq, Int.reduceNe, Int.reduceToNat, Int.reduceNeg, reduceIte, reduceCtorEq]
    refine retQ_ret (.isl 3 (l.map encLine)) h ?_ hs ⟨rfl, rfl⟩
    simp [push_cast]

def StripOk (x : Strip) : Prop := LineOk x.line ∧ x.notes.length * 40 ≤ 140737488355328 ∧ ∀ y ∈ x.notes, LineOk y

theorem own22_pure (l : List Strip) (hl : l.length * 80 ≤ 140737488355328) (ha : ∀ y ∈ l, StripOk y) :
    APure Try.prog n_styluslaw22_own [.isl 6 (l.map encStrip)] (.isl 6 (l.map encStrip)) := by
  intro h
  refine enter_styluslaw22_own ?_
  simp -implicitDefEqProofs (disch := omega) only [push_cast, wrap_i64, Nat.reduceAdd, Nat.reduceLeDiff, Nat.reduceMul, Nat.reduceSub, Nat.reduceLT, Nat.reduceEqDiff, Int.reduceAdd, Int.reduceSub, Int.reduceLE, Int.reduceLT, Int.reduceEq, Int.reduceNe, Int.reduceToNat, Int.reduceNeg, reduceIte, reduceCtorEq, ac_styluslaw22_own]
  refine awp_loop (σ := Nat × AV × Hp) (fun s => ⟨[.isl 6 (l.map encStrip), .any, .any, s.2.1, aint s.1] ++ List.replicate 27 .any, s.2.2⟩)
    (fun s => s.1 ≤ l.length ∧ Acc h 6 ((l.take s.1).map encStrip) s.2.1 s.2.2) (fun s => l.length - s.1) (0, anil, h) (Retell.weak (by simp [Weak, push_cast]) (Hp.sub.refl _)) ⟨Nat.zero_le _, by simpa using Acc.nil h 6⟩ ?_
  rintro ⟨i, x, h1⟩ ⟨hi, acc⟩
  simp only at hi acc ⊢
  by_cases hlt : i < l.length
  · have hx : l[i]? = some l[i] := List.getElem?_eq_getElem hlt
    have hc : ((i : Int) < (l.length : Int)) := by omega
    obtain ⟨o1, o2, o3⟩ := ha _ (List.getElem_mem hlt)
    simp -implicitDefEqProofs (disch := omega) only [push_cast, wrap_i64, Nat.reduceAdd, Nat.reduceLeDiff, Nat.reduceMul, Nat.reduceSub, Nat.reduceLT, Nat.reduceEqDiff, Int.reduceAdd, Int.reduceSub, Int.reduceLE, Int.reduceLT, Int.reduceEq, Int.reduceNe, Int.reduceToNat, Int.reduceNeg, reduceIte, reduceCtorEq, hc, hx, encStrip]
    intro b5 hb5
    simp -implicitDefEqProofs (disch := omega) only [push_cast, wrap_i64, Nat.reduceAdd, Nat.reduceLeDiff, Nat.reduceMul, Nat.reduceSub, Nat.reduceLT, Nat.reduceEqDiff, Int.reduceAdd, Int.reduceSub, Int.reduceLE, Int.reduceLT, Int.reduceEq, Int.reduceNe, Int.reduceToNat, Int.reduceNeg, reduceIte, reduceCtorEq, hc, hx, encStrip, Hp.upd_upd]
    intro b18 hb18
    simp -implicitDefEqProofs (disch := omega) only [push_cast, wrap_i64, Nat.reduceAdd, Nat.reduceLeDiff, Nat.reduceMul, Nat.reduceSub, Nat.reduceLT, Nat.reduceEqDiff, Int.reduceAdd, Int.reduceSub, Int.reduceLE, Int.reduceLT, Int.reduceEq, Int.reduceNe, Int.reduceToNat, Int.reduceNeg, reduceIte, reduceCtorEq, hc, hx, encStrip]
    refine calls_frozen _ (Hp.upd_same _ _ _) rfl (own20_pure [l[i].line] (by simp) (by simpa using o1)) ?_
    rw [Hp.upd_del hb18]
    simp -implicitDefEqProofs (disch := omega) only [push_cast, wrap_i64, Nat.reduceAdd, Nat.reduceLeDiff, Nat.reduceMul, Nat.reduceSub, Nat.reduceLT, Nat.reduceEqDiff, Int.reduceAdd, Int.reduceSub, Int.reduceLE, Int.reduceLT, Int.reduceEq, Int.reduceNe, Int.reduceToNat, Int.reduceNeg, reduceIte, reduceCtorEq, encLine, Hp.upd_upd]
    refine pures_of _ (own20_pure l[i].notes o2 o3) ?_
    simp -implicitDefEqProofs (disch := omega) only [push_cast, wrap_i64, Nat.reduceAdd, Nat.reduceLeDiff, Nat.reduceMul, Nat.reduceSub, Nat.reduceLT, Nat.reduceEqDiff, Int.reduceAdd, Int.reduceSub, Int.reduceLE, Int.reduceLT, Int.reduceEq, Int.reduceNe, Int.reduceToNat, Int.reduceNeg, reduceIte, reduceCtorEq, encLine, Hp.upd_upd]
    have acc2 := acc.new ⟨6, [encStrip l[i]]⟩ hb5
    intro b29 hb29
    have acc3 := acc2.new ⟨6, [encStrip l[i]]⟩ hb29
    simp -implicitDefEqProofs (disch := omega) only [push_cast, wrap_i64, Nat.reduceAdd, Nat.reduceLeDiff, Nat.reduceMul, Nat.reduceSub, Nat.reduceLT, Nat.reduceEqDiff, Int.reduceAdd, Int.reduceSub, Int.reduceLE, Int.reduceLT, Int.reduceEq, Int.reduceNe, Int.reduceToNat, Int.reduceNeg, reduceIte, reduceCtorEq]
    refine appR_acc acc3 rfl (by omega) (by simp) (by simp; omega) ?_
    intro x' h' acc4 _ _
    simp -implicitDefEqProofs (disch := omega) only [push_cast, wrap_i64, Nat.reduceAdd, Nat.reduceLeDiff, Nat.reduceMul, Nat.reduceSub, Nat.reduceLT, Nat.reduceEqDiff, Int.reduceAdd, Int.reduceSub, Int.reduceLE, Int.reduceLT, Int.reduceEq, Int.reduceNe, Int.reduceToNat, Int.reduceNeg, reduceIte, reduceCtorEq]
    refine ⟨(i + 1, x', h'), by simp only; omega, ⟨hlt, ?_⟩, Retell.weak ?_ (Hp.sub.refl _)⟩
    · rw [List.take_succ_eq_append_getElem hlt, List.map_append]
      exact acc4
    · simp [Weak, push_cast]
  · have hc : ¬ ((i : Int) < (l.length : Int)) := by omega
    obtain rfl : i = l.length := by omega
    simp -implicitDefEqProofs (disch := omega) only [push_cast, wrap_i64, Nat.reduceAdd, Nat.reduceLeDiff, Nat.reduceMul, Nat.reduceSub, Nat.reduceLT, Nat.reduceEqDiff, Int.reduceAdd, Int.reduceSub, Int.reduceLE, Int.reduceLT, Int.reduceEq, Int.reduceNe, Int.reduceToNat, Int.reduceNeg, reduceIte, reduceCtorEq, hc]
    rw [List.take_length] at acc
    obtain ⟨h', sh, hs⟩ := acc.freeze
    refine awp_ghost _ (Retell.slot (k := 3) rfl sh) ?_
    simp -implicitDefEqProofs (disch := omega) only [push_cast, wrap_i64, Nat.reduceAdd, Nat.reduceLeDiff, Nat.reduceMul, Nat.reduceSub, Nat.reduceLT, Nat.reduceEqDiff, Int.reduceAdd, Int.reduceSub, Int.reduceLE, Int.reduceLT, Int.reduceEq, Int.reduceNe, Int.reduceToNat, Int.reduceNeg, reduceIte, reduceCtorEq]
    refine retQ_ret (.isl 6 (l.map encStrip)) h ?_ hs ⟨rfl, rfl⟩
    simp [push_cast]
end Go.Proofs.Ytdobeigblnpjhaa
