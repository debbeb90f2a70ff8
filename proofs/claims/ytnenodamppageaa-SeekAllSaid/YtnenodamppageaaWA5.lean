/- Functions of the program: code, what is asked for their answers, the walk (printed by pr.py). -/
import Derived.Test.YtnenodamppageaaWA4
namespace Go.Proofs.Ytnenodamppageaa
open Go Go.Proofs.Ytnenodamppageaa.AM
set_option maxRecDepth 100000
set_option linter.unusedSimpArgs false
set_option linter.unusedVariables false
set_option maxHeartbeats 4000000
/-! stylus/stylusref33.Index -/
abbrev n_stylusref33_Index : Nat := 14
noncomputable def code_stylusref33_Index : Code := match Try.f14.body with | some c => c | none => .skip
def ann_stylusref33_Index : Nat → Ann
  | 11 => { pure := [], plan := (.op 0 (.op 1 (.op 2 (.op 3 (.op 5 (.op 6 (.op 7 (.op 4 (.op 8 (.op 9 (.op 10 .done))))))))))), ghost := false, post := false }
  | _ => {}
noncomputable def ac_stylusref33_Index_c3 : AC :=
  (.seq (.seq (.reg [⟨some 36, (Op.move (Operand.tmp 7)), none, false⟩, ⟨some 37, (Op.move (Operand.tmp 3)), none, false⟩, ⟨some 38, (Op.call (Call.mk (Callee.builtin Builtin.len) #[(Operand.tmp 37)] #[35])), none, false⟩, ⟨some 39, (Op.binOp BinOp.lss 3 (Operand.tmp 36) (Operand.tmp 38) 3), none, false⟩, ⟨some 40, (Op.move (Operand.tmp 39)), none, false⟩, ⟨some 41, (Op.move (Operand.tmp 3)), (some (some 40, true)), false⟩, ⟨some 42, (Op.move (Operand.tmp 7)), (some (some 40, true)), false⟩, ⟨some 43, (Op.indexAddr 35 (Operand.tmp 41) (Operand.tmp 42)), (some (some 40, true)), false⟩, ⟨some 44, (Op.load 9 (Operand.tmp 43)), (some (some 40, true)), false⟩, ⟨some 45, (Op.move (Operand.tmp 6)), (some (some 40, true)), false⟩, ⟨some 46, (Op.binOp BinOp.eql 9 (Operand.tmp 44) (Operand.tmp 45) 9), (some (some 40, true)), false⟩, ⟨some 47, (Op.pick (Operand.tmp 40) (Operand.tmp 46) (Operand.const (Value.bool false))), none, false⟩]) (.cond (Operand.tmp 47) (.exit 1) .skip)) (.draw [⟨some 48, (Op.move (Operand.tmp 3)), none, false⟩, ⟨some 49, (Op.move (Operand.tmp 7)), none, false⟩, ⟨some 50, (Op.slice 35 (Operand.tmp 48) none (some (Operand.tmp 49)) none), none, false⟩, ⟨some 51, (Op.move (Operand.tmp 6)), none, false⟩, ⟨some 52, (Op.buildSlice 35 1 #[(0, (Operand.tmp 51))]), none, false⟩, ⟨some 53, (Op.move (Operand.tmp 3)), none, false⟩, ⟨some 54, (Op.move (Operand.tmp 7)), none, false⟩, ⟨some 55, (Op.slice 35 (Operand.tmp 53) (some (Operand.tmp 54)) none none), none, false⟩, ⟨some 56, (Op.call (Call.mk (Callee.builtin Builtin.append) #[(Operand.tmp 52), (Operand.tmp 55)] #[35, 35])), none, false⟩, ⟨some 57, (Op.call (Call.mk (Callee.builtin Builtin.append) #[(Operand.tmp 50), (Operand.tmp 56)] #[35, 35])), none, false⟩, ⟨some 3, (Op.assign (Operand.tmp 57)), none, false⟩] (.op 0 (.op 1 (.op 2 (.op 3 (.op 5 (.op 6 (.op 7 (.op 4 (.op 8 (.op 9 (.op 10 .done)))))))))))))
noncomputable def ac_stylusref33_Index_c2 : AC :=
  (.seq (.block 2 (.loop (.seq (.seq (.reg [⟨some 22, (Op.move (Operand.tmp 7)), none, false⟩, ⟨some 23, (Op.move (Operand.tmp 3)), none, false⟩, ⟨some 24, (Op.call (Call.mk (Callee.builtin Builtin.len) #[(Operand.tmp 23)] #[35])), none, false⟩, ⟨some 25, (Op.binOp BinOp.lss 3 (Operand.tmp 22) (Operand.tmp 24) 3), none, false⟩, ⟨some 26, (Op.move (Operand.tmp 25)), none, false⟩, ⟨some 27, (Op.move (Operand.tmp 3)), (some (some 26, true)), false⟩, ⟨some 28, (Op.move (Operand.tmp 7)), (some (some 26, true)), false⟩, ⟨some 29, (Op.indexAddr 35 (Operand.tmp 27) (Operand.tmp 28)), (some (some 26, true)), false⟩, ⟨some 30, (Op.load 9 (Operand.tmp 29)), (some (some 26, true)), false⟩, ⟨some 31, (Op.move (Operand.tmp 6)), (some (some 26, true)), false⟩, ⟨some 32, (Op.binOp BinOp.lss 9 (Operand.tmp 30) (Operand.tmp 31) 9), (some (some 26, true)), false⟩, ⟨some 33, (Op.pick (Operand.tmp 26) (Operand.tmp 32) (Operand.const (Value.bool false))), none, false⟩]) (.cond (Operand.tmp 33) .skip (.exit 2))) (.block 3 (.reg [⟨some 34, (Op.move (Operand.tmp 7)), none, false⟩, ⟨some 35, (Op.binOp BinOp.add 3 (Operand.tmp 34) (Operand.const (Value.int IntKind.i64 1)) 3), none, false⟩, ⟨some 7, (Op.assign (Operand.tmp 35)), none, false⟩]))))) ac_stylusref33_Index_c3)
noncomputable def ac_stylusref33_Index_c1 : AC :=
  (.seq (.block 1 (.seq (.reg [⟨some 16, (Op.move (Operand.tmp 4)), none, false⟩, ⟨some 17, (Op.move (Operand.tmp 5)), none, false⟩, ⟨some 18, (Op.indexAddr 24 (Operand.tmp 16) (Operand.tmp 17)), none, false⟩, ⟨some 19, (Op.fieldAddr 30 (Operand.tmp 18) 1), none, false⟩, ⟨some 20, (Op.load 9 (Operand.tmp 19)), none, false⟩, ⟨some 21, (Op.call (Call.mk (Callee.value (Operand.func 24)) #[(Operand.tmp 20)] #[9])), none, false⟩, ⟨some 6, (Op.assign (Operand.tmp 21)), none, false⟩]) (.seq (.reg [⟨some 7, (Op.assign (Operand.const (Value.int IntKind.i64 0))), none, false⟩]) ac_stylusref33_Index_c2))) (.reg [⟨some 14, (Op.move (Operand.tmp 5)), none, false⟩, ⟨some 15, (Op.binOp BinOp.add 3 (Operand.tmp 14) (Operand.const (Value.int IntKind.i64 1)) 3), none, false⟩, ⟨some 5, (Op.assign (Operand.tmp 15)), none, false⟩]))
noncomputable def ac_stylusref33_Index : AC :=
  (.seq (.reg [⟨some 2, (Op.assign (Operand.const (Value.slice none 0 0))), none, false⟩]) (.seq (.reg [⟨some 3, (Op.assign (Operand.const (Value.slice none 0 0))), none, false⟩]) (.seq (.reg [⟨some 8, (Op.move (Operand.tmp 0)), none, false⟩, ⟨some 9, (Op.call (Call.mk (Callee.value (Operand.func 7)) #[(Operand.tmp 8)] #[22])), none, false⟩, ⟨some 4, (Op.assign (Operand.tmp 9)), none, false⟩]) (.seq (.seq (.reg [⟨some 5, (Op.assign (Operand.const (Value.int IntKind.i64 0))), none, false⟩]) (.block 0 (.loop (.seq (.seq (.reg [⟨some 10, (Op.move (Operand.tmp 5)), none, false⟩, ⟨some 11, (Op.move (Operand.tmp 4)), none, false⟩, ⟨some 12, (Op.call (Call.mk (Callee.builtin Builtin.len) #[(Operand.tmp 11)] #[24])), none, false⟩, ⟨some 13, (Op.binOp BinOp.lss 3 (Operand.tmp 10) (Operand.tmp 12) 3), none, false⟩]) (.cond (Operand.tmp 13) .skip (.exit 0))) ac_stylusref33_Index_c1)))) (.seq (.reg [⟨some 58, (Op.move (Operand.tmp 3)), none, false⟩, ⟨some 2, (Op.assign (Operand.tmp 58)), none, false⟩]) .ret)))))
theorem body_stylusref33_Index : Try.f14.body = some code_stylusref33_Index := by kernel_rfl
theorem slim_stylusref33_Index : slim ann_stylusref33_Index code_stylusref33_Index = some ac_stylusref33_Index := by kernel_rfl
theorem name_stylusref33_Index : (Try.f14.name == "runtime.NumGoroutine") = false := by kernel_rfl
theorem enter_stylusref33_Index {args : List AV} {h : Hp} {Q : AE → Hp → Prop} (H : awp Try.prog tab ac_stylusref33_Index (retQ tab [(ResultVar.tmp 2)] Q) ⟨args ++ List.replicate (59 - args.length) .any, h⟩) : ACalls Try.prog 14 args h Q :=
  acalls_of tab_ok mixed Try.func14 body_stylusref33_Index name_stylusref33_Index slim_stylusref33_Index rfl Try.ntmps14 H
/-- stylus/stylusref33.Index -/
def stylusref33_Index.w (a0_ : List ApiTok) (Q : (List ByteArray) → Prop) : Prop :=
  stylusref33_Words.w a0_ (fun r1 =>
    wloop (σ := (List ByteArray) × Int) (fun ⟨a1, a2⟩ next1 =>
      if a2 < (r1.length : Int) then
        wcut (α := (List ByteArray)) (fun k1 =>
          (0 ≤ a2) ∧
          ∃ v1 : Stylusref33Word, r1[a2.toNat]? = some v1 ∧
          stylusref01_Low.w v1.Text (fun r2 =>
            wcut (α := (List ByteArray) × Int) (fun k2 =>
              wloop (σ := (List ByteArray) × Int) (fun ⟨a6, a7⟩ next2 =>
                if a7 < (a6.length : Int) then
                  (0 ≤ a7) ∧
                  ∃ v2 : ByteArray, a6[a7.toNat]? = some v2 ∧
                  if (Op.bytesLess v2.toList r2.toList) = true then
                    (I64 (a7 + 1)) ∧
                    next2 (a6, a7 + 1)
                  else
                    k2 (a6, a7)
                else
                  k2 (a6, a7)) (a1, 0)) (fun ⟨a4, a5⟩ =>
              wcut (α := (List ByteArray)) (fun k3 =>
                if a5 < (a4.length : Int) then
                  (0 ≤ a5) ∧
                  ∃ v3 : ByteArray, a4[a5.toNat]? = some v3 ∧
                  if v3 = r2 then
                    k1 a4
                  else
                    k3 a4
                else
                  k3 a4) (fun a8 =>
                (0 ≤ a5) ∧
                (0 ≤ a5.toNat ∧ a5.toNat ≤ a8.length) ∧
                (a5.toNat ≤ a8.length ∧ a8.length ≤ a8.length) ∧
                ((([r2] : List ByteArray).length + (a8.drop a5.toNat).length) * 16 ≤ 140737488355328) ∧
                (((a8.take a5.toNat).length + (([r2] : List ByteArray) ++ (a8.drop a5.toNat)).length) * 16 ≤ 140737488355328) ∧
                k1 ((a8.take a5.toNat) ++ (([r2] : List ByteArray) ++ (a8.drop a5.toNat))))))) (fun a3 =>
          (I64 (a2 + 1)) ∧
          next1 (a3, a2 + 1))
      else
        Q a1) (([] : List ByteArray), 0))
theorem stylusref33_Index.ok {a0_ : List ApiTok} {Q : (List ByteArray) → Prop} (hm : stylusref33_Index.w a0_ Q) (h0 : Hp) : ACalls Try.prog n_stylusref33_Index [(.isl 3 (a0_.map ApiTok.enc))] h0 (Back h0 (fun r => (.isl 1 (r.map AM.encStr))) Q) := by
  refine enter_stylusref33_Index ?_
  unfold stylusref33_Index.w at hm
  have H := AM.Own.nil h0
  simp (maxSteps := 4000000) -implicitDefEqProofs (disch := omega) only [push_cast, Nat.reduceAdd, Nat.reduceLeDiff, Nat.reduceMul, Nat.reduceSub, Nat.reduceLT, Nat.reduceEqDiff, Int.reduceAdd, Int.reduceSub, Int.reduceLE, Int.reduceLT, Int.reduceEq, Int.reduceNe, Int.reduceToNat, Int.reduceNeg, reduceIte, reduceCtorEq, ac_stylusref33_Index]
  refine calls_w (fun h => stylusref33_Words.ok hm h) (fun r1 hm => ?_)
  simp (maxSteps := 4000000) -implicitDefEqProofs (disch := omega) only [push_cast, Nat.reduceAdd, Nat.reduceLeDiff, Nat.reduceMul, Nat.reduceSub, Nat.reduceLT, Nat.reduceEqDiff, Int.reduceAdd, Int.reduceSub, Int.reduceLE, Int.reduceLT, Int.reduceEq, Int.reduceNe, Int.reduceToNat, Int.reduceNeg, reduceIte, reduceCtorEq]
  obtain ⟨inv1, mu1, hi1, hs1⟩ := hm
  replace H := H.addNil 1 (some (9, 0))
  replace H := H.perm [0] (by decide)
  refine awp_loop (σ := ((List ByteArray) × Int) × AV × Hp) (fun ⟨⟨a1, a2⟩, x1, h1⟩ => ⟨(((List.replicate 59 AV.any).set 3 x1).set 4 (.isl 2 (r1.map Stylusref33Word.enc))).set 5 (aint a2), h1⟩) (fun ⟨⟨a1, a2⟩, x1, h1⟩ => inv1 (a1, a2) ∧ AM.Own h0 h1 [⟨x1, false, 1, a1.map AM.encStr, some (9, 0)⟩]) (fun ⟨⟨a1, a2⟩, x1, h1⟩ => mu1 (a1, a2)) ⟨(([] : List ByteArray), 0), anil, h0⟩ (Retell.weak (by simp [Weak, push_cast]) (Hp.sub.refl _)) ⟨hi1, H⟩ ?_
  rintro ⟨⟨a1, a2⟩, x1, h1⟩ ⟨hi1, H⟩
  have hm := hs1 _ hi1
  dsimp only at hm H ⊢
  simp (maxSteps := 4000000) -implicitDefEqProofs (disch := omega) only [push_cast, Nat.reduceAdd, Nat.reduceLeDiff, Nat.reduceMul, Nat.reduceSub, Nat.reduceLT, Nat.reduceEqDiff, Int.reduceAdd, Int.reduceSub, Int.reduceLE, Int.reduceLT, Int.reduceEq, Int.reduceNe, Int.reduceToNat, Int.reduceNeg, reduceIte, reduceCtorEq]
  rw [fork_cond]
  refine ⟨fun c1 => ?_, fun c1 => ?_⟩
  · replace hm := ifp hm c1
    simp (maxSteps := 4000000) -implicitDefEqProofs (disch := omega) only [push_cast, Nat.reduceAdd, Nat.reduceLeDiff, Nat.reduceMul, Nat.reduceSub, Nat.reduceLT, Nat.reduceEqDiff, Int.reduceAdd, Int.reduceSub, Int.reduceLE, Int.reduceLT, Int.reduceEq, Int.reduceNe, Int.reduceToNat, Int.reduceNeg, reduceIte, reduceCtorEq, eq_true c1]
    obtain ⟨k1, hm, hk1⟩ := wcut_elim hm
    refine awp_cut (fun s' => ∃ (a3 : List ByteArray) (x2 : AV) (h2 : Hp), Like s'.tm ((((List.replicate 59 none).set 3 (some x2)).set 4 (some (.isl 2 (r1.map Stylusref33Word.enc)))).set 5 (some (aint a2))) ∧ s'.h = h2 ∧ AM.Own h0 h2 [⟨x2, false, 1, a3.map AM.encStr, some (9, 0)⟩] ∧ k1 a3) ?_ ?_
    · obtain ⟨z1, hm⟩ := hm
      obtain ⟨v1, i1, hm⟩ := hm
      simp (maxSteps := 4000000) -implicitDefEqProofs (disch := omega) only [push_cast, Nat.reduceAdd, Nat.reduceLeDiff, Nat.reduceMul, Nat.reduceSub, Nat.reduceLT, Nat.reduceEqDiff, Int.reduceAdd, Int.reduceSub, Int.reduceLE, Int.reduceLT, Int.reduceEq, Int.reduceNe, Int.reduceToNat, Int.reduceNeg, reduceIte, reduceCtorEq, eq_true c1, eq_true z1, i1]
      refine calls_w (fun h => stylusref01_Low.ok hm h) (fun r2 hm => ?_)
      simp (maxSteps := 4000000) -implicitDefEqProofs (disch := omega) only [push_cast, Nat.reduceAdd, Nat.reduceLeDiff, Nat.reduceMul, Nat.reduceSub, Nat.reduceLT, Nat.reduceEqDiff, Int.reduceAdd, Int.reduceSub, Int.reduceLE, Int.reduceLT, Int.reduceEq, Int.reduceNe, Int.reduceToNat, Int.reduceNeg, reduceIte, reduceCtorEq, eq_true c1, eq_true z1, i1]
      obtain ⟨k2, hm, hk2⟩ := wcut_elim hm
      refine awp_cut (fun s' => ∃ (a4 : List ByteArray) (a5 : Int) (x3 : AV) (h3 : Hp), Like s'.tm ((((((List.replicate 59 none).set 3 (some x3)).set 4 (some (.isl 2 (r1.map Stylusref33Word.enc)))).set 5 (some (aint a2))).set 6 (some (astr r2))).set 7 (some (aint a5))) ∧ s'.h = h3 ∧ AM.Own h0 h3 [⟨x3, false, 1, a4.map AM.encStr, some (9, 0)⟩] ∧ k2 (a4, a5)) ?_ ?_
      · simp (maxSteps := 4000000) -implicitDefEqProofs (disch := omega) only [push_cast, Nat.reduceAdd, Nat.reduceLeDiff, Nat.reduceMul, Nat.reduceSub, Nat.reduceLT, Nat.reduceEqDiff, Int.reduceAdd, Int.reduceSub, Int.reduceLE, Int.reduceLT, Int.reduceEq, Int.reduceNe, Int.reduceToNat, Int.reduceNeg, reduceIte, reduceCtorEq, eq_true c1, eq_true z1, i1]
        obtain ⟨inv2, mu2, hi2, hs2⟩ := hm
        replace H := H.perm [0] (by decide)
        refine awp_loop (σ := ((List ByteArray) × Int) × AV × Hp) (fun ⟨⟨a6, a7⟩, x4, h4⟩ => ⟨(((((List.replicate 59 AV.any).set 3 x4).set 4 (.isl 2 (r1.map Stylusref33Word.enc))).set 5 (aint a2)).set 6 (astr r2)).set 7 (aint a7), h4⟩) (fun ⟨⟨a6, a7⟩, x4, h4⟩ => inv2 (a6, a7) ∧ AM.Own h0 h4 [⟨x4, false, 1, a6.map AM.encStr, some (9, 0)⟩]) (fun ⟨⟨a6, a7⟩, x4, h4⟩ => mu2 (a6, a7)) ⟨(a1, 0), x1, h1⟩ (Retell.weak (by simp [Weak, push_cast]) (Hp.sub.refl _)) ⟨hi2, H⟩ ?_
        rintro ⟨⟨a6, a7⟩, x4, h4⟩ ⟨hi2, H⟩
        have hm := hs2 _ hi2
        dsimp only at hm H ⊢
        simp (maxSteps := 4000000) -implicitDefEqProofs (disch := omega) only [push_cast, Nat.reduceAdd, Nat.reduceLeDiff, Nat.reduceMul, Nat.reduceSub, Nat.reduceLT, Nat.reduceEqDiff, Int.reduceAdd, Int.reduceSub, Int.reduceLE, Int.reduceLT, Int.reduceEq, Int.reduceNe, Int.reduceToNat, Int.reduceNeg, reduceIte, reduceCtorEq, eq_true c1, eq_true z1, i1, H.lenE 0 rfl tab_35]
        rw [gfork_cond]
        refine ⟨fun c2 => ?_, fun c2 => ?_⟩
        · replace hm := ifp hm c2
          simp (maxSteps := 4000000) -implicitDefEqProofs (disch := omega) only [push_cast, Nat.reduceAdd, Nat.reduceLeDiff, Nat.reduceMul, Nat.reduceSub, Nat.reduceLT, Nat.reduceEqDiff, Int.reduceAdd, Int.reduceSub, Int.reduceLE, Int.reduceLT, Int.reduceEq, Int.reduceNe, Int.reduceToNat, Int.reduceNeg, reduceIte, reduceCtorEq, eq_true c1, eq_true z1, i1, eq_true c2]
          obtain ⟨z2, hm⟩ := hm
          obtain ⟨v2, i2, hm⟩ := hm
          obtain ⟨b1, o1, rfl, qb, qc, qd, qe⟩ := H.row (k := a7.toNat) (r := AM.encStr v2) 0 rfl (by rw [List.getElem?_map, i2]; rfl)
          rw [List.length_map] at qe
          have q1 := qb
          have q2 := qc
          have q3 := qd
          have q4 := eq_true qe
          simp (maxSteps := 4000000) -implicitDefEqProofs (disch := omega) only [push_cast, Nat.reduceAdd, Nat.reduceLeDiff, Nat.reduceMul, Nat.reduceSub, Nat.reduceLT, Nat.reduceEqDiff, Int.reduceAdd, Int.reduceSub, Int.reduceLE, Int.reduceLT, Int.reduceEq, Int.reduceNe, Int.reduceToNat, Int.reduceNeg, reduceIte, reduceCtorEq, eq_true c1, eq_true z1, i1, eq_true c2, eq_true z2, q1, q2, q3, q4]
          rw [fork_bool]
          refine ⟨fun c3 => ?_, fun c3 => ?_⟩
          · replace hm := ifp hm c3
            obtain ⟨w1, hm⟩ := hm
            simp (maxSteps := 4000000) -implicitDefEqProofs (disch := omega) only [push_cast, Nat.reduceAdd, Nat.reduceLeDiff, Nat.reduceMul, Nat.reduceSub, Nat.reduceLT, Nat.reduceEqDiff, Int.reduceAdd, Int.reduceSub, Int.reduceLE, Int.reduceLT, Int.reduceEq, Int.reduceNe, Int.reduceToNat, Int.reduceNeg, reduceIte, reduceCtorEq, eq_true c1, eq_true z1, i1, eq_true c2, eq_true z2, q1, q2, q3, q4, c3, wrap_i64 _ w1]
            replace H := H.perm [0] (by decide)
            exact ⟨⟨(a6, a7 + 1), (.osl b1 1 0 (a6.map AM.encStr).length), h4⟩, hm.2, ⟨hm.1, H⟩, Retell.weak (by simp [Weak, push_cast]) (Hp.sub.refl _)⟩
          · replace hm := ifn hm (by rw [c3]; exact Bool.false_ne_true)
            simp (maxSteps := 4000000) -implicitDefEqProofs (disch := omega) only [push_cast, Nat.reduceAdd, Nat.reduceLeDiff, Nat.reduceMul, Nat.reduceSub, Nat.reduceLT, Nat.reduceEqDiff, Int.reduceAdd, Int.reduceSub, Int.reduceLE, Int.reduceLT, Int.reduceEq, Int.reduceNe, Int.reduceToNat, Int.reduceNeg, reduceIte, reduceCtorEq, eq_true c1, eq_true z1, i1, eq_true c2, eq_true z2, q1, q2, q3, q4, c3]
            replace H := H.perm [0] (by decide)
            exact ⟨a6, a7, (.osl b1 1 0 (a6.map AM.encStr).length), h4, by simp [Like, push_cast], rfl, H, hm⟩
        · replace hm := ifn hm c2
          simp (maxSteps := 4000000) -implicitDefEqProofs (disch := omega) only [push_cast, Nat.reduceAdd, Nat.reduceLeDiff, Nat.reduceMul, Nat.reduceSub, Nat.reduceLT, Nat.reduceEqDiff, Int.reduceAdd, Int.reduceSub, Int.reduceLE, Int.reduceLT, Int.reduceEq, Int.reduceNe, Int.reduceToNat, Int.reduceNeg, reduceIte, reduceCtorEq, eq_true c1, eq_true z1, i1, eq_false c2]
          replace H := H.perm [0] (by decide)
          exact ⟨a6, a7, x4, h4, by simp [Like, push_cast], rfl, H, hm⟩
      · rintro ⟨tm, h3⟩ ⟨a4, a5, x3, _, hL, rfl, H, hm⟩
        dsimp only at hL H
        obtain ⟨D, rfl⟩ := hL.fill 0
        replace hm := hk2 _ hm
        simp (maxSteps := 4000000) -implicitDefEqProofs (disch := omega) only [push_cast, Nat.reduceAdd, Nat.reduceLeDiff, Nat.reduceMul, Nat.reduceSub, Nat.reduceLT, Nat.reduceEqDiff, Int.reduceAdd, Int.reduceSub, Int.reduceLE, Int.reduceLT, Int.reduceEq, Int.reduceNe, Int.reduceToNat, Int.reduceNeg, reduceIte, reduceCtorEq, eq_true c1, eq_true z1, i1]
        obtain ⟨k3, hm, hk3⟩ := wcut_elim hm
        refine awp_cut (fun s' => ∃ (a8 : List ByteArray) (x5 : AV) (h5 : Hp), Like s'.tm ((((((List.replicate 59 none).set 3 (some x5)).set 4 (some (.isl 2 (r1.map Stylusref33Word.enc)))).set 5 (some (aint a2))).set 6 (some (astr r2))).set 7 (some (aint a5))) ∧ s'.h = h5 ∧ AM.Own h0 h5 [⟨x5, false, 1, a8.map AM.encStr, some (9, 0)⟩] ∧ k3 a8) ?_ ?_
        · simp (maxSteps := 4000000) -implicitDefEqProofs (disch := omega) only [push_cast, Nat.reduceAdd, Nat.reduceLeDiff, Nat.reduceMul, Nat.reduceSub, Nat.reduceLT, Nat.reduceEqDiff, Int.reduceAdd, Int.reduceSub, Int.reduceLE, Int.reduceLT, Int.reduceEq, Int.reduceNe, Int.reduceToNat, Int.reduceNeg, reduceIte, reduceCtorEq, eq_true c1, eq_true z1, i1, H.lenE 0 rfl tab_35]
          rw [gfork_cond]
          refine ⟨fun c4 => ?_, fun c4 => ?_⟩
          · replace hm := ifp hm c4
            simp (maxSteps := 4000000) -implicitDefEqProofs (disch := omega) only [push_cast, Nat.reduceAdd, Nat.reduceLeDiff, Nat.reduceMul, Nat.reduceSub, Nat.reduceLT, Nat.reduceEqDiff, Int.reduceAdd, Int.reduceSub, Int.reduceLE, Int.reduceLT, Int.reduceEq, Int.reduceNe, Int.reduceToNat, Int.reduceNeg, reduceIte, reduceCtorEq, eq_true c1, eq_true z1, i1, eq_true c4]
            obtain ⟨z3, hm⟩ := hm
            obtain ⟨v3, i3, hm⟩ := hm
            obtain ⟨b2, o2, rfl, qb, qc, qd, qe⟩ := H.row (k := a5.toNat) (r := AM.encStr v3) 0 rfl (by rw [List.getElem?_map, i3]; rfl)
            rw [List.length_map] at qe
            have q5 := qb
            have q6 := qc
            have q7 := qd
            have q8 := eq_true qe
            simp (maxSteps := 4000000) -implicitDefEqProofs (disch := omega) only [push_cast, Nat.reduceAdd, Nat.reduceLeDiff, Nat.reduceMul, Nat.reduceSub, Nat.reduceLT, Nat.reduceEqDiff, Int.reduceAdd, Int.reduceSub, Int.reduceLE, Int.reduceLT, Int.reduceEq, Int.reduceNe, Int.reduceToNat, Int.reduceNeg, reduceIte, reduceCtorEq, eq_true c1, eq_true z1, i1, eq_true c4, eq_true z3, q5, q6, q7, q8]
            rw [fork_cond]
            refine ⟨fun c5 => ?_, fun c5 => ?_⟩
            · replace hm := ifp hm c5
              simp (maxSteps := 4000000) -implicitDefEqProofs (disch := omega) only [push_cast, Nat.reduceAdd, Nat.reduceLeDiff, Nat.reduceMul, Nat.reduceSub, Nat.reduceLT, Nat.reduceEqDiff, Int.reduceAdd, Int.reduceSub, Int.reduceLE, Int.reduceLT, Int.reduceEq, Int.reduceNe, Int.reduceToNat, Int.reduceNeg, reduceIte, reduceCtorEq, eq_true c1, eq_true z1, i1, eq_true c4, eq_true z3, q5, q6, q7, q8, eq_true c5]
              replace H := H.perm [0] (by decide)
              exact ⟨a4, (.osl b2 1 0 (a4.map AM.encStr).length), h3, by simp [Like, push_cast], rfl, H, hm⟩
            · replace hm := ifn hm c5
              simp (maxSteps := 4000000) -implicitDefEqProofs (disch := omega) only [push_cast, Nat.reduceAdd, Nat.reduceLeDiff, Nat.reduceMul, Nat.reduceSub, Nat.reduceLT, Nat.reduceEqDiff, Int.reduceAdd, Int.reduceSub, Int.reduceLE, Int.reduceLT, Int.reduceEq, Int.reduceNe, Int.reduceToNat, Int.reduceNeg, reduceIte, reduceCtorEq, eq_true c1, eq_true z1, i1, eq_true c4, eq_true z3, q5, q6, q7, q8, eq_false c5]
              replace H := H.perm [0] (by decide)
              exact ⟨a4, (.osl b2 1 0 (a4.map AM.encStr).length), h3, by simp [Like, push_cast], rfl, H, hm⟩
          · replace hm := ifn hm c4
            simp (maxSteps := 4000000) -implicitDefEqProofs (disch := omega) only [push_cast, Nat.reduceAdd, Nat.reduceLeDiff, Nat.reduceMul, Nat.reduceSub, Nat.reduceLT, Nat.reduceEqDiff, Int.reduceAdd, Int.reduceSub, Int.reduceLE, Int.reduceLT, Int.reduceEq, Int.reduceNe, Int.reduceToNat, Int.reduceNeg, reduceIte, reduceCtorEq, eq_true c1, eq_true z1, i1, eq_false c4]
            replace H := H.perm [0] (by decide)
            exact ⟨a4, x3, h3, by simp [Like, push_cast], rfl, H, hm⟩
        · rintro ⟨tm, h5⟩ ⟨a8, x5, _, hL, rfl, H, hm⟩
          dsimp only at hL H
          obtain ⟨D, rfl⟩ := hL.fill 0
          replace hm := hk3 _ hm
          obtain ⟨z4, hm⟩ := hm
          obtain ⟨w2, hm⟩ := hm
          simp (maxSteps := 4000000) -implicitDefEqProofs (disch := omega) only [push_cast, Nat.reduceAdd, Nat.reduceLeDiff, Nat.reduceMul, Nat.reduceSub, Nat.reduceLT, Nat.reduceEqDiff, Int.reduceAdd, Int.reduceSub, Int.reduceLE, Int.reduceLT, Int.reduceEq, Int.reduceNe, Int.reduceToNat, Int.reduceNeg, reduceIte, reduceCtorEq, eq_true c1, eq_true z1, i1, eq_true z4]
          refine H.slc 0 rfl tab_35 tab_9 rfl rfl (by simp only [abound, push_cast, eq_true c1, eq_true z1, i1, eq_true z4]) w2.1 (by rw [List.length_map]; exact w2.2) (fun y1 vw1 => ?_)
          obtain ⟨w3, hm⟩ := hm
          simp (maxSteps := 4000000) -implicitDefEqProofs (disch := omega) only [push_cast, Nat.reduceAdd, Nat.reduceLeDiff, Nat.reduceMul, Nat.reduceSub, Nat.reduceLT, Nat.reduceEqDiff, Int.reduceAdd, Int.reduceSub, Int.reduceLE, Int.reduceLT, Int.reduceEq, Int.reduceNe, Int.reduceToNat, Int.reduceNeg, reduceIte, reduceCtorEq, eq_true c1, eq_true z1, i1, eq_true z4]
          refine H.slc 0 rfl tab_35 tab_9 rfl (by simp only [abound, push_cast, eq_true c1, eq_true z1, i1, eq_true z4]) (by simp [abound, List.length_map]) w3.1 (by rw [List.length_map]; exact w3.2) (fun y2 vw2 => ?_)
          simp (maxSteps := 4000000) -implicitDefEqProofs (disch := omega) only [push_cast, Nat.reduceAdd, Nat.reduceLeDiff, Nat.reduceMul, Nat.reduceSub, Nat.reduceLT, Nat.reduceEqDiff, Int.reduceAdd, Int.reduceSub, Int.reduceLE, Int.reduceLT, Int.reduceEq, Int.reduceNe, Int.reduceToNat, Int.reduceNeg, reduceIte, reduceCtorEq, eq_true c1, eq_true z1, i1, eq_true z4]
          refine H.newL (E := AM.encStr) ([r2] : List ByteArray) rfl rfl (fun b3 h6 H => ?_)
          simp (maxSteps := 4000000) -implicitDefEqProofs (disch := omega) only [push_cast, Nat.reduceAdd, Nat.reduceLeDiff, Nat.reduceMul, Nat.reduceSub, Nat.reduceLT, Nat.reduceEqDiff, Int.reduceAdd, Int.reduceSub, Int.reduceLE, Int.reduceLT, Int.reduceEq, Int.reduceNe, Int.reduceToNat, Int.reduceNeg, reduceIte, reduceCtorEq, eq_true c1, eq_true z1, i1, eq_true z4, H.srcV (e := 9) 0 rfl vw2]
          obtain ⟨w4, hm⟩ := hm
          refine H.appL (E := AM.encStr) 1 (a8.drop a5.toNat) rfl (by first | rfl | simp only [List.map_drop, List.map_take]) rfl (by decide) (by decide) w4 (fun x6 h7 H => ?_)
          simp (maxSteps := 4000000) -implicitDefEqProofs (disch := omega) only [push_cast, Nat.reduceAdd, Nat.reduceLeDiff, Nat.reduceMul, Nat.reduceSub, Nat.reduceLT, Nat.reduceEqDiff, Int.reduceAdd, Int.reduceSub, Int.reduceLE, Int.reduceLT, Int.reduceEq, Int.reduceNe, Int.reduceToNat, Int.reduceNeg, reduceIte, reduceCtorEq, eq_true c1, eq_true z1, i1, eq_true z4, H.src (e := 9) 1 rfl]
          replace H := H.trimV 0 rfl vw1
          rw [← List.map_take] at H
          obtain ⟨w5, hm⟩ := hm
          refine H.appL (E := AM.encStr) 0 (([r2] : List ByteArray) ++ (a8.drop a5.toNat)) rfl rfl rfl (by decide) (by decide) w5 (fun x7 h8 H => ?_)
          simp (maxSteps := 4000000) -implicitDefEqProofs (disch := omega) only [push_cast, Nat.reduceAdd, Nat.reduceLeDiff, Nat.reduceMul, Nat.reduceSub, Nat.reduceLT, Nat.reduceEqDiff, Int.reduceAdd, Int.reduceSub, Int.reduceLE, Int.reduceLT, Int.reduceEq, Int.reduceNe, Int.reduceToNat, Int.reduceNeg, reduceIte, reduceCtorEq, eq_true c1, eq_true z1, i1, eq_true z4]
          replace H := H.perm [0] (by decide)
          exact ⟨(a8.take a5.toNat) ++ (([r2] : List ByteArray) ++ (a8.drop a5.toNat)), x7, h8, by simp [Like, push_cast], rfl, H, hm⟩
    · rintro ⟨tm, h2⟩ ⟨a3, x2, _, hL, rfl, H, hm⟩
      dsimp only at hL H
      obtain ⟨D, rfl⟩ := hL.fill 0
      replace hm := hk1 _ hm
      obtain ⟨w6, hm⟩ := hm
      simp (maxSteps := 4000000) -implicitDefEqProofs (disch := omega) only [push_cast, Nat.reduceAdd, Nat.reduceLeDiff, Nat.reduceMul, Nat.reduceSub, Nat.reduceLT, Nat.reduceEqDiff, Int.reduceAdd, Int.reduceSub, Int.reduceLE, Int.reduceLT, Int.reduceEq, Int.reduceNe, Int.reduceToNat, Int.reduceNeg, reduceIte, reduceCtorEq, eq_true c1, wrap_i64 _ w6]
      replace H := H.perm [0] (by decide)
      exact ⟨⟨(a3, a2 + 1), x2, h2⟩, hm.2, ⟨hm.1, H⟩, Retell.weak (by simp [Weak, push_cast]) (Hp.sub.refl _)⟩
  · replace hm := ifn hm c1
    simp (maxSteps := 4000000) -implicitDefEqProofs (disch := omega) only [push_cast, Nat.reduceAdd, Nat.reduceLeDiff, Nat.reduceMul, Nat.reduceSub, Nat.reduceLT, Nat.reduceEqDiff, Int.reduceAdd, Int.reduceSub, Int.reduceLE, Int.reduceLT, Int.reduceEq, Int.reduceNe, Int.reduceToNat, Int.reduceNeg, reduceIte, reduceCtorEq, eq_false c1]
    obtain ⟨h9, s1, H⟩ := H.freeze 0 rfl
    exact retQ_back (.inl rfl) a1 _ rfl s1 H.sub hm
end Go.Proofs.Ytnenodamppageaa
