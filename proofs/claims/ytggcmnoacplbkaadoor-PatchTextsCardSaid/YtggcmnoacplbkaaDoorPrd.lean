/- patch.Read: what it defers recovers what the reader gives up by; walked by hand over the printed walk of the reader. -/
import Derived.Test.YtggcmnoacplbkaaDoorWA4
import Derived.Test.YtggcmnoacplbkaaDoorDef
namespace Go.Proofs.YtggcmnoacplbkaaDoor
open Go Go.Proofs.YtggcmnoacplbkaaDoor.AM
set_option maxRecDepth 100000
set_option linter.unusedSimpArgs false
set_option linter.unusedVariables false
set_option maxHeartbeats 4000000
/-! stylus/patch.Read -/
abbrev n_patch_Read : Nat := 7
noncomputable def code_patch_Read : Code := match Tryd.f7.body with | some c => c | none => .skip
theorem name_patch_Read : (Tryd.f7.name == "runtime.NumGoroutine") = false := by kernel_rfl
def ann_patch_Read : Nat → Ann
  | _ => {}
noncomputable def cA_patch_Read : Code := match code_patch_Read with | .seq a _ => a | _ => .skip
noncomputable def cB_patch_Read : Code := match code_patch_Read with | .seq _ (.seq _ b) => b | _ => .skip
noncomputable def ops_patch_Read : Array Oper := match code_patch_Read with | .seq _ (.seq (.region _ o _) _) => o | _ => #[]
noncomputable def o0_patch_Read : Oper := ops_patch_Read.getD 0 default
noncomputable def o1_patch_Read : Oper := ops_patch_Read.getD 1 default
noncomputable def acA_patch_Read : AC :=
  (.reg [⟨some 2, (Op.alloc 24), none, false⟩, ⟨some 3, (Op.alloc 3), none, false⟩, ⟨some 4, (Op.alloc 27), none, false⟩])
noncomputable def acB_patch_Read : AC :=
  (.seq (.reg [⟨some 7, (Op.move (Operand.tmp 0)), none, false⟩, ⟨some 8, (Op.build 58 #[(0, (Operand.tmp 7))]), none, false⟩, ⟨some 9, (Op.box 58 (Operand.tmp 8)), none, false⟩, ⟨some 5, (Op.assign (Operand.tmp 9)), none, false⟩]) (.seq (.reg [⟨some 10, (Op.move (Operand.tmp 5)), none, false⟩, ⟨some 11, (Op.call (Call.mk (Callee.value (Operand.func 18)) #[(Operand.tmp 10)] #[56])), none, false⟩, ⟨none, (Op.store 24 (Operand.tmp 2) (Operand.tmp 11)), none, false⟩, ⟨none, (Op.store 3 (Operand.tmp 3) (Operand.const (Value.int IntKind.i64 0))), none, false⟩, ⟨none, (Op.store 27 (Operand.tmp 4) (Operand.const (Value.int IntKind.i64 0))), none, false⟩]) .ret))
theorem body_patch_Read : Tryd.f7.body = some (.seq cA_patch_Read (.seq (.region 1 #[o0_patch_Read, o1_patch_Read] false) cB_patch_Read)) := by kernel_rfl
theorem slimA_patch_Read : slim ann_patch_Read cA_patch_Read = some acA_patch_Read := by kernel_rfl
theorem slimB_patch_Read : slim ann_patch_Read cB_patch_Read = some acB_patch_Read := by kernel_rfl
theorem enter_patch_Read {args : List AV} {h : Hp} {Q : AE → Hp → Prop} (H : awp Tryd.prog tab acA_patch_Read (defA Tryd.prog tab [(ResultVar.cell 2 24), (ResultVar.cell 3 3), (ResultVar.cell 4 27)] 17 [(Operand.tmp 2), (Operand.tmp 3), (Operand.tmp 4)] 6 acB_patch_Read Q) ⟨args ++ List.replicate (12 - args.length) .any, h⟩) : ACalls Tryd.prog 7 args h Q :=
  acalls_def tab_ok mixed Tryd.func7 name_patch_Read body_patch_Read (capo := #[(Operand.tmp 2), (Operand.tmp 3), (Operand.tmp 4)]) ⟨by kernel_rfl, by kernel_rfl, by kernel_rfl⟩ ⟨by kernel_rfl, by kernel_rfl, by kernel_rfl⟩ slimA_patch_Read (by kernel_rfl) slimB_patch_Read rfl Tryd.ntmps7 ⟨_, Tryd.func17, by kernel_rfl, by kernel_rfl⟩ H
/-! stylus/patch.Read$1 -/
abbrev n_patch_Read_1 : Nat := 17
noncomputable def code_patch_Read_1 : Code := match Tryd.f17.body with | some c => c | none => .skip
theorem name_patch_Read_1 : (Tryd.f17.name == "runtime.NumGoroutine") = false := by kernel_rfl
def ann_patch_Read_1 : Nat → Ann
  | 3 => { pure := [], plan := (.op 0 (.op 1 (.both (.op 2 (.op 3 (.op 4 (.op 5 .done)))) (.op 3 (.op 2 (.op 4 (.op 5 .done))))))), ghost := false, post := false }
  | _ => {}
noncomputable def cR_patch_Read_1 : Code := match code_patch_Read_1 with | .seq _ b => b | _ => .skip
noncomputable def ops_patch_Read_1 : Array Oper := match code_patch_Read_1 with | .seq (.region _ o _) _ => o | _ => #[]
noncomputable def o0_patch_Read_1 : Oper := ops_patch_Read_1.getD 0 default
noncomputable def o1_patch_Read_1 : Oper := ops_patch_Read_1.getD 1 default
noncomputable def acR_patch_Read_1 : AC :=
  (.seq (.reg [⟨some 8, (Op.move (Operand.tmp 3)), none, false⟩, ⟨some 9, (Op.typeAssert (Operand.tmp 8) 20 54 true), none, false⟩, ⟨some 7, (Op.move (Operand.tmp 9)), none, false⟩, ⟨some 10, (Op.extract (Operand.tmp 7) 0), none, false⟩, ⟨some 11, (Op.extract (Operand.tmp 7) 1), none, false⟩, ⟨some 4, (Op.alloc 54), none, false⟩, ⟨none, (Op.store 54 (Operand.tmp 4) (Operand.tmp 10)), none, false⟩, ⟨some 5, (Op.assign (Operand.tmp 11)), none, false⟩]) (.seq (.reg [⟨some 12, (Op.move (Operand.tmp 5)), none, false⟩]) (.cond (Operand.tmp 12) (.draw [⟨some 13, (Op.build 24 #[]), none, false⟩, ⟨some 14, (Op.fieldAddr 54 (Operand.tmp 4) 0), none, false⟩, ⟨some 15, (Op.load 3 (Operand.tmp 14)), none, false⟩, ⟨none, (Op.store 24 (Operand.tmp 0) (Operand.tmp 13)), none, false⟩, ⟨none, (Op.store 3 (Operand.tmp 1) (Operand.tmp 15)), none, false⟩, ⟨none, (Op.store 27 (Operand.tmp 2) (Operand.const (Value.int IntKind.i64 2))), none, false⟩] (.op 0 (.op 1 (.both (.op 2 (.op 3 (.op 4 (.op 5 .done)))) (.op 3 (.op 2 (.op 4 (.op 5 .done)))))))) (.seq (.reg [⟨some 16, (Op.move (Operand.tmp 3)), none, false⟩, ⟨some 17, (Op.binOp BinOp.neq 20 (Operand.tmp 16) (Operand.const Value.nilIface) 20), none, false⟩]) (.cond (Operand.tmp 17) (.reg [⟨some 18, (Op.move (Operand.tmp 3)), none, false⟩, ⟨none, (Op.panic (Operand.tmp 18)), none, false⟩]) .skip)))))
theorem body_patch_Read_1 : Tryd.f17.body = some (.seq (.region 0 #[o0_patch_Read_1, o1_patch_Read_1] false) cR_patch_Read_1) := by kernel_rfl
theorem slimR_patch_Read_1 : slim ann_patch_Read_1 cR_patch_Read_1 = some acR_patch_Read_1 := by kernel_rfl
theorem enter_patch_Read_1 {caps : List AV} {h : Hp} {x : AV} {Q : Hp → Prop} (H : awp Tryd.prog tab acR_patch_Read_1 (defQ tab [] Q) ⟨put (put (caps ++ List.replicate (19 - caps.length) .any) (some 6) x) (some 3) x, h⟩) : ADef Tryd.prog 17 caps h x Q :=
  adef_of tab_ok mixed Tryd.func17 name_patch_Read_1 body_patch_Read_1 ⟨by kernel_rfl, by kernel_rfl, by kernel_rfl⟩ ⟨by kernel_rfl, by kernel_rfl, by kernel_rfl⟩ slimR_patch_Read_1 (by kernel_rfl) rfl Tryd.ntmps17 (by decide) H

/-- what a reader gives up with -/
def wrongAV (n : Int) : AV := .ifc 54 (.agg [aint n])
theorem read_recovers {h0 h : Hp} {b1 b2 b3 : Nat} {x0 x1 y z : AV} (H : AM.Own h0 h [⟨.optr b1 2 0 0, true, 2, [[x0, x1]], some (24, 2)⟩, ⟨.optr b2 1 0 0, true, 1, [[y]], some (3, 1)⟩, ⟨.optr b3 1 0 0, true, 1, [[z]], some (27, 1)⟩]) (n : Int) :
    ADef Tryd.prog 17 [.optr b1 2 0 0, .optr b2 1 0 0, .optr b3 1 0 0] h (wrongAV n) (fun h' => AM.Own h0 h' [⟨.optr b1 2 0 0, true, 2, [[aint 0, anil]], some (24, 2)⟩, ⟨.optr b2 1 0 0, true, 1, [[aint n]], some (3, 1)⟩, ⟨.optr b3 1 0 0, true, 1, [[aint 2]], some (27, 1)⟩]) := by
  refine enter_patch_Read_1 ?_
  unfold wrongAV
  have e0 := H.getP 0 rfl
  have e1 := H.getP 1 rfl
  have e2 := H.getP 2 rfl
  simp -implicitDefEqProofs (disch := omega) only [push_cast, Nat.reduceAdd, Nat.reduceLeDiff, Nat.reduceMul, Nat.reduceSub, Nat.reduceLT, Nat.reduceEqDiff, Int.reduceAdd, Int.reduceSub, Int.reduceLE, Int.reduceLT, Int.reduceEq, Int.reduceNe, Int.reduceToNat, Int.reduceNeg, reduceIte, reduceCtorEq, acR_patch_Read_1, e0, e1, e2]
  refine H.newR [aint 0] rfl (fun b h1 H => ?_)
  have e0 := H.getP 0 rfl
  have e1 := H.getP 1 rfl
  have e2 := H.getP 2 rfl
  have e3 := H.getP 3 rfl
  simp -implicitDefEqProofs (disch := omega) only [push_cast, Nat.reduceAdd, Nat.reduceLeDiff, Nat.reduceMul, Nat.reduceSub, Nat.reduceLT, Nat.reduceEqDiff, Int.reduceAdd, Int.reduceSub, Int.reduceLE, Int.reduceLT, Int.reduceEq, Int.reduceNe, Int.reduceToNat, Int.reduceNeg, reduceIte, reduceCtorEq, e0, e1, e2, e3]
  refine H.stP 3 [aint n] rfl rfl rfl rfl (Nat.le_of_ble_eq_true rfl) rfl (fun h2 H => ?_)
  have e0 := H.getP 0 rfl
  have e1 := H.getP 1 rfl
  have e2 := H.getP 2 rfl
  have e3 := H.getP 3 rfl
  simp -implicitDefEqProofs (disch := omega) only [push_cast, Nat.reduceAdd, Nat.reduceLeDiff, Nat.reduceMul, Nat.reduceSub, Nat.reduceLT, Nat.reduceEqDiff, Int.reduceAdd, Int.reduceSub, Int.reduceLE, Int.reduceLT, Int.reduceEq, Int.reduceNe, Int.reduceToNat, Int.reduceNeg, reduceIte, reduceCtorEq, e0, e1, e2, e3]
  refine ⟨?_, ?_⟩
  · refine H.stP 0 [aint 0, anil] rfl rfl rfl rfl (Nat.le_of_ble_eq_true rfl) rfl (fun h3 H => ?_)
    have e0 := H.getP 0 rfl
    have e1 := H.getP 1 rfl
    have e2 := H.getP 2 rfl
    have e3 := H.getP 3 rfl
    simp -implicitDefEqProofs (disch := omega) only [push_cast, Nat.reduceAdd, Nat.reduceLeDiff, Nat.reduceMul, Nat.reduceSub, Nat.reduceLT, Nat.reduceEqDiff, Int.reduceAdd, Int.reduceSub, Int.reduceLE, Int.reduceLT, Int.reduceEq, Int.reduceNe, Int.reduceToNat, Int.reduceNeg, reduceIte, reduceCtorEq, e0, e1, e2, e3]
    refine H.stP 1 [aint n] rfl rfl rfl rfl (Nat.le_of_ble_eq_true rfl) rfl (fun h4 H => ?_)
    have e0 := H.getP 0 rfl
    have e1 := H.getP 1 rfl
    have e2 := H.getP 2 rfl
    have e3 := H.getP 3 rfl
    simp -implicitDefEqProofs (disch := omega) only [push_cast, Nat.reduceAdd, Nat.reduceLeDiff, Nat.reduceMul, Nat.reduceSub, Nat.reduceLT, Nat.reduceEqDiff, Int.reduceAdd, Int.reduceSub, Int.reduceLE, Int.reduceLT, Int.reduceEq, Int.reduceNe, Int.reduceToNat, Int.reduceNeg, reduceIte, reduceCtorEq, e0, e1, e2, e3]
    refine H.stP 2 [aint 2] rfl rfl rfl rfl (Nat.le_of_ble_eq_true rfl) rfl (fun h5 H => ?_)
    have e0 := H.getP 0 rfl
    have e1 := H.getP 1 rfl
    have e2 := H.getP 2 rfl
    have e3 := H.getP 3 rfl
    simp -implicitDefEqProofs (disch := omega) only [push_cast, Nat.reduceAdd, Nat.reduceLeDiff, Nat.reduceMul, Nat.reduceSub, Nat.reduceLT, Nat.reduceEqDiff, Int.reduceAdd, Int.reduceSub, Int.reduceLE, Int.reduceLT, Int.reduceEq, Int.reduceNe, Int.reduceToNat, Int.reduceNeg, reduceIte, reduceCtorEq, e0, e1, e2, e3]
    exact ⟨⟨_, rfl⟩, H.perm [0, 1, 2] (by decide)⟩
  · refine H.stP 0 [aint 0, anil] rfl rfl rfl rfl (Nat.le_of_ble_eq_true rfl) rfl (fun h3 H => ?_)
    have e0 := H.getP 0 rfl
    have e1 := H.getP 1 rfl
    have e2 := H.getP 2 rfl
    have e3 := H.getP 3 rfl
    simp -implicitDefEqProofs (disch := omega) only [push_cast, Nat.reduceAdd, Nat.reduceLeDiff, Nat.reduceMul, Nat.reduceSub, Nat.reduceLT, Nat.reduceEqDiff, Int.reduceAdd, Int.reduceSub, Int.reduceLE, Int.reduceLT, Int.reduceEq, Int.reduceNe, Int.reduceToNat, Int.reduceNeg, reduceIte, reduceCtorEq, e0, e1, e2, e3]
    refine H.stP 1 [aint n] rfl rfl rfl rfl (Nat.le_of_ble_eq_true rfl) rfl (fun h4 H => ?_)
    have e0 := H.getP 0 rfl
    have e1 := H.getP 1 rfl
    have e2 := H.getP 2 rfl
    have e3 := H.getP 3 rfl
    simp -implicitDefEqProofs (disch := omega) only [push_cast, Nat.reduceAdd, Nat.reduceLeDiff, Nat.reduceMul, Nat.reduceSub, Nat.reduceLT, Nat.reduceEqDiff, Int.reduceAdd, Int.reduceSub, Int.reduceLE, Int.reduceLT, Int.reduceEq, Int.reduceNe, Int.reduceToNat, Int.reduceNeg, reduceIte, reduceCtorEq, e0, e1, e2, e3]
    refine H.stP 2 [aint 2] rfl rfl rfl rfl (Nat.le_of_ble_eq_true rfl) rfl (fun h5 H => ?_)
    have e0 := H.getP 0 rfl
    have e1 := H.getP 1 rfl
    have e2 := H.getP 2 rfl
    have e3 := H.getP 3 rfl
    simp -implicitDefEqProofs (disch := omega) only [push_cast, Nat.reduceAdd, Nat.reduceLeDiff, Nat.reduceMul, Nat.reduceSub, Nat.reduceLT, Nat.reduceEqDiff, Int.reduceAdd, Int.reduceSub, Int.reduceLE, Int.reduceLT, Int.reduceEq, Int.reduceNe, Int.reduceToNat, Int.reduceNeg, reduceIte, reduceCtorEq, e0, e1, e2, e3]
    exact ⟨⟨_, rfl⟩, H.perm [0, 1, 2] (by decide)⟩

theorem read_calm {h0 h : Hp} {b1 b2 b3 : Nat} {x0 x1 y z : AV} (H : AM.Own h0 h [⟨.optr b1 2 0 0, true, 2, [[x0, x1]], some (24, 2)⟩, ⟨.optr b2 1 0 0, true, 1, [[y]], some (3, 1)⟩, ⟨.optr b3 1 0 0, true, 1, [[z]], some (27, 1)⟩]) :
    ADef Tryd.prog 17 [.optr b1 2 0 0, .optr b2 1 0 0, .optr b3 1 0 0] h (.val .nilIface) (fun h' => AM.Own h0 h' [⟨.optr b1 2 0 0, true, 2, [[x0, x1]], some (24, 2)⟩, ⟨.optr b2 1 0 0, true, 1, [[y]], some (3, 1)⟩, ⟨.optr b3 1 0 0, true, 1, [[z]], some (27, 1)⟩]) := by
  refine enter_patch_Read_1 ?_
  have e0 := H.getP 0 rfl
  have e1 := H.getP 1 rfl
  have e2 := H.getP 2 rfl
  simp -implicitDefEqProofs (disch := omega) only [push_cast, Nat.reduceAdd, Nat.reduceLeDiff, Nat.reduceMul, Nat.reduceSub, Nat.reduceLT, Nat.reduceEqDiff, Int.reduceAdd, Int.reduceSub, Int.reduceLE, Int.reduceLT, Int.reduceEq, Int.reduceNe, Int.reduceToNat, Int.reduceNeg, reduceIte, reduceCtorEq, acR_patch_Read_1, e0, e1, e2]
  refine H.newR [aint 0] rfl (fun b h1 H => ?_)
  have e0 := H.getP 0 rfl
  have e1 := H.getP 1 rfl
  have e2 := H.getP 2 rfl
  have e3 := H.getP 3 rfl
  simp -implicitDefEqProofs (disch := omega) only [push_cast, Nat.reduceAdd, Nat.reduceLeDiff, Nat.reduceMul, Nat.reduceSub, Nat.reduceLT, Nat.reduceEqDiff, Int.reduceAdd, Int.reduceSub, Int.reduceLE, Int.reduceLT, Int.reduceEq, Int.reduceNe, Int.reduceToNat, Int.reduceNeg, reduceIte, reduceCtorEq, e0, e1, e2, e3]
  refine H.stP 3 [aint 0] rfl rfl rfl rfl (Nat.le_of_ble_eq_true rfl) rfl (fun h2 H => ?_)
  have e0 := H.getP 0 rfl
  have e1 := H.getP 1 rfl
  have e2 := H.getP 2 rfl
  have e3 := H.getP 3 rfl
  simp -implicitDefEqProofs (disch := omega) only [push_cast, Nat.reduceAdd, Nat.reduceLeDiff, Nat.reduceMul, Nat.reduceSub, Nat.reduceLT, Nat.reduceEqDiff, Int.reduceAdd, Int.reduceSub, Int.reduceLE, Int.reduceLT, Int.reduceEq, Int.reduceNe, Int.reduceToNat, Int.reduceNeg, reduceIte, reduceCtorEq, e0, e1, e2, e3]
  exact ⟨⟨_, rfl⟩, H.perm [0, 1, 2] (by decide)⟩

def patch_Read.w (s : ByteArray) (Q : ApiPatch × Int × Int → Prop) : Prop :=
  patch_reader_patch_i0.w ⟨s, 0⟩ (fun r _ => Q (r, 0, 0)) (fun x => ∃ n, x = wrongAV n ∧ Q (⟨0, []⟩, n, 2))
theorem patch_Read.ok {s : ByteArray} {Q : ApiPatch × Int × Int → Prop} (hm : patch_Read.w s Q) (h0 : Hp) : ACalls Tryd.prog 7 [astr s] h0 (Back h0 (fun r => .tup [(.agg (ApiPatch.enc r.1)), (aint r.2.1), (aint r.2.2)]) Q) := by
  refine enter_patch_Read ?_
  unfold patch_Read.w at hm
  have H := AM.Own.nil h0
  simp -implicitDefEqProofs (disch := omega) only [push_cast, Nat.reduceAdd, Nat.reduceLeDiff, Nat.reduceMul, Nat.reduceSub, Nat.reduceLT, Nat.reduceEqDiff, Int.reduceAdd, Int.reduceSub, Int.reduceLE, Int.reduceLT, Int.reduceEq, Int.reduceNe, Int.reduceToNat, Int.reduceNeg, reduceIte, reduceCtorEq, acA_patch_Read]
  refine H.newR [aint 0, anil] rfl (fun b1 h1 H => ?_)
  simp -implicitDefEqProofs (disch := omega) only [push_cast, Nat.reduceAdd, Nat.reduceLeDiff, Nat.reduceMul, Nat.reduceSub, Nat.reduceLT, Nat.reduceEqDiff, Int.reduceAdd, Int.reduceSub, Int.reduceLE, Int.reduceLT, Int.reduceEq, Int.reduceNe, Int.reduceToNat, Int.reduceNeg, reduceIte, reduceCtorEq]
  refine H.newR [aint 0] rfl (fun b2 h2 H => ?_)
  simp -implicitDefEqProofs (disch := omega) only [push_cast, Nat.reduceAdd, Nat.reduceLeDiff, Nat.reduceMul, Nat.reduceSub, Nat.reduceLT, Nat.reduceEqDiff, Int.reduceAdd, Int.reduceSub, Int.reduceLE, Int.reduceLT, Int.reduceEq, Int.reduceNe, Int.reduceToNat, Int.reduceNeg, reduceIte, reduceCtorEq]
  refine H.newR [aint 0] rfl (fun b3 h3 H => ?_)
  have e0 := H.getP 0 rfl
  have e1 := H.getP 1 rfl
  have e2 := H.getP 2 rfl
  simp only [push_cast, defA]
  refine ⟨by decide, ?_⟩
  simp -implicitDefEqProofs (disch := omega) only [push_cast, Nat.reduceAdd, Nat.reduceLeDiff, Nat.reduceMul, Nat.reduceSub, Nat.reduceLT, Nat.reduceEqDiff, Int.reduceAdd, Int.reduceSub, Int.reduceLE, Int.reduceLT, Int.reduceEq, Int.reduceNe, Int.reduceToNat, Int.reduceNeg, reduceIte, reduceCtorEq, acB_patch_Read, e0, e1, e2]
  refine H.newR [astr s, aint 0] rfl (fun b4 h4 H => ?_)
  have e0 := H.getP 0 rfl
  have e1 := H.getP 1 rfl
  have e2 := H.getP 2 rfl
  have e3 := H.getP 3 rfl
  simp -implicitDefEqProofs (disch := omega) only [push_cast, Nat.reduceAdd, Nat.reduceLeDiff, Nat.reduceMul, Nat.reduceSub, Nat.reduceLT, Nat.reduceEqDiff, Int.reduceAdd, Int.reduceSub, Int.reduceLE, Int.reduceLT, Int.reduceEq, Int.reduceNe, Int.reduceToNat, Int.reduceNeg, reduceIte, reduceCtorEq, e0, e1, e2, e3]
  obtain ⟨hF, HF, hB⟩ := H.frameS [3] (by decide)
  refine calls_of (patch_reader_patch_i0.ok hm HF) ?_
  rintro _ h5 (⟨r, c, rfl, H', hm⟩ | ⟨x, rfl, hs, n, rfl, hm⟩)
  rotate_left
  · have H5 := hB.1 _ _ rfl ((AM.Own.of_sub hs).addNil 0 none)
    refine ⟨by simp, (read_recovers (H5.perm [0, 1, 2] (by decide)) n).mono fun h' H => ?_⟩
    have e0 := H.getP 0 rfl
    have e1 := H.getP 1 rfl
    have e2 := H.getP 2 rfl
    exact ⟨.tup [.agg [aint 0, anil], aint n, aint 2], _, h0, by simp [aResults, resAll, resOne, push_cast, e0, e1, e2], (Shift.tup (Shifts.at (Shift.agg (Shift.nil _ 2) [_] []) [] [_, _])).trans (Shift.forget H.sub), _, rfl, rfl, hm⟩
  replace H := hB.1 _ _ rfl H'
  have e0 := H.getP 0 rfl
  have e1 := H.getP 1 rfl
  have e2 := H.getP 2 rfl
  have e3 := H.getP 3 rfl
  simp -implicitDefEqProofs (disch := omega) only [push_cast, Nat.reduceAdd, Nat.reduceLeDiff, Nat.reduceMul, Nat.reduceSub, Nat.reduceLT, Nat.reduceEqDiff, Int.reduceAdd, Int.reduceSub, Int.reduceLE, Int.reduceLT, Int.reduceEq, Int.reduceNe, Int.reduceToNat, Int.reduceNeg, reduceIte, reduceCtorEq, e0, e1, e2, e3]
  refine H.stP 0 [aint r.Pages, .isl 2 (r.Changes.map ApiChange.enc)] rfl rfl rfl rfl (Nat.le_of_ble_eq_true rfl) rfl (fun h6 H => ?_)
  have e0 := H.getP 0 rfl
  have e1 := H.getP 1 rfl
  have e2 := H.getP 2 rfl
  simp -implicitDefEqProofs (disch := omega) only [push_cast, Nat.reduceAdd, Nat.reduceLeDiff, Nat.reduceMul, Nat.reduceSub, Nat.reduceLT, Nat.reduceEqDiff, Int.reduceAdd, Int.reduceSub, Int.reduceLE, Int.reduceLT, Int.reduceEq, Int.reduceNe, Int.reduceToNat, Int.reduceNeg, reduceIte, reduceCtorEq, e0, e1, e2]
  refine H.stP 1 [aint 0] rfl rfl rfl rfl (Nat.le_of_ble_eq_true rfl) rfl (fun h7 H => ?_)
  have e0 := H.getP 0 rfl
  have e1 := H.getP 1 rfl
  have e2 := H.getP 2 rfl
  simp -implicitDefEqProofs (disch := omega) only [push_cast, Nat.reduceAdd, Nat.reduceLeDiff, Nat.reduceMul, Nat.reduceSub, Nat.reduceLT, Nat.reduceEqDiff, Int.reduceAdd, Int.reduceSub, Int.reduceLE, Int.reduceLT, Int.reduceEq, Int.reduceNe, Int.reduceToNat, Int.reduceNeg, reduceIte, reduceCtorEq, e0, e1, e2]
  refine H.stP 2 [aint 0] rfl rfl rfl rfl (Nat.le_of_ble_eq_true rfl) rfl (fun h8 H => ?_)
  simp -implicitDefEqProofs (disch := omega) only [push_cast, Nat.reduceAdd, Nat.reduceLeDiff, Nat.reduceMul, Nat.reduceSub, Nat.reduceLT, Nat.reduceEqDiff, Int.reduceAdd, Int.reduceSub, Int.reduceLE, Int.reduceLT, Int.reduceEq, Int.reduceNe, Int.reduceToNat, Int.reduceNeg, reduceIte, reduceCtorEq]
  refine (read_calm (H.perm [0, 1, 2] (by decide))).mono fun h' H => ?_
  have e0 := H.getP 0 rfl
  have e1 := H.getP 1 rfl
  have e2 := H.getP 2 rfl
  exact ⟨.tup [.agg [aint r.Pages, .isl 2 (r.Changes.map ApiChange.enc)], aint 0, aint 0], _, h0, by simp [aResults, resAll, resOne, push_cast, e0, e1, e2], Shift.forget H.sub, _, rfl, rfl, hm⟩
end Go.Proofs.YtggcmnoacplbkaaDoor
