/- Functions of the program: code, what is asked for their answers, the walk (printed by pr.py). -/
import Derived.Test.YtlnjajfagildnaaDoorWA4
namespace Go.Proofs.YtlnjajfagildnaaDoor
open Go Go.Proofs.YtlnjajfagildnaaDoor.AM
set_option maxRecDepth 100000
set_option linter.unusedSimpArgs false
set_option linter.unusedVariables false
set_option maxHeartbeats 4000000
/-! stylus/styluslaw35.PatchBack -/
abbrev n_styluslaw35_PatchBack : Nat := 4
noncomputable def code_styluslaw35_PatchBack : Code := match Tryd.f4.body with | some c => c | none => .skip
def ann_styluslaw35_PatchBack : Nat → Ann
  | 13 => { pure := [35, 53], plan := (.op 0 (.op 1 (.op 2 (.op 3 (.op 4 (.op 5 (.op 6 (.op 7 (.op 8 (.op 9 (.op 10 (.op 11 (.op 12 (.op 13 (.op 14 (.op 15 (.op 16 (.op 17 (.op 18 (.op 19 (.op 20 (.op 21 (.op 22 (.op 23 (.op 24 (.op 25 (.op 26 (.op 27 (.op 28 (.op 29 (.op 30 (.op 31 (.op 32 (.op 33 (.op 34 (.op 35 (.op 36 (.op 37 (.op 38 (.op 39 (.op 40 (.op 41 (.op 42 (.op 43 (.op 44 (.op 45 (.op 46 (.op 47 (.op 48 (.op 49 (.op 50 (.op 51 (.op 52 (.op 53 (.op 54 (.op 55 .done)))))))))))))))))))))))))))))))))))))))))))))))))))))))), ghost := false, post := false }
  | _ => {}
noncomputable def ac_styluslaw35_PatchBack_c1 : AC :=
  (.seq (.block 1 (.seq (.reg [⟨some 86, (Op.fieldAddr 25 (Operand.tmp 7) 1), none, false⟩, ⟨some 87, (Op.load 23 (Operand.tmp 86)), none, false⟩, ⟨some 88, (Op.move (Operand.tmp 14)), none, false⟩, ⟨some 89, (Op.indexAddr 23 (Operand.tmp 87) (Operand.tmp 88)), none, false⟩, ⟨some 90, (Op.load 40 (Operand.tmp 89)), none, false⟩, ⟨some 15, (Op.alloc 40), none, false⟩, ⟨none, (Op.store 40 (Operand.tmp 15) (Operand.tmp 90)), none, false⟩]) (.seq (.draw [⟨some 91, (Op.fieldAddr 40 (Operand.tmp 15) 0), none, false⟩, ⟨some 92, (Op.load 3 (Operand.tmp 91)), none, false⟩, ⟨some 93, (Op.binOp BinOp.lss 3 (Operand.tmp 92) (Operand.const (Value.int IntKind.i64 1)) 3), none, false⟩, ⟨some 94, (Op.move (Operand.tmp 93)), none, false⟩, ⟨some 95, (Op.fieldAddr 40 (Operand.tmp 15) 0), (some (some 94, false)), false⟩, ⟨some 96, (Op.load 3 (Operand.tmp 95)), (some (some 94, false)), false⟩, ⟨some 97, (Op.move (Operand.tmp 1)), (some (some 94, false)), false⟩, ⟨some 98, (Op.call (Call.mk (Callee.builtin Builtin.len) #[(Operand.tmp 97)] #[22])), (some (some 94, false)), false⟩, ⟨some 99, (Op.binOp BinOp.gtr 3 (Operand.tmp 96) (Operand.tmp 98) 3), (some (some 94, false)), false⟩, ⟨some 100, (Op.pick (Operand.tmp 94) (Operand.const (Value.bool true)) (Operand.tmp 99)), none, false⟩, ⟨some 101, (Op.move (Operand.tmp 100)), none, false⟩, ⟨some 102, (Op.move (Operand.tmp 14)), (some (some 101, false)), false⟩, ⟨some 103, (Op.binOp BinOp.gtr 3 (Operand.tmp 102) (Operand.const (Value.int IntKind.i64 0)) 3), (some (some 101, false)), false⟩, ⟨some 104, (Op.move (Operand.tmp 103)), (some (some 101, false)), false⟩, ⟨some 105, (Op.fieldAddr 40 (Operand.tmp 15) 0), (some (some 104, true)), false⟩, ⟨some 106, (Op.load 3 (Operand.tmp 105)), (some (some 104, true)), false⟩, ⟨some 107, (Op.fieldAddr 25 (Operand.tmp 7) 1), (some (some 104, true)), false⟩, ⟨some 108, (Op.load 23 (Operand.tmp 107)), (some (some 104, true)), false⟩, ⟨some 109, (Op.move (Operand.tmp 14)), (some (some 104, true)), false⟩, ⟨some 110, (Op.binOp BinOp.sub 3 (Operand.tmp 109) (Operand.const (Value.int IntKind.i64 1)) 3), (some (some 104, true)), false⟩, ⟨some 111, (Op.indexAddr 23 (Operand.tmp 108) (Operand.tmp 110)), (some (some 104, true)), false⟩, ⟨some 112, (Op.fieldAddr 40 (Operand.tmp 111) 0), (some (some 104, true)), false⟩, ⟨some 113, (Op.load 3 (Operand.tmp 112)), (some (some 104, true)), false⟩, ⟨some 114, (Op.binOp BinOp.leq 3 (Operand.tmp 106) (Operand.tmp 113) 3), (some (some 104, true)), false⟩, ⟨some 115, (Op.pick (Operand.tmp 104) (Operand.tmp 114) (Operand.const (Value.bool false))), (some (some 101, false)), false⟩, ⟨some 116, (Op.pick (Operand.tmp 101) (Operand.const (Value.bool true)) (Operand.tmp 115)), none, false⟩, ⟨some 117, (Op.move (Operand.tmp 116)), none, false⟩, ⟨some 118, (Op.fieldAddr 40 (Operand.tmp 15) 1), (some (some 117, false)), false⟩, ⟨some 119, (Op.load 38 (Operand.tmp 118)), (some (some 117, false)), false⟩, ⟨some 120, (Op.move (Operand.tmp 1)), (some (some 117, false)), false⟩, ⟨some 121, (Op.fieldAddr 40 (Operand.tmp 15) 0), (some (some 117, false)), false⟩, ⟨some 122, (Op.load 3 (Operand.tmp 121)), (some (some 117, false)), false⟩, ⟨some 123, (Op.binOp BinOp.sub 3 (Operand.tmp 122) (Operand.const (Value.int IntKind.i64 1)) 3), (some (some 117, false)), false⟩, ⟨some 124, (Op.indexAddr 22 (Operand.tmp 120) (Operand.tmp 123)), (some (some 117, false)), false⟩, ⟨some 125, (Op.load 38 (Operand.tmp 124)), (some (some 117, false)), false⟩, ⟨some 126, (Op.call (Call.mk (Callee.value (Operand.func 17)) #[(Operand.tmp 119), (Operand.tmp 125)] #[38, 38])), (some (some 117, false)), true⟩, ⟨some 127, (Op.unOp UnOp.not 4 (Operand.tmp 126)), (some (some 117, false)), false⟩, ⟨some 128, (Op.pick (Operand.tmp 117) (Operand.const (Value.bool true)) (Operand.tmp 127)), none, false⟩, ⟨some 129, (Op.move (Operand.tmp 128)), none, false⟩, ⟨some 130, (Op.fieldAddr 40 (Operand.tmp 15) 0), (some (some 129, false)), false⟩, ⟨some 131, (Op.load 3 (Operand.tmp 130)), (some (some 129, false)), false⟩, ⟨some 132, (Op.move (Operand.tmp 0)), (some (some 129, false)), false⟩, ⟨some 133, (Op.call (Call.mk (Callee.builtin Builtin.len) #[(Operand.tmp 132)] #[22])), (some (some 129, false)), false⟩, ⟨some 134, (Op.binOp BinOp.leq 3 (Operand.tmp 131) (Operand.tmp 133) 3), (some (some 129, false)), false⟩, ⟨some 135, (Op.move (Operand.tmp 134)), (some (some 129, false)), false⟩, ⟨some 136, (Op.fieldAddr 40 (Operand.tmp 15) 1), (some (some 135, true)), false⟩, ⟨some 137, (Op.load 38 (Operand.tmp 136)), (some (some 135, true)), false⟩, ⟨some 138, (Op.move (Operand.tmp 0)), (some (some 135, true)), false⟩, ⟨some 139, (Op.fieldAddr 40 (Operand.tmp 15) 0), (some (some 135, true)), false⟩, ⟨some 140, (Op.load 3 (Operand.tmp 139)), (some (some 135, true)), false⟩, ⟨some 141, (Op.binOp BinOp.sub 3 (Operand.tmp 140) (Operand.const (Value.int IntKind.i64 1)) 3), (some (some 135, true)), false⟩, ⟨some 142, (Op.indexAddr 22 (Operand.tmp 138) (Operand.tmp 141)), (some (some 135, true)), false⟩, ⟨some 143, (Op.load 38 (Operand.tmp 142)), (some (some 135, true)), false⟩, ⟨some 144, (Op.call (Call.mk (Callee.value (Operand.func 17)) #[(Operand.tmp 137), (Operand.tmp 143)] #[38, 38])), (some (some 135, true)), true⟩, ⟨some 145, (Op.pick (Operand.tmp 135) (Operand.tmp 144) (Operand.const (Value.bool false))), (some (some 129, false)), false⟩, ⟨some 146, (Op.pick (Operand.tmp 129) (Operand.const (Value.bool true)) (Operand.tmp 145)), none, false⟩] (.op 0 (.op 1 (.op 2 (.op 3 (.op 4 (.op 5 (.op 6 (.op 7 (.op 8 (.op 9 (.op 10 (.op 11 (.op 12 (.op 13 (.op 14 (.op 15 (.op 16 (.op 17 (.op 18 (.op 19 (.op 20 (.op 21 (.op 22 (.op 23 (.op 24 (.op 25 (.op 26 (.op 27 (.op 28 (.op 29 (.op 30 (.op 31 (.op 32 (.op 33 (.op 34 (.op 35 (.op 36 (.op 37 (.op 38 (.op 39 (.op 40 (.op 41 (.op 42 (.op 43 (.op 44 (.op 45 (.op 46 (.op 47 (.op 48 (.op 49 (.op 50 (.op 51 (.op 52 (.op 53 (.op 54 (.op 55 .done))))))))))))))))))))))))))))))))))))))))))))))))))))))))) (.cond (Operand.tmp 146) (.seq (.reg [⟨some 6, (Op.assign (Operand.const (Value.bool false))), none, false⟩]) .ret) .skip)))) (.reg [⟨some 84, (Op.move (Operand.tmp 14)), none, false⟩, ⟨some 85, (Op.binOp BinOp.add 3 (Operand.tmp 84) (Operand.const (Value.int IntKind.i64 1)) 3), none, false⟩, ⟨some 14, (Op.assign (Operand.tmp 85)), none, false⟩]))
noncomputable def ac_styluslaw35_PatchBack : AC :=
  (.seq (.reg [⟨some 6, (Op.assign (Operand.const (Value.bool false))), none, false⟩]) (.seq (.seq (.reg [⟨some 16, (Op.move (Operand.tmp 0)), none, false⟩, ⟨some 17, (Op.call (Call.mk (Callee.value (Operand.func 5)) #[(Operand.tmp 16)] #[22])), none, false⟩, ⟨some 18, (Op.move (Operand.tmp 17)), none, false⟩, ⟨some 19, (Op.move (Operand.tmp 1)), (some (some 18, false)), false⟩, ⟨some 20, (Op.call (Call.mk (Callee.value (Operand.func 5)) #[(Operand.tmp 19)] #[22])), (some (some 18, false)), false⟩, ⟨some 21, (Op.pick (Operand.tmp 18) (Operand.const (Value.bool true)) (Operand.tmp 20)), none, false⟩, ⟨some 22, (Op.move (Operand.tmp 21)), none, false⟩, ⟨some 23, (Op.move (Operand.tmp 2)), (some (some 22, false)), false⟩, ⟨some 24, (Op.call (Call.mk (Callee.value (Operand.func 5)) #[(Operand.tmp 23)] #[22])), (some (some 22, false)), false⟩, ⟨some 25, (Op.pick (Operand.tmp 22) (Operand.const (Value.bool true)) (Operand.tmp 24)), none, false⟩]) (.cond (Operand.tmp 25) (.seq (.reg [⟨some 26, (Op.call (Call.mk (Callee.value (Operand.func 7)) #[] #[])), none, false⟩, ⟨some 6, (Op.assign (Operand.tmp 26)), none, false⟩]) .ret) .skip)) (.seq (.reg [⟨some 27, (Op.move (Operand.tmp 0)), none, false⟩, ⟨some 28, (Op.move (Operand.tmp 1)), none, false⟩, ⟨some 29, (Op.call (Call.mk (Callee.value (Operand.func 9)) #[(Operand.tmp 27), (Operand.tmp 28)] #[22, 22])), none, false⟩, ⟨some 30, (Op.move (Operand.tmp 1)), none, false⟩, ⟨some 31, (Op.move (Operand.tmp 2)), none, false⟩, ⟨some 32, (Op.call (Call.mk (Callee.value (Operand.func 9)) #[(Operand.tmp 30), (Operand.tmp 31)] #[22, 22])), none, false⟩, ⟨some 7, (Op.alloc 25), none, false⟩, ⟨some 8, (Op.alloc 25), none, false⟩, ⟨none, (Op.store 25 (Operand.tmp 7) (Operand.tmp 29)), none, false⟩, ⟨none, (Op.store 25 (Operand.tmp 8) (Operand.tmp 32)), none, false⟩]) (.seq (.reg [⟨some 34, (Op.move (Operand.tmp 0)), none, false⟩, ⟨some 35, (Op.load 25 (Operand.tmp 7)), none, false⟩, ⟨some 36, (Op.call (Call.mk (Callee.value (Operand.func 10)) #[(Operand.tmp 34), (Operand.tmp 35)] #[22, 25])), none, false⟩, ⟨some 33, (Op.move (Operand.tmp 36)), none, false⟩, ⟨some 37, (Op.extract (Operand.tmp 33) 0), none, false⟩, ⟨some 38, (Op.extract (Operand.tmp 33) 1), none, false⟩, ⟨some 9, (Op.assign (Operand.tmp 37)), none, false⟩, ⟨some 10, (Op.assign (Operand.tmp 38)), none, false⟩]) (.seq (.reg [⟨some 40, (Op.move (Operand.tmp 9)), none, false⟩, ⟨some 41, (Op.load 25 (Operand.tmp 8)), none, false⟩, ⟨some 42, (Op.call (Call.mk (Callee.value (Operand.func 10)) #[(Operand.tmp 40), (Operand.tmp 41)] #[22, 25])), none, false⟩, ⟨some 39, (Op.move (Operand.tmp 42)), none, false⟩, ⟨some 43, (Op.extract (Operand.tmp 39) 0), none, false⟩, ⟨some 44, (Op.extract (Operand.tmp 39) 1), none, false⟩, ⟨some 11, (Op.assign (Operand.tmp 43)), none, false⟩, ⟨some 12, (Op.assign (Operand.tmp 44)), none, false⟩]) (.seq (.reg [⟨some 45, (Op.move (Operand.tmp 0)), none, false⟩, ⟨some 46, (Op.move (Operand.tmp 0)), none, false⟩, ⟨some 47, (Op.call (Call.mk (Callee.value (Operand.func 9)) #[(Operand.tmp 45), (Operand.tmp 46)] #[22, 22])), none, false⟩, ⟨some 13, (Op.alloc 25), none, false⟩, ⟨none, (Op.store 25 (Operand.tmp 13) (Operand.tmp 47)), none, false⟩]) (.seq (.seq (.reg [⟨some 48, (Op.move (Operand.tmp 10)), none, false⟩, ⟨some 49, (Op.binOp BinOp.neq 31 (Operand.tmp 48) (Operand.const (Value.int IntKind.i64 0)) 31), none, false⟩, ⟨some 50, (Op.move (Operand.tmp 49)), none, false⟩, ⟨some 51, (Op.move (Operand.tmp 12)), (some (some 50, false)), false⟩, ⟨some 52, (Op.binOp BinOp.neq 31 (Operand.tmp 51) (Operand.const (Value.int IntKind.i64 0)) 31), (some (some 50, false)), false⟩, ⟨some 53, (Op.pick (Operand.tmp 50) (Operand.const (Value.bool true)) (Operand.tmp 52)), none, false⟩, ⟨some 54, (Op.move (Operand.tmp 53)), none, false⟩, ⟨some 55, (Op.move (Operand.tmp 9)), (some (some 54, false)), false⟩, ⟨some 56, (Op.move (Operand.tmp 1)), (some (some 54, false)), false⟩, ⟨some 57, (Op.call (Call.mk (Callee.value (Operand.func 16)) #[(Operand.tmp 55), (Operand.tmp 56)] #[22, 22])), (some (some 54, false)), false⟩, ⟨some 58, (Op.unOp UnOp.not 4 (Operand.tmp 57)), (some (some 54, false)), false⟩, ⟨some 59, (Op.pick (Operand.tmp 54) (Operand.const (Value.bool true)) (Operand.tmp 58)), none, false⟩, ⟨some 60, (Op.move (Operand.tmp 59)), none, false⟩, ⟨some 61, (Op.move (Operand.tmp 11)), (some (some 60, false)), false⟩, ⟨some 62, (Op.move (Operand.tmp 2)), (some (some 60, false)), false⟩, ⟨some 63, (Op.call (Call.mk (Callee.value (Operand.func 16)) #[(Operand.tmp 61), (Operand.tmp 62)] #[22, 22])), (some (some 60, false)), false⟩, ⟨some 64, (Op.unOp UnOp.not 4 (Operand.tmp 63)), (some (some 60, false)), false⟩, ⟨some 65, (Op.pick (Operand.tmp 60) (Operand.const (Value.bool true)) (Operand.tmp 64)), none, false⟩, ⟨some 66, (Op.move (Operand.tmp 65)), none, false⟩, ⟨some 67, (Op.fieldAddr 25 (Operand.tmp 13) 1), (some (some 66, false)), false⟩, ⟨some 68, (Op.load 23 (Operand.tmp 67)), (some (some 66, false)), false⟩, ⟨some 69, (Op.call (Call.mk (Callee.builtin Builtin.len) #[(Operand.tmp 68)] #[23])), (some (some 66, false)), false⟩, ⟨some 70, (Op.binOp BinOp.neq 3 (Operand.tmp 69) (Operand.const (Value.int IntKind.i64 0)) 3), (some (some 66, false)), false⟩, ⟨some 71, (Op.pick (Operand.tmp 66) (Operand.const (Value.bool true)) (Operand.tmp 70)), none, false⟩, ⟨some 72, (Op.move (Operand.tmp 71)), none, false⟩, ⟨some 73, (Op.fieldAddr 25 (Operand.tmp 13) 0), (some (some 72, false)), false⟩, ⟨some 74, (Op.load 3 (Operand.tmp 73)), (some (some 72, false)), false⟩, ⟨some 75, (Op.move (Operand.tmp 0)), (some (some 72, false)), false⟩, ⟨some 76, (Op.call (Call.mk (Callee.builtin Builtin.len) #[(Operand.tmp 75)] #[22])), (some (some 72, false)), false⟩, ⟨some 77, (Op.binOp BinOp.neq 3 (Operand.tmp 74) (Operand.tmp 76) 3), (some (some 72, false)), false⟩, ⟨some 78, (Op.pick (Operand.tmp 72) (Operand.const (Value.bool true)) (Operand.tmp 77)), none, false⟩]) (.cond (Operand.tmp 78) (.seq (.reg [⟨some 6, (Op.assign (Operand.const (Value.bool false))), none, false⟩]) .ret) .skip)) (.seq (.seq (.reg [⟨some 14, (Op.assign (Operand.const (Value.int IntKind.i64 0))), none, false⟩]) (.block 0 (.loop (.seq (.seq (.reg [⟨some 79, (Op.move (Operand.tmp 14)), none, false⟩, ⟨some 80, (Op.fieldAddr 25 (Operand.tmp 7) 1), none, false⟩, ⟨some 81, (Op.load 23 (Operand.tmp 80)), none, false⟩, ⟨some 82, (Op.call (Call.mk (Callee.builtin Builtin.len) #[(Operand.tmp 81)] #[23])), none, false⟩, ⟨some 83, (Op.binOp BinOp.lss 3 (Operand.tmp 79) (Operand.tmp 82) 3), none, false⟩]) (.cond (Operand.tmp 83) .skip (.exit 0))) ac_styluslaw35_PatchBack_c1)))) (.seq (.reg [⟨some 147, (Op.call (Call.mk (Callee.value (Operand.func 7)) #[] #[])), none, false⟩, ⟨some 6, (Op.assign (Operand.tmp 147)), none, false⟩]) .ret)))))))))
theorem body_styluslaw35_PatchBack : Tryd.f4.body = some code_styluslaw35_PatchBack := by kernel_rfl
theorem slim_styluslaw35_PatchBack : slim ann_styluslaw35_PatchBack code_styluslaw35_PatchBack = some ac_styluslaw35_PatchBack := by kernel_rfl
theorem name_styluslaw35_PatchBack : (Tryd.f4.name == "runtime.NumGoroutine") = false := by kernel_rfl
theorem enter_styluslaw35_PatchBack {args : List AV} {h : Hp} {Q : AE → Hp → Prop} (H : awp Tryd.prog tab ac_styluslaw35_PatchBack (retQ tab [(ResultVar.tmp 6)] Q) ⟨args ++ List.replicate (148 - args.length) .any, h⟩) : ACalls Tryd.prog 4 args h Q :=
  acalls_of tab_ok mixed Tryd.func4 body_styluslaw35_PatchBack name_styluslaw35_PatchBack slim_styluslaw35_PatchBack rfl Tryd.ntmps4 H
/-- stylus/styluslaw35.PatchBack -/
def styluslaw35_PatchBack.w (a0_ : List (List ByteArray)) (a1_ : List (List ByteArray)) (a2_ : List (List ByteArray)) (Q : Bool → Prop) : Prop :=
  styluslaw35_long.w a0_ (fun r1 =>
    if r1 = true then
      styluslaw35_awake.w  (fun r2 =>
        Q r2)
    else
      styluslaw35_long.w a1_ (fun r3 =>
        if r3 = true then
          styluslaw35_awake.w  (fun r4 =>
            Q r4)
        else
          styluslaw35_long.w a2_ (fun r5 =>
            if r5 = true then
              styluslaw35_awake.w  (fun r6 =>
                Q r6)
            else
              patch_Of.w a0_ a1_ (fun r7 =>
                patch_Of.w a1_ a2_ (fun r8 =>
                  patch_Do.w a0_ r7 (fun r9 =>
                    patch_Do.w r9.1 r8 (fun r10 =>
                      patch_Of.w a0_ a0_ (fun r11 =>
                        if r9.2 = 0 then
                          if r10.2 = 0 then
                            stylusref35_Pages.w r9.1 a1_ (fun r12 =>
                              if (!r12) = true then
                                Q false
                              else
                                stylusref35_Pages.w r10.1 a2_ (fun r13 =>
                                  if (!r13) = true then
                                    Q false
                                  else
                                    if (r11.Changes.length : Int) = 0 then
                                      if r11.Pages = (a0_.length : Int) then
                                        wloop (σ := Int) (fun a1 next1 =>
                                          if a1 < (r7.Changes.length : Int) then
                                            wcut (α := Unit) (fun k1 =>
                                              (0 ≤ a1) ∧
                                              ∃ v1 : ApiChange, r7.Changes[a1.toNat]? = some v1 ∧
                                              if v1.Page < 1 then
                                                Q false
                                              else
                                                if (a1_.length : Int) < v1.Page then
                                                  Q false
                                                else
                                                  if 0 < a1 then
                                                    (I64 (a1 - 1)) ∧
                                                    (0 ≤ a1 - 1) ∧
                                                    ∃ v2 : ApiChange, r7.Changes[(a1 - 1).toNat]? = some v2 ∧
                                                    if v1.Page ≤ v2.Page then
                                                      Q false
                                                    else
                                                      (I64 (v1.Page - 1)) ∧
                                                      (0 ≤ v1.Page - 1) ∧
                                                      ∃ v3 : List ByteArray, a1_[(v1.Page - 1).toNat]? = some v3 ∧
                                                      ∃ r14 : Bool, stylusref35_Lines.w v1.Lines v3 (fun r' => r' = r14) ∧
                                                      if (!r14) = true then
                                                        Q false
                                                      else
                                                        if v1.Page ≤ (a0_.length : Int) then
                                                          (I64 (v1.Page - 1)) ∧
                                                          ∃ v4 : List ByteArray, a0_[(v1.Page - 1).toNat]? = some v4 ∧
                                                          ∃ r15 : Bool, stylusref35_Lines.w v1.Lines v4 (fun r' => r' = r15) ∧
                                                          if r15 = true then
                                                            Q false
                                                          else
                                                            k1 ()
                                                        else
                                                          k1 ()
                                                  else
                                                    (I64 (v1.Page - 1)) ∧
                                                    (0 ≤ v1.Page - 1) ∧
                                                    ∃ v5 : List ByteArray, a1_[(v1.Page - 1).toNat]? = some v5 ∧
                                                    ∃ r16 : Bool, stylusref35_Lines.w v1.Lines v5 (fun r' => r' = r16) ∧
                                                    if (!r16) = true then
                                                      Q false
                                                    else
                                                      if v1.Page ≤ (a0_.length : Int) then
                                                        (I64 (v1.Page - 1)) ∧
                                                        ∃ v6 : List ByteArray, a0_[(v1.Page - 1).toNat]? = some v6 ∧
                                                        ∃ r17 : Bool, stylusref35_Lines.w v1.Lines v6 (fun r' => r' = r17) ∧
                                                        if r17 = true then
                                                          Q false
                                                        else
                                                          k1 ()
                                                      else
                                                        k1 ()) (fun _ =>
                                              (I64 (a1 + 1)) ∧
                                              next1 (a1 + 1))
                                          else
                                            styluslaw35_awake.w  (fun r18 =>
                                              Q r18)) 0
                                      else
                                        Q false
                                    else
                                      Q false))
                          else
                            Q false
                        else
                          Q false))))))))
theorem styluslaw35_PatchBack.ok {a0_ : List (List ByteArray)} {a1_ : List (List ByteArray)} {a2_ : List (List ByteArray)} {Q : Bool → Prop} (hm : styluslaw35_PatchBack.w a0_ a1_ a2_ Q) (h0 : Hp) : ACalls Tryd.prog n_styluslaw35_PatchBack [(.isl 1 (a0_.map (encSl 1 AM.encStr))), (.isl 1 (a1_.map (encSl 1 AM.encStr))), (.isl 1 (a2_.map (encSl 1 AM.encStr)))] h0 (Back h0 (fun r => (abool r)) Q) := by
  refine enter_styluslaw35_PatchBack ?_
  unfold styluslaw35_PatchBack.w at hm
  have H := AM.Own.nil h0
  simp (maxSteps := 4000000) -implicitDefEqProofs (disch := omega) only [push_cast, Nat.reduceAdd, Nat.reduceLeDiff, Nat.reduceMul, Nat.reduceSub, Nat.reduceLT, Nat.reduceEqDiff, Int.reduceAdd, Int.reduceSub, Int.reduceLE, Int.reduceLT, Int.reduceEq, Int.reduceNe, Int.reduceToNat, Int.reduceNeg, reduceIte, reduceCtorEq, ac_styluslaw35_PatchBack]
  refine calls_w (fun h => styluslaw35_long.ok hm h) (fun r1 hm => ?_)
  simp (maxSteps := 4000000) -implicitDefEqProofs (disch := omega) only [push_cast, Nat.reduceAdd, Nat.reduceLeDiff, Nat.reduceMul, Nat.reduceSub, Nat.reduceLT, Nat.reduceEqDiff, Int.reduceAdd, Int.reduceSub, Int.reduceLE, Int.reduceLT, Int.reduceEq, Int.reduceNe, Int.reduceToNat, Int.reduceNeg, reduceIte, reduceCtorEq]
  rw [gfork_bool']
  refine ⟨fun c1 => ?_, fun c1 => ?_⟩
  · replace hm := ifp hm c1
    simp (maxSteps := 4000000) -implicitDefEqProofs (disch := omega) only [push_cast, Nat.reduceAdd, Nat.reduceLeDiff, Nat.reduceMul, Nat.reduceSub, Nat.reduceLT, Nat.reduceEqDiff, Int.reduceAdd, Int.reduceSub, Int.reduceLE, Int.reduceLT, Int.reduceEq, Int.reduceNe, Int.reduceToNat, Int.reduceNeg, reduceIte, reduceCtorEq, c1]
    refine calls_w (fun h => styluslaw35_awake.ok hm h) (fun r2 hm => ?_)
    simp (maxSteps := 4000000) -implicitDefEqProofs (disch := omega) only [push_cast, Nat.reduceAdd, Nat.reduceLeDiff, Nat.reduceMul, Nat.reduceSub, Nat.reduceLT, Nat.reduceEqDiff, Int.reduceAdd, Int.reduceSub, Int.reduceLE, Int.reduceLT, Int.reduceEq, Int.reduceNe, Int.reduceToNat, Int.reduceNeg, reduceIte, reduceCtorEq, c1]
    exact retQ_back (.inl rfl) r2 _ rfl (Shift.refl _ _) H.sub hm
  · replace hm := ifn hm (by rw [c1]; exact Bool.false_ne_true)
    simp (maxSteps := 4000000) -implicitDefEqProofs (disch := omega) only [push_cast, Nat.reduceAdd, Nat.reduceLeDiff, Nat.reduceMul, Nat.reduceSub, Nat.reduceLT, Nat.reduceEqDiff, Int.reduceAdd, Int.reduceSub, Int.reduceLE, Int.reduceLT, Int.reduceEq, Int.reduceNe, Int.reduceToNat, Int.reduceNeg, reduceIte, reduceCtorEq, c1]
    refine calls_w (fun h => styluslaw35_long.ok hm h) (fun r3 hm => ?_)
    simp (maxSteps := 4000000) -implicitDefEqProofs (disch := omega) only [push_cast, Nat.reduceAdd, Nat.reduceLeDiff, Nat.reduceMul, Nat.reduceSub, Nat.reduceLT, Nat.reduceEqDiff, Int.reduceAdd, Int.reduceSub, Int.reduceLE, Int.reduceLT, Int.reduceEq, Int.reduceNe, Int.reduceToNat, Int.reduceNeg, reduceIte, reduceCtorEq, c1]
    rw [gfork_bool']
    refine ⟨fun c2 => ?_, fun c2 => ?_⟩
    · replace hm := ifp hm c2
      simp (maxSteps := 4000000) -implicitDefEqProofs (disch := omega) only [push_cast, Nat.reduceAdd, Nat.reduceLeDiff, Nat.reduceMul, Nat.reduceSub, Nat.reduceLT, Nat.reduceEqDiff, Int.reduceAdd, Int.reduceSub, Int.reduceLE, Int.reduceLT, Int.reduceEq, Int.reduceNe, Int.reduceToNat, Int.reduceNeg, reduceIte, reduceCtorEq, c1, c2]
      refine calls_w (fun h => styluslaw35_awake.ok hm h) (fun r4 hm => ?_)
      simp (maxSteps := 4000000) -implicitDefEqProofs (disch := omega) only [push_cast, Nat.reduceAdd, Nat.reduceLeDiff, Nat.reduceMul, Nat.reduceSub, Nat.reduceLT, Nat.reduceEqDiff, Int.reduceAdd, Int.reduceSub, Int.reduceLE, Int.reduceLT, Int.reduceEq, Int.reduceNe, Int.reduceToNat, Int.reduceNeg, reduceIte, reduceCtorEq, c1, c2]
      exact retQ_back (.inl rfl) r4 _ rfl (Shift.refl _ _) H.sub hm
    · replace hm := ifn hm (by rw [c2]; exact Bool.false_ne_true)
      simp (maxSteps := 4000000) -implicitDefEqProofs (disch := omega) only [push_cast, Nat.reduceAdd, Nat.reduceLeDiff, Nat.reduceMul, Nat.reduceSub, Nat.reduceLT, Nat.reduceEqDiff, Int.reduceAdd, Int.reduceSub, Int.reduceLE, Int.reduceLT, Int.reduceEq, Int.reduceNe, Int.reduceToNat, Int.reduceNeg, reduceIte, reduceCtorEq, c1, c2]
      refine calls_w (fun h => styluslaw35_long.ok hm h) (fun r5 hm => ?_)
      simp (maxSteps := 4000000) -implicitDefEqProofs (disch := omega) only [push_cast, Nat.reduceAdd, Nat.reduceLeDiff, Nat.reduceMul, Nat.reduceSub, Nat.reduceLT, Nat.reduceEqDiff, Int.reduceAdd, Int.reduceSub, Int.reduceLE, Int.reduceLT, Int.reduceEq, Int.reduceNe, Int.reduceToNat, Int.reduceNeg, reduceIte, reduceCtorEq, c1, c2]
      rw [fork_bool]
      refine ⟨fun c3 => ?_, fun c3 => ?_⟩
      · replace hm := ifp hm c3
        simp (maxSteps := 4000000) -implicitDefEqProofs (disch := omega) only [push_cast, Nat.reduceAdd, Nat.reduceLeDiff, Nat.reduceMul, Nat.reduceSub, Nat.reduceLT, Nat.reduceEqDiff, Int.reduceAdd, Int.reduceSub, Int.reduceLE, Int.reduceLT, Int.reduceEq, Int.reduceNe, Int.reduceToNat, Int.reduceNeg, reduceIte, reduceCtorEq, c1, c2, c3]
        refine calls_w (fun h => styluslaw35_awake.ok hm h) (fun r6 hm => ?_)
        simp (maxSteps := 4000000) -implicitDefEqProofs (disch := omega) only [push_cast, Nat.reduceAdd, Nat.reduceLeDiff, Nat.reduceMul, Nat.reduceSub, Nat.reduceLT, Nat.reduceEqDiff, Int.reduceAdd, Int.reduceSub, Int.reduceLE, Int.reduceLT, Int.reduceEq, Int.reduceNe, Int.reduceToNat, Int.reduceNeg, reduceIte, reduceCtorEq, c1, c2, c3]
        exact retQ_back (.inl rfl) r6 _ rfl (Shift.refl _ _) H.sub hm
      · replace hm := ifn hm (by rw [c3]; exact Bool.false_ne_true)
        simp (maxSteps := 4000000) -implicitDefEqProofs (disch := omega) only [push_cast, Nat.reduceAdd, Nat.reduceLeDiff, Nat.reduceMul, Nat.reduceSub, Nat.reduceLT, Nat.reduceEqDiff, Int.reduceAdd, Int.reduceSub, Int.reduceLE, Int.reduceLT, Int.reduceEq, Int.reduceNe, Int.reduceToNat, Int.reduceNeg, reduceIte, reduceCtorEq, c1, c2, c3]
        refine calls_w (fun h => patch_Of.ok hm h) (fun r7 hm => ?_)
        simp (maxSteps := 4000000) -implicitDefEqProofs (disch := omega) only [push_cast, Nat.reduceAdd, Nat.reduceLeDiff, Nat.reduceMul, Nat.reduceSub, Nat.reduceLT, Nat.reduceEqDiff, Int.reduceAdd, Int.reduceSub, Int.reduceLE, Int.reduceLT, Int.reduceEq, Int.reduceNe, Int.reduceToNat, Int.reduceNeg, reduceIte, reduceCtorEq, c1, c2, c3]
        refine calls_w (fun h => patch_Of.ok hm h) (fun r8 hm => ?_)
        simp (maxSteps := 4000000) -implicitDefEqProofs (disch := omega) only [push_cast, Nat.reduceAdd, Nat.reduceLeDiff, Nat.reduceMul, Nat.reduceSub, Nat.reduceLT, Nat.reduceEqDiff, Int.reduceAdd, Int.reduceSub, Int.reduceLE, Int.reduceLT, Int.reduceEq, Int.reduceNe, Int.reduceToNat, Int.reduceNeg, reduceIte, reduceCtorEq, c1, c2, c3]
        refine H.newR [(aint 0), anil] rfl (fun b1 h1 H => ?_)
        have e0 := H.getP 0 rfl
        simp (maxSteps := 4000000) -implicitDefEqProofs (disch := omega) only [push_cast, Nat.reduceAdd, Nat.reduceLeDiff, Nat.reduceMul, Nat.reduceSub, Nat.reduceLT, Nat.reduceEqDiff, Int.reduceAdd, Int.reduceSub, Int.reduceLE, Int.reduceLT, Int.reduceEq, Int.reduceNe, Int.reduceToNat, Int.reduceNeg, reduceIte, reduceCtorEq, c1, c2, c3, e0]
        refine H.newR [(aint 0), anil] rfl (fun b2 h2 H => ?_)
        have e0 := H.getP 0 rfl
        have e1 := H.getP 1 rfl
        simp (maxSteps := 4000000) -implicitDefEqProofs (disch := omega) only [push_cast, Nat.reduceAdd, Nat.reduceLeDiff, Nat.reduceMul, Nat.reduceSub, Nat.reduceLT, Nat.reduceEqDiff, Int.reduceAdd, Int.reduceSub, Int.reduceLE, Int.reduceLT, Int.reduceEq, Int.reduceNe, Int.reduceToNat, Int.reduceNeg, reduceIte, reduceCtorEq, c1, c2, c3, e0, e1]
        refine H.stP 0 (ApiPatch.enc r7) rfl rfl rfl rfl (Nat.le_of_ble_eq_true rfl) rfl (fun h3 H => ?_)
        have e0 := H.getP 0 rfl
        have e1 := H.getP 1 rfl
        simp (maxSteps := 4000000) -implicitDefEqProofs (disch := omega) only [push_cast, Nat.reduceAdd, Nat.reduceLeDiff, Nat.reduceMul, Nat.reduceSub, Nat.reduceLT, Nat.reduceEqDiff, Int.reduceAdd, Int.reduceSub, Int.reduceLE, Int.reduceLT, Int.reduceEq, Int.reduceNe, Int.reduceToNat, Int.reduceNeg, reduceIte, reduceCtorEq, c1, c2, c3, e0, e1]
        refine H.stP 1 (ApiPatch.enc r8) rfl rfl rfl rfl (Nat.le_of_ble_eq_true rfl) rfl (fun h4 H => ?_)
        have e0 := H.getP 0 rfl
        have e1 := H.getP 1 rfl
        simp (maxSteps := 4000000) -implicitDefEqProofs (disch := omega) only [push_cast, Nat.reduceAdd, Nat.reduceLeDiff, Nat.reduceMul, Nat.reduceSub, Nat.reduceLT, Nat.reduceEqDiff, Int.reduceAdd, Int.reduceSub, Int.reduceLE, Int.reduceLT, Int.reduceEq, Int.reduceNe, Int.reduceToNat, Int.reduceNeg, reduceIte, reduceCtorEq, c1, c2, c3, e0, e1]
        refine calls_w (fun h => patch_Do.ok hm h) (fun r9 hm => ?_)
        have e0 := H.getP 0 rfl
        have e1 := H.getP 1 rfl
        simp (maxSteps := 4000000) -implicitDefEqProofs (disch := omega) only [push_cast, Nat.reduceAdd, Nat.reduceLeDiff, Nat.reduceMul, Nat.reduceSub, Nat.reduceLT, Nat.reduceEqDiff, Int.reduceAdd, Int.reduceSub, Int.reduceLE, Int.reduceLT, Int.reduceEq, Int.reduceNe, Int.reduceToNat, Int.reduceNeg, reduceIte, reduceCtorEq, c1, c2, c3, e0, e1]
        refine calls_w (fun h => patch_Do.ok hm h) (fun r10 hm => ?_)
        have e0 := H.getP 0 rfl
        have e1 := H.getP 1 rfl
        simp (maxSteps := 4000000) -implicitDefEqProofs (disch := omega) only [push_cast, Nat.reduceAdd, Nat.reduceLeDiff, Nat.reduceMul, Nat.reduceSub, Nat.reduceLT, Nat.reduceEqDiff, Int.reduceAdd, Int.reduceSub, Int.reduceLE, Int.reduceLT, Int.reduceEq, Int.reduceNe, Int.reduceToNat, Int.reduceNeg, reduceIte, reduceCtorEq, c1, c2, c3, e0, e1]
        refine calls_w (fun h => patch_Of.ok hm h) (fun r11 hm => ?_)
        have e0 := H.getP 0 rfl
        have e1 := H.getP 1 rfl
        simp (maxSteps := 4000000) -implicitDefEqProofs (disch := omega) only [push_cast, Nat.reduceAdd, Nat.reduceLeDiff, Nat.reduceMul, Nat.reduceSub, Nat.reduceLT, Nat.reduceEqDiff, Int.reduceAdd, Int.reduceSub, Int.reduceLE, Int.reduceLT, Int.reduceEq, Int.reduceNe, Int.reduceToNat, Int.reduceNeg, reduceIte, reduceCtorEq, c1, c2, c3, e0, e1]
        refine H.newR [(aint 0), anil] rfl (fun b3 h5 H => ?_)
        have e0 := H.getP 0 rfl
        have e1 := H.getP 1 rfl
        have e2 := H.getP 2 rfl
        simp (maxSteps := 4000000) -implicitDefEqProofs (disch := omega) only [push_cast, Nat.reduceAdd, Nat.reduceLeDiff, Nat.reduceMul, Nat.reduceSub, Nat.reduceLT, Nat.reduceEqDiff, Int.reduceAdd, Int.reduceSub, Int.reduceLE, Int.reduceLT, Int.reduceEq, Int.reduceNe, Int.reduceToNat, Int.reduceNeg, reduceIte, reduceCtorEq, c1, c2, c3, e0, e1, e2]
        refine H.stP 2 (ApiPatch.enc r11) rfl rfl rfl rfl (Nat.le_of_ble_eq_true rfl) rfl (fun h6 H => ?_)
        have e0 := H.getP 0 rfl
        have e1 := H.getP 1 rfl
        have e2 := H.getP 2 rfl
        simp (maxSteps := 4000000) -implicitDefEqProofs (disch := omega) only [push_cast, Nat.reduceAdd, Nat.reduceLeDiff, Nat.reduceMul, Nat.reduceSub, Nat.reduceLT, Nat.reduceEqDiff, Int.reduceAdd, Int.reduceSub, Int.reduceLE, Int.reduceLT, Int.reduceEq, Int.reduceNe, Int.reduceToNat, Int.reduceNeg, reduceIte, reduceCtorEq, c1, c2, c3, e0, e1, e2]
        rw [gfork_cond']
        refine ⟨fun c4 => ?_, fun c4 => ?_⟩
        · replace hm := ifn hm c4
          have e0 := H.getP 0 rfl
          have e1 := H.getP 1 rfl
          have e2 := H.getP 2 rfl
          simp (maxSteps := 4000000) -implicitDefEqProofs (disch := omega) only [push_cast, Nat.reduceAdd, Nat.reduceLeDiff, Nat.reduceMul, Nat.reduceSub, Nat.reduceLT, Nat.reduceEqDiff, Int.reduceAdd, Int.reduceSub, Int.reduceLE, Int.reduceLT, Int.reduceEq, Int.reduceNe, Int.reduceToNat, Int.reduceNeg, reduceIte, reduceCtorEq, c1, c2, c3, eq_false c4, e0, e1, e2]
          exact retQ_back (.inl rfl) false _ rfl (Shift.refl _ _) H.sub hm
        · replace c4 := Decidable.not_not.1 c4
          replace hm := ifp hm c4
          have e0 := H.getP 0 rfl
          have e1 := H.getP 1 rfl
          have e2 := H.getP 2 rfl
          simp (maxSteps := 4000000) -implicitDefEqProofs (disch := omega) only [push_cast, Nat.reduceAdd, Nat.reduceLeDiff, Nat.reduceMul, Nat.reduceSub, Nat.reduceLT, Nat.reduceEqDiff, Int.reduceAdd, Int.reduceSub, Int.reduceLE, Int.reduceLT, Int.reduceEq, Int.reduceNe, Int.reduceToNat, Int.reduceNeg, reduceIte, reduceCtorEq, c1, c2, c3, eq_true c4, e0, e1, e2]
          rw [gfork_cond']
          refine ⟨fun c5 => ?_, fun c5 => ?_⟩
          · replace hm := ifn hm c5
            have e0 := H.getP 0 rfl
            have e1 := H.getP 1 rfl
            have e2 := H.getP 2 rfl
            simp (maxSteps := 4000000) -implicitDefEqProofs (disch := omega) only [push_cast, Nat.reduceAdd, Nat.reduceLeDiff, Nat.reduceMul, Nat.reduceSub, Nat.reduceLT, Nat.reduceEqDiff, Int.reduceAdd, Int.reduceSub, Int.reduceLE, Int.reduceLT, Int.reduceEq, Int.reduceNe, Int.reduceToNat, Int.reduceNeg, reduceIte, reduceCtorEq, c1, c2, c3, eq_true c4, eq_false c5, e0, e1, e2]
            exact retQ_back (.inl rfl) false _ rfl (Shift.refl _ _) H.sub hm
          · replace c5 := Decidable.not_not.1 c5
            replace hm := ifp hm c5
            have e0 := H.getP 0 rfl
            have e1 := H.getP 1 rfl
            have e2 := H.getP 2 rfl
            simp (maxSteps := 4000000) -implicitDefEqProofs (disch := omega) only [push_cast, Nat.reduceAdd, Nat.reduceLeDiff, Nat.reduceMul, Nat.reduceSub, Nat.reduceLT, Nat.reduceEqDiff, Int.reduceAdd, Int.reduceSub, Int.reduceLE, Int.reduceLT, Int.reduceEq, Int.reduceNe, Int.reduceToNat, Int.reduceNeg, reduceIte, reduceCtorEq, c1, c2, c3, eq_true c4, eq_true c5, e0, e1, e2]
            refine calls_w (fun h => stylusref35_Pages.ok hm h) (fun r12 hm => ?_)
            have e0 := H.getP 0 rfl
            have e1 := H.getP 1 rfl
            have e2 := H.getP 2 rfl
            simp (maxSteps := 4000000) -implicitDefEqProofs (disch := omega) only [push_cast, Nat.reduceAdd, Nat.reduceLeDiff, Nat.reduceMul, Nat.reduceSub, Nat.reduceLT, Nat.reduceEqDiff, Int.reduceAdd, Int.reduceSub, Int.reduceLE, Int.reduceLT, Int.reduceEq, Int.reduceNe, Int.reduceToNat, Int.reduceNeg, reduceIte, reduceCtorEq, c1, c2, c3, eq_true c4, eq_true c5, e0, e1, e2]
            rw [gfork_bool']
            refine ⟨fun c6 => ?_, fun c6 => ?_⟩
            · replace hm := ifp hm c6
              have e0 := H.getP 0 rfl
              have e1 := H.getP 1 rfl
              have e2 := H.getP 2 rfl
              simp (maxSteps := 4000000) -implicitDefEqProofs (disch := omega) only [push_cast, Nat.reduceAdd, Nat.reduceLeDiff, Nat.reduceMul, Nat.reduceSub, Nat.reduceLT, Nat.reduceEqDiff, Int.reduceAdd, Int.reduceSub, Int.reduceLE, Int.reduceLT, Int.reduceEq, Int.reduceNe, Int.reduceToNat, Int.reduceNeg, reduceIte, reduceCtorEq, c1, c2, c3, eq_true c4, eq_true c5, c6, e0, e1, e2]
              exact retQ_back (.inl rfl) false _ rfl (Shift.refl _ _) H.sub hm
            · replace hm := ifn hm (by rw [c6]; exact Bool.false_ne_true)
              have e0 := H.getP 0 rfl
              have e1 := H.getP 1 rfl
              have e2 := H.getP 2 rfl
              simp (maxSteps := 4000000) -implicitDefEqProofs (disch := omega) only [push_cast, Nat.reduceAdd, Nat.reduceLeDiff, Nat.reduceMul, Nat.reduceSub, Nat.reduceLT, Nat.reduceEqDiff, Int.reduceAdd, Int.reduceSub, Int.reduceLE, Int.reduceLT, Int.reduceEq, Int.reduceNe, Int.reduceToNat, Int.reduceNeg, reduceIte, reduceCtorEq, c1, c2, c3, eq_true c4, eq_true c5, c6, e0, e1, e2]
              refine calls_w (fun h => stylusref35_Pages.ok hm h) (fun r13 hm => ?_)
              have e0 := H.getP 0 rfl
              have e1 := H.getP 1 rfl
              have e2 := H.getP 2 rfl
              simp (maxSteps := 4000000) -implicitDefEqProofs (disch := omega) only [push_cast, Nat.reduceAdd, Nat.reduceLeDiff, Nat.reduceMul, Nat.reduceSub, Nat.reduceLT, Nat.reduceEqDiff, Int.reduceAdd, Int.reduceSub, Int.reduceLE, Int.reduceLT, Int.reduceEq, Int.reduceNe, Int.reduceToNat, Int.reduceNeg, reduceIte, reduceCtorEq, c1, c2, c3, eq_true c4, eq_true c5, c6, e0, e1, e2]
              rw [gfork_bool']
              refine ⟨fun c7 => ?_, fun c7 => ?_⟩
              · replace hm := ifp hm c7
                have e0 := H.getP 0 rfl
                have e1 := H.getP 1 rfl
                have e2 := H.getP 2 rfl
                simp (maxSteps := 4000000) -implicitDefEqProofs (disch := omega) only [push_cast, Nat.reduceAdd, Nat.reduceLeDiff, Nat.reduceMul, Nat.reduceSub, Nat.reduceLT, Nat.reduceEqDiff, Int.reduceAdd, Int.reduceSub, Int.reduceLE, Int.reduceLT, Int.reduceEq, Int.reduceNe, Int.reduceToNat, Int.reduceNeg, reduceIte, reduceCtorEq, c1, c2, c3, eq_true c4, eq_true c5, c6, c7, e0, e1, e2]
                exact retQ_back (.inl rfl) false _ rfl (Shift.refl _ _) H.sub hm
              · replace hm := ifn hm (by rw [c7]; exact Bool.false_ne_true)
                have e0 := H.getP 0 rfl
                have e1 := H.getP 1 rfl
                have e2 := H.getP 2 rfl
                simp (maxSteps := 4000000) -implicitDefEqProofs (disch := omega) only [push_cast, Nat.reduceAdd, Nat.reduceLeDiff, Nat.reduceMul, Nat.reduceSub, Nat.reduceLT, Nat.reduceEqDiff, Int.reduceAdd, Int.reduceSub, Int.reduceLE, Int.reduceLT, Int.reduceEq, Int.reduceNe, Int.reduceToNat, Int.reduceNeg, reduceIte, reduceCtorEq, c1, c2, c3, eq_true c4, eq_true c5, c6, c7, e0, e1, e2]
                rw [gfork_cond']
                refine ⟨fun c8 => ?_, fun c8 => ?_⟩
                · replace hm := ifn hm c8
                  have e0 := H.getP 0 rfl
                  have e1 := H.getP 1 rfl
                  have e2 := H.getP 2 rfl
                  simp (maxSteps := 4000000) -implicitDefEqProofs (disch := omega) only [push_cast, Nat.reduceAdd, Nat.reduceLeDiff, Nat.reduceMul, Nat.reduceSub, Nat.reduceLT, Nat.reduceEqDiff, Int.reduceAdd, Int.reduceSub, Int.reduceLE, Int.reduceLT, Int.reduceEq, Int.reduceNe, Int.reduceToNat, Int.reduceNeg, reduceIte, reduceCtorEq, c1, c2, c3, eq_true c4, eq_true c5, c6, c7, eq_false c8, e0, e1, e2]
                  exact retQ_back (.inl rfl) false _ rfl (Shift.refl _ _) H.sub hm
                · replace c8 := Decidable.not_not.1 c8
                  replace hm := ifp hm c8
                  have e0 := H.getP 0 rfl
                  have e1 := H.getP 1 rfl
                  have e2 := H.getP 2 rfl
                  simp (maxSteps := 4000000) -implicitDefEqProofs (disch := omega) only [push_cast, Nat.reduceAdd, Nat.reduceLeDiff, Nat.reduceMul, Nat.reduceSub, Nat.reduceLT, Nat.reduceEqDiff, Int.reduceAdd, Int.reduceSub, Int.reduceLE, Int.reduceLT, Int.reduceEq, Int.reduceNe, Int.reduceToNat, Int.reduceNeg, reduceIte, reduceCtorEq, c1, c2, c3, eq_true c4, eq_true c5, c6, c7, eq_true c8, e0, e1, e2]
                  rw [fork_cond]
                  refine ⟨fun c9 => ?_, fun c9 => ?_⟩
                  · replace hm := ifn hm c9
                    have e0 := H.getP 0 rfl
                    have e1 := H.getP 1 rfl
                    have e2 := H.getP 2 rfl
                    simp (maxSteps := 4000000) -implicitDefEqProofs (disch := omega) only [push_cast, Nat.reduceAdd, Nat.reduceLeDiff, Nat.reduceMul, Nat.reduceSub, Nat.reduceLT, Nat.reduceEqDiff, Int.reduceAdd, Int.reduceSub, Int.reduceLE, Int.reduceLT, Int.reduceEq, Int.reduceNe, Int.reduceToNat, Int.reduceNeg, reduceIte, reduceCtorEq, c1, c2, c3, eq_true c4, eq_true c5, c6, c7, eq_true c8, eq_false c9, e0, e1, e2]
                    exact retQ_back (.inl rfl) false _ rfl (Shift.refl _ _) H.sub hm
                  · replace c9 := Decidable.not_not.1 c9
                    replace hm := ifp hm c9
                    have e0 := H.getP 0 rfl
                    have e1 := H.getP 1 rfl
                    have e2 := H.getP 2 rfl
                    simp (maxSteps := 4000000) -implicitDefEqProofs (disch := omega) only [push_cast, Nat.reduceAdd, Nat.reduceLeDiff, Nat.reduceMul, Nat.reduceSub, Nat.reduceLT, Nat.reduceEqDiff, Int.reduceAdd, Int.reduceSub, Int.reduceLE, Int.reduceLT, Int.reduceEq, Int.reduceNe, Int.reduceToNat, Int.reduceNeg, reduceIte, reduceCtorEq, c1, c2, c3, eq_true c4, eq_true c5, c6, c7, eq_true c8, eq_true c9, e0, e1, e2]
                    obtain ⟨inv1, mu1, hi1, hs1⟩ := hm
                    replace H := H.perm [0] (by decide)
                    refine awp_loop (σ := Int × Hp) (fun ⟨a1, h7⟩ => ⟨((((List.replicate 148 AV.any).set 0 (.isl 1 (a0_.map (encSl 1 AM.encStr)))).set 1 (.isl 1 (a1_.map (encSl 1 AM.encStr)))).set 7 (.optr b1 2 0 0)).set 14 (aint a1), h7⟩) (fun ⟨a1, h7⟩ => inv1 a1 ∧ AM.Own h0 h7 [⟨(.optr b1 2 0 0), true, 2, [(ApiPatch.enc r7)], some (25, 2)⟩]) (fun ⟨a1, h7⟩ => mu1 a1) ⟨0, h6⟩ (Retell.weak (by simp [Weak, push_cast]) (Hp.sub.refl _)) ⟨hi1, H⟩ ?_
                    rintro ⟨a1, h7⟩ ⟨hi1, H⟩
                    have hm := hs1 _ hi1
                    dsimp only at hm H ⊢
                    have e0 := H.getP 0 rfl
                    simp (maxSteps := 4000000) -implicitDefEqProofs (disch := omega) only [push_cast, Nat.reduceAdd, Nat.reduceLeDiff, Nat.reduceMul, Nat.reduceSub, Nat.reduceLT, Nat.reduceEqDiff, Int.reduceAdd, Int.reduceSub, Int.reduceLE, Int.reduceLT, Int.reduceEq, Int.reduceNe, Int.reduceToNat, Int.reduceNeg, reduceIte, reduceCtorEq, c1, c2, c3, eq_true c4, eq_true c5, c6, c7, eq_true c8, eq_true c9, e0]
                    rw [fork_cond]
                    refine ⟨fun c10 => ?_, fun c10 => ?_⟩
                    · replace hm := ifp hm c10
                      have e0 := H.getP 0 rfl
                      simp (maxSteps := 4000000) -implicitDefEqProofs (disch := omega) only [push_cast, Nat.reduceAdd, Nat.reduceLeDiff, Nat.reduceMul, Nat.reduceSub, Nat.reduceLT, Nat.reduceEqDiff, Int.reduceAdd, Int.reduceSub, Int.reduceLE, Int.reduceLT, Int.reduceEq, Int.reduceNe, Int.reduceToNat, Int.reduceNeg, reduceIte, reduceCtorEq, c1, c2, c3, eq_true c4, eq_true c5, c6, c7, eq_true c8, eq_true c9, eq_true c10, e0]
                      obtain ⟨k1, hm, hk1⟩ := wcut_elim hm
                      refine awp_cut (fun s' => ∃ (h8 : Hp), Like s'.tm (((((List.replicate 148 none).set 0 (some (.isl 1 (a0_.map (encSl 1 AM.encStr))))).set 1 (some (.isl 1 (a1_.map (encSl 1 AM.encStr))))).set 7 (some (.optr b1 2 0 0))).set 14 (some (aint a1))) ∧ s'.h = h8 ∧ AM.Own h0 h8 [⟨(.optr b1 2 0 0), true, 2, [(ApiPatch.enc r7)], some (25, 2)⟩] ∧ k1 ()) ?_ ?_
                      · obtain ⟨z1, hm⟩ := hm
                        obtain ⟨v1, i1, hm⟩ := hm
                        have e0 := H.getP 0 rfl
                        simp (maxSteps := 4000000) -implicitDefEqProofs (disch := omega) only [push_cast, Nat.reduceAdd, Nat.reduceLeDiff, Nat.reduceMul, Nat.reduceSub, Nat.reduceLT, Nat.reduceEqDiff, Int.reduceAdd, Int.reduceSub, Int.reduceLE, Int.reduceLT, Int.reduceEq, Int.reduceNe, Int.reduceToNat, Int.reduceNeg, reduceIte, reduceCtorEq, c1, c2, c3, eq_true c4, eq_true c5, c6, c7, eq_true c8, eq_true c9, eq_true c10, eq_true z1, i1, e0]
                        refine H.newR [(aint 0), anil] rfl (fun b4 h9 H => ?_)
                        have e0 := H.getP 0 rfl
                        have e1 := H.getP 1 rfl
                        simp (maxSteps := 4000000) -implicitDefEqProofs (disch := omega) only [push_cast, Nat.reduceAdd, Nat.reduceLeDiff, Nat.reduceMul, Nat.reduceSub, Nat.reduceLT, Nat.reduceEqDiff, Int.reduceAdd, Int.reduceSub, Int.reduceLE, Int.reduceLT, Int.reduceEq, Int.reduceNe, Int.reduceToNat, Int.reduceNeg, reduceIte, reduceCtorEq, c1, c2, c3, eq_true c4, eq_true c5, c6, c7, eq_true c8, eq_true c9, eq_true c10, eq_true z1, i1, e0, e1]
                        refine H.stP 1 (ApiChange.enc v1) rfl rfl rfl rfl (Nat.le_of_ble_eq_true rfl) rfl (fun h10 H => ?_)
                        have e0 := H.getP 0 rfl
                        have e1 := H.getP 1 rfl
                        simp (maxSteps := 4000000) -implicitDefEqProofs (disch := omega) only [push_cast, Nat.reduceAdd, Nat.reduceLeDiff, Nat.reduceMul, Nat.reduceSub, Nat.reduceLT, Nat.reduceEqDiff, Int.reduceAdd, Int.reduceSub, Int.reduceLE, Int.reduceLT, Int.reduceEq, Int.reduceNe, Int.reduceToNat, Int.reduceNeg, reduceIte, reduceCtorEq, c1, c2, c3, eq_true c4, eq_true c5, c6, c7, eq_true c8, eq_true c9, eq_true c10, eq_true z1, i1, e0, e1]
                        rw [gfork_cond']
                        refine ⟨fun c11 => ?_, fun c11 => ?_⟩
                        · replace hm := ifp hm c11
                          have e0 := H.getP 0 rfl
                          have e1 := H.getP 1 rfl
                          simp (maxSteps := 4000000) -implicitDefEqProofs (disch := omega) only [push_cast, Nat.reduceAdd, Nat.reduceLeDiff, Nat.reduceMul, Nat.reduceSub, Nat.reduceLT, Nat.reduceEqDiff, Int.reduceAdd, Int.reduceSub, Int.reduceLE, Int.reduceLT, Int.reduceEq, Int.reduceNe, Int.reduceToNat, Int.reduceNeg, reduceIte, reduceCtorEq, c1, c2, c3, eq_true c4, eq_true c5, c6, c7, eq_true c8, eq_true c9, eq_true c10, eq_true z1, i1, eq_true c11, e0, e1]
                          exact retQ_back (.inl rfl) false _ rfl (Shift.refl _ _) H.sub hm
                        · replace hm := ifn hm c11
                          have e0 := H.getP 0 rfl
                          have e1 := H.getP 1 rfl
                          simp (maxSteps := 4000000) -implicitDefEqProofs (disch := omega) only [push_cast, Nat.reduceAdd, Nat.reduceLeDiff, Nat.reduceMul, Nat.reduceSub, Nat.reduceLT, Nat.reduceEqDiff, Int.reduceAdd, Int.reduceSub, Int.reduceLE, Int.reduceLT, Int.reduceEq, Int.reduceNe, Int.reduceToNat, Int.reduceNeg, reduceIte, reduceCtorEq, c1, c2, c3, eq_true c4, eq_true c5, c6, c7, eq_true c8, eq_true c9, eq_true c10, eq_true z1, i1, eq_false c11, e0, e1]
                          rw [gfork_cond']
                          refine ⟨fun c12 => ?_, fun c12 => ?_⟩
                          · replace hm := ifp hm c12
                            have e0 := H.getP 0 rfl
                            have e1 := H.getP 1 rfl
                            simp (maxSteps := 4000000) -implicitDefEqProofs (disch := omega) only [push_cast, Nat.reduceAdd, Nat.reduceLeDiff, Nat.reduceMul, Nat.reduceSub, Nat.reduceLT, Nat.reduceEqDiff, Int.reduceAdd, Int.reduceSub, Int.reduceLE, Int.reduceLT, Int.reduceEq, Int.reduceNe, Int.reduceToNat, Int.reduceNeg, reduceIte, reduceCtorEq, c1, c2, c3, eq_true c4, eq_true c5, c6, c7, eq_true c8, eq_true c9, eq_true c10, eq_true z1, i1, eq_false c11, eq_true c12, e0, e1]
                            exact retQ_back (.inl rfl) false _ rfl (Shift.refl _ _) H.sub hm
                          · replace hm := ifn hm c12
                            have e0 := H.getP 0 rfl
                            have e1 := H.getP 1 rfl
                            simp (maxSteps := 4000000) -implicitDefEqProofs (disch := omega) only [push_cast, Nat.reduceAdd, Nat.reduceLeDiff, Nat.reduceMul, Nat.reduceSub, Nat.reduceLT, Nat.reduceEqDiff, Int.reduceAdd, Int.reduceSub, Int.reduceLE, Int.reduceLT, Int.reduceEq, Int.reduceNe, Int.reduceToNat, Int.reduceNeg, reduceIte, reduceCtorEq, c1, c2, c3, eq_true c4, eq_true c5, c6, c7, eq_true c8, eq_true c9, eq_true c10, eq_true z1, i1, eq_false c11, eq_false c12, e0, e1]
                            rw [gfork_cond]
                            refine ⟨fun c13 => ?_, fun c13 => ?_⟩
                            · replace hm := ifp hm c13
                              obtain ⟨w1, hm⟩ := hm
                              obtain ⟨z2, hm⟩ := hm
                              obtain ⟨v2, i2, hm⟩ := hm
                              have e0 := H.getP 0 rfl
                              have e1 := H.getP 1 rfl
                              simp (maxSteps := 4000000) -implicitDefEqProofs (disch := omega) only [push_cast, Nat.reduceAdd, Nat.reduceLeDiff, Nat.reduceMul, Nat.reduceSub, Nat.reduceLT, Nat.reduceEqDiff, Int.reduceAdd, Int.reduceSub, Int.reduceLE, Int.reduceLT, Int.reduceEq, Int.reduceNe, Int.reduceToNat, Int.reduceNeg, reduceIte, reduceCtorEq, c1, c2, c3, eq_true c4, eq_true c5, c6, c7, eq_true c8, eq_true c9, eq_true c10, eq_true z1, i1, eq_false c11, eq_false c12, eq_true c13, wrap_i64 _ w1, eq_true z2, i2, e0, e1]
                              rw [gfork_cond']
                              refine ⟨fun c14 => ?_, fun c14 => ?_⟩
                              · replace hm := ifp hm c14
                                have e0 := H.getP 0 rfl
                                have e1 := H.getP 1 rfl
                                simp (maxSteps := 4000000) -implicitDefEqProofs (disch := omega) only [push_cast, Nat.reduceAdd, Nat.reduceLeDiff, Nat.reduceMul, Nat.reduceSub, Nat.reduceLT, Nat.reduceEqDiff, Int.reduceAdd, Int.reduceSub, Int.reduceLE, Int.reduceLT, Int.reduceEq, Int.reduceNe, Int.reduceToNat, Int.reduceNeg, reduceIte, reduceCtorEq, c1, c2, c3, eq_true c4, eq_true c5, c6, c7, eq_true c8, eq_true c9, eq_true c10, eq_true z1, i1, eq_false c11, eq_false c12, eq_true c13, wrap_i64 _ w1, eq_true z2, i2, eq_true c14, e0, e1]
                                exact retQ_back (.inl rfl) false _ rfl (Shift.refl _ _) H.sub hm
                              · replace hm := ifn hm c14
                                obtain ⟨w2, hm⟩ := hm
                                obtain ⟨z3, hm⟩ := hm
                                obtain ⟨v3, i3, hm⟩ := hm
                                have e0 := H.getP 0 rfl
                                have e1 := H.getP 1 rfl
                                simp (maxSteps := 4000000) -implicitDefEqProofs (disch := omega) only [push_cast, Nat.reduceAdd, Nat.reduceLeDiff, Nat.reduceMul, Nat.reduceSub, Nat.reduceLT, Nat.reduceEqDiff, Int.reduceAdd, Int.reduceSub, Int.reduceLE, Int.reduceLT, Int.reduceEq, Int.reduceNe, Int.reduceToNat, Int.reduceNeg, reduceIte, reduceCtorEq, c1, c2, c3, eq_true c4, eq_true c5, c6, c7, eq_true c8, eq_true c9, eq_true c10, eq_true z1, i1, eq_false c11, eq_false c12, eq_true c13, wrap_i64 _ w1, eq_true z2, i2, eq_false c14, wrap_i64 _ w2, eq_true z3, i3, e0, e1]
                                obtain ⟨r14, g1, hm⟩ := hm
                                refine pures_of _ (pure_of_back (fun h => stylusref35_Lines.ok g1 h)) ?_
                                have e0 := H.getP 0 rfl
                                have e1 := H.getP 1 rfl
                                simp (maxSteps := 4000000) -implicitDefEqProofs (disch := omega) only [push_cast, Nat.reduceAdd, Nat.reduceLeDiff, Nat.reduceMul, Nat.reduceSub, Nat.reduceLT, Nat.reduceEqDiff, Int.reduceAdd, Int.reduceSub, Int.reduceLE, Int.reduceLT, Int.reduceEq, Int.reduceNe, Int.reduceToNat, Int.reduceNeg, reduceIte, reduceCtorEq, c1, c2, c3, eq_true c4, eq_true c5, c6, c7, eq_true c8, eq_true c9, eq_true c10, eq_true z1, i1, eq_false c11, eq_false c12, eq_true c13, wrap_i64 _ w1, eq_true z2, i2, eq_false c14, wrap_i64 _ w2, eq_true z3, i3, e0, e1]
                                rw [gfork_bool']
                                refine ⟨fun c15 => ?_, fun c15 => ?_⟩
                                · replace hm := ifp hm c15
                                  have e0 := H.getP 0 rfl
                                  have e1 := H.getP 1 rfl
                                  simp (maxSteps := 4000000) -implicitDefEqProofs (disch := omega) only [push_cast, Nat.reduceAdd, Nat.reduceLeDiff, Nat.reduceMul, Nat.reduceSub, Nat.reduceLT, Nat.reduceEqDiff, Int.reduceAdd, Int.reduceSub, Int.reduceLE, Int.reduceLT, Int.reduceEq, Int.reduceNe, Int.reduceToNat, Int.reduceNeg, reduceIte, reduceCtorEq, c1, c2, c3, eq_true c4, eq_true c5, c6, c7, eq_true c8, eq_true c9, eq_true c10, eq_true z1, i1, eq_false c11, eq_false c12, eq_true c13, wrap_i64 _ w1, eq_true z2, i2, eq_false c14, wrap_i64 _ w2, eq_true z3, i3, c15, e0, e1]
                                  exact retQ_back (.inl rfl) false _ rfl (Shift.refl _ _) H.sub hm
                                · replace hm := ifn hm (by rw [c15]; exact Bool.false_ne_true)
                                  have e0 := H.getP 0 rfl
                                  have e1 := H.getP 1 rfl
                                  simp (maxSteps := 4000000) -implicitDefEqProofs (disch := omega) only [push_cast, Nat.reduceAdd, Nat.reduceLeDiff, Nat.reduceMul, Nat.reduceSub, Nat.reduceLT, Nat.reduceEqDiff, Int.reduceAdd, Int.reduceSub, Int.reduceLE, Int.reduceLT, Int.reduceEq, Int.reduceNe, Int.reduceToNat, Int.reduceNeg, reduceIte, reduceCtorEq, c1, c2, c3, eq_true c4, eq_true c5, c6, c7, eq_true c8, eq_true c9, eq_true c10, eq_true z1, i1, eq_false c11, eq_false c12, eq_true c13, wrap_i64 _ w1, eq_true z2, i2, eq_false c14, wrap_i64 _ w2, eq_true z3, i3, c15, e0, e1]
                                  rw [gfork_cond]
                                  refine ⟨fun c16 => ?_, fun c16 => ?_⟩
                                  · replace hm := ifp hm c16
                                    obtain ⟨w3, hm⟩ := hm
                                    obtain ⟨v4, i4, hm⟩ := hm
                                    have e0 := H.getP 0 rfl
                                    have e1 := H.getP 1 rfl
                                    simp (maxSteps := 4000000) -implicitDefEqProofs (disch := omega) only [push_cast, Nat.reduceAdd, Nat.reduceLeDiff, Nat.reduceMul, Nat.reduceSub, Nat.reduceLT, Nat.reduceEqDiff, Int.reduceAdd, Int.reduceSub, Int.reduceLE, Int.reduceLT, Int.reduceEq, Int.reduceNe, Int.reduceToNat, Int.reduceNeg, reduceIte, reduceCtorEq, c1, c2, c3, eq_true c4, eq_true c5, c6, c7, eq_true c8, eq_true c9, eq_true c10, eq_true z1, i1, eq_false c11, eq_false c12, eq_true c13, wrap_i64 _ w1, eq_true z2, i2, eq_false c14, wrap_i64 _ w2, eq_true z3, i3, c15, eq_true c16, wrap_i64 _ w3, i4, e0, e1]
                                    obtain ⟨r15, g2, hm⟩ := hm
                                    refine pures_of _ (pure_of_back (fun h => stylusref35_Lines.ok g2 h)) ?_
                                    have e0 := H.getP 0 rfl
                                    have e1 := H.getP 1 rfl
                                    simp (maxSteps := 4000000) -implicitDefEqProofs (disch := omega) only [push_cast, Nat.reduceAdd, Nat.reduceLeDiff, Nat.reduceMul, Nat.reduceSub, Nat.reduceLT, Nat.reduceEqDiff, Int.reduceAdd, Int.reduceSub, Int.reduceLE, Int.reduceLT, Int.reduceEq, Int.reduceNe, Int.reduceToNat, Int.reduceNeg, reduceIte, reduceCtorEq, c1, c2, c3, eq_true c4, eq_true c5, c6, c7, eq_true c8, eq_true c9, eq_true c10, eq_true z1, i1, eq_false c11, eq_false c12, eq_true c13, wrap_i64 _ w1, eq_true z2, i2, eq_false c14, wrap_i64 _ w2, eq_true z3, i3, c15, eq_true c16, wrap_i64 _ w3, i4, e0, e1]
                                    rw [fork_bool]
                                    refine ⟨fun c17 => ?_, fun c17 => ?_⟩
                                    · replace hm := ifp hm c17
                                      have e0 := H.getP 0 rfl
                                      have e1 := H.getP 1 rfl
                                      simp (maxSteps := 4000000) -implicitDefEqProofs (disch := omega) only [push_cast, Nat.reduceAdd, Nat.reduceLeDiff, Nat.reduceMul, Nat.reduceSub, Nat.reduceLT, Nat.reduceEqDiff, Int.reduceAdd, Int.reduceSub, Int.reduceLE, Int.reduceLT, Int.reduceEq, Int.reduceNe, Int.reduceToNat, Int.reduceNeg, reduceIte, reduceCtorEq, c1, c2, c3, eq_true c4, eq_true c5, c6, c7, eq_true c8, eq_true c9, eq_true c10, eq_true z1, i1, eq_false c11, eq_false c12, eq_true c13, wrap_i64 _ w1, eq_true z2, i2, eq_false c14, wrap_i64 _ w2, eq_true z3, i3, c15, eq_true c16, wrap_i64 _ w3, i4, c17, e0, e1]
                                      exact retQ_back (.inl rfl) false _ rfl (Shift.refl _ _) H.sub hm
                                    · replace hm := ifn hm (by rw [c17]; exact Bool.false_ne_true)
                                      have e0 := H.getP 0 rfl
                                      have e1 := H.getP 1 rfl
                                      simp (maxSteps := 4000000) -implicitDefEqProofs (disch := omega) only [push_cast, Nat.reduceAdd, Nat.reduceLeDiff, Nat.reduceMul, Nat.reduceSub, Nat.reduceLT, Nat.reduceEqDiff, Int.reduceAdd, Int.reduceSub, Int.reduceLE, Int.reduceLT, Int.reduceEq, Int.reduceNe, Int.reduceToNat, Int.reduceNeg, reduceIte, reduceCtorEq, c1, c2, c3, eq_true c4, eq_true c5, c6, c7, eq_true c8, eq_true c9, eq_true c10, eq_true z1, i1, eq_false c11, eq_false c12, eq_true c13, wrap_i64 _ w1, eq_true z2, i2, eq_false c14, wrap_i64 _ w2, eq_true z3, i3, c15, eq_true c16, wrap_i64 _ w3, i4, c17, e0, e1]
                                      replace H := H.perm [0] (by decide)
                                      exact ⟨h10, by simp [Like, push_cast], rfl, H, hm⟩
                                  · replace hm := ifn hm c16
                                    have e0 := H.getP 0 rfl
                                    have e1 := H.getP 1 rfl
                                    simp (maxSteps := 4000000) -implicitDefEqProofs (disch := omega) only [push_cast, Nat.reduceAdd, Nat.reduceLeDiff, Nat.reduceMul, Nat.reduceSub, Nat.reduceLT, Nat.reduceEqDiff, Int.reduceAdd, Int.reduceSub, Int.reduceLE, Int.reduceLT, Int.reduceEq, Int.reduceNe, Int.reduceToNat, Int.reduceNeg, reduceIte, reduceCtorEq, c1, c2, c3, eq_true c4, eq_true c5, c6, c7, eq_true c8, eq_true c9, eq_true c10, eq_true z1, i1, eq_false c11, eq_false c12, eq_true c13, wrap_i64 _ w1, eq_true z2, i2, eq_false c14, wrap_i64 _ w2, eq_true z3, i3, c15, eq_false c16, e0, e1]
                                    replace H := H.perm [0] (by decide)
                                    exact ⟨h10, by simp [Like, push_cast], rfl, H, hm⟩
                            · replace hm := ifn hm c13
                              obtain ⟨w4, hm⟩ := hm
                              obtain ⟨z4, hm⟩ := hm
                              obtain ⟨v5, i5, hm⟩ := hm
                              have e0 := H.getP 0 rfl
                              have e1 := H.getP 1 rfl
                              simp (maxSteps := 4000000) -implicitDefEqProofs (disch := omega) only [push_cast, Nat.reduceAdd, Nat.reduceLeDiff, Nat.reduceMul, Nat.reduceSub, Nat.reduceLT, Nat.reduceEqDiff, Int.reduceAdd, Int.reduceSub, Int.reduceLE, Int.reduceLT, Int.reduceEq, Int.reduceNe, Int.reduceToNat, Int.reduceNeg, reduceIte, reduceCtorEq, c1, c2, c3, eq_true c4, eq_true c5, c6, c7, eq_true c8, eq_true c9, eq_true c10, eq_true z1, i1, eq_false c11, eq_false c12, eq_false c13, wrap_i64 _ w4, eq_true z4, i5, e0, e1]
                              obtain ⟨r16, g3, hm⟩ := hm
                              refine pures_of _ (pure_of_back (fun h => stylusref35_Lines.ok g3 h)) ?_
                              have e0 := H.getP 0 rfl
                              have e1 := H.getP 1 rfl
                              simp (maxSteps := 4000000) -implicitDefEqProofs (disch := omega) only [push_cast, Nat.reduceAdd, Nat.reduceLeDiff, Nat.reduceMul, Nat.reduceSub, Nat.reduceLT, Nat.reduceEqDiff, Int.reduceAdd, Int.reduceSub, Int.reduceLE, Int.reduceLT, Int.reduceEq, Int.reduceNe, Int.reduceToNat, Int.reduceNeg, reduceIte, reduceCtorEq, c1, c2, c3, eq_true c4, eq_true c5, c6, c7, eq_true c8, eq_true c9, eq_true c10, eq_true z1, i1, eq_false c11, eq_false c12, eq_false c13, wrap_i64 _ w4, eq_true z4, i5, e0, e1]
                              rw [gfork_bool']
                              refine ⟨fun c18 => ?_, fun c18 => ?_⟩
                              · replace hm := ifp hm c18
                                have e0 := H.getP 0 rfl
                                have e1 := H.getP 1 rfl
                                simp (maxSteps := 4000000) -implicitDefEqProofs (disch := omega) only [push_cast, Nat.reduceAdd, Nat.reduceLeDiff, Nat.reduceMul, Nat.reduceSub, Nat.reduceLT, Nat.reduceEqDiff, Int.reduceAdd, Int.reduceSub, Int.reduceLE, Int.reduceLT, Int.reduceEq, Int.reduceNe, Int.reduceToNat, Int.reduceNeg, reduceIte, reduceCtorEq, c1, c2, c3, eq_true c4, eq_true c5, c6, c7, eq_true c8, eq_true c9, eq_true c10, eq_true z1, i1, eq_false c11, eq_false c12, eq_false c13, wrap_i64 _ w4, eq_true z4, i5, c18, e0, e1]
                                exact retQ_back (.inl rfl) false _ rfl (Shift.refl _ _) H.sub hm
                              · replace hm := ifn hm (by rw [c18]; exact Bool.false_ne_true)
                                have e0 := H.getP 0 rfl
                                have e1 := H.getP 1 rfl
                                simp (maxSteps := 4000000) -implicitDefEqProofs (disch := omega) only [push_cast, Nat.reduceAdd, Nat.reduceLeDiff, Nat.reduceMul, Nat.reduceSub, Nat.reduceLT, Nat.reduceEqDiff, Int.reduceAdd, Int.reduceSub, Int.reduceLE, Int.reduceLT, Int.reduceEq, Int.reduceNe, Int.reduceToNat, Int.reduceNeg, reduceIte, reduceCtorEq, c1, c2, c3, eq_true c4, eq_true c5, c6, c7, eq_true c8, eq_true c9, eq_true c10, eq_true z1, i1, eq_false c11, eq_false c12, eq_false c13, wrap_i64 _ w4, eq_true z4, i5, c18, e0, e1]
                                rw [gfork_cond]
                                refine ⟨fun c19 => ?_, fun c19 => ?_⟩
                                · replace hm := ifp hm c19
                                  obtain ⟨w5, hm⟩ := hm
                                  obtain ⟨v6, i6, hm⟩ := hm
                                  have e0 := H.getP 0 rfl
                                  have e1 := H.getP 1 rfl
                                  simp (maxSteps := 4000000) -implicitDefEqProofs (disch := omega) only [push_cast, Nat.reduceAdd, Nat.reduceLeDiff, Nat.reduceMul, Nat.reduceSub, Nat.reduceLT, Nat.reduceEqDiff, Int.reduceAdd, Int.reduceSub, Int.reduceLE, Int.reduceLT, Int.reduceEq, Int.reduceNe, Int.reduceToNat, Int.reduceNeg, reduceIte, reduceCtorEq, c1, c2, c3, eq_true c4, eq_true c5, c6, c7, eq_true c8, eq_true c9, eq_true c10, eq_true z1, i1, eq_false c11, eq_false c12, eq_false c13, wrap_i64 _ w4, eq_true z4, i5, c18, eq_true c19, wrap_i64 _ w5, i6, e0, e1]
                                  obtain ⟨r17, g4, hm⟩ := hm
                                  refine pures_of _ (pure_of_back (fun h => stylusref35_Lines.ok g4 h)) ?_
                                  have e0 := H.getP 0 rfl
                                  have e1 := H.getP 1 rfl
                                  simp (maxSteps := 4000000) -implicitDefEqProofs (disch := omega) only [push_cast, Nat.reduceAdd, Nat.reduceLeDiff, Nat.reduceMul, Nat.reduceSub, Nat.reduceLT, Nat.reduceEqDiff, Int.reduceAdd, Int.reduceSub, Int.reduceLE, Int.reduceLT, Int.reduceEq, Int.reduceNe, Int.reduceToNat, Int.reduceNeg, reduceIte, reduceCtorEq, c1, c2, c3, eq_true c4, eq_true c5, c6, c7, eq_true c8, eq_true c9, eq_true c10, eq_true z1, i1, eq_false c11, eq_false c12, eq_false c13, wrap_i64 _ w4, eq_true z4, i5, c18, eq_true c19, wrap_i64 _ w5, i6, e0, e1]
                                  rw [fork_bool]
                                  refine ⟨fun c20 => ?_, fun c20 => ?_⟩
                                  · replace hm := ifp hm c20
                                    have e0 := H.getP 0 rfl
                                    have e1 := H.getP 1 rfl
                                    simp (maxSteps := 4000000) -implicitDefEqProofs (disch := omega) only [push_cast, Nat.reduceAdd, Nat.reduceLeDiff, Nat.reduceMul, Nat.reduceSub, Nat.reduceLT, Nat.reduceEqDiff, Int.reduceAdd, Int.reduceSub, Int.reduceLE, Int.reduceLT, Int.reduceEq, Int.reduceNe, Int.reduceToNat, Int.reduceNeg, reduceIte, reduceCtorEq, c1, c2, c3, eq_true c4, eq_true c5, c6, c7, eq_true c8, eq_true c9, eq_true c10, eq_true z1, i1, eq_false c11, eq_false c12, eq_false c13, wrap_i64 _ w4, eq_true z4, i5, c18, eq_true c19, wrap_i64 _ w5, i6, c20, e0, e1]
                                    exact retQ_back (.inl rfl) false _ rfl (Shift.refl _ _) H.sub hm
                                  · replace hm := ifn hm (by rw [c20]; exact Bool.false_ne_true)
                                    have e0 := H.getP 0 rfl
                                    have e1 := H.getP 1 rfl
                                    simp (maxSteps := 4000000) -implicitDefEqProofs (disch := omega) only [push_cast, Nat.reduceAdd, Nat.reduceLeDiff, Nat.reduceMul, Nat.reduceSub, Nat.reduceLT, Nat.reduceEqDiff, Int.reduceAdd, Int.reduceSub, Int.reduceLE, Int.reduceLT, Int.reduceEq, Int.reduceNe, Int.reduceToNat, Int.reduceNeg, reduceIte, reduceCtorEq, c1, c2, c3, eq_true c4, eq_true c5, c6, c7, eq_true c8, eq_true c9, eq_true c10, eq_true z1, i1, eq_false c11, eq_false c12, eq_false c13, wrap_i64 _ w4, eq_true z4, i5, c18, eq_true c19, wrap_i64 _ w5, i6, c20, e0, e1]
                                    replace H := H.perm [0] (by decide)
                                    exact ⟨h10, by simp [Like, push_cast], rfl, H, hm⟩
                                · replace hm := ifn hm c19
                                  have e0 := H.getP 0 rfl
                                  have e1 := H.getP 1 rfl
                                  simp (maxSteps := 4000000) -implicitDefEqProofs (disch := omega) only [push_cast, Nat.reduceAdd, Nat.reduceLeDiff, Nat.reduceMul, Nat.reduceSub, Nat.reduceLT, Nat.reduceEqDiff, Int.reduceAdd, Int.reduceSub, Int.reduceLE, Int.reduceLT, Int.reduceEq, Int.reduceNe, Int.reduceToNat, Int.reduceNeg, reduceIte, reduceCtorEq, c1, c2, c3, eq_true c4, eq_true c5, c6, c7, eq_true c8, eq_true c9, eq_true c10, eq_true z1, i1, eq_false c11, eq_false c12, eq_false c13, wrap_i64 _ w4, eq_true z4, i5, c18, eq_false c19, e0, e1]
                                  replace H := H.perm [0] (by decide)
                                  exact ⟨h10, by simp [Like, push_cast], rfl, H, hm⟩
                      · rintro ⟨tm, h8⟩ ⟨_, hL, rfl, H, hm⟩
                        dsimp only at hL H
                        obtain ⟨D, rfl⟩ := hL.fill 0
                        replace hm := hk1 _ hm
                        obtain ⟨w6, hm⟩ := hm
                        have e0 := H.getP 0 rfl
                        simp (maxSteps := 4000000) -implicitDefEqProofs (disch := omega) only [push_cast, Nat.reduceAdd, Nat.reduceLeDiff, Nat.reduceMul, Nat.reduceSub, Nat.reduceLT, Nat.reduceEqDiff, Int.reduceAdd, Int.reduceSub, Int.reduceLE, Int.reduceLT, Int.reduceEq, Int.reduceNe, Int.reduceToNat, Int.reduceNeg, reduceIte, reduceCtorEq, c1, c2, c3, eq_true c4, eq_true c5, c6, c7, eq_true c8, eq_true c9, eq_true c10, wrap_i64 _ w6, e0]
                        replace H := H.perm [0] (by decide)
                        exact ⟨⟨a1 + 1, h8⟩, hm.2, ⟨hm.1, H⟩, Retell.weak (by simp [Weak, push_cast]) (Hp.sub.refl _)⟩
                    · replace hm := ifn hm c10
                      have e0 := H.getP 0 rfl
                      simp (maxSteps := 4000000) -implicitDefEqProofs (disch := omega) only [push_cast, Nat.reduceAdd, Nat.reduceLeDiff, Nat.reduceMul, Nat.reduceSub, Nat.reduceLT, Nat.reduceEqDiff, Int.reduceAdd, Int.reduceSub, Int.reduceLE, Int.reduceLT, Int.reduceEq, Int.reduceNe, Int.reduceToNat, Int.reduceNeg, reduceIte, reduceCtorEq, c1, c2, c3, eq_true c4, eq_true c5, c6, c7, eq_true c8, eq_true c9, eq_false c10, e0]
                      refine calls_w (fun h => styluslaw35_awake.ok hm h) (fun r18 hm => ?_)
                      have e0 := H.getP 0 rfl
                      simp (maxSteps := 4000000) -implicitDefEqProofs (disch := omega) only [push_cast, Nat.reduceAdd, Nat.reduceLeDiff, Nat.reduceMul, Nat.reduceSub, Nat.reduceLT, Nat.reduceEqDiff, Int.reduceAdd, Int.reduceSub, Int.reduceLE, Int.reduceLT, Int.reduceEq, Int.reduceNe, Int.reduceToNat, Int.reduceNeg, reduceIte, reduceCtorEq, c1, c2, c3, eq_true c4, eq_true c5, c6, c7, eq_true c8, eq_true c9, eq_false c10, e0]
                      exact retQ_back (.inl rfl) r18 _ rfl (Shift.refl _ _) H.sub hm
end Go.Proofs.YtlnjajfagildnaaDoor
