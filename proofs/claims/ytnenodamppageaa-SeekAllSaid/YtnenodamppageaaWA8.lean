/- Functions of the program: code, what is asked for their answers, the walk (printed by pr.py). -/
import Derived.Test.YtnenodamppageaaWA7
namespace Go.Proofs.Ytnenodamppageaa
open Go Go.Proofs.Ytnenodamppageaa.AM
set_option maxRecDepth 100000
set_option linter.unusedSimpArgs false
set_option linter.unusedVariables false
set_option maxHeartbeats 4000000
/-! stylus/styluslaw33.SeekAll -/
abbrev n_styluslaw33_SeekAll : Nat := 5
noncomputable def code_styluslaw33_SeekAll : Code := match Try.f5.body with | some c => c | none => .skip
def ann_styluslaw33_SeekAll : Nat → Ann
  | 20 => { pure := [], plan := (.op 0 (.op 1 (.op 2 (.op 3 (.op 4 (.op 5 (.op 6 (.op 7 (.op 8 (.op 9 (.op 10 (.op 11 (.op 12 .done))))))))))))), ghost := false, post := false }
  | 26 => { pure := [11], plan := (.op 0 (.op 1 (.op 2 (.op 3 (.op 4 (.op 5 (.op 6 (.op 7 (.op 8 (.op 9 (.op 10 (.op 11 (.op 12 (.op 13 (.op 14 (.op 15 (.op 16 (.op 17 (.op 18 .done))))))))))))))))))), ghost := false, post := false }
  | _ => {}
noncomputable def ac_styluslaw33_SeekAll_c2 : AC :=
  (.seq (.reg [⟨some 27, (Op.move (Operand.tmp 0)), none, false⟩, ⟨some 28, (Op.move (Operand.tmp 4)), none, false⟩, ⟨some 29, (Op.indexAddr 22 (Operand.tmp 27) (Operand.tmp 28)), none, false⟩, ⟨some 30, (Op.fieldAddr 38 (Operand.tmp 29) 0), none, false⟩, ⟨some 31, (Op.load 3 (Operand.tmp 30)), none, false⟩, ⟨some 32, (Op.binOp BinOp.eql 3 (Operand.tmp 31) (Operand.const (Value.int IntKind.i64 1)) 3), none, false⟩, ⟨some 33, (Op.move (Operand.tmp 32)), none, false⟩, ⟨some 34, (Op.move (Operand.tmp 0)), (some (some 33, true)), false⟩, ⟨some 35, (Op.move (Operand.tmp 4)), (some (some 33, true)), false⟩, ⟨some 36, (Op.indexAddr 22 (Operand.tmp 34) (Operand.tmp 35)), (some (some 33, true)), false⟩, ⟨some 37, (Op.fieldAddr 38 (Operand.tmp 36) 1), (some (some 33, true)), false⟩, ⟨some 38, (Op.load 5 (Operand.tmp 37)), (some (some 33, true)), false⟩, ⟨some 39, (Op.call (Call.mk (Callee.value (Operand.func 15)) #[(Operand.tmp 38)] #[5])), (some (some 33, true)), false⟩, ⟨some 40, (Op.pick (Operand.tmp 33) (Operand.tmp 39) (Operand.const (Value.bool false))), none, false⟩]) (.cond (Operand.tmp 40) (.reg [⟨some 41, (Op.move (Operand.tmp 3)), none, false⟩, ⟨some 42, (Op.move (Operand.tmp 4)), none, false⟩, ⟨some 43, (Op.indexAddr 32 (Operand.tmp 41) (Operand.tmp 42)), none, false⟩, ⟨none, (Op.store 3 (Operand.tmp 43) (Operand.const (Value.int IntKind.i64 1))), none, false⟩]) .skip))
noncomputable def ac_styluslaw33_SeekAll_c1 : AC :=
  (.seq (.block 1 ac_styluslaw33_SeekAll_c2) (.reg [⟨some 25, (Op.move (Operand.tmp 4)), none, false⟩, ⟨some 26, (Op.binOp BinOp.add 3 (Operand.tmp 25) (Operand.const (Value.int IntKind.i64 1)) 3), none, false⟩, ⟨some 4, (Op.assign (Operand.tmp 26)), none, false⟩]))
noncomputable def ac_styluslaw33_SeekAll_c5 : AC :=
  (.seq (.seq (.reg [⟨some 111, (Op.move (Operand.tmp 10)), none, false⟩, ⟨some 112, (Op.binOp BinOp.lss 3 (Operand.tmp 111) (Operand.const (Value.int IntKind.i64 0)) 3), none, false⟩, ⟨some 113, (Op.move (Operand.tmp 112)), none, false⟩, ⟨some 114, (Op.move (Operand.tmp 11)), (some (some 113, false)), false⟩, ⟨some 115, (Op.move (Operand.tmp 0)), (some (some 113, false)), false⟩, ⟨some 116, (Op.call (Call.mk (Callee.builtin Builtin.len) #[(Operand.tmp 115)] #[22])), (some (some 113, false)), false⟩, ⟨some 117, (Op.binOp BinOp.gtr 3 (Operand.tmp 114) (Operand.tmp 116) 3), (some (some 113, false)), false⟩, ⟨some 118, (Op.pick (Operand.tmp 113) (Operand.const (Value.bool true)) (Operand.tmp 117)), none, false⟩, ⟨some 119, (Op.move (Operand.tmp 118)), none, false⟩, ⟨some 120, (Op.move (Operand.tmp 9)), (some (some 119, false)), false⟩, ⟨some 121, (Op.binOp BinOp.gtr 3 (Operand.tmp 120) (Operand.const (Value.int IntKind.i64 0)) 3), (some (some 119, false)), false⟩, ⟨some 122, (Op.move (Operand.tmp 121)), (some (some 119, false)), false⟩, ⟨some 123, (Op.move (Operand.tmp 10)), (some (some 122, true)), false⟩, ⟨some 124, (Op.move (Operand.tmp 8)), (some (some 122, true)), false⟩, ⟨some 125, (Op.move (Operand.tmp 9)), (some (some 122, true)), false⟩, ⟨some 126, (Op.binOp BinOp.sub 3 (Operand.tmp 125) (Operand.const (Value.int IntKind.i64 1)) 3), (some (some 122, true)), false⟩, ⟨some 127, (Op.indexAddr 32 (Operand.tmp 124) (Operand.tmp 126)), (some (some 122, true)), false⟩, ⟨some 128, (Op.load 3 (Operand.tmp 127)), (some (some 122, true)), false⟩, ⟨some 129, (Op.binOp BinOp.leq 3 (Operand.tmp 123) (Operand.tmp 128) 3), (some (some 122, true)), false⟩, ⟨some 130, (Op.pick (Operand.tmp 122) (Operand.tmp 129) (Operand.const (Value.bool false))), (some (some 119, false)), false⟩, ⟨some 131, (Op.pick (Operand.tmp 119) (Operand.const (Value.bool true)) (Operand.tmp 130)), none, false⟩]) (.cond (Operand.tmp 131) (.seq (.reg [⟨some 2, (Op.assign (Operand.const (Value.bool false))), none, false⟩]) .ret) .skip)) (.seq (.seq (.reg [⟨some 132, (Op.move (Operand.tmp 10)), none, false⟩, ⟨some 12, (Op.assign (Operand.tmp 132)), none, false⟩]) (.block 6 (.loop (.seq (.seq (.reg [⟨some 133, (Op.move (Operand.tmp 12)), none, false⟩, ⟨some 134, (Op.move (Operand.tmp 11)), none, false⟩, ⟨some 135, (Op.binOp BinOp.lss 3 (Operand.tmp 133) (Operand.tmp 134) 3), none, false⟩]) (.cond (Operand.tmp 135) .skip (.exit 6))) (.seq (.block 7 (.seq (.seq (.draw [⟨some 138, (Op.move (Operand.tmp 3)), none, false⟩, ⟨some 139, (Op.move (Operand.tmp 12)), none, false⟩, ⟨some 140, (Op.indexAddr 32 (Operand.tmp 138) (Operand.tmp 139)), none, false⟩, ⟨some 141, (Op.load 3 (Operand.tmp 140)), none, false⟩, ⟨some 142, (Op.binOp BinOp.neq 3 (Operand.tmp 141) (Operand.const (Value.int IntKind.i64 1)) 3), none, false⟩, ⟨some 143, (Op.move (Operand.tmp 142)), none, false⟩, ⟨some 144, (Op.move (Operand.tmp 0)), (some (some 143, false)), false⟩, ⟨some 145, (Op.move (Operand.tmp 12)), (some (some 143, false)), false⟩, ⟨some 146, (Op.indexAddr 22 (Operand.tmp 144) (Operand.tmp 145)), (some (some 143, false)), false⟩, ⟨some 147, (Op.fieldAddr 38 (Operand.tmp 146) 1), (some (some 143, false)), false⟩, ⟨some 148, (Op.load 5 (Operand.tmp 147)), (some (some 143, false)), false⟩, ⟨some 149, (Op.call (Call.mk (Callee.value (Operand.func 18)) #[(Operand.tmp 148)] #[5])), (some (some 143, false)), true⟩, ⟨some 150, (Op.move (Operand.tmp 7)), (some (some 143, false)), false⟩, ⟨some 151, (Op.move (Operand.tmp 12)), (some (some 143, false)), false⟩, ⟨some 152, (Op.move (Operand.tmp 10)), (some (some 143, false)), false⟩, ⟨some 153, (Op.binOp BinOp.sub 3 (Operand.tmp 151) (Operand.tmp 152) 3), (some (some 143, false)), false⟩, ⟨some 154, (Op.index 9 (Operand.tmp 150) (Operand.tmp 153)), (some (some 143, false)), false⟩, ⟨some 155, (Op.binOp BinOp.neq 5 (Operand.tmp 149) (Operand.tmp 154) 5), (some (some 143, false)), false⟩, ⟨some 156, (Op.pick (Operand.tmp 143) (Operand.const (Value.bool true)) (Operand.tmp 155)), none, false⟩] (.op 0 (.op 1 (.op 2 (.op 3 (.op 4 (.op 5 (.op 6 (.op 7 (.op 8 (.op 9 (.op 10 (.op 11 (.op 12 (.op 13 (.op 14 (.op 15 (.op 16 (.op 17 (.op 18 .done)))))))))))))))))))) (.cond (Operand.tmp 156) (.seq (.reg [⟨some 2, (Op.assign (Operand.const (Value.bool false))), none, false⟩]) .ret) .skip)) (.reg [⟨some 157, (Op.move (Operand.tmp 3)), none, false⟩, ⟨some 158, (Op.move (Operand.tmp 12)), none, false⟩, ⟨some 159, (Op.indexAddr 32 (Operand.tmp 157) (Operand.tmp 158)), none, false⟩, ⟨none, (Op.store 3 (Operand.tmp 159) (Operand.const (Value.int IntKind.i64 2))), none, false⟩]))) (.reg [⟨some 136, (Op.move (Operand.tmp 12)), none, false⟩, ⟨some 137, (Op.binOp BinOp.add 3 (Operand.tmp 136) (Operand.const (Value.int IntKind.i64 1)) 3), none, false⟩, ⟨some 12, (Op.assign (Operand.tmp 137)), none, false⟩])))))) (.seq (.reg [⟨some 160, (Op.move (Operand.tmp 10)), none, false⟩, ⟨some 161, (Op.binOp BinOp.gtr 3 (Operand.tmp 160) (Operand.const (Value.int IntKind.i64 0)) 3), none, false⟩, ⟨some 162, (Op.move (Operand.tmp 161)), none, false⟩, ⟨some 163, (Op.move (Operand.tmp 0)), (some (some 162, true)), false⟩, ⟨some 164, (Op.move (Operand.tmp 10)), (some (some 162, true)), false⟩, ⟨some 165, (Op.binOp BinOp.sub 3 (Operand.tmp 164) (Operand.const (Value.int IntKind.i64 1)) 3), (some (some 162, true)), false⟩, ⟨some 166, (Op.indexAddr 22 (Operand.tmp 163) (Operand.tmp 165)), (some (some 162, true)), false⟩, ⟨some 167, (Op.fieldAddr 38 (Operand.tmp 166) 0), (some (some 162, true)), false⟩, ⟨some 168, (Op.load 3 (Operand.tmp 167)), (some (some 162, true)), false⟩, ⟨some 169, (Op.binOp BinOp.eql 3 (Operand.tmp 168) (Operand.const (Value.int IntKind.i64 1)) 3), (some (some 162, true)), false⟩, ⟨some 170, (Op.pick (Operand.tmp 162) (Operand.tmp 169) (Operand.const (Value.bool false))), none, false⟩, ⟨some 171, (Op.move (Operand.tmp 170)), none, false⟩, ⟨some 172, (Op.move (Operand.tmp 0)), (some (some 171, true)), false⟩, ⟨some 173, (Op.move (Operand.tmp 10)), (some (some 171, true)), false⟩, ⟨some 174, (Op.binOp BinOp.sub 3 (Operand.tmp 173) (Operand.const (Value.int IntKind.i64 1)) 3), (some (some 171, true)), false⟩, ⟨some 175, (Op.indexAddr 22 (Operand.tmp 172) (Operand.tmp 174)), (some (some 171, true)), false⟩, ⟨some 176, (Op.fieldAddr 38 (Operand.tmp 175) 1), (some (some 171, true)), false⟩, ⟨some 177, (Op.load 5 (Operand.tmp 176)), (some (some 171, true)), false⟩, ⟨some 178, (Op.call (Call.mk (Callee.value (Operand.func 15)) #[(Operand.tmp 177)] #[5])), (some (some 171, true)), false⟩, ⟨some 179, (Op.pick (Operand.tmp 171) (Operand.tmp 178) (Operand.const (Value.bool false))), none, false⟩, ⟨some 180, (Op.move (Operand.tmp 179)), none, false⟩, ⟨some 181, (Op.move (Operand.tmp 11)), (some (some 180, false)), false⟩, ⟨some 182, (Op.move (Operand.tmp 0)), (some (some 180, false)), false⟩, ⟨some 183, (Op.call (Call.mk (Callee.builtin Builtin.len) #[(Operand.tmp 182)] #[22])), (some (some 180, false)), false⟩, ⟨some 184, (Op.binOp BinOp.lss 3 (Operand.tmp 181) (Operand.tmp 183) 3), (some (some 180, false)), false⟩, ⟨some 185, (Op.move (Operand.tmp 184)), (some (some 180, false)), false⟩, ⟨some 186, (Op.move (Operand.tmp 0)), (some (some 185, true)), false⟩, ⟨some 187, (Op.move (Operand.tmp 11)), (some (some 185, true)), false⟩, ⟨some 188, (Op.indexAddr 22 (Operand.tmp 186) (Operand.tmp 187)), (some (some 185, true)), false⟩, ⟨some 189, (Op.fieldAddr 38 (Operand.tmp 188) 0), (some (some 185, true)), false⟩, ⟨some 190, (Op.load 3 (Operand.tmp 189)), (some (some 185, true)), false⟩, ⟨some 191, (Op.binOp BinOp.eql 3 (Operand.tmp 190) (Operand.const (Value.int IntKind.i64 1)) 3), (some (some 185, true)), false⟩, ⟨some 192, (Op.pick (Operand.tmp 185) (Operand.tmp 191) (Operand.const (Value.bool false))), (some (some 180, false)), false⟩, ⟨some 193, (Op.move (Operand.tmp 192)), (some (some 180, false)), false⟩, ⟨some 194, (Op.move (Operand.tmp 0)), (some (some 193, true)), false⟩, ⟨some 195, (Op.move (Operand.tmp 11)), (some (some 193, true)), false⟩, ⟨some 196, (Op.indexAddr 22 (Operand.tmp 194) (Operand.tmp 195)), (some (some 193, true)), false⟩, ⟨some 197, (Op.fieldAddr 38 (Operand.tmp 196) 1), (some (some 193, true)), false⟩, ⟨some 198, (Op.load 5 (Operand.tmp 197)), (some (some 193, true)), false⟩, ⟨some 199, (Op.call (Call.mk (Callee.value (Operand.func 15)) #[(Operand.tmp 198)] #[5])), (some (some 193, true)), false⟩, ⟨some 200, (Op.pick (Operand.tmp 193) (Operand.tmp 199) (Operand.const (Value.bool false))), (some (some 180, false)), false⟩, ⟨some 201, (Op.pick (Operand.tmp 180) (Operand.const (Value.bool true)) (Operand.tmp 200)), none, false⟩]) (.cond (Operand.tmp 201) (.seq (.reg [⟨some 2, (Op.assign (Operand.const (Value.bool false))), none, false⟩]) .ret) .skip))))
noncomputable def ac_styluslaw33_SeekAll_c4 : AC :=
  (.seq (.block 5 (.seq (.draw [⟨some 100, (Op.move (Operand.tmp 8)), none, false⟩, ⟨some 101, (Op.move (Operand.tmp 9)), none, false⟩, ⟨some 102, (Op.indexAddr 32 (Operand.tmp 100) (Operand.tmp 101)), none, false⟩, ⟨some 103, (Op.load 3 (Operand.tmp 102)), none, false⟩, ⟨some 104, (Op.move (Operand.tmp 8)), none, false⟩, ⟨some 105, (Op.move (Operand.tmp 9)), none, false⟩, ⟨some 106, (Op.indexAddr 32 (Operand.tmp 104) (Operand.tmp 105)), none, false⟩, ⟨some 107, (Op.load 3 (Operand.tmp 106)), none, false⟩, ⟨some 108, (Op.move (Operand.tmp 7)), none, false⟩, ⟨some 109, (Op.call (Call.mk (Callee.builtin Builtin.len) #[(Operand.tmp 108)] #[9])), none, false⟩, ⟨some 110, (Op.binOp BinOp.add 3 (Operand.tmp 107) (Operand.tmp 109) 3), none, false⟩, ⟨some 10, (Op.assign (Operand.tmp 103)), none, false⟩, ⟨some 11, (Op.assign (Operand.tmp 110)), none, false⟩] (.op 0 (.op 1 (.op 2 (.op 3 (.op 4 (.op 5 (.op 6 (.op 7 (.op 8 (.op 9 (.op 10 (.op 11 (.op 12 .done)))))))))))))) ac_styluslaw33_SeekAll_c5)) (.reg [⟨some 98, (Op.move (Operand.tmp 9)), none, false⟩, ⟨some 99, (Op.binOp BinOp.add 3 (Operand.tmp 98) (Operand.const (Value.int IntKind.i64 1)) 3), none, false⟩, ⟨some 9, (Op.assign (Operand.tmp 99)), none, false⟩]))
noncomputable def ac_styluslaw33_SeekAll_c3 : AC :=
  (.seq (.seq (.reg [⟨some 59, (Op.move (Operand.tmp 7)), none, false⟩, ⟨some 60, (Op.binOp BinOp.eql 9 (Operand.tmp 59) (Operand.const (Value.string (ByteArray.mk #[]))) 9), none, false⟩, ⟨some 61, (Op.move (Operand.tmp 60)), none, false⟩, ⟨some 62, (Op.move (Operand.tmp 7)), (some (some 61, false)), false⟩, ⟨some 63, (Op.call (Call.mk (Callee.value (Operand.func 16)) #[(Operand.tmp 62)] #[9])), (some (some 61, false)), false⟩, ⟨some 64, (Op.move (Operand.tmp 7)), (some (some 61, false)), false⟩, ⟨some 65, (Op.binOp BinOp.neq 9 (Operand.tmp 63) (Operand.tmp 64) 9), (some (some 61, false)), false⟩, ⟨some 66, (Op.pick (Operand.tmp 61) (Operand.const (Value.bool true)) (Operand.tmp 65)), none, false⟩, ⟨some 67, (Op.move (Operand.tmp 66)), none, false⟩, ⟨some 68, (Op.move (Operand.tmp 6)), (some (some 67, false)), false⟩, ⟨some 69, (Op.binOp BinOp.gtr 3 (Operand.tmp 68) (Operand.const (Value.int IntKind.i64 0)) 3), (some (some 67, false)), false⟩, ⟨some 70, (Op.move (Operand.tmp 69)), (some (some 67, false)), false⟩, ⟨some 71, (Op.move (Operand.tmp 5)), (some (some 70, true)), false⟩, ⟨some 72, (Op.move (Operand.tmp 6)), (some (some 70, true)), false⟩, ⟨some 73, (Op.binOp BinOp.sub 3 (Operand.tmp 72) (Operand.const (Value.int IntKind.i64 1)) 3), (some (some 70, true)), false⟩, ⟨some 74, (Op.indexAddr 35 (Operand.tmp 71) (Operand.tmp 73)), (some (some 70, true)), false⟩, ⟨some 75, (Op.load 9 (Operand.tmp 74)), (some (some 70, true)), false⟩, ⟨some 76, (Op.move (Operand.tmp 7)), (some (some 70, true)), false⟩, ⟨some 77, (Op.binOp BinOp.geq 9 (Operand.tmp 75) (Operand.tmp 76) 9), (some (some 70, true)), false⟩, ⟨some 78, (Op.pick (Operand.tmp 70) (Operand.tmp 77) (Operand.const (Value.bool false))), (some (some 67, false)), false⟩, ⟨some 79, (Op.pick (Operand.tmp 67) (Operand.const (Value.bool true)) (Operand.tmp 78)), none, false⟩, ⟨some 80, (Op.move (Operand.tmp 79)), none, false⟩, ⟨some 81, (Op.move (Operand.tmp 8)), (some (some 80, false)), false⟩, ⟨some 82, (Op.call (Call.mk (Callee.builtin Builtin.len) #[(Operand.tmp 81)] #[32])), (some (some 80, false)), false⟩, ⟨some 83, (Op.binOp BinOp.eql 3 (Operand.tmp 82) (Operand.const (Value.int IntKind.i64 0)) 3), (some (some 80, false)), false⟩, ⟨some 84, (Op.pick (Operand.tmp 80) (Operand.const (Value.bool true)) (Operand.tmp 83)), none, false⟩, ⟨some 85, (Op.move (Operand.tmp 84)), none, false⟩, ⟨some 86, (Op.move (Operand.tmp 8)), (some (some 85, false)), false⟩, ⟨some 87, (Op.move (Operand.tmp 0)), (some (some 85, false)), false⟩, ⟨some 88, (Op.move (Operand.tmp 7)), (some (some 85, false)), false⟩, ⟨some 89, (Op.call (Call.mk (Callee.value (Operand.func 17)) #[(Operand.tmp 88)] #[9])), (some (some 85, false)), false⟩, ⟨some 90, (Op.call (Call.mk (Callee.value (Operand.func 10)) #[(Operand.tmp 87), (Operand.tmp 89)] #[22, 9])), (some (some 85, false)), false⟩, ⟨some 91, (Op.call (Call.mk (Callee.value (Operand.func 9)) #[(Operand.tmp 86), (Operand.tmp 90)] #[32, 32])), (some (some 85, false)), false⟩, ⟨some 92, (Op.unOp UnOp.not 4 (Operand.tmp 91)), (some (some 85, false)), false⟩, ⟨some 93, (Op.pick (Operand.tmp 85) (Operand.const (Value.bool true)) (Operand.tmp 92)), none, false⟩]) (.cond (Operand.tmp 93) (.seq (.reg [⟨some 2, (Op.assign (Operand.const (Value.bool false))), none, false⟩]) .ret) .skip)) (.seq (.reg [⟨some 9, (Op.assign (Operand.const (Value.int IntKind.i64 0))), none, false⟩]) (.block 4 (.loop (.seq (.seq (.reg [⟨some 94, (Op.move (Operand.tmp 9)), none, false⟩, ⟨some 95, (Op.move (Operand.tmp 8)), none, false⟩, ⟨some 96, (Op.call (Call.mk (Callee.builtin Builtin.len) #[(Operand.tmp 95)] #[32])), none, false⟩, ⟨some 97, (Op.binOp BinOp.lss 3 (Operand.tmp 94) (Operand.tmp 96) 3), none, false⟩]) (.cond (Operand.tmp 97) .skip (.exit 4))) ac_styluslaw33_SeekAll_c4)))))
noncomputable def ac_styluslaw33_SeekAll : AC :=
  (.seq (.reg [⟨some 2, (Op.assign (Operand.const (Value.bool false))), none, false⟩]) (.seq (.seq (.reg [⟨some 14, (Op.move (Operand.tmp 0)), none, false⟩, ⟨some 15, (Op.call (Call.mk (Callee.builtin Builtin.len) #[(Operand.tmp 14)] #[22])), none, false⟩, ⟨some 16, (Op.binOp BinOp.gtr 3 (Operand.tmp 15) (Operand.const (Value.int IntKind.i64 300)) 3), none, false⟩]) (.cond (Operand.tmp 16) (.seq (.reg [⟨some 17, (Op.call (Call.mk (Callee.value (Operand.func 6)) #[] #[])), none, false⟩, ⟨some 2, (Op.assign (Operand.tmp 17)), none, false⟩]) .ret) .skip)) (.seq (.reg [⟨some 18, (Op.move (Operand.tmp 0)), none, false⟩, ⟨some 19, (Op.call (Call.mk (Callee.builtin Builtin.len) #[(Operand.tmp 18)] #[22])), none, false⟩, ⟨some 20, (Op.makeSlice 32 (Operand.tmp 19) (Operand.tmp 19)), none, false⟩, ⟨some 3, (Op.assign (Operand.tmp 20)), none, false⟩]) (.seq (.seq (.reg [⟨some 4, (Op.assign (Operand.const (Value.int IntKind.i64 0))), none, false⟩]) (.block 0 (.loop (.seq (.seq (.reg [⟨some 21, (Op.move (Operand.tmp 4)), none, false⟩, ⟨some 22, (Op.move (Operand.tmp 0)), none, false⟩, ⟨some 23, (Op.call (Call.mk (Callee.builtin Builtin.len) #[(Operand.tmp 22)] #[22])), none, false⟩, ⟨some 24, (Op.binOp BinOp.lss 3 (Operand.tmp 21) (Operand.tmp 23) 3), none, false⟩]) (.cond (Operand.tmp 24) .skip (.exit 0))) ac_styluslaw33_SeekAll_c1)))) (.seq (.reg [⟨some 44, (Op.move (Operand.tmp 0)), none, false⟩, ⟨some 45, (Op.call (Call.mk (Callee.value (Operand.func 13)) #[(Operand.tmp 44)] #[22])), none, false⟩, ⟨some 5, (Op.assign (Operand.tmp 45)), none, false⟩]) (.seq (.seq (.reg [⟨some 6, (Op.assign (Operand.const (Value.int IntKind.i64 0))), none, false⟩]) (.block 2 (.loop (.seq (.seq (.reg [⟨some 46, (Op.move (Operand.tmp 6)), none, false⟩, ⟨some 47, (Op.move (Operand.tmp 5)), none, false⟩, ⟨some 48, (Op.call (Call.mk (Callee.builtin Builtin.len) #[(Operand.tmp 47)] #[35])), none, false⟩, ⟨some 49, (Op.binOp BinOp.lss 3 (Operand.tmp 46) (Operand.tmp 48) 3), none, false⟩]) (.cond (Operand.tmp 49) .skip (.exit 2))) (.seq (.block 3 (.seq (.reg [⟨some 52, (Op.move (Operand.tmp 5)), none, false⟩, ⟨some 53, (Op.move (Operand.tmp 6)), none, false⟩, ⟨some 54, (Op.indexAddr 35 (Operand.tmp 52) (Operand.tmp 53)), none, false⟩, ⟨some 55, (Op.load 9 (Operand.tmp 54)), none, false⟩, ⟨some 7, (Op.assign (Operand.tmp 55)), none, false⟩]) (.seq (.reg [⟨some 56, (Op.move (Operand.tmp 0)), none, false⟩, ⟨some 57, (Op.move (Operand.tmp 7)), none, false⟩, ⟨some 58, (Op.call (Call.mk (Callee.value (Operand.func 10)) #[(Operand.tmp 56), (Operand.tmp 57)] #[22, 9])), none, false⟩, ⟨some 8, (Op.assign (Operand.tmp 58)), none, false⟩]) ac_styluslaw33_SeekAll_c3))) (.reg [⟨some 50, (Op.move (Operand.tmp 6)), none, false⟩, ⟨some 51, (Op.binOp BinOp.add 3 (Operand.tmp 50) (Operand.const (Value.int IntKind.i64 1)) 3), none, false⟩, ⟨some 6, (Op.assign (Operand.tmp 51)), none, false⟩])))))) (.seq (.seq (.reg [⟨some 13, (Op.assign (Operand.const (Value.int IntKind.i64 0))), none, false⟩]) (.block 8 (.loop (.seq (.seq (.reg [⟨some 202, (Op.move (Operand.tmp 13)), none, false⟩, ⟨some 203, (Op.move (Operand.tmp 3)), none, false⟩, ⟨some 204, (Op.call (Call.mk (Callee.builtin Builtin.len) #[(Operand.tmp 203)] #[32])), none, false⟩, ⟨some 205, (Op.binOp BinOp.lss 3 (Operand.tmp 202) (Operand.tmp 204) 3), none, false⟩]) (.cond (Operand.tmp 205) .skip (.exit 8))) (.seq (.block 9 (.seq (.reg [⟨some 208, (Op.move (Operand.tmp 3)), none, false⟩, ⟨some 209, (Op.move (Operand.tmp 13)), none, false⟩, ⟨some 210, (Op.indexAddr 32 (Operand.tmp 208) (Operand.tmp 209)), none, false⟩, ⟨some 211, (Op.load 3 (Operand.tmp 210)), none, false⟩, ⟨some 212, (Op.binOp BinOp.eql 3 (Operand.tmp 211) (Operand.const (Value.int IntKind.i64 1)) 3), none, false⟩]) (.cond (Operand.tmp 212) (.seq (.reg [⟨some 2, (Op.assign (Operand.const (Value.bool false))), none, false⟩]) .ret) .skip))) (.reg [⟨some 206, (Op.move (Operand.tmp 13)), none, false⟩, ⟨some 207, (Op.binOp BinOp.add 3 (Operand.tmp 206) (Operand.const (Value.int IntKind.i64 1)) 3), none, false⟩, ⟨some 13, (Op.assign (Operand.tmp 207)), none, false⟩])))))) (.seq (.reg [⟨some 213, (Op.call (Call.mk (Callee.value (Operand.func 6)) #[] #[])), none, false⟩, ⟨some 2, (Op.assign (Operand.tmp 213)), none, false⟩]) .ret))))))))
theorem body_styluslaw33_SeekAll : Try.f5.body = some code_styluslaw33_SeekAll := by kernel_rfl
theorem slim_styluslaw33_SeekAll : slim ann_styluslaw33_SeekAll code_styluslaw33_SeekAll = some ac_styluslaw33_SeekAll := by kernel_rfl
theorem name_styluslaw33_SeekAll : (Try.f5.name == "runtime.NumGoroutine") = false := by kernel_rfl
theorem enter_styluslaw33_SeekAll {args : List AV} {h : Hp} {Q : AE → Hp → Prop} (H : awp Try.prog tab ac_styluslaw33_SeekAll (retQ tab [(ResultVar.tmp 2)] Q) ⟨args ++ List.replicate (214 - args.length) .any, h⟩) : ACalls Try.prog 5 args h Q :=
  acalls_of tab_ok mixed Try.func5 body_styluslaw33_SeekAll name_styluslaw33_SeekAll slim_styluslaw33_SeekAll rfl Try.ntmps5 H
/-- stylus/styluslaw33.SeekAll -/
def styluslaw33_SeekAll.w (a0_ : List ApiTok) (Q : Bool → Prop) : Prop :=
  if 300 < (a0_.length : Int) then
    styluslaw33_awake.w  (fun r1 =>
      Q r1)
  else
    (0 ≤ (a0_.length : Int) ∧ (a0_.length : Int) ≤ (a0_.length : Int) ∧ 8 * (a0_.length : Int) ≤ 281474976710656) ∧
    wloop (σ := (List Int) × Int) (fun ⟨a1, a2⟩ next1 =>
      if a2 < (a0_.length : Int) then
        wcut (α := (List Int)) (fun k1 =>
          wcut (α := Bool) (fun k2 =>
            (0 ≤ a2) ∧
            ∃ v1 : ApiTok, a0_[a2.toNat]? = some v1 ∧
            if v1.Kind = 1 then
              chars_Letter.w v1.Ch (fun r2 =>
                k2 r2)
            else
              k2 false) (fun a4 =>
            if a4 = true then
              (0 ≤ a2) ∧
              ∃ v3 : Int, a1[a2.toNat]? = some v3 ∧
              k1 (a1.set a2.toNat 1)
            else
              k1 a1)) (fun a3 =>
          (I64 (a2 + 1)) ∧
          next1 (a3, a2 + 1))
      else
        seek_Index.w a0_ (fun r3 =>
          wloop (σ := (List Int) × Int) (fun ⟨a5, a6⟩ next2 =>
            if a6 < (r3.length : Int) then
              (0 ≤ a6) ∧
              ∃ v4 : ByteArray, r3[a6.toNat]? = some v4 ∧
              seek_At.w a0_ v4 (fun r4 =>
                wcut (α := Unit) (fun k3 =>
                  if v4 = (ByteArray.mk #[]) then
                    Q false
                  else
                    chars_Low.w v4 (fun r5 =>
                      if r5 = v4 then
                        if 0 < a6 then
                          (I64 (a6 - 1)) ∧
                          (0 ≤ a6 - 1) ∧
                          ∃ v5 : ByteArray, r3[(a6 - 1).toNat]? = some v5 ∧
                          if (!(Op.bytesLess v5.toList v4.toList)) = true then
                            Q false
                          else
                            if (r4.length : Int) = 0 then
                              Q false
                            else
                              styluslaw33_upper.w v4 (fun r6 =>
                                seek_At.w a0_ r6 (fun r7 =>
                                  styluslaw33_row.w r4 r7 (fun r8 =>
                                    if (!r8) = true then
                                      Q false
                                    else
                                      k3 ())))
                        else
                          if (r4.length : Int) = 0 then
                            Q false
                          else
                            styluslaw33_upper.w v4 (fun r9 =>
                              seek_At.w a0_ r9 (fun r10 =>
                                styluslaw33_row.w r4 r10 (fun r11 =>
                                  if (!r11) = true then
                                    Q false
                                  else
                                    k3 ())))
                      else
                        Q false)) (fun _ =>
                  wloop (σ := (List Int) × Int) (fun ⟨a7, a8⟩ next3 =>
                    if a8 < (r4.length : Int) then
                      wcut (α := (List Int)) (fun k4 =>
                        (0 ≤ a8) ∧
                        ∃ v6 : Int, r4[a8.toNat]? = some v6 ∧
                        (I64 (v6 + (v4.size : Int))) ∧
                        wcut (α := Unit) (fun k5 =>
                          if v6 < 0 then
                            Q false
                          else
                            if (a0_.length : Int) < v6 + (v4.size : Int) then
                              Q false
                            else
                              if 0 < a8 then
                                (I64 (a8 - 1)) ∧
                                (0 ≤ a8 - 1) ∧
                                ∃ v8 : Int, r4[(a8 - 1).toNat]? = some v8 ∧
                                if v6 ≤ v8 then
                                  Q false
                                else
                                  k5 ()
                              else
                                k5 ()) (fun _ =>
                          wloop (σ := (List Int) × Int) (fun ⟨a10, a11⟩ next4 =>
                            if a11 < v6 + (v4.size : Int) then
                              (0 ≤ a11) ∧
                              ∃ v9 : Int, a10[a11.toNat]? = some v9 ∧
                              if v9 = 1 then
                                ∃ v10 : ApiTok, a0_[a11.toNat]? = some v10 ∧
                                ∃ r12 : Int, chars_Lower.w v10.Ch (fun r' => r' = r12) ∧
                                (I64 (a11 - v6)) ∧
                                (0 ≤ a11 - v6) ∧
                                ∃ v11 : UInt8, v4[(a11 - v6).toNat]? = some v11 ∧
                                if r12 = (v11.toNat : Int) then
                                  (I64 (a11 + 1)) ∧
                                  next4 (a10.set a11.toNat 2, a11 + 1)
                                else
                                  Q false
                              else
                                Q false
                            else
                              if 0 < v6 then
                                (I64 (v6 - 1)) ∧
                                (0 ≤ v6 - 1) ∧
                                ∃ v13 : ApiTok, a0_[(v6 - 1).toNat]? = some v13 ∧
                                if v13.Kind = 1 then
                                  (I64 (v6 - 1)) ∧
                                  chars_Letter.w v13.Ch (fun r13 =>
                                    if r13 = true then
                                      Q false
                                    else
                                      if v6 + (v4.size : Int) < (a0_.length : Int) then
                                        (0 ≤ v6 + (v4.size : Int)) ∧
                                        ∃ v15 : ApiTok, a0_[(v6 + (v4.size : Int)).toNat]? = some v15 ∧
                                        if v15.Kind = 1 then
                                          chars_Letter.w v15.Ch (fun r14 =>
                                            if r14 = true then
                                              Q false
                                            else
                                              k4 a10)
                                        else
                                          k4 a10
                                      else
                                        k4 a10)
                                else
                                  if v6 + (v4.size : Int) < (a0_.length : Int) then
                                    (0 ≤ v6 + (v4.size : Int)) ∧
                                    ∃ v17 : ApiTok, a0_[(v6 + (v4.size : Int)).toNat]? = some v17 ∧
                                    if v17.Kind = 1 then
                                      chars_Letter.w v17.Ch (fun r15 =>
                                        if r15 = true then
                                          Q false
                                        else
                                          k4 a10)
                                    else
                                      k4 a10
                                  else
                                    k4 a10
                              else
                                if v6 + (v4.size : Int) < (a0_.length : Int) then
                                  (0 ≤ v6 + (v4.size : Int)) ∧
                                  ∃ v19 : ApiTok, a0_[(v6 + (v4.size : Int)).toNat]? = some v19 ∧
                                  if v19.Kind = 1 then
                                    chars_Letter.w v19.Ch (fun r16 =>
                                      if r16 = true then
                                        Q false
                                      else
                                        k4 a10)
                                  else
                                    k4 a10
                                else
                                  k4 a10) (a7, v6))) (fun a9 =>
                        (I64 (a8 + 1)) ∧
                        next3 (a9, a8 + 1))
                    else
                      (I64 (a6 + 1)) ∧
                      next2 (a7, a6 + 1)) (a5, 0)))
            else
              wloop (σ := (List Int) × Int) (fun ⟨a12, a13⟩ next5 =>
                if a13 < (a12.length : Int) then
                  (0 ≤ a13) ∧
                  ∃ v21 : Int, a12[a13.toNat]? = some v21 ∧
                  if v21 = 1 then
                    Q false
                  else
                    (I64 (a13 + 1)) ∧
                    next5 (a12, a13 + 1)
                else
                  styluslaw33_awake.w  (fun r17 =>
                    Q r17)) (a5, 0)) (a1, 0))) (List.replicate a0_.length 0, 0)
theorem styluslaw33_SeekAll.ok {a0_ : List ApiTok} {Q : Bool → Prop} (hm : styluslaw33_SeekAll.w a0_ Q) (h0 : Hp) : ACalls Try.prog n_styluslaw33_SeekAll [(.isl 3 (a0_.map ApiTok.enc))] h0 (Back h0 (fun r => (abool r)) Q) := by
  refine enter_styluslaw33_SeekAll ?_
  unfold styluslaw33_SeekAll.w at hm
  have H := AM.Own.nil h0
  simp (maxSteps := 4000000) -implicitDefEqProofs (disch := omega) only [push_cast, Nat.reduceAdd, Nat.reduceLeDiff, Nat.reduceMul, Nat.reduceSub, Nat.reduceLT, Nat.reduceEqDiff, Int.reduceAdd, Int.reduceSub, Int.reduceLE, Int.reduceLT, Int.reduceEq, Int.reduceNe, Int.reduceToNat, Int.reduceNeg, reduceIte, reduceCtorEq, ac_styluslaw33_SeekAll]
  rw [fork_cond]
  refine ⟨fun c1 => ?_, fun c1 => ?_⟩
  · replace hm := ifp hm c1
    simp (maxSteps := 4000000) -implicitDefEqProofs (disch := omega) only [push_cast, Nat.reduceAdd, Nat.reduceLeDiff, Nat.reduceMul, Nat.reduceSub, Nat.reduceLT, Nat.reduceEqDiff, Int.reduceAdd, Int.reduceSub, Int.reduceLE, Int.reduceLT, Int.reduceEq, Int.reduceNe, Int.reduceToNat, Int.reduceNeg, reduceIte, reduceCtorEq, eq_true c1]
    refine calls_w (fun h => styluslaw33_awake.ok hm h) (fun r1 hm => ?_)
    simp (maxSteps := 4000000) -implicitDefEqProofs (disch := omega) only [push_cast, Nat.reduceAdd, Nat.reduceLeDiff, Nat.reduceMul, Nat.reduceSub, Nat.reduceLT, Nat.reduceEqDiff, Int.reduceAdd, Int.reduceSub, Int.reduceLE, Int.reduceLT, Int.reduceEq, Int.reduceNe, Int.reduceToNat, Int.reduceNeg, reduceIte, reduceCtorEq, eq_true c1]
    exact retQ_back (.inl rfl) r1 _ rfl (Shift.refl _ _) H.sub hm
  · replace hm := ifn hm c1
    simp (maxSteps := 4000000) -implicitDefEqProofs (disch := omega) only [push_cast, Nat.reduceAdd, Nat.reduceLeDiff, Nat.reduceMul, Nat.reduceSub, Nat.reduceLT, Nat.reduceEqDiff, Int.reduceAdd, Int.reduceSub, Int.reduceLE, Int.reduceLT, Int.reduceEq, Int.reduceNe, Int.reduceToNat, Int.reduceNeg, reduceIte, reduceCtorEq, eq_false c1]
    obtain ⟨w1, hm⟩ := hm
    first | refine ⟨by decide, by omega, by omega, by omega, by omega, ?_⟩ | refine ⟨by omega, by omega, by omega, by omega, ?_⟩ | refine ⟨by omega, by omega, by omega, ?_⟩ | refine ⟨by omega, by omega, ?_⟩ | refine ⟨by omega, ?_⟩ | skip
    refine H.newL (E := encInt) (List.replicate a0_.length 0) (by rw [List.map_replicate]; rfl) (List.length_replicate) (fun b1 h1 H => ?_)
    simp (maxSteps := 4000000) -implicitDefEqProofs (disch := omega) only [push_cast, Nat.reduceAdd, Nat.reduceLeDiff, Nat.reduceMul, Nat.reduceSub, Nat.reduceLT, Nat.reduceEqDiff, Int.reduceAdd, Int.reduceSub, Int.reduceLE, Int.reduceLT, Int.reduceEq, Int.reduceNe, Int.reduceToNat, Int.reduceNeg, reduceIte, reduceCtorEq, eq_false c1]
    obtain ⟨inv1, mu1, hi1, hs1⟩ := hm
    replace H := H.perm [0] (by decide)
    refine awp_loop (σ := ((List Int) × Int) × AV × Hp) (fun ⟨⟨a1, a2⟩, x1, h2⟩ => ⟨(((List.replicate 214 AV.any).set 0 (.isl 3 (a0_.map ApiTok.enc))).set 3 x1).set 4 (aint a2), h2⟩) (fun ⟨⟨a1, a2⟩, x1, h2⟩ => inv1 (a1, a2) ∧ AM.Own h0 h2 [⟨x1, false, 1, a1.map encInt, some (3, 0)⟩]) (fun ⟨⟨a1, a2⟩, x1, h2⟩ => mu1 (a1, a2)) ⟨(List.replicate a0_.length 0, 0), (.osl b1 1 0 a0_.length), h1⟩ (Retell.weak (by simp [Weak, push_cast]) (Hp.sub.refl _)) ⟨hi1, H⟩ ?_
    rintro ⟨⟨a1, a2⟩, x1, h2⟩ ⟨hi1, H⟩
    have hm := hs1 _ hi1
    dsimp only at hm H ⊢
    simp (maxSteps := 4000000) -implicitDefEqProofs (disch := omega) only [push_cast, Nat.reduceAdd, Nat.reduceLeDiff, Nat.reduceMul, Nat.reduceSub, Nat.reduceLT, Nat.reduceEqDiff, Int.reduceAdd, Int.reduceSub, Int.reduceLE, Int.reduceLT, Int.reduceEq, Int.reduceNe, Int.reduceToNat, Int.reduceNeg, reduceIte, reduceCtorEq, eq_false c1]
    rw [fork_cond]
    refine ⟨fun c2 => ?_, fun c2 => ?_⟩
    · replace hm := ifp hm c2
      simp (maxSteps := 4000000) -implicitDefEqProofs (disch := omega) only [push_cast, Nat.reduceAdd, Nat.reduceLeDiff, Nat.reduceMul, Nat.reduceSub, Nat.reduceLT, Nat.reduceEqDiff, Int.reduceAdd, Int.reduceSub, Int.reduceLE, Int.reduceLT, Int.reduceEq, Int.reduceNe, Int.reduceToNat, Int.reduceNeg, reduceIte, reduceCtorEq, eq_false c1, eq_true c2]
      obtain ⟨k1, hm, hk1⟩ := wcut_elim hm
      refine awp_cut (fun s' => ∃ (a3 : List Int) (x2 : AV) (h3 : Hp), Like s'.tm ((((List.replicate 214 none).set 0 (some (.isl 3 (a0_.map ApiTok.enc)))).set 3 (some x2)).set 4 (some (aint a2))) ∧ s'.h = h3 ∧ AM.Own h0 h3 [⟨x2, false, 1, a3.map encInt, some (3, 0)⟩] ∧ k1 a3) ?_ ?_
      · simp (maxSteps := 4000000) -implicitDefEqProofs (disch := omega) only [push_cast, Nat.reduceAdd, Nat.reduceLeDiff, Nat.reduceMul, Nat.reduceSub, Nat.reduceLT, Nat.reduceEqDiff, Int.reduceAdd, Int.reduceSub, Int.reduceLE, Int.reduceLT, Int.reduceEq, Int.reduceNe, Int.reduceToNat, Int.reduceNeg, reduceIte, reduceCtorEq, eq_false c1, eq_true c2]
        obtain ⟨k2, hm, hk2⟩ := wcut_elim hm
        refine awp_cut (fun s' => ∃ (a4 : Bool) (h4 : Hp), Like s'.tm (((((List.replicate 214 none).set 0 (some (.isl 3 (a0_.map ApiTok.enc)))).set 3 (some x1)).set 4 (some (aint a2))).set 40 (some (abool a4))) ∧ s'.h = h4 ∧ AM.Own h0 h4 [⟨x1, false, 1, a1.map encInt, some (3, 0)⟩] ∧ k2 a4) ?_ ?_
        · obtain ⟨z1, hm⟩ := hm
          obtain ⟨v1, i1, hm⟩ := hm
          simp (maxSteps := 4000000) -implicitDefEqProofs (disch := omega) only [push_cast, Nat.reduceAdd, Nat.reduceLeDiff, Nat.reduceMul, Nat.reduceSub, Nat.reduceLT, Nat.reduceEqDiff, Int.reduceAdd, Int.reduceSub, Int.reduceLE, Int.reduceLT, Int.reduceEq, Int.reduceNe, Int.reduceToNat, Int.reduceNeg, reduceIte, reduceCtorEq, eq_false c1, eq_true c2, eq_true z1, i1]
          rw [gfork_cond]
          refine ⟨fun c3 => ?_, fun c3 => ?_⟩
          · replace hm := ifp hm c3
            simp (maxSteps := 4000000) -implicitDefEqProofs (disch := omega) only [push_cast, Nat.reduceAdd, Nat.reduceLeDiff, Nat.reduceMul, Nat.reduceSub, Nat.reduceLT, Nat.reduceEqDiff, Int.reduceAdd, Int.reduceSub, Int.reduceLE, Int.reduceLT, Int.reduceEq, Int.reduceNe, Int.reduceToNat, Int.reduceNeg, reduceIte, reduceCtorEq, eq_false c1, eq_true c2, eq_true z1, i1, eq_true c3]
            refine calls_w (fun h => chars_Letter.ok hm h) (fun r2 hm => ?_)
            simp (maxSteps := 4000000) -implicitDefEqProofs (disch := omega) only [push_cast, Nat.reduceAdd, Nat.reduceLeDiff, Nat.reduceMul, Nat.reduceSub, Nat.reduceLT, Nat.reduceEqDiff, Int.reduceAdd, Int.reduceSub, Int.reduceLE, Int.reduceLT, Int.reduceEq, Int.reduceNe, Int.reduceToNat, Int.reduceNeg, reduceIte, reduceCtorEq, eq_false c1, eq_true c2, eq_true z1, i1, eq_true c3]
            replace H := H.perm [0] (by decide)
            exact ⟨r2, h2, by simp [Like, push_cast], rfl, H, hm⟩
          · replace hm := ifn hm c3
            simp (maxSteps := 4000000) -implicitDefEqProofs (disch := omega) only [push_cast, Nat.reduceAdd, Nat.reduceLeDiff, Nat.reduceMul, Nat.reduceSub, Nat.reduceLT, Nat.reduceEqDiff, Int.reduceAdd, Int.reduceSub, Int.reduceLE, Int.reduceLT, Int.reduceEq, Int.reduceNe, Int.reduceToNat, Int.reduceNeg, reduceIte, reduceCtorEq, eq_false c1, eq_true c2, eq_true z1, i1, eq_false c3]
            replace H := H.perm [0] (by decide)
            exact ⟨false, h2, by simp [Like, push_cast], rfl, H, hm⟩
        · rintro ⟨tm, h4⟩ ⟨a4, _, hL, rfl, H, hm⟩
          dsimp only at hL H
          obtain ⟨D, rfl⟩ := hL.fill 0
          replace hm := hk2 _ hm
          simp (maxSteps := 4000000) -implicitDefEqProofs (disch := omega) only [push_cast, Nat.reduceAdd, Nat.reduceLeDiff, Nat.reduceMul, Nat.reduceSub, Nat.reduceLT, Nat.reduceEqDiff, Int.reduceAdd, Int.reduceSub, Int.reduceLE, Int.reduceLT, Int.reduceEq, Int.reduceNe, Int.reduceToNat, Int.reduceNeg, reduceIte, reduceCtorEq, eq_false c1, eq_true c2]
          rw [fork_bool]
          refine ⟨fun c4 => ?_, fun c4 => ?_⟩
          · replace hm := ifp hm c4
            simp (maxSteps := 4000000) -implicitDefEqProofs (disch := omega) only [push_cast, Nat.reduceAdd, Nat.reduceLeDiff, Nat.reduceMul, Nat.reduceSub, Nat.reduceLT, Nat.reduceEqDiff, Int.reduceAdd, Int.reduceSub, Int.reduceLE, Int.reduceLT, Int.reduceEq, Int.reduceNe, Int.reduceToNat, Int.reduceNeg, reduceIte, reduceCtorEq, eq_false c1, eq_true c2, c4]
            obtain ⟨z2, hm⟩ := hm
            obtain ⟨v3, i3, hm⟩ := hm
            obtain ⟨b2, o1, rfl, qb, qc, qd, qe⟩ := H.row (k := a2.toNat) (r := encInt v3) 0 rfl (by rw [List.getElem?_map, i3]; rfl)
            rw [List.length_map] at qe
            have q1 := qb
            have q2 := qc
            have q3 := qd
            have q4 := eq_true qe
            simp (maxSteps := 4000000) -implicitDefEqProofs (disch := omega) only [push_cast, Nat.reduceAdd, Nat.reduceLeDiff, Nat.reduceMul, Nat.reduceSub, Nat.reduceLT, Nat.reduceEqDiff, Int.reduceAdd, Int.reduceSub, Int.reduceLE, Int.reduceLT, Int.reduceEq, Int.reduceNe, Int.reduceToNat, Int.reduceNeg, reduceIte, reduceCtorEq, eq_false c1, eq_true c2, c4, eq_true z2, q1, q2, q3, q4]
            refine H.stL 0 1 rfl i3 rfl rfl rfl (Nat.le_of_ble_eq_true rfl) rfl (fun h5 H => ?_)
            simp (maxSteps := 4000000) -implicitDefEqProofs (disch := omega) only [push_cast, Nat.reduceAdd, Nat.reduceLeDiff, Nat.reduceMul, Nat.reduceSub, Nat.reduceLT, Nat.reduceEqDiff, Int.reduceAdd, Int.reduceSub, Int.reduceLE, Int.reduceLT, Int.reduceEq, Int.reduceNe, Int.reduceToNat, Int.reduceNeg, reduceIte, reduceCtorEq, eq_false c1, eq_true c2, c4, eq_true z2, q1, q2, q3, q4]
            replace H := H.perm [0] (by decide)
            exact ⟨a1.set a2.toNat 1, (.osl b2 1 0 (a1.map encInt).length), h5, by simp [Like, push_cast], rfl, H, hm⟩
          · replace hm := ifn hm (by rw [c4]; exact Bool.false_ne_true)
            simp (maxSteps := 4000000) -implicitDefEqProofs (disch := omega) only [push_cast, Nat.reduceAdd, Nat.reduceLeDiff, Nat.reduceMul, Nat.reduceSub, Nat.reduceLT, Nat.reduceEqDiff, Int.reduceAdd, Int.reduceSub, Int.reduceLE, Int.reduceLT, Int.reduceEq, Int.reduceNe, Int.reduceToNat, Int.reduceNeg, reduceIte, reduceCtorEq, eq_false c1, eq_true c2, c4]
            replace H := H.perm [0] (by decide)
            exact ⟨a1, x1, h4, by simp [Like, push_cast], rfl, H, hm⟩
      · rintro ⟨tm, h3⟩ ⟨a3, x2, _, hL, rfl, H, hm⟩
        dsimp only at hL H
        obtain ⟨D, rfl⟩ := hL.fill 0
        replace hm := hk1 _ hm
        obtain ⟨w2, hm⟩ := hm
        simp (maxSteps := 4000000) -implicitDefEqProofs (disch := omega) only [push_cast, Nat.reduceAdd, Nat.reduceLeDiff, Nat.reduceMul, Nat.reduceSub, Nat.reduceLT, Nat.reduceEqDiff, Int.reduceAdd, Int.reduceSub, Int.reduceLE, Int.reduceLT, Int.reduceEq, Int.reduceNe, Int.reduceToNat, Int.reduceNeg, reduceIte, reduceCtorEq, eq_false c1, eq_true c2, wrap_i64 _ w2]
        replace H := H.perm [0] (by decide)
        exact ⟨⟨(a3, a2 + 1), x2, h3⟩, hm.2, ⟨hm.1, H⟩, Retell.weak (by simp [Weak, push_cast]) (Hp.sub.refl _)⟩
    · replace hm := ifn hm c2
      simp (maxSteps := 4000000) -implicitDefEqProofs (disch := omega) only [push_cast, Nat.reduceAdd, Nat.reduceLeDiff, Nat.reduceMul, Nat.reduceSub, Nat.reduceLT, Nat.reduceEqDiff, Int.reduceAdd, Int.reduceSub, Int.reduceLE, Int.reduceLT, Int.reduceEq, Int.reduceNe, Int.reduceToNat, Int.reduceNeg, reduceIte, reduceCtorEq, eq_false c1, eq_false c2]
      refine calls_w (fun h => seek_Index.ok hm h) (fun r3 hm => ?_)
      simp (maxSteps := 4000000) -implicitDefEqProofs (disch := omega) only [push_cast, Nat.reduceAdd, Nat.reduceLeDiff, Nat.reduceMul, Nat.reduceSub, Nat.reduceLT, Nat.reduceEqDiff, Int.reduceAdd, Int.reduceSub, Int.reduceLE, Int.reduceLT, Int.reduceEq, Int.reduceNe, Int.reduceToNat, Int.reduceNeg, reduceIte, reduceCtorEq, eq_false c1, eq_false c2]
      obtain ⟨inv2, mu2, hi2, hs2⟩ := hm
      replace H := H.perm [0] (by decide)
      refine awp_loop (σ := ((List Int) × Int) × AV × Hp) (fun ⟨⟨a5, a6⟩, x3, h6⟩ => ⟨((((List.replicate 214 AV.any).set 0 (.isl 3 (a0_.map ApiTok.enc))).set 3 x3).set 5 (.isl 1 (r3.map AM.encStr))).set 6 (aint a6), h6⟩) (fun ⟨⟨a5, a6⟩, x3, h6⟩ => inv2 (a5, a6) ∧ AM.Own h0 h6 [⟨x3, false, 1, a5.map encInt, some (3, 0)⟩]) (fun ⟨⟨a5, a6⟩, x3, h6⟩ => mu2 (a5, a6)) ⟨(a1, 0), x1, h2⟩ (Retell.weak (by simp [Weak, push_cast]) (Hp.sub.refl _)) ⟨hi2, H⟩ ?_
      rintro ⟨⟨a5, a6⟩, x3, h6⟩ ⟨hi2, H⟩
      have hm := hs2 _ hi2
      dsimp only at hm H ⊢
      simp (maxSteps := 4000000) -implicitDefEqProofs (disch := omega) only [push_cast, Nat.reduceAdd, Nat.reduceLeDiff, Nat.reduceMul, Nat.reduceSub, Nat.reduceLT, Nat.reduceEqDiff, Int.reduceAdd, Int.reduceSub, Int.reduceLE, Int.reduceLT, Int.reduceEq, Int.reduceNe, Int.reduceToNat, Int.reduceNeg, reduceIte, reduceCtorEq, eq_false c1, eq_false c2]
      rw [fork_cond]
      refine ⟨fun c5 => ?_, fun c5 => ?_⟩
      · replace hm := ifp hm c5
        obtain ⟨z3, hm⟩ := hm
        obtain ⟨v4, i4, hm⟩ := hm
        simp (maxSteps := 4000000) -implicitDefEqProofs (disch := omega) only [push_cast, Nat.reduceAdd, Nat.reduceLeDiff, Nat.reduceMul, Nat.reduceSub, Nat.reduceLT, Nat.reduceEqDiff, Int.reduceAdd, Int.reduceSub, Int.reduceLE, Int.reduceLT, Int.reduceEq, Int.reduceNe, Int.reduceToNat, Int.reduceNeg, reduceIte, reduceCtorEq, eq_false c1, eq_false c2, eq_true c5, eq_true z3, i4]
        refine calls_w (fun h => seek_At.ok hm h) (fun r4 hm => ?_)
        simp (maxSteps := 4000000) -implicitDefEqProofs (disch := omega) only [push_cast, Nat.reduceAdd, Nat.reduceLeDiff, Nat.reduceMul, Nat.reduceSub, Nat.reduceLT, Nat.reduceEqDiff, Int.reduceAdd, Int.reduceSub, Int.reduceLE, Int.reduceLT, Int.reduceEq, Int.reduceNe, Int.reduceToNat, Int.reduceNeg, reduceIte, reduceCtorEq, eq_false c1, eq_false c2, eq_true c5, eq_true z3, i4]
        obtain ⟨k3, hm, hk3⟩ := wcut_elim hm
        refine awp_cut (fun s' => ∃ (h7 : Hp), Like s'.tm (((((((List.replicate 214 none).set 0 (some (.isl 3 (a0_.map ApiTok.enc)))).set 3 (some x3)).set 5 (some (.isl 1 (r3.map AM.encStr)))).set 6 (some (aint a6))).set 7 (some (astr v4))).set 8 (some (.isl 1 (r4.map encInt)))) ∧ s'.h = h7 ∧ AM.Own h0 h7 [⟨x3, false, 1, a5.map encInt, some (3, 0)⟩] ∧ k3 ()) ?_ ?_
        · simp (maxSteps := 4000000) -implicitDefEqProofs (disch := omega) only [push_cast, Nat.reduceAdd, Nat.reduceLeDiff, Nat.reduceMul, Nat.reduceSub, Nat.reduceLT, Nat.reduceEqDiff, Int.reduceAdd, Int.reduceSub, Int.reduceLE, Int.reduceLT, Int.reduceEq, Int.reduceNe, Int.reduceToNat, Int.reduceNeg, reduceIte, reduceCtorEq, eq_false c1, eq_false c2, eq_true c5, eq_true z3, i4]
          rw [gfork_cond']
          refine ⟨fun c6 => ?_, fun c6 => ?_⟩
          · replace hm := ifp hm c6
            simp (maxSteps := 4000000) -implicitDefEqProofs (disch := omega) only [push_cast, Nat.reduceAdd, Nat.reduceLeDiff, Nat.reduceMul, Nat.reduceSub, Nat.reduceLT, Nat.reduceEqDiff, Int.reduceAdd, Int.reduceSub, Int.reduceLE, Int.reduceLT, Int.reduceEq, Int.reduceNe, Int.reduceToNat, Int.reduceNeg, reduceIte, reduceCtorEq, eq_false c1, eq_false c2, eq_true c5, eq_true z3, i4, eq_true c6]
            exact retQ_back (.inl rfl) false _ rfl (Shift.refl _ _) H.sub hm
          · replace hm := ifn hm c6
            simp (maxSteps := 4000000) -implicitDefEqProofs (disch := omega) only [push_cast, Nat.reduceAdd, Nat.reduceLeDiff, Nat.reduceMul, Nat.reduceSub, Nat.reduceLT, Nat.reduceEqDiff, Int.reduceAdd, Int.reduceSub, Int.reduceLE, Int.reduceLT, Int.reduceEq, Int.reduceNe, Int.reduceToNat, Int.reduceNeg, reduceIte, reduceCtorEq, eq_false c1, eq_false c2, eq_true c5, eq_true z3, i4, eq_false c6]
            refine calls_w (fun h => chars_Low.ok hm h) (fun r5 hm => ?_)
            simp (maxSteps := 4000000) -implicitDefEqProofs (disch := omega) only [push_cast, Nat.reduceAdd, Nat.reduceLeDiff, Nat.reduceMul, Nat.reduceSub, Nat.reduceLT, Nat.reduceEqDiff, Int.reduceAdd, Int.reduceSub, Int.reduceLE, Int.reduceLT, Int.reduceEq, Int.reduceNe, Int.reduceToNat, Int.reduceNeg, reduceIte, reduceCtorEq, eq_false c1, eq_false c2, eq_true c5, eq_true z3, i4, eq_false c6]
            rw [gfork_cond']
            refine ⟨fun c7 => ?_, fun c7 => ?_⟩
            · replace hm := ifn hm c7
              simp (maxSteps := 4000000) -implicitDefEqProofs (disch := omega) only [push_cast, Nat.reduceAdd, Nat.reduceLeDiff, Nat.reduceMul, Nat.reduceSub, Nat.reduceLT, Nat.reduceEqDiff, Int.reduceAdd, Int.reduceSub, Int.reduceLE, Int.reduceLT, Int.reduceEq, Int.reduceNe, Int.reduceToNat, Int.reduceNeg, reduceIte, reduceCtorEq, eq_false c1, eq_false c2, eq_true c5, eq_true z3, i4, eq_false c6, eq_false c7]
              exact retQ_back (.inl rfl) false _ rfl (Shift.refl _ _) H.sub hm
            · replace c7 := Decidable.not_not.1 c7
              replace hm := ifp hm c7
              simp (maxSteps := 4000000) -implicitDefEqProofs (disch := omega) only [push_cast, Nat.reduceAdd, Nat.reduceLeDiff, Nat.reduceMul, Nat.reduceSub, Nat.reduceLT, Nat.reduceEqDiff, Int.reduceAdd, Int.reduceSub, Int.reduceLE, Int.reduceLT, Int.reduceEq, Int.reduceNe, Int.reduceToNat, Int.reduceNeg, reduceIte, reduceCtorEq, eq_false c1, eq_false c2, eq_true c5, eq_true z3, i4, eq_false c6, eq_true c7]
              rw [gfork_cond]
              refine ⟨fun c8 => ?_, fun c8 => ?_⟩
              · replace hm := ifp hm c8
                obtain ⟨w3, hm⟩ := hm
                obtain ⟨z4, hm⟩ := hm
                obtain ⟨v5, i5, hm⟩ := hm
                simp (maxSteps := 4000000) -implicitDefEqProofs (disch := omega) only [push_cast, Nat.reduceAdd, Nat.reduceLeDiff, Nat.reduceMul, Nat.reduceSub, Nat.reduceLT, Nat.reduceEqDiff, Int.reduceAdd, Int.reduceSub, Int.reduceLE, Int.reduceLT, Int.reduceEq, Int.reduceNe, Int.reduceToNat, Int.reduceNeg, reduceIte, reduceCtorEq, eq_false c1, eq_false c2, eq_true c5, eq_true z3, i4, eq_false c6, eq_true c7, eq_true c8, wrap_i64 _ w3, eq_true z4, i5]
                rw [gfork_bool']
                refine ⟨fun c9 => ?_, fun c9 => ?_⟩
                · replace hm := ifp hm c9
                  simp (maxSteps := 4000000) -implicitDefEqProofs (disch := omega) only [push_cast, Nat.reduceAdd, Nat.reduceLeDiff, Nat.reduceMul, Nat.reduceSub, Nat.reduceLT, Nat.reduceEqDiff, Int.reduceAdd, Int.reduceSub, Int.reduceLE, Int.reduceLT, Int.reduceEq, Int.reduceNe, Int.reduceToNat, Int.reduceNeg, reduceIte, reduceCtorEq, eq_false c1, eq_false c2, eq_true c5, eq_true z3, i4, eq_false c6, eq_true c7, eq_true c8, wrap_i64 _ w3, eq_true z4, i5, c9]
                  exact retQ_back (.inl rfl) false _ rfl (Shift.refl _ _) H.sub hm
                · replace hm := ifn hm (by rw [c9]; exact Bool.false_ne_true)
                  simp (maxSteps := 4000000) -implicitDefEqProofs (disch := omega) only [push_cast, Nat.reduceAdd, Nat.reduceLeDiff, Nat.reduceMul, Nat.reduceSub, Nat.reduceLT, Nat.reduceEqDiff, Int.reduceAdd, Int.reduceSub, Int.reduceLE, Int.reduceLT, Int.reduceEq, Int.reduceNe, Int.reduceToNat, Int.reduceNeg, reduceIte, reduceCtorEq, eq_false c1, eq_false c2, eq_true c5, eq_true z3, i4, eq_false c6, eq_true c7, eq_true c8, wrap_i64 _ w3, eq_true z4, i5, c9]
                  rw [gfork_cond']
                  refine ⟨fun c10 => ?_, fun c10 => ?_⟩
                  · replace hm := ifp hm c10
                    simp (maxSteps := 4000000) -implicitDefEqProofs (disch := omega) only [push_cast, Nat.reduceAdd, Nat.reduceLeDiff, Nat.reduceMul, Nat.reduceSub, Nat.reduceLT, Nat.reduceEqDiff, Int.reduceAdd, Int.reduceSub, Int.reduceLE, Int.reduceLT, Int.reduceEq, Int.reduceNe, Int.reduceToNat, Int.reduceNeg, reduceIte, reduceCtorEq, eq_false c1, eq_false c2, eq_true c5, eq_true z3, i4, eq_false c6, eq_true c7, eq_true c8, wrap_i64 _ w3, eq_true z4, i5, c9, eq_true c10]
                    exact retQ_back (.inl rfl) false _ rfl (Shift.refl _ _) H.sub hm
                  · replace hm := ifn hm c10
                    simp (maxSteps := 4000000) -implicitDefEqProofs (disch := omega) only [push_cast, Nat.reduceAdd, Nat.reduceLeDiff, Nat.reduceMul, Nat.reduceSub, Nat.reduceLT, Nat.reduceEqDiff, Int.reduceAdd, Int.reduceSub, Int.reduceLE, Int.reduceLT, Int.reduceEq, Int.reduceNe, Int.reduceToNat, Int.reduceNeg, reduceIte, reduceCtorEq, eq_false c1, eq_false c2, eq_true c5, eq_true z3, i4, eq_false c6, eq_true c7, eq_true c8, wrap_i64 _ w3, eq_true z4, i5, c9, eq_false c10]
                    refine calls_w (fun h => styluslaw33_upper.ok hm h) (fun r6 hm => ?_)
                    simp (maxSteps := 4000000) -implicitDefEqProofs (disch := omega) only [push_cast, Nat.reduceAdd, Nat.reduceLeDiff, Nat.reduceMul, Nat.reduceSub, Nat.reduceLT, Nat.reduceEqDiff, Int.reduceAdd, Int.reduceSub, Int.reduceLE, Int.reduceLT, Int.reduceEq, Int.reduceNe, Int.reduceToNat, Int.reduceNeg, reduceIte, reduceCtorEq, eq_false c1, eq_false c2, eq_true c5, eq_true z3, i4, eq_false c6, eq_true c7, eq_true c8, wrap_i64 _ w3, eq_true z4, i5, c9, eq_false c10]
                    refine calls_w (fun h => seek_At.ok hm h) (fun r7 hm => ?_)
                    simp (maxSteps := 4000000) -implicitDefEqProofs (disch := omega) only [push_cast, Nat.reduceAdd, Nat.reduceLeDiff, Nat.reduceMul, Nat.reduceSub, Nat.reduceLT, Nat.reduceEqDiff, Int.reduceAdd, Int.reduceSub, Int.reduceLE, Int.reduceLT, Int.reduceEq, Int.reduceNe, Int.reduceToNat, Int.reduceNeg, reduceIte, reduceCtorEq, eq_false c1, eq_false c2, eq_true c5, eq_true z3, i4, eq_false c6, eq_true c7, eq_true c8, wrap_i64 _ w3, eq_true z4, i5, c9, eq_false c10]
                    refine calls_w (fun h => styluslaw33_row.ok hm h) (fun r8 hm => ?_)
                    simp (maxSteps := 4000000) -implicitDefEqProofs (disch := omega) only [push_cast, Nat.reduceAdd, Nat.reduceLeDiff, Nat.reduceMul, Nat.reduceSub, Nat.reduceLT, Nat.reduceEqDiff, Int.reduceAdd, Int.reduceSub, Int.reduceLE, Int.reduceLT, Int.reduceEq, Int.reduceNe, Int.reduceToNat, Int.reduceNeg, reduceIte, reduceCtorEq, eq_false c1, eq_false c2, eq_true c5, eq_true z3, i4, eq_false c6, eq_true c7, eq_true c8, wrap_i64 _ w3, eq_true z4, i5, c9, eq_false c10]
                    rw [fork_bool]
                    refine ⟨fun c11 => ?_, fun c11 => ?_⟩
                    · replace hm := ifp hm c11
                      simp (maxSteps := 4000000) -implicitDefEqProofs (disch := omega) only [push_cast, Nat.reduceAdd, Nat.reduceLeDiff, Nat.reduceMul, Nat.reduceSub, Nat.reduceLT, Nat.reduceEqDiff, Int.reduceAdd, Int.reduceSub, Int.reduceLE, Int.reduceLT, Int.reduceEq, Int.reduceNe, Int.reduceToNat, Int.reduceNeg, reduceIte, reduceCtorEq, eq_false c1, eq_false c2, eq_true c5, eq_true z3, i4, eq_false c6, eq_true c7, eq_true c8, wrap_i64 _ w3, eq_true z4, i5, c9, eq_false c10, c11]
                      exact retQ_back (.inl rfl) false _ rfl (Shift.refl _ _) H.sub hm
                    · replace hm := ifn hm (by rw [c11]; exact Bool.false_ne_true)
                      simp (maxSteps := 4000000) -implicitDefEqProofs (disch := omega) only [push_cast, Nat.reduceAdd, Nat.reduceLeDiff, Nat.reduceMul, Nat.reduceSub, Nat.reduceLT, Nat.reduceEqDiff, Int.reduceAdd, Int.reduceSub, Int.reduceLE, Int.reduceLT, Int.reduceEq, Int.reduceNe, Int.reduceToNat, Int.reduceNeg, reduceIte, reduceCtorEq, eq_false c1, eq_false c2, eq_true c5, eq_true z3, i4, eq_false c6, eq_true c7, eq_true c8, wrap_i64 _ w3, eq_true z4, i5, c9, eq_false c10, c11]
                      replace H := H.perm [0] (by decide)
                      exact ⟨h6, by simp [Like, push_cast], rfl, H, hm⟩
              · replace hm := ifn hm c8
                simp (maxSteps := 4000000) -implicitDefEqProofs (disch := omega) only [push_cast, Nat.reduceAdd, Nat.reduceLeDiff, Nat.reduceMul, Nat.reduceSub, Nat.reduceLT, Nat.reduceEqDiff, Int.reduceAdd, Int.reduceSub, Int.reduceLE, Int.reduceLT, Int.reduceEq, Int.reduceNe, Int.reduceToNat, Int.reduceNeg, reduceIte, reduceCtorEq, eq_false c1, eq_false c2, eq_true c5, eq_true z3, i4, eq_false c6, eq_true c7, eq_false c8]
                rw [gfork_cond']
                refine ⟨fun c12 => ?_, fun c12 => ?_⟩
                · replace hm := ifp hm c12
                  simp (maxSteps := 4000000) -implicitDefEqProofs (disch := omega) only [push_cast, Nat.reduceAdd, Nat.reduceLeDiff, Nat.reduceMul, Nat.reduceSub, Nat.reduceLT, Nat.reduceEqDiff, Int.reduceAdd, Int.reduceSub, Int.reduceLE, Int.reduceLT, Int.reduceEq, Int.reduceNe, Int.reduceToNat, Int.reduceNeg, reduceIte, reduceCtorEq, eq_false c1, eq_false c2, eq_true c5, eq_true z3, i4, eq_false c6, eq_true c7, eq_false c8, eq_true c12]
                  exact retQ_back (.inl rfl) false _ rfl (Shift.refl _ _) H.sub hm
                · replace hm := ifn hm c12
                  simp (maxSteps := 4000000) -implicitDefEqProofs (disch := omega) only [push_cast, Nat.reduceAdd, Nat.reduceLeDiff, Nat.reduceMul, Nat.reduceSub, Nat.reduceLT, Nat.reduceEqDiff, Int.reduceAdd, Int.reduceSub, Int.reduceLE, Int.reduceLT, Int.reduceEq, Int.reduceNe, Int.reduceToNat, Int.reduceNeg, reduceIte, reduceCtorEq, eq_false c1, eq_false c2, eq_true c5, eq_true z3, i4, eq_false c6, eq_true c7, eq_false c8, eq_false c12]
                  refine calls_w (fun h => styluslaw33_upper.ok hm h) (fun r9 hm => ?_)
                  simp (maxSteps := 4000000) -implicitDefEqProofs (disch := omega) only [push_cast, Nat.reduceAdd, Nat.reduceLeDiff, Nat.reduceMul, Nat.reduceSub, Nat.reduceLT, Nat.reduceEqDiff, Int.reduceAdd, Int.reduceSub, Int.reduceLE, Int.reduceLT, Int.reduceEq, Int.reduceNe, Int.reduceToNat, Int.reduceNeg, reduceIte, reduceCtorEq, eq_false c1, eq_false c2, eq_true c5, eq_true z3, i4, eq_false c6, eq_true c7, eq_false c8, eq_false c12]
                  refine calls_w (fun h => seek_At.ok hm h) (fun r10 hm => ?_)
                  simp (maxSteps := 4000000) -implicitDefEqProofs (disch := omega) only [push_cast, Nat.reduceAdd, Nat.reduceLeDiff, Nat.reduceMul, Nat.reduceSub, Nat.reduceLT, Nat.reduceEqDiff, Int.reduceAdd, Int.reduceSub, Int.reduceLE, Int.reduceLT, Int.reduceEq, Int.reduceNe, Int.reduceToNat, Int.reduceNeg, reduceIte, reduceCtorEq, eq_false c1, eq_false c2, eq_true c5, eq_true z3, i4, eq_false c6, eq_true c7, eq_false c8, eq_false c12]
                  refine calls_w (fun h => styluslaw33_row.ok hm h) (fun r11 hm => ?_)
                  simp (maxSteps := 4000000) -implicitDefEqProofs (disch := omega) only [push_cast, Nat.reduceAdd, Nat.reduceLeDiff, Nat.reduceMul, Nat.reduceSub, Nat.reduceLT, Nat.reduceEqDiff, Int.reduceAdd, Int.reduceSub, Int.reduceLE, Int.reduceLT, Int.reduceEq, Int.reduceNe, Int.reduceToNat, Int.reduceNeg, reduceIte, reduceCtorEq, eq_false c1, eq_false c2, eq_true c5, eq_true z3, i4, eq_false c6, eq_true c7, eq_false c8, eq_false c12]
                  rw [fork_bool]
                  refine ⟨fun c13 => ?_, fun c13 => ?_⟩
                  · replace hm := ifp hm c13
                    simp (maxSteps := 4000000) -implicitDefEqProofs (disch := omega) only [push_cast, Nat.reduceAdd, Nat.reduceLeDiff, Nat.reduceMul, Nat.reduceSub, Nat.reduceLT, Nat.reduceEqDiff, Int.reduceAdd, Int.reduceSub, Int.reduceLE, Int.reduceLT, Int.reduceEq, Int.reduceNe, Int.reduceToNat, Int.reduceNeg, reduceIte, reduceCtorEq, eq_false c1, eq_false c2, eq_true c5, eq_true z3, i4, eq_false c6, eq_true c7, eq_false c8, eq_false c12, c13]
                    exact retQ_back (.inl rfl) false _ rfl (Shift.refl _ _) H.sub hm
                  · replace hm := ifn hm (by rw [c13]; exact Bool.false_ne_true)
                    simp (maxSteps := 4000000) -implicitDefEqProofs (disch := omega) only [push_cast, Nat.reduceAdd, Nat.reduceLeDiff, Nat.reduceMul, Nat.reduceSub, Nat.reduceLT, Nat.reduceEqDiff, Int.reduceAdd, Int.reduceSub, Int.reduceLE, Int.reduceLT, Int.reduceEq, Int.reduceNe, Int.reduceToNat, Int.reduceNeg, reduceIte, reduceCtorEq, eq_false c1, eq_false c2, eq_true c5, eq_true z3, i4, eq_false c6, eq_true c7, eq_false c8, eq_false c12, c13]
                    replace H := H.perm [0] (by decide)
                    exact ⟨h6, by simp [Like, push_cast], rfl, H, hm⟩
        · rintro ⟨tm, h7⟩ ⟨_, hL, rfl, H, hm⟩
          dsimp only at hL H
          obtain ⟨D, rfl⟩ := hL.fill 0
          replace hm := hk3 _ hm
          simp (maxSteps := 4000000) -implicitDefEqProofs (disch := omega) only [push_cast, Nat.reduceAdd, Nat.reduceLeDiff, Nat.reduceMul, Nat.reduceSub, Nat.reduceLT, Nat.reduceEqDiff, Int.reduceAdd, Int.reduceSub, Int.reduceLE, Int.reduceLT, Int.reduceEq, Int.reduceNe, Int.reduceToNat, Int.reduceNeg, reduceIte, reduceCtorEq, eq_false c1, eq_false c2, eq_true c5, eq_true z3, i4]
          obtain ⟨inv3, mu3, hi3, hs3⟩ := hm
          replace H := H.perm [0] (by decide)
          refine awp_loop (σ := ((List Int) × Int) × AV × Hp) (fun ⟨⟨a7, a8⟩, x4, h8⟩ => ⟨(((((((List.replicate 214 AV.any).set 0 (.isl 3 (a0_.map ApiTok.enc))).set 3 x4).set 5 (.isl 1 (r3.map AM.encStr))).set 6 (aint a6)).set 7 (astr v4)).set 8 (.isl 1 (r4.map encInt))).set 9 (aint a8), h8⟩) (fun ⟨⟨a7, a8⟩, x4, h8⟩ => inv3 (a7, a8) ∧ AM.Own h0 h8 [⟨x4, false, 1, a7.map encInt, some (3, 0)⟩]) (fun ⟨⟨a7, a8⟩, x4, h8⟩ => mu3 (a7, a8)) ⟨(a5, 0), x3, h7⟩ (Retell.weak (by simp [Weak, push_cast]) (Hp.sub.refl _)) ⟨hi3, H⟩ ?_
          rintro ⟨⟨a7, a8⟩, x4, h8⟩ ⟨hi3, H⟩
          have hm := hs3 _ hi3
          dsimp only at hm H ⊢
          simp (maxSteps := 4000000) -implicitDefEqProofs (disch := omega) only [push_cast, Nat.reduceAdd, Nat.reduceLeDiff, Nat.reduceMul, Nat.reduceSub, Nat.reduceLT, Nat.reduceEqDiff, Int.reduceAdd, Int.reduceSub, Int.reduceLE, Int.reduceLT, Int.reduceEq, Int.reduceNe, Int.reduceToNat, Int.reduceNeg, reduceIte, reduceCtorEq, eq_false c1, eq_false c2, eq_true c5, eq_true z3, i4]
          rw [fork_cond]
          refine ⟨fun c14 => ?_, fun c14 => ?_⟩
          · replace hm := ifp hm c14
            simp (maxSteps := 4000000) -implicitDefEqProofs (disch := omega) only [push_cast, Nat.reduceAdd, Nat.reduceLeDiff, Nat.reduceMul, Nat.reduceSub, Nat.reduceLT, Nat.reduceEqDiff, Int.reduceAdd, Int.reduceSub, Int.reduceLE, Int.reduceLT, Int.reduceEq, Int.reduceNe, Int.reduceToNat, Int.reduceNeg, reduceIte, reduceCtorEq, eq_false c1, eq_false c2, eq_true c5, eq_true z3, i4, eq_true c14]
            obtain ⟨k4, hm, hk4⟩ := wcut_elim hm
            refine awp_cut (fun s' => ∃ (a9 : List Int) (x5 : AV) (h9 : Hp), Like s'.tm ((((((((List.replicate 214 none).set 0 (some (.isl 3 (a0_.map ApiTok.enc)))).set 3 (some x5)).set 5 (some (.isl 1 (r3.map AM.encStr)))).set 6 (some (aint a6))).set 7 (some (astr v4))).set 8 (some (.isl 1 (r4.map encInt)))).set 9 (some (aint a8))) ∧ s'.h = h9 ∧ AM.Own h0 h9 [⟨x5, false, 1, a9.map encInt, some (3, 0)⟩] ∧ k4 a9) ?_ ?_
            · obtain ⟨z5, hm⟩ := hm
              obtain ⟨v6, i6, hm⟩ := hm
              obtain ⟨w4, hm⟩ := hm
              simp (maxSteps := 4000000) -implicitDefEqProofs (disch := omega) only [push_cast, Nat.reduceAdd, Nat.reduceLeDiff, Nat.reduceMul, Nat.reduceSub, Nat.reduceLT, Nat.reduceEqDiff, Int.reduceAdd, Int.reduceSub, Int.reduceLE, Int.reduceLT, Int.reduceEq, Int.reduceNe, Int.reduceToNat, Int.reduceNeg, reduceIte, reduceCtorEq, eq_false c1, eq_false c2, eq_true c5, eq_true z3, i4, eq_true c14, eq_true z5, i6, wrap_i64 _ w4]
              obtain ⟨k5, hm, hk5⟩ := wcut_elim hm
              refine awp_cut (fun s' => ∃ (h10 : Hp), Like s'.tm ((((((((((List.replicate 214 none).set 0 (some (.isl 3 (a0_.map ApiTok.enc)))).set 3 (some x4)).set 5 (some (.isl 1 (r3.map AM.encStr)))).set 6 (some (aint a6))).set 7 (some (astr v4))).set 8 (some (.isl 1 (r4.map encInt)))).set 9 (some (aint a8))).set 10 (some (aint v6))).set 11 (some (aint (v6 + (v4.size : Int))))) ∧ s'.h = h10 ∧ AM.Own h0 h10 [⟨x4, false, 1, a7.map encInt, some (3, 0)⟩] ∧ k5 ()) ?_ ?_
              · simp (maxSteps := 4000000) -implicitDefEqProofs (disch := omega) only [push_cast, Nat.reduceAdd, Nat.reduceLeDiff, Nat.reduceMul, Nat.reduceSub, Nat.reduceLT, Nat.reduceEqDiff, Int.reduceAdd, Int.reduceSub, Int.reduceLE, Int.reduceLT, Int.reduceEq, Int.reduceNe, Int.reduceToNat, Int.reduceNeg, reduceIte, reduceCtorEq, eq_false c1, eq_false c2, eq_true c5, eq_true z3, i4, eq_true c14, eq_true z5, i6, wrap_i64 _ w4]
                rw [gfork_cond']
                refine ⟨fun c15 => ?_, fun c15 => ?_⟩
                · replace hm := ifp hm c15
                  simp (maxSteps := 4000000) -implicitDefEqProofs (disch := omega) only [push_cast, Nat.reduceAdd, Nat.reduceLeDiff, Nat.reduceMul, Nat.reduceSub, Nat.reduceLT, Nat.reduceEqDiff, Int.reduceAdd, Int.reduceSub, Int.reduceLE, Int.reduceLT, Int.reduceEq, Int.reduceNe, Int.reduceToNat, Int.reduceNeg, reduceIte, reduceCtorEq, eq_false c1, eq_false c2, eq_true c5, eq_true z3, i4, eq_true c14, eq_true z5, i6, wrap_i64 _ w4, eq_true c15]
                  exact retQ_back (.inl rfl) false _ rfl (Shift.refl _ _) H.sub hm
                · replace hm := ifn hm c15
                  simp (maxSteps := 4000000) -implicitDefEqProofs (disch := omega) only [push_cast, Nat.reduceAdd, Nat.reduceLeDiff, Nat.reduceMul, Nat.reduceSub, Nat.reduceLT, Nat.reduceEqDiff, Int.reduceAdd, Int.reduceSub, Int.reduceLE, Int.reduceLT, Int.reduceEq, Int.reduceNe, Int.reduceToNat, Int.reduceNeg, reduceIte, reduceCtorEq, eq_false c1, eq_false c2, eq_true c5, eq_true z3, i4, eq_true c14, eq_true z5, i6, wrap_i64 _ w4, eq_false c15]
                  rw [gfork_cond']
                  refine ⟨fun c16 => ?_, fun c16 => ?_⟩
                  · replace hm := ifp hm c16
                    simp (maxSteps := 4000000) -implicitDefEqProofs (disch := omega) only [push_cast, Nat.reduceAdd, Nat.reduceLeDiff, Nat.reduceMul, Nat.reduceSub, Nat.reduceLT, Nat.reduceEqDiff, Int.reduceAdd, Int.reduceSub, Int.reduceLE, Int.reduceLT, Int.reduceEq, Int.reduceNe, Int.reduceToNat, Int.reduceNeg, reduceIte, reduceCtorEq, eq_false c1, eq_false c2, eq_true c5, eq_true z3, i4, eq_true c14, eq_true z5, i6, wrap_i64 _ w4, eq_false c15, eq_true c16]
                    exact retQ_back (.inl rfl) false _ rfl (Shift.refl _ _) H.sub hm
                  · replace hm := ifn hm c16
                    simp (maxSteps := 4000000) -implicitDefEqProofs (disch := omega) only [push_cast, Nat.reduceAdd, Nat.reduceLeDiff, Nat.reduceMul, Nat.reduceSub, Nat.reduceLT, Nat.reduceEqDiff, Int.reduceAdd, Int.reduceSub, Int.reduceLE, Int.reduceLT, Int.reduceEq, Int.reduceNe, Int.reduceToNat, Int.reduceNeg, reduceIte, reduceCtorEq, eq_false c1, eq_false c2, eq_true c5, eq_true z3, i4, eq_true c14, eq_true z5, i6, wrap_i64 _ w4, eq_false c15, eq_false c16]
                    rw [gfork_cond]
                    refine ⟨fun c17 => ?_, fun c17 => ?_⟩
                    · replace hm := ifp hm c17
                      obtain ⟨w5, hm⟩ := hm
                      obtain ⟨z6, hm⟩ := hm
                      obtain ⟨v8, i8, hm⟩ := hm
                      simp (maxSteps := 4000000) -implicitDefEqProofs (disch := omega) only [push_cast, Nat.reduceAdd, Nat.reduceLeDiff, Nat.reduceMul, Nat.reduceSub, Nat.reduceLT, Nat.reduceEqDiff, Int.reduceAdd, Int.reduceSub, Int.reduceLE, Int.reduceLT, Int.reduceEq, Int.reduceNe, Int.reduceToNat, Int.reduceNeg, reduceIte, reduceCtorEq, eq_false c1, eq_false c2, eq_true c5, eq_true z3, i4, eq_true c14, eq_true z5, i6, wrap_i64 _ w4, eq_false c15, eq_false c16, eq_true c17, wrap_i64 _ w5, eq_true z6, i8]
                      rw [fork_cond]
                      refine ⟨fun c18 => ?_, fun c18 => ?_⟩
                      · replace hm := ifp hm c18
                        simp (maxSteps := 4000000) -implicitDefEqProofs (disch := omega) only [push_cast, Nat.reduceAdd, Nat.reduceLeDiff, Nat.reduceMul, Nat.reduceSub, Nat.reduceLT, Nat.reduceEqDiff, Int.reduceAdd, Int.reduceSub, Int.reduceLE, Int.reduceLT, Int.reduceEq, Int.reduceNe, Int.reduceToNat, Int.reduceNeg, reduceIte, reduceCtorEq, eq_false c1, eq_false c2, eq_true c5, eq_true z3, i4, eq_true c14, eq_true z5, i6, wrap_i64 _ w4, eq_false c15, eq_false c16, eq_true c17, wrap_i64 _ w5, eq_true z6, i8, eq_true c18]
                        exact retQ_back (.inl rfl) false _ rfl (Shift.refl _ _) H.sub hm
                      · replace hm := ifn hm c18
                        simp (maxSteps := 4000000) -implicitDefEqProofs (disch := omega) only [push_cast, Nat.reduceAdd, Nat.reduceLeDiff, Nat.reduceMul, Nat.reduceSub, Nat.reduceLT, Nat.reduceEqDiff, Int.reduceAdd, Int.reduceSub, Int.reduceLE, Int.reduceLT, Int.reduceEq, Int.reduceNe, Int.reduceToNat, Int.reduceNeg, reduceIte, reduceCtorEq, eq_false c1, eq_false c2, eq_true c5, eq_true z3, i4, eq_true c14, eq_true z5, i6, wrap_i64 _ w4, eq_false c15, eq_false c16, eq_true c17, wrap_i64 _ w5, eq_true z6, i8, eq_false c18]
                        replace H := H.perm [0] (by decide)
                        exact ⟨h8, by simp [Like, push_cast], rfl, H, hm⟩
                    · replace hm := ifn hm c17
                      simp (maxSteps := 4000000) -implicitDefEqProofs (disch := omega) only [push_cast, Nat.reduceAdd, Nat.reduceLeDiff, Nat.reduceMul, Nat.reduceSub, Nat.reduceLT, Nat.reduceEqDiff, Int.reduceAdd, Int.reduceSub, Int.reduceLE, Int.reduceLT, Int.reduceEq, Int.reduceNe, Int.reduceToNat, Int.reduceNeg, reduceIte, reduceCtorEq, eq_false c1, eq_false c2, eq_true c5, eq_true z3, i4, eq_true c14, eq_true z5, i6, wrap_i64 _ w4, eq_false c15, eq_false c16, eq_false c17]
                      replace H := H.perm [0] (by decide)
                      exact ⟨h8, by simp [Like, push_cast], rfl, H, hm⟩
              · rintro ⟨tm, h10⟩ ⟨_, hL, rfl, H, hm⟩
                dsimp only at hL H
                obtain ⟨D, rfl⟩ := hL.fill 0
                replace hm := hk5 _ hm
                simp (maxSteps := 4000000) -implicitDefEqProofs (disch := omega) only [push_cast, Nat.reduceAdd, Nat.reduceLeDiff, Nat.reduceMul, Nat.reduceSub, Nat.reduceLT, Nat.reduceEqDiff, Int.reduceAdd, Int.reduceSub, Int.reduceLE, Int.reduceLT, Int.reduceEq, Int.reduceNe, Int.reduceToNat, Int.reduceNeg, reduceIte, reduceCtorEq, eq_false c1, eq_false c2, eq_true c5, eq_true z3, i4, eq_true c14, eq_true z5, i6, wrap_i64 _ w4]
                obtain ⟨inv4, mu4, hi4, hs4⟩ := hm
                replace H := H.perm [0] (by decide)
                refine awp_loop (σ := ((List Int) × Int) × AV × Hp) (fun ⟨⟨a10, a11⟩, x6, h11⟩ => ⟨((((((((((List.replicate 214 AV.any).set 0 (.isl 3 (a0_.map ApiTok.enc))).set 3 x6).set 5 (.isl 1 (r3.map AM.encStr))).set 6 (aint a6)).set 7 (astr v4)).set 8 (.isl 1 (r4.map encInt))).set 9 (aint a8)).set 10 (aint v6)).set 11 (aint (v6 + (v4.size : Int)))).set 12 (aint a11), h11⟩) (fun ⟨⟨a10, a11⟩, x6, h11⟩ => inv4 (a10, a11) ∧ AM.Own h0 h11 [⟨x6, false, 1, a10.map encInt, some (3, 0)⟩]) (fun ⟨⟨a10, a11⟩, x6, h11⟩ => mu4 (a10, a11)) ⟨(a7, v6), x4, h10⟩ (Retell.weak (by simp [Weak, push_cast]) (Hp.sub.refl _)) ⟨hi4, H⟩ ?_
                rintro ⟨⟨a10, a11⟩, x6, h11⟩ ⟨hi4, H⟩
                have hm := hs4 _ hi4
                dsimp only at hm H ⊢
                simp (maxSteps := 4000000) -implicitDefEqProofs (disch := omega) only [push_cast, Nat.reduceAdd, Nat.reduceLeDiff, Nat.reduceMul, Nat.reduceSub, Nat.reduceLT, Nat.reduceEqDiff, Int.reduceAdd, Int.reduceSub, Int.reduceLE, Int.reduceLT, Int.reduceEq, Int.reduceNe, Int.reduceToNat, Int.reduceNeg, reduceIte, reduceCtorEq, eq_false c1, eq_false c2, eq_true c5, eq_true z3, i4, eq_true c14, eq_true z5, i6, wrap_i64 _ w4]
                rw [fork_cond]
                refine ⟨fun c19 => ?_, fun c19 => ?_⟩
                · replace hm := ifp hm c19
                  simp (maxSteps := 4000000) -implicitDefEqProofs (disch := omega) only [push_cast, Nat.reduceAdd, Nat.reduceLeDiff, Nat.reduceMul, Nat.reduceSub, Nat.reduceLT, Nat.reduceEqDiff, Int.reduceAdd, Int.reduceSub, Int.reduceLE, Int.reduceLT, Int.reduceEq, Int.reduceNe, Int.reduceToNat, Int.reduceNeg, reduceIte, reduceCtorEq, eq_false c1, eq_false c2, eq_true c5, eq_true z3, i4, eq_true c14, eq_true z5, i6, wrap_i64 _ w4, eq_true c19]
                  obtain ⟨z7, hm⟩ := hm
                  obtain ⟨v9, i9, hm⟩ := hm
                  obtain ⟨b3, o2, rfl, qb, qc, qd, qe⟩ := H.row (k := a11.toNat) (r := encInt v9) 0 rfl (by rw [List.getElem?_map, i9]; rfl)
                  rw [List.length_map] at qe
                  have q5 := qb
                  have q6 := qc
                  have q7 := qd
                  have q8 := eq_true qe
                  simp (maxSteps := 4000000) -implicitDefEqProofs (disch := omega) only [push_cast, Nat.reduceAdd, Nat.reduceLeDiff, Nat.reduceMul, Nat.reduceSub, Nat.reduceLT, Nat.reduceEqDiff, Int.reduceAdd, Int.reduceSub, Int.reduceLE, Int.reduceLT, Int.reduceEq, Int.reduceNe, Int.reduceToNat, Int.reduceNeg, reduceIte, reduceCtorEq, eq_false c1, eq_false c2, eq_true c5, eq_true z3, i4, eq_true c14, eq_true z5, i6, wrap_i64 _ w4, eq_true c19, eq_true z7, q5, q6, q7, q8]
                  rw [gfork_cond']
                  refine ⟨fun c20 => ?_, fun c20 => ?_⟩
                  · replace hm := ifn hm c20
                    simp (maxSteps := 4000000) -implicitDefEqProofs (disch := omega) only [push_cast, Nat.reduceAdd, Nat.reduceLeDiff, Nat.reduceMul, Nat.reduceSub, Nat.reduceLT, Nat.reduceEqDiff, Int.reduceAdd, Int.reduceSub, Int.reduceLE, Int.reduceLT, Int.reduceEq, Int.reduceNe, Int.reduceToNat, Int.reduceNeg, reduceIte, reduceCtorEq, eq_false c1, eq_false c2, eq_true c5, eq_true z3, i4, eq_true c14, eq_true z5, i6, wrap_i64 _ w4, eq_true c19, eq_true z7, q5, q6, q7, q8, eq_false c20]
                    exact retQ_back (.inl rfl) false _ rfl (Shift.refl _ _) H.sub hm
                  · replace c20 := Decidable.not_not.1 c20
                    replace hm := ifp hm c20
                    obtain ⟨v10, i10, hm⟩ := hm
                    simp (maxSteps := 4000000) -implicitDefEqProofs (disch := omega) only [push_cast, Nat.reduceAdd, Nat.reduceLeDiff, Nat.reduceMul, Nat.reduceSub, Nat.reduceLT, Nat.reduceEqDiff, Int.reduceAdd, Int.reduceSub, Int.reduceLE, Int.reduceLT, Int.reduceEq, Int.reduceNe, Int.reduceToNat, Int.reduceNeg, reduceIte, reduceCtorEq, eq_false c1, eq_false c2, eq_true c5, eq_true z3, i4, eq_true c14, eq_true z5, i6, wrap_i64 _ w4, eq_true c19, eq_true z7, q5, q6, q7, q8, eq_true c20, i10]
                    obtain ⟨r12, g1, hm⟩ := hm
                    refine pures_of _ (pure_of_back (fun h => chars_Lower.ok g1 h)) ?_
                    obtain ⟨w6, hm⟩ := hm
                    obtain ⟨z8, hm⟩ := hm
                    obtain ⟨v11, i11, hm⟩ := hm
                    simp (maxSteps := 4000000) -implicitDefEqProofs (disch := omega) only [push_cast, Nat.reduceAdd, Nat.reduceLeDiff, Nat.reduceMul, Nat.reduceSub, Nat.reduceLT, Nat.reduceEqDiff, Int.reduceAdd, Int.reduceSub, Int.reduceLE, Int.reduceLT, Int.reduceEq, Int.reduceNe, Int.reduceToNat, Int.reduceNeg, reduceIte, reduceCtorEq, eq_false c1, eq_false c2, eq_true c5, eq_true z3, i4, eq_true c14, eq_true z5, i6, wrap_i64 _ w4, eq_true c19, eq_true z7, q5, q6, q7, q8, eq_true c20, i10, wrap_i64 _ w6, eq_true z8, i11]
                    rw [fork_cond]
                    refine ⟨fun c21 => ?_, fun c21 => ?_⟩
                    · replace hm := ifn hm c21
                      simp (maxSteps := 4000000) -implicitDefEqProofs (disch := omega) only [push_cast, Nat.reduceAdd, Nat.reduceLeDiff, Nat.reduceMul, Nat.reduceSub, Nat.reduceLT, Nat.reduceEqDiff, Int.reduceAdd, Int.reduceSub, Int.reduceLE, Int.reduceLT, Int.reduceEq, Int.reduceNe, Int.reduceToNat, Int.reduceNeg, reduceIte, reduceCtorEq, eq_false c1, eq_false c2, eq_true c5, eq_true z3, i4, eq_true c14, eq_true z5, i6, wrap_i64 _ w4, eq_true c19, eq_true z7, q5, q6, q7, q8, eq_true c20, i10, wrap_i64 _ w6, eq_true z8, i11, eq_false c21]
                      exact retQ_back (.inl rfl) false _ rfl (Shift.refl _ _) H.sub hm
                    · replace c21 := Decidable.not_not.1 c21
                      replace hm := ifp hm c21
                      simp (maxSteps := 4000000) -implicitDefEqProofs (disch := omega) only [push_cast, Nat.reduceAdd, Nat.reduceLeDiff, Nat.reduceMul, Nat.reduceSub, Nat.reduceLT, Nat.reduceEqDiff, Int.reduceAdd, Int.reduceSub, Int.reduceLE, Int.reduceLT, Int.reduceEq, Int.reduceNe, Int.reduceToNat, Int.reduceNeg, reduceIte, reduceCtorEq, eq_false c1, eq_false c2, eq_true c5, eq_true z3, i4, eq_true c14, eq_true z5, i6, wrap_i64 _ w4, eq_true c19, eq_true z7, q5, q6, q7, q8, eq_true c20, i10, wrap_i64 _ w6, eq_true z8, i11, eq_true c21]
                      refine H.stL 0 2 rfl i9 rfl rfl rfl (Nat.le_of_ble_eq_true rfl) rfl (fun h12 H => ?_)
                      obtain ⟨w7, hm⟩ := hm
                      simp (maxSteps := 4000000) -implicitDefEqProofs (disch := omega) only [push_cast, Nat.reduceAdd, Nat.reduceLeDiff, Nat.reduceMul, Nat.reduceSub, Nat.reduceLT, Nat.reduceEqDiff, Int.reduceAdd, Int.reduceSub, Int.reduceLE, Int.reduceLT, Int.reduceEq, Int.reduceNe, Int.reduceToNat, Int.reduceNeg, reduceIte, reduceCtorEq, eq_false c1, eq_false c2, eq_true c5, eq_true z3, i4, eq_true c14, eq_true z5, i6, wrap_i64 _ w4, eq_true c19, eq_true z7, q5, q6, q7, q8, eq_true c20, i10, wrap_i64 _ w6, eq_true z8, i11, eq_true c21, wrap_i64 _ w7]
                      replace H := H.perm [0] (by decide)
                      exact ⟨⟨(a10.set a11.toNat 2, a11 + 1), (.osl b3 1 0 (a10.map encInt).length), h12⟩, hm.2, ⟨hm.1, H⟩, Retell.weak (by simp [Weak, push_cast]) (Hp.sub.refl _)⟩
                · replace hm := ifn hm c19
                  simp (maxSteps := 4000000) -implicitDefEqProofs (disch := omega) only [push_cast, Nat.reduceAdd, Nat.reduceLeDiff, Nat.reduceMul, Nat.reduceSub, Nat.reduceLT, Nat.reduceEqDiff, Int.reduceAdd, Int.reduceSub, Int.reduceLE, Int.reduceLT, Int.reduceEq, Int.reduceNe, Int.reduceToNat, Int.reduceNeg, reduceIte, reduceCtorEq, eq_false c1, eq_false c2, eq_true c5, eq_true z3, i4, eq_true c14, eq_true z5, i6, wrap_i64 _ w4, eq_false c19]
                  rw [gfork_cond]
                  refine ⟨fun c22 => ?_, fun c22 => ?_⟩
                  · replace hm := ifp hm c22
                    obtain ⟨w8, hm⟩ := hm
                    obtain ⟨z9, hm⟩ := hm
                    obtain ⟨v13, i13, hm⟩ := hm
                    simp (maxSteps := 4000000) -implicitDefEqProofs (disch := omega) only [push_cast, Nat.reduceAdd, Nat.reduceLeDiff, Nat.reduceMul, Nat.reduceSub, Nat.reduceLT, Nat.reduceEqDiff, Int.reduceAdd, Int.reduceSub, Int.reduceLE, Int.reduceLT, Int.reduceEq, Int.reduceNe, Int.reduceToNat, Int.reduceNeg, reduceIte, reduceCtorEq, eq_false c1, eq_false c2, eq_true c5, eq_true z3, i4, eq_true c14, eq_true z5, i6, wrap_i64 _ w4, eq_false c19, eq_true c22, wrap_i64 _ w8, eq_true z9, i13]
                    rw [gfork_cond]
                    refine ⟨fun c23 => ?_, fun c23 => ?_⟩
                    · replace hm := ifp hm c23
                      obtain ⟨w9, hm⟩ := hm
                      simp (maxSteps := 4000000) -implicitDefEqProofs (disch := omega) only [push_cast, Nat.reduceAdd, Nat.reduceLeDiff, Nat.reduceMul, Nat.reduceSub, Nat.reduceLT, Nat.reduceEqDiff, Int.reduceAdd, Int.reduceSub, Int.reduceLE, Int.reduceLT, Int.reduceEq, Int.reduceNe, Int.reduceToNat, Int.reduceNeg, reduceIte, reduceCtorEq, eq_false c1, eq_false c2, eq_true c5, eq_true z3, i4, eq_true c14, eq_true z5, i6, wrap_i64 _ w4, eq_false c19, eq_true c22, wrap_i64 _ w8, eq_true z9, i13, eq_true c23, wrap_i64 _ w9]
                      refine calls_w (fun h => chars_Letter.ok hm h) (fun r13 hm => ?_)
                      simp (maxSteps := 4000000) -implicitDefEqProofs (disch := omega) only [push_cast, Nat.reduceAdd, Nat.reduceLeDiff, Nat.reduceMul, Nat.reduceSub, Nat.reduceLT, Nat.reduceEqDiff, Int.reduceAdd, Int.reduceSub, Int.reduceLE, Int.reduceLT, Int.reduceEq, Int.reduceNe, Int.reduceToNat, Int.reduceNeg, reduceIte, reduceCtorEq, eq_false c1, eq_false c2, eq_true c5, eq_true z3, i4, eq_true c14, eq_true z5, i6, wrap_i64 _ w4, eq_false c19, eq_true c22, wrap_i64 _ w8, eq_true z9, i13, eq_true c23, wrap_i64 _ w9]
                      rw [gfork_bool']
                      refine ⟨fun c24 => ?_, fun c24 => ?_⟩
                      · replace hm := ifp hm c24
                        simp (maxSteps := 4000000) -implicitDefEqProofs (disch := omega) only [push_cast, Nat.reduceAdd, Nat.reduceLeDiff, Nat.reduceMul, Nat.reduceSub, Nat.reduceLT, Nat.reduceEqDiff, Int.reduceAdd, Int.reduceSub, Int.reduceLE, Int.reduceLT, Int.reduceEq, Int.reduceNe, Int.reduceToNat, Int.reduceNeg, reduceIte, reduceCtorEq, eq_false c1, eq_false c2, eq_true c5, eq_true z3, i4, eq_true c14, eq_true z5, i6, wrap_i64 _ w4, eq_false c19, eq_true c22, wrap_i64 _ w8, eq_true z9, i13, eq_true c23, wrap_i64 _ w9, c24]
                        exact retQ_back (.inl rfl) false _ rfl (Shift.refl _ _) H.sub hm
                      · replace hm := ifn hm (by rw [c24]; exact Bool.false_ne_true)
                        simp (maxSteps := 4000000) -implicitDefEqProofs (disch := omega) only [push_cast, Nat.reduceAdd, Nat.reduceLeDiff, Nat.reduceMul, Nat.reduceSub, Nat.reduceLT, Nat.reduceEqDiff, Int.reduceAdd, Int.reduceSub, Int.reduceLE, Int.reduceLT, Int.reduceEq, Int.reduceNe, Int.reduceToNat, Int.reduceNeg, reduceIte, reduceCtorEq, eq_false c1, eq_false c2, eq_true c5, eq_true z3, i4, eq_true c14, eq_true z5, i6, wrap_i64 _ w4, eq_false c19, eq_true c22, wrap_i64 _ w8, eq_true z9, i13, eq_true c23, wrap_i64 _ w9, c24]
                        rw [gfork_cond]
                        refine ⟨fun c25 => ?_, fun c25 => ?_⟩
                        · replace hm := ifp hm c25
                          obtain ⟨z10, hm⟩ := hm
                          obtain ⟨v15, i15, hm⟩ := hm
                          simp (maxSteps := 4000000) -implicitDefEqProofs (disch := omega) only [push_cast, Nat.reduceAdd, Nat.reduceLeDiff, Nat.reduceMul, Nat.reduceSub, Nat.reduceLT, Nat.reduceEqDiff, Int.reduceAdd, Int.reduceSub, Int.reduceLE, Int.reduceLT, Int.reduceEq, Int.reduceNe, Int.reduceToNat, Int.reduceNeg, reduceIte, reduceCtorEq, eq_false c1, eq_false c2, eq_true c5, eq_true z3, i4, eq_true c14, eq_true z5, i6, wrap_i64 _ w4, eq_false c19, eq_true c22, wrap_i64 _ w8, eq_true z9, i13, eq_true c23, wrap_i64 _ w9, c24, eq_true c25, eq_true z10, i15]
                          rw [gfork_cond]
                          refine ⟨fun c26 => ?_, fun c26 => ?_⟩
                          · replace hm := ifp hm c26
                            simp (maxSteps := 4000000) -implicitDefEqProofs (disch := omega) only [push_cast, Nat.reduceAdd, Nat.reduceLeDiff, Nat.reduceMul, Nat.reduceSub, Nat.reduceLT, Nat.reduceEqDiff, Int.reduceAdd, Int.reduceSub, Int.reduceLE, Int.reduceLT, Int.reduceEq, Int.reduceNe, Int.reduceToNat, Int.reduceNeg, reduceIte, reduceCtorEq, eq_false c1, eq_false c2, eq_true c5, eq_true z3, i4, eq_true c14, eq_true z5, i6, wrap_i64 _ w4, eq_false c19, eq_true c22, wrap_i64 _ w8, eq_true z9, i13, eq_true c23, wrap_i64 _ w9, c24, eq_true c25, eq_true z10, i15, eq_true c26]
                            refine calls_w (fun h => chars_Letter.ok hm h) (fun r14 hm => ?_)
                            simp (maxSteps := 4000000) -implicitDefEqProofs (disch := omega) only [push_cast, Nat.reduceAdd, Nat.reduceLeDiff, Nat.reduceMul, Nat.reduceSub, Nat.reduceLT, Nat.reduceEqDiff, Int.reduceAdd, Int.reduceSub, Int.reduceLE, Int.reduceLT, Int.reduceEq, Int.reduceNe, Int.reduceToNat, Int.reduceNeg, reduceIte, reduceCtorEq, eq_false c1, eq_false c2, eq_true c5, eq_true z3, i4, eq_true c14, eq_true z5, i6, wrap_i64 _ w4, eq_false c19, eq_true c22, wrap_i64 _ w8, eq_true z9, i13, eq_true c23, wrap_i64 _ w9, c24, eq_true c25, eq_true z10, i15, eq_true c26]
                            rw [fork_bool]
                            refine ⟨fun c27 => ?_, fun c27 => ?_⟩
                            · replace hm := ifp hm c27
                              simp (maxSteps := 4000000) -implicitDefEqProofs (disch := omega) only [push_cast, Nat.reduceAdd, Nat.reduceLeDiff, Nat.reduceMul, Nat.reduceSub, Nat.reduceLT, Nat.reduceEqDiff, Int.reduceAdd, Int.reduceSub, Int.reduceLE, Int.reduceLT, Int.reduceEq, Int.reduceNe, Int.reduceToNat, Int.reduceNeg, reduceIte, reduceCtorEq, eq_false c1, eq_false c2, eq_true c5, eq_true z3, i4, eq_true c14, eq_true z5, i6, wrap_i64 _ w4, eq_false c19, eq_true c22, wrap_i64 _ w8, eq_true z9, i13, eq_true c23, wrap_i64 _ w9, c24, eq_true c25, eq_true z10, i15, eq_true c26, c27]
                              exact retQ_back (.inl rfl) false _ rfl (Shift.refl _ _) H.sub hm
                            · replace hm := ifn hm (by rw [c27]; exact Bool.false_ne_true)
                              simp (maxSteps := 4000000) -implicitDefEqProofs (disch := omega) only [push_cast, Nat.reduceAdd, Nat.reduceLeDiff, Nat.reduceMul, Nat.reduceSub, Nat.reduceLT, Nat.reduceEqDiff, Int.reduceAdd, Int.reduceSub, Int.reduceLE, Int.reduceLT, Int.reduceEq, Int.reduceNe, Int.reduceToNat, Int.reduceNeg, reduceIte, reduceCtorEq, eq_false c1, eq_false c2, eq_true c5, eq_true z3, i4, eq_true c14, eq_true z5, i6, wrap_i64 _ w4, eq_false c19, eq_true c22, wrap_i64 _ w8, eq_true z9, i13, eq_true c23, wrap_i64 _ w9, c24, eq_true c25, eq_true z10, i15, eq_true c26, c27]
                              replace H := H.perm [0] (by decide)
                              exact ⟨a10, x6, h11, by simp [Like, push_cast], rfl, H, hm⟩
                          · replace hm := ifn hm c26
                            simp (maxSteps := 4000000) -implicitDefEqProofs (disch := omega) only [push_cast, Nat.reduceAdd, Nat.reduceLeDiff, Nat.reduceMul, Nat.reduceSub, Nat.reduceLT, Nat.reduceEqDiff, Int.reduceAdd, Int.reduceSub, Int.reduceLE, Int.reduceLT, Int.reduceEq, Int.reduceNe, Int.reduceToNat, Int.reduceNeg, reduceIte, reduceCtorEq, eq_false c1, eq_false c2, eq_true c5, eq_true z3, i4, eq_true c14, eq_true z5, i6, wrap_i64 _ w4, eq_false c19, eq_true c22, wrap_i64 _ w8, eq_true z9, i13, eq_true c23, wrap_i64 _ w9, c24, eq_true c25, eq_true z10, i15, eq_false c26]
                            replace H := H.perm [0] (by decide)
                            exact ⟨a10, x6, h11, by simp [Like, push_cast], rfl, H, hm⟩
                        · replace hm := ifn hm c25
                          simp (maxSteps := 4000000) -implicitDefEqProofs (disch := omega) only [push_cast, Nat.reduceAdd, Nat.reduceLeDiff, Nat.reduceMul, Nat.reduceSub, Nat.reduceLT, Nat.reduceEqDiff, Int.reduceAdd, Int.reduceSub, Int.reduceLE, Int.reduceLT, Int.reduceEq, Int.reduceNe, Int.reduceToNat, Int.reduceNeg, reduceIte, reduceCtorEq, eq_false c1, eq_false c2, eq_true c5, eq_true z3, i4, eq_true c14, eq_true z5, i6, wrap_i64 _ w4, eq_false c19, eq_true c22, wrap_i64 _ w8, eq_true z9, i13, eq_true c23, wrap_i64 _ w9, c24, eq_false c25]
                          replace H := H.perm [0] (by decide)
                          exact ⟨a10, x6, h11, by simp [Like, push_cast], rfl, H, hm⟩
                    · replace hm := ifn hm c23
                      simp (maxSteps := 4000000) -implicitDefEqProofs (disch := omega) only [push_cast, Nat.reduceAdd, Nat.reduceLeDiff, Nat.reduceMul, Nat.reduceSub, Nat.reduceLT, Nat.reduceEqDiff, Int.reduceAdd, Int.reduceSub, Int.reduceLE, Int.reduceLT, Int.reduceEq, Int.reduceNe, Int.reduceToNat, Int.reduceNeg, reduceIte, reduceCtorEq, eq_false c1, eq_false c2, eq_true c5, eq_true z3, i4, eq_true c14, eq_true z5, i6, wrap_i64 _ w4, eq_false c19, eq_true c22, wrap_i64 _ w8, eq_true z9, i13, eq_false c23]
                      rw [gfork_cond]
                      refine ⟨fun c28 => ?_, fun c28 => ?_⟩
                      · replace hm := ifp hm c28
                        obtain ⟨z11, hm⟩ := hm
                        obtain ⟨v17, i17, hm⟩ := hm
                        simp (maxSteps := 4000000) -implicitDefEqProofs (disch := omega) only [push_cast, Nat.reduceAdd, Nat.reduceLeDiff, Nat.reduceMul, Nat.reduceSub, Nat.reduceLT, Nat.reduceEqDiff, Int.reduceAdd, Int.reduceSub, Int.reduceLE, Int.reduceLT, Int.reduceEq, Int.reduceNe, Int.reduceToNat, Int.reduceNeg, reduceIte, reduceCtorEq, eq_false c1, eq_false c2, eq_true c5, eq_true z3, i4, eq_true c14, eq_true z5, i6, wrap_i64 _ w4, eq_false c19, eq_true c22, wrap_i64 _ w8, eq_true z9, i13, eq_false c23, eq_true c28, eq_true z11, i17]
                        rw [gfork_cond]
                        refine ⟨fun c29 => ?_, fun c29 => ?_⟩
                        · replace hm := ifp hm c29
                          simp (maxSteps := 4000000) -implicitDefEqProofs (disch := omega) only [push_cast, Nat.reduceAdd, Nat.reduceLeDiff, Nat.reduceMul, Nat.reduceSub, Nat.reduceLT, Nat.reduceEqDiff, Int.reduceAdd, Int.reduceSub, Int.reduceLE, Int.reduceLT, Int.reduceEq, Int.reduceNe, Int.reduceToNat, Int.reduceNeg, reduceIte, reduceCtorEq, eq_false c1, eq_false c2, eq_true c5, eq_true z3, i4, eq_true c14, eq_true z5, i6, wrap_i64 _ w4, eq_false c19, eq_true c22, wrap_i64 _ w8, eq_true z9, i13, eq_false c23, eq_true c28, eq_true z11, i17, eq_true c29]
                          refine calls_w (fun h => chars_Letter.ok hm h) (fun r15 hm => ?_)
                          simp (maxSteps := 4000000) -implicitDefEqProofs (disch := omega) only [push_cast, Nat.reduceAdd, Nat.reduceLeDiff, Nat.reduceMul, Nat.reduceSub, Nat.reduceLT, Nat.reduceEqDiff, Int.reduceAdd, Int.reduceSub, Int.reduceLE, Int.reduceLT, Int.reduceEq, Int.reduceNe, Int.reduceToNat, Int.reduceNeg, reduceIte, reduceCtorEq, eq_false c1, eq_false c2, eq_true c5, eq_true z3, i4, eq_true c14, eq_true z5, i6, wrap_i64 _ w4, eq_false c19, eq_true c22, wrap_i64 _ w8, eq_true z9, i13, eq_false c23, eq_true c28, eq_true z11, i17, eq_true c29]
                          rw [fork_bool]
                          refine ⟨fun c30 => ?_, fun c30 => ?_⟩
                          · replace hm := ifp hm c30
                            simp (maxSteps := 4000000) -implicitDefEqProofs (disch := omega) only [push_cast, Nat.reduceAdd, Nat.reduceLeDiff, Nat.reduceMul, Nat.reduceSub, Nat.reduceLT, Nat.reduceEqDiff, Int.reduceAdd, Int.reduceSub, Int.reduceLE, Int.reduceLT, Int.reduceEq, Int.reduceNe, Int.reduceToNat, Int.reduceNeg, reduceIte, reduceCtorEq, eq_false c1, eq_false c2, eq_true c5, eq_true z3, i4, eq_true c14, eq_true z5, i6, wrap_i64 _ w4, eq_false c19, eq_true c22, wrap_i64 _ w8, eq_true z9, i13, eq_false c23, eq_true c28, eq_true z11, i17, eq_true c29, c30]
                            exact retQ_back (.inl rfl) false _ rfl (Shift.refl _ _) H.sub hm
                          · replace hm := ifn hm (by rw [c30]; exact Bool.false_ne_true)
                            simp (maxSteps := 4000000) -implicitDefEqProofs (disch := omega) only [push_cast, Nat.reduceAdd, Nat.reduceLeDiff, Nat.reduceMul, Nat.reduceSub, Nat.reduceLT, Nat.reduceEqDiff, Int.reduceAdd, Int.reduceSub, Int.reduceLE, Int.reduceLT, Int.reduceEq, Int.reduceNe, Int.reduceToNat, Int.reduceNeg, reduceIte, reduceCtorEq, eq_false c1, eq_false c2, eq_true c5, eq_true z3, i4, eq_true c14, eq_true z5, i6, wrap_i64 _ w4, eq_false c19, eq_true c22, wrap_i64 _ w8, eq_true z9, i13, eq_false c23, eq_true c28, eq_true z11, i17, eq_true c29, c30]
                            replace H := H.perm [0] (by decide)
                            exact ⟨a10, x6, h11, by simp [Like, push_cast], rfl, H, hm⟩
                        · replace hm := ifn hm c29
                          simp (maxSteps := 4000000) -implicitDefEqProofs (disch := omega) only [push_cast, Nat.reduceAdd, Nat.reduceLeDiff, Nat.reduceMul, Nat.reduceSub, Nat.reduceLT, Nat.reduceEqDiff, Int.reduceAdd, Int.reduceSub, Int.reduceLE, Int.reduceLT, Int.reduceEq, Int.reduceNe, Int.reduceToNat, Int.reduceNeg, reduceIte, reduceCtorEq, eq_false c1, eq_false c2, eq_true c5, eq_true z3, i4, eq_true c14, eq_true z5, i6, wrap_i64 _ w4, eq_false c19, eq_true c22, wrap_i64 _ w8, eq_true z9, i13, eq_false c23, eq_true c28, eq_true z11, i17, eq_false c29]
                          replace H := H.perm [0] (by decide)
                          exact ⟨a10, x6, h11, by simp [Like, push_cast], rfl, H, hm⟩
                      · replace hm := ifn hm c28
                        simp (maxSteps := 4000000) -implicitDefEqProofs (disch := omega) only [push_cast, Nat.reduceAdd, Nat.reduceLeDiff, Nat.reduceMul, Nat.reduceSub, Nat.reduceLT, Nat.reduceEqDiff, Int.reduceAdd, Int.reduceSub, Int.reduceLE, Int.reduceLT, Int.reduceEq, Int.reduceNe, Int.reduceToNat, Int.reduceNeg, reduceIte, reduceCtorEq, eq_false c1, eq_false c2, eq_true c5, eq_true z3, i4, eq_true c14, eq_true z5, i6, wrap_i64 _ w4, eq_false c19, eq_true c22, wrap_i64 _ w8, eq_true z9, i13, eq_false c23, eq_false c28]
                        replace H := H.perm [0] (by decide)
                        exact ⟨a10, x6, h11, by simp [Like, push_cast], rfl, H, hm⟩
                  · replace hm := ifn hm c22
                    simp (maxSteps := 4000000) -implicitDefEqProofs (disch := omega) only [push_cast, Nat.reduceAdd, Nat.reduceLeDiff, Nat.reduceMul, Nat.reduceSub, Nat.reduceLT, Nat.reduceEqDiff, Int.reduceAdd, Int.reduceSub, Int.reduceLE, Int.reduceLT, Int.reduceEq, Int.reduceNe, Int.reduceToNat, Int.reduceNeg, reduceIte, reduceCtorEq, eq_false c1, eq_false c2, eq_true c5, eq_true z3, i4, eq_true c14, eq_true z5, i6, wrap_i64 _ w4, eq_false c19, eq_false c22]
                    rw [gfork_cond]
                    refine ⟨fun c31 => ?_, fun c31 => ?_⟩
                    · replace hm := ifp hm c31
                      obtain ⟨z12, hm⟩ := hm
                      obtain ⟨v19, i19, hm⟩ := hm
                      simp (maxSteps := 4000000) -implicitDefEqProofs (disch := omega) only [push_cast, Nat.reduceAdd, Nat.reduceLeDiff, Nat.reduceMul, Nat.reduceSub, Nat.reduceLT, Nat.reduceEqDiff, Int.reduceAdd, Int.reduceSub, Int.reduceLE, Int.reduceLT, Int.reduceEq, Int.reduceNe, Int.reduceToNat, Int.reduceNeg, reduceIte, reduceCtorEq, eq_false c1, eq_false c2, eq_true c5, eq_true z3, i4, eq_true c14, eq_true z5, i6, wrap_i64 _ w4, eq_false c19, eq_false c22, eq_true c31, eq_true z12, i19]
                      rw [gfork_cond]
                      refine ⟨fun c32 => ?_, fun c32 => ?_⟩
                      · replace hm := ifp hm c32
                        simp (maxSteps := 4000000) -implicitDefEqProofs (disch := omega) only [push_cast, Nat.reduceAdd, Nat.reduceLeDiff, Nat.reduceMul, Nat.reduceSub, Nat.reduceLT, Nat.reduceEqDiff, Int.reduceAdd, Int.reduceSub, Int.reduceLE, Int.reduceLT, Int.reduceEq, Int.reduceNe, Int.reduceToNat, Int.reduceNeg, reduceIte, reduceCtorEq, eq_false c1, eq_false c2, eq_true c5, eq_true z3, i4, eq_true c14, eq_true z5, i6, wrap_i64 _ w4, eq_false c19, eq_false c22, eq_true c31, eq_true z12, i19, eq_true c32]
                        refine calls_w (fun h => chars_Letter.ok hm h) (fun r16 hm => ?_)
                        simp (maxSteps := 4000000) -implicitDefEqProofs (disch := omega) only [push_cast, Nat.reduceAdd, Nat.reduceLeDiff, Nat.reduceMul, Nat.reduceSub, Nat.reduceLT, Nat.reduceEqDiff, Int.reduceAdd, Int.reduceSub, Int.reduceLE, Int.reduceLT, Int.reduceEq, Int.reduceNe, Int.reduceToNat, Int.reduceNeg, reduceIte, reduceCtorEq, eq_false c1, eq_false c2, eq_true c5, eq_true z3, i4, eq_true c14, eq_true z5, i6, wrap_i64 _ w4, eq_false c19, eq_false c22, eq_true c31, eq_true z12, i19, eq_true c32]
                        rw [fork_bool]
                        refine ⟨fun c33 => ?_, fun c33 => ?_⟩
                        · replace hm := ifp hm c33
                          simp (maxSteps := 4000000) -implicitDefEqProofs (disch := omega) only [push_cast, Nat.reduceAdd, Nat.reduceLeDiff, Nat.reduceMul, Nat.reduceSub, Nat.reduceLT, Nat.reduceEqDiff, Int.reduceAdd, Int.reduceSub, Int.reduceLE, Int.reduceLT, Int.reduceEq, Int.reduceNe, Int.reduceToNat, Int.reduceNeg, reduceIte, reduceCtorEq, eq_false c1, eq_false c2, eq_true c5, eq_true z3, i4, eq_true c14, eq_true z5, i6, wrap_i64 _ w4, eq_false c19, eq_false c22, eq_true c31, eq_true z12, i19, eq_true c32, c33]
                          exact retQ_back (.inl rfl) false _ rfl (Shift.refl _ _) H.sub hm
                        · replace hm := ifn hm (by rw [c33]; exact Bool.false_ne_true)
                          simp (maxSteps := 4000000) -implicitDefEqProofs (disch := omega) only [push_cast, Nat.reduceAdd, Nat.reduceLeDiff, Nat.reduceMul, Nat.reduceSub, Nat.reduceLT, Nat.reduceEqDiff, Int.reduceAdd, Int.reduceSub, Int.reduceLE, Int.reduceLT, Int.reduceEq, Int.reduceNe, Int.reduceToNat, Int.reduceNeg, reduceIte, reduceCtorEq, eq_false c1, eq_false c2, eq_true c5, eq_true z3, i4, eq_true c14, eq_true z5, i6, wrap_i64 _ w4, eq_false c19, eq_false c22, eq_true c31, eq_true z12, i19, eq_true c32, c33]
                          replace H := H.perm [0] (by decide)
                          exact ⟨a10, x6, h11, by simp [Like, push_cast], rfl, H, hm⟩
                      · replace hm := ifn hm c32
                        simp (maxSteps := 4000000) -implicitDefEqProofs (disch := omega) only [push_cast, Nat.reduceAdd, Nat.reduceLeDiff, Nat.reduceMul, Nat.reduceSub, Nat.reduceLT, Nat.reduceEqDiff, Int.reduceAdd, Int.reduceSub, Int.reduceLE, Int.reduceLT, Int.reduceEq, Int.reduceNe, Int.reduceToNat, Int.reduceNeg, reduceIte, reduceCtorEq, eq_false c1, eq_false c2, eq_true c5, eq_true z3, i4, eq_true c14, eq_true z5, i6, wrap_i64 _ w4, eq_false c19, eq_false c22, eq_true c31, eq_true z12, i19, eq_false c32]
                        replace H := H.perm [0] (by decide)
                        exact ⟨a10, x6, h11, by simp [Like, push_cast], rfl, H, hm⟩
                    · replace hm := ifn hm c31
                      simp (maxSteps := 4000000) -implicitDefEqProofs (disch := omega) only [push_cast, Nat.reduceAdd, Nat.reduceLeDiff, Nat.reduceMul, Nat.reduceSub, Nat.reduceLT, Nat.reduceEqDiff, Int.reduceAdd, Int.reduceSub, Int.reduceLE, Int.reduceLT, Int.reduceEq, Int.reduceNe, Int.reduceToNat, Int.reduceNeg, reduceIte, reduceCtorEq, eq_false c1, eq_false c2, eq_true c5, eq_true z3, i4, eq_true c14, eq_true z5, i6, wrap_i64 _ w4, eq_false c19, eq_false c22, eq_false c31]
                      replace H := H.perm [0] (by decide)
                      exact ⟨a10, x6, h11, by simp [Like, push_cast], rfl, H, hm⟩
            · rintro ⟨tm, h9⟩ ⟨a9, x5, _, hL, rfl, H, hm⟩
              dsimp only at hL H
              obtain ⟨D, rfl⟩ := hL.fill 0
              replace hm := hk4 _ hm
              obtain ⟨w10, hm⟩ := hm
              simp (maxSteps := 4000000) -implicitDefEqProofs (disch := omega) only [push_cast, Nat.reduceAdd, Nat.reduceLeDiff, Nat.reduceMul, Nat.reduceSub, Nat.reduceLT, Nat.reduceEqDiff, Int.reduceAdd, Int.reduceSub, Int.reduceLE, Int.reduceLT, Int.reduceEq, Int.reduceNe, Int.reduceToNat, Int.reduceNeg, reduceIte, reduceCtorEq, eq_false c1, eq_false c2, eq_true c5, eq_true z3, i4, eq_true c14, wrap_i64 _ w10]
              replace H := H.perm [0] (by decide)
              exact ⟨⟨(a9, a8 + 1), x5, h9⟩, hm.2, ⟨hm.1, H⟩, Retell.weak (by simp [Weak, push_cast]) (Hp.sub.refl _)⟩
          · replace hm := ifn hm c14
            obtain ⟨w11, hm⟩ := hm
            simp (maxSteps := 4000000) -implicitDefEqProofs (disch := omega) only [push_cast, Nat.reduceAdd, Nat.reduceLeDiff, Nat.reduceMul, Nat.reduceSub, Nat.reduceLT, Nat.reduceEqDiff, Int.reduceAdd, Int.reduceSub, Int.reduceLE, Int.reduceLT, Int.reduceEq, Int.reduceNe, Int.reduceToNat, Int.reduceNeg, reduceIte, reduceCtorEq, eq_false c1, eq_false c2, eq_true c5, eq_true z3, i4, eq_false c14, wrap_i64 _ w11]
            replace H := H.perm [0] (by decide)
            exact ⟨⟨(a7, a6 + 1), x4, h8⟩, hm.2, ⟨hm.1, H⟩, Retell.weak (by simp [Weak, push_cast]) (Hp.sub.refl _)⟩
      · replace hm := ifn hm c5
        simp (maxSteps := 4000000) -implicitDefEqProofs (disch := omega) only [push_cast, Nat.reduceAdd, Nat.reduceLeDiff, Nat.reduceMul, Nat.reduceSub, Nat.reduceLT, Nat.reduceEqDiff, Int.reduceAdd, Int.reduceSub, Int.reduceLE, Int.reduceLT, Int.reduceEq, Int.reduceNe, Int.reduceToNat, Int.reduceNeg, reduceIte, reduceCtorEq, eq_false c1, eq_false c2, eq_false c5]
        obtain ⟨inv5, mu5, hi5, hs5⟩ := hm
        replace H := H.perm [0] (by decide)
        refine awp_loop (σ := ((List Int) × Int) × AV × Hp) (fun ⟨⟨a12, a13⟩, x7, h13⟩ => ⟨((List.replicate 214 AV.any).set 3 x7).set 13 (aint a13), h13⟩) (fun ⟨⟨a12, a13⟩, x7, h13⟩ => inv5 (a12, a13) ∧ AM.Own h0 h13 [⟨x7, false, 1, a12.map encInt, some (3, 0)⟩]) (fun ⟨⟨a12, a13⟩, x7, h13⟩ => mu5 (a12, a13)) ⟨(a5, 0), x3, h6⟩ (Retell.weak (by simp [Weak, push_cast]) (Hp.sub.refl _)) ⟨hi5, H⟩ ?_
        rintro ⟨⟨a12, a13⟩, x7, h13⟩ ⟨hi5, H⟩
        have hm := hs5 _ hi5
        dsimp only at hm H ⊢
        simp (maxSteps := 4000000) -implicitDefEqProofs (disch := omega) only [push_cast, Nat.reduceAdd, Nat.reduceLeDiff, Nat.reduceMul, Nat.reduceSub, Nat.reduceLT, Nat.reduceEqDiff, Int.reduceAdd, Int.reduceSub, Int.reduceLE, Int.reduceLT, Int.reduceEq, Int.reduceNe, Int.reduceToNat, Int.reduceNeg, reduceIte, reduceCtorEq, eq_false c1, eq_false c2, eq_false c5, H.lenE 0 rfl tab_32]
        rw [fork_cond]
        refine ⟨fun c34 => ?_, fun c34 => ?_⟩
        · replace hm := ifp hm c34
          simp (maxSteps := 4000000) -implicitDefEqProofs (disch := omega) only [push_cast, Nat.reduceAdd, Nat.reduceLeDiff, Nat.reduceMul, Nat.reduceSub, Nat.reduceLT, Nat.reduceEqDiff, Int.reduceAdd, Int.reduceSub, Int.reduceLE, Int.reduceLT, Int.reduceEq, Int.reduceNe, Int.reduceToNat, Int.reduceNeg, reduceIte, reduceCtorEq, eq_false c1, eq_false c2, eq_false c5, eq_true c34]
          obtain ⟨z13, hm⟩ := hm
          obtain ⟨v21, i21, hm⟩ := hm
          obtain ⟨b4, o3, rfl, qb, qc, qd, qe⟩ := H.row (k := a13.toNat) (r := encInt v21) 0 rfl (by rw [List.getElem?_map, i21]; rfl)
          rw [List.length_map] at qe
          have q9 := qb
          have q10 := qc
          have q11 := qd
          have q12 := eq_true qe
          simp (maxSteps := 4000000) -implicitDefEqProofs (disch := omega) only [push_cast, Nat.reduceAdd, Nat.reduceLeDiff, Nat.reduceMul, Nat.reduceSub, Nat.reduceLT, Nat.reduceEqDiff, Int.reduceAdd, Int.reduceSub, Int.reduceLE, Int.reduceLT, Int.reduceEq, Int.reduceNe, Int.reduceToNat, Int.reduceNeg, reduceIte, reduceCtorEq, eq_false c1, eq_false c2, eq_false c5, eq_true c34, eq_true z13, q9, q10, q11, q12]
          rw [fork_cond]
          refine ⟨fun c35 => ?_, fun c35 => ?_⟩
          · replace hm := ifp hm c35
            simp (maxSteps := 4000000) -implicitDefEqProofs (disch := omega) only [push_cast, Nat.reduceAdd, Nat.reduceLeDiff, Nat.reduceMul, Nat.reduceSub, Nat.reduceLT, Nat.reduceEqDiff, Int.reduceAdd, Int.reduceSub, Int.reduceLE, Int.reduceLT, Int.reduceEq, Int.reduceNe, Int.reduceToNat, Int.reduceNeg, reduceIte, reduceCtorEq, eq_false c1, eq_false c2, eq_false c5, eq_true c34, eq_true z13, q9, q10, q11, q12, eq_true c35]
            exact retQ_back (.inl rfl) false _ rfl (Shift.refl _ _) H.sub hm
          · replace hm := ifn hm c35
            obtain ⟨w12, hm⟩ := hm
            simp (maxSteps := 4000000) -implicitDefEqProofs (disch := omega) only [push_cast, Nat.reduceAdd, Nat.reduceLeDiff, Nat.reduceMul, Nat.reduceSub, Nat.reduceLT, Nat.reduceEqDiff, Int.reduceAdd, Int.reduceSub, Int.reduceLE, Int.reduceLT, Int.reduceEq, Int.reduceNe, Int.reduceToNat, Int.reduceNeg, reduceIte, reduceCtorEq, eq_false c1, eq_false c2, eq_false c5, eq_true c34, eq_true z13, q9, q10, q11, q12, eq_false c35, wrap_i64 _ w12]
            replace H := H.perm [0] (by decide)
            exact ⟨⟨(a12, a13 + 1), (.osl b4 1 0 (a12.map encInt).length), h13⟩, hm.2, ⟨hm.1, H⟩, Retell.weak (by simp [Weak, push_cast]) (Hp.sub.refl _)⟩
        · replace hm := ifn hm c34
          simp (maxSteps := 4000000) -implicitDefEqProofs (disch := omega) only [push_cast, Nat.reduceAdd, Nat.reduceLeDiff, Nat.reduceMul, Nat.reduceSub, Nat.reduceLT, Nat.reduceEqDiff, Int.reduceAdd, Int.reduceSub, Int.reduceLE, Int.reduceLT, Int.reduceEq, Int.reduceNe, Int.reduceToNat, Int.reduceNeg, reduceIte, reduceCtorEq, eq_false c1, eq_false c2, eq_false c5, eq_false c34]
          refine calls_w (fun h => styluslaw33_awake.ok hm h) (fun r17 hm => ?_)
          simp (maxSteps := 4000000) -implicitDefEqProofs (disch := omega) only [push_cast, Nat.reduceAdd, Nat.reduceLeDiff, Nat.reduceMul, Nat.reduceSub, Nat.reduceLT, Nat.reduceEqDiff, Int.reduceAdd, Int.reduceSub, Int.reduceLE, Int.reduceLT, Int.reduceEq, Int.reduceNe, Int.reduceToNat, Int.reduceNeg, reduceIte, reduceCtorEq, eq_false c1, eq_false c2, eq_false c5, eq_false c34]
          exact retQ_back (.inl rfl) r17 _ rfl (Shift.refl _ _) H.sub hm
end Go.Proofs.Ytnenodamppageaa
