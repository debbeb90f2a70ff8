/- PatchDoes: the walk, by hand where it clears. -/
import Derived.Test.YtlnjajfagildnaaDoorPdq
import Derived.Test.YtlnjajfagildnaaDoorPud
import Derived.Test.YtlnjajfagildnaaDoorWA4
namespace Go.Proofs.YtlnjajfagildnaaDoor
open Go Go.Proofs.YtlnjajfagildnaaDoor.AM
set_option maxRecDepth 100000
set_option linter.unusedSimpArgs false
set_option linter.unusedVariables false
set_option maxHeartbeats 4000000
/-! stylus/styluslaw35.PatchDoes -/
abbrev n_styluslaw35_PatchDoes : Nat := 3
noncomputable def code_styluslaw35_PatchDoes : Code := match Tryd.f3.body with | some c => c | none => .skip
def ann_styluslaw35_PatchDoes : Nat → Ann
  | 9 => { pure := [3], plan := (.op 0 (.op 1 (.op 2 (.op 3 (.op 4 (.op 5 (.op 6 (.op 7 (.op 8 (.op 9 (.op 10 (.op 11 (.op 12 (.op 13 (.op 14 (.op 15 (.op 16 (.op 17 (.op 18 (.op 19 (.op 20 (.op 21 (.op 22 (.op 23 (.op 24 (.op 25 (.op 26 .done))))))))))))))))))))))))))), ghost := false, post := false }
  | _ => {}
noncomputable def ac_styluslaw35_PatchDoes : AC :=
  (.seq (.reg [⟨some 5, (Op.box 25 (Operand.tmp 2)), none, false⟩, ⟨some 6, (Op.assign (Operand.const (Value.bool false))), none, false⟩]) (.seq (.seq (.reg [⟨some 20, (Op.move (Operand.tmp 0)), none, false⟩, ⟨some 21, (Op.call (Call.mk (Callee.value (Operand.func 5)) #[(Operand.tmp 20)] #[22])), none, false⟩, ⟨some 22, (Op.move (Operand.tmp 21)), none, false⟩, ⟨some 23, (Op.move (Operand.tmp 1)), (some (some 22, false)), false⟩, ⟨some 24, (Op.call (Call.mk (Callee.value (Operand.func 5)) #[(Operand.tmp 23)] #[22])), (some (some 22, false)), false⟩, ⟨some 25, (Op.pick (Operand.tmp 22) (Operand.const (Value.bool true)) (Operand.tmp 24)), none, false⟩, ⟨some 26, (Op.move (Operand.tmp 25)), none, false⟩, ⟨some 27, (Op.load 25 (Operand.tmp 5)), (some (some 26, false)), false⟩, ⟨some 28, (Op.call (Call.mk (Callee.value (Operand.func 6)) #[(Operand.tmp 27)] #[25])), (some (some 26, false)), false⟩, ⟨some 29, (Op.pick (Operand.tmp 26) (Operand.const (Value.bool true)) (Operand.tmp 28)), none, false⟩]) (.cond (Operand.tmp 29) (.seq (.reg [⟨some 30, (Op.call (Call.mk (Callee.value (Operand.func 7)) #[] #[])), none, false⟩, ⟨some 6, (Op.assign (Operand.tmp 30)), none, false⟩]) .ret) .skip)) (.seq (.reg [⟨some 31, (Op.move (Operand.tmp 0)), none, false⟩, ⟨some 32, (Op.call (Call.mk (Callee.value (Operand.func 8)) #[(Operand.tmp 31)] #[22])), none, false⟩, ⟨some 33, (Op.move (Operand.tmp 1)), none, false⟩, ⟨some 34, (Op.call (Call.mk (Callee.value (Operand.func 8)) #[(Operand.tmp 33)] #[22])), none, false⟩, ⟨some 7, (Op.assign (Operand.tmp 32)), none, false⟩, ⟨some 8, (Op.assign (Operand.tmp 34)), none, false⟩]) (.seq (.reg [⟨some 35, (Op.move (Operand.tmp 7)), none, false⟩, ⟨some 36, (Op.move (Operand.tmp 8)), none, false⟩, ⟨some 37, (Op.call (Call.mk (Callee.value (Operand.func 9)) #[(Operand.tmp 35), (Operand.tmp 36)] #[22, 22])), none, false⟩, ⟨some 9, (Op.alloc 25), none, false⟩, ⟨none, (Op.store 25 (Operand.tmp 9) (Operand.tmp 37)), none, false⟩]) (.seq (.reg [⟨some 39, (Op.move (Operand.tmp 7)), none, false⟩, ⟨some 40, (Op.load 25 (Operand.tmp 5)), none, false⟩, ⟨some 41, (Op.call (Call.mk (Callee.value (Operand.func 10)) #[(Operand.tmp 39), (Operand.tmp 40)] #[22, 25])), none, false⟩, ⟨some 38, (Op.move (Operand.tmp 41)), none, false⟩, ⟨some 42, (Op.extract (Operand.tmp 38) 0), none, false⟩, ⟨some 43, (Op.extract (Operand.tmp 38) 1), none, false⟩, ⟨some 10, (Op.assign (Operand.tmp 42)), none, false⟩, ⟨some 11, (Op.assign (Operand.tmp 43)), none, false⟩]) (.seq (.reg [⟨some 45, (Op.move (Operand.tmp 0)), none, false⟩, ⟨some 46, (Op.load 25 (Operand.tmp 5)), none, false⟩, ⟨some 47, (Op.call (Call.mk (Callee.value (Operand.func 11)) #[(Operand.tmp 45), (Operand.tmp 46)] #[22, 25])), none, false⟩, ⟨some 44, (Op.move (Operand.tmp 47)), none, false⟩, ⟨some 48, (Op.extract (Operand.tmp 44) 0), none, false⟩, ⟨some 49, (Op.extract (Operand.tmp 44) 1), none, false⟩, ⟨some 12, (Op.assign (Operand.tmp 48)), none, false⟩, ⟨some 13, (Op.assign (Operand.tmp 49)), none, false⟩]) (.seq (.reg [⟨some 51, (Op.load 25 (Operand.tmp 5)), none, false⟩, ⟨some 52, (Op.call (Call.mk (Callee.value (Operand.func 12)) #[(Operand.tmp 51)] #[25])), none, false⟩, ⟨some 50, (Op.move (Operand.tmp 52)), none, false⟩, ⟨some 53, (Op.extract (Operand.tmp 50) 0), none, false⟩, ⟨some 54, (Op.extract (Operand.tmp 50) 1), none, false⟩, ⟨some 14, (Op.assign (Operand.tmp 53)), none, false⟩, ⟨some 15, (Op.assign (Operand.tmp 54)), none, false⟩]) (.seq (.reg [⟨some 56, (Op.load 25 (Operand.tmp 5)), none, false⟩, ⟨some 57, (Op.call (Call.mk (Callee.value (Operand.func 13)) #[(Operand.tmp 56)] #[25])), none, false⟩, ⟨some 55, (Op.move (Operand.tmp 57)), none, false⟩, ⟨some 58, (Op.extract (Operand.tmp 55) 0), none, false⟩, ⟨some 59, (Op.extract (Operand.tmp 55) 1), none, false⟩, ⟨some 16, (Op.assign (Operand.tmp 58)), none, false⟩, ⟨some 17, (Op.assign (Operand.tmp 59)), none, false⟩]) (.seq (.seq (.draw [⟨some 60, (Op.load 25 (Operand.tmp 9)), none, false⟩, ⟨some 61, (Op.move (Operand.tmp 0)), none, false⟩, ⟨some 62, (Op.move (Operand.tmp 1)), none, false⟩, ⟨some 63, (Op.call (Call.mk (Callee.value (Operand.func 15)) #[(Operand.tmp 61), (Operand.tmp 62)] #[22, 22])), none, true⟩, ⟨some 64, (Op.call (Call.mk (Callee.value (Operand.func 14)) #[(Operand.tmp 60), (Operand.tmp 63)] #[25, 25])), none, false⟩, ⟨some 65, (Op.unOp UnOp.not 4 (Operand.tmp 64)), none, false⟩, ⟨some 66, (Op.move (Operand.tmp 65)), none, false⟩, ⟨some 67, (Op.move (Operand.tmp 11)), (some (some 66, false)), false⟩, ⟨some 68, (Op.move (Operand.tmp 13)), (some (some 66, false)), false⟩, ⟨some 69, (Op.binOp BinOp.neq 31 (Operand.tmp 67) (Operand.tmp 68) 31), (some (some 66, false)), false⟩, ⟨some 70, (Op.pick (Operand.tmp 66) (Operand.const (Value.bool true)) (Operand.tmp 69)), none, false⟩, ⟨some 71, (Op.move (Operand.tmp 70)), none, false⟩, ⟨some 72, (Op.move (Operand.tmp 10)), (some (some 71, false)), false⟩, ⟨some 73, (Op.move (Operand.tmp 12)), (some (some 71, false)), false⟩, ⟨some 74, (Op.call (Call.mk (Callee.value (Operand.func 16)) #[(Operand.tmp 72), (Operand.tmp 73)] #[22, 22])), (some (some 71, false)), false⟩, ⟨some 75, (Op.unOp UnOp.not 4 (Operand.tmp 74)), (some (some 71, false)), false⟩, ⟨some 76, (Op.pick (Operand.tmp 71) (Operand.const (Value.bool true)) (Operand.tmp 75)), none, false⟩, ⟨some 77, (Op.move (Operand.tmp 76)), none, false⟩, ⟨some 78, (Op.move (Operand.tmp 14)), (some (some 77, false)), false⟩, ⟨some 79, (Op.move (Operand.tmp 16)), (some (some 77, false)), false⟩, ⟨some 80, (Op.binOp BinOp.neq 9 (Operand.tmp 78) (Operand.tmp 79) 9), (some (some 77, false)), false⟩, ⟨some 81, (Op.pick (Operand.tmp 77) (Operand.const (Value.bool true)) (Operand.tmp 80)), none, false⟩, ⟨some 82, (Op.move (Operand.tmp 81)), none, false⟩, ⟨some 83, (Op.move (Operand.tmp 15)), (some (some 82, false)), false⟩, ⟨some 84, (Op.move (Operand.tmp 17)), (some (some 82, false)), false⟩, ⟨some 85, (Op.binOp BinOp.neq 31 (Operand.tmp 83) (Operand.tmp 84) 31), (some (some 82, false)), false⟩, ⟨some 86, (Op.pick (Operand.tmp 82) (Operand.const (Value.bool true)) (Operand.tmp 85)), none, false⟩] (.op 0 (.op 1 (.op 2 (.op 3 (.op 4 (.op 5 (.op 6 (.op 7 (.op 8 (.op 9 (.op 10 (.op 11 (.op 12 (.op 13 (.op 14 (.op 15 (.op 16 (.op 17 (.op 18 (.op 19 (.op 20 (.op 21 (.op 22 (.op 23 (.op 24 (.op 25 (.op 26 .done)))))))))))))))))))))))))))) (.cond (Operand.tmp 86) (.seq (.reg [⟨some 6, (Op.assign (Operand.const (Value.bool false))), none, false⟩]) .ret) .skip)) (.seq (.seq (.reg [⟨some 18, (Op.assign (Operand.const (Value.int IntKind.i64 0))), none, false⟩]) (.block 0 (.loop (.seq (.seq (.reg [⟨some 87, (Op.move (Operand.tmp 18)), none, false⟩, ⟨some 88, (Op.fieldAddr 25 (Operand.tmp 9) 1), none, false⟩, ⟨some 89, (Op.load 23 (Operand.tmp 88)), none, false⟩, ⟨some 90, (Op.call (Call.mk (Callee.builtin Builtin.len) #[(Operand.tmp 89)] #[23])), none, false⟩, ⟨some 91, (Op.binOp BinOp.lss 3 (Operand.tmp 87) (Operand.tmp 90) 3), none, false⟩]) (.cond (Operand.tmp 91) .skip (.exit 0))) (.seq (.block 1 (.reg [⟨some 94, (Op.fieldAddr 25 (Operand.tmp 9) 1), none, false⟩, ⟨some 95, (Op.load 23 (Operand.tmp 94)), none, false⟩, ⟨some 96, (Op.move (Operand.tmp 18)), none, false⟩, ⟨some 97, (Op.indexAddr 23 (Operand.tmp 95) (Operand.tmp 96)), none, false⟩, ⟨some 98, (Op.fieldAddr 40 (Operand.tmp 97) 1), none, false⟩, ⟨some 99, (Op.load 38 (Operand.tmp 98)), none, false⟩, ⟨none, (Op.call (Call.mk (Callee.builtin Builtin.clear) #[(Operand.tmp 99)] #[38])), none, false⟩])) (.reg [⟨some 92, (Op.move (Operand.tmp 18)), none, false⟩, ⟨some 93, (Op.binOp BinOp.add 3 (Operand.tmp 92) (Operand.const (Value.int IntKind.i64 1)) 3), none, false⟩, ⟨some 18, (Op.assign (Operand.tmp 93)), none, false⟩])))))) (.seq (.seq (.reg [⟨some 19, (Op.assign (Operand.const (Value.int IntKind.i64 0))), none, false⟩]) (.block 2 (.loop (.seq (.seq (.reg [⟨some 100, (Op.move (Operand.tmp 19)), none, false⟩, ⟨some 101, (Op.move (Operand.tmp 10)), none, false⟩, ⟨some 102, (Op.call (Call.mk (Callee.builtin Builtin.len) #[(Operand.tmp 101)] #[22])), none, false⟩, ⟨some 103, (Op.binOp BinOp.lss 3 (Operand.tmp 100) (Operand.tmp 102) 3), none, false⟩]) (.cond (Operand.tmp 103) .skip (.exit 2))) (.seq (.block 3 (.reg [⟨some 106, (Op.move (Operand.tmp 10)), none, false⟩, ⟨some 107, (Op.move (Operand.tmp 19)), none, false⟩, ⟨some 108, (Op.indexAddr 22 (Operand.tmp 106) (Operand.tmp 107)), none, false⟩, ⟨some 109, (Op.load 38 (Operand.tmp 108)), none, false⟩, ⟨none, (Op.call (Call.mk (Callee.builtin Builtin.clear) #[(Operand.tmp 109)] #[38])), none, false⟩])) (.reg [⟨some 104, (Op.move (Operand.tmp 19)), none, false⟩, ⟨some 105, (Op.binOp BinOp.add 3 (Operand.tmp 104) (Operand.const (Value.int IntKind.i64 1)) 3), none, false⟩, ⟨some 19, (Op.assign (Operand.tmp 105)), none, false⟩])))))) (.seq (.reg [⟨some 110, (Op.move (Operand.tmp 7)), none, false⟩, ⟨some 111, (Op.move (Operand.tmp 0)), none, false⟩, ⟨some 112, (Op.call (Call.mk (Callee.value (Operand.func 16)) #[(Operand.tmp 110), (Operand.tmp 111)] #[22, 22])), none, false⟩, ⟨some 113, (Op.move (Operand.tmp 112)), none, false⟩, ⟨some 114, (Op.move (Operand.tmp 8)), (some (some 113, true)), false⟩, ⟨some 115, (Op.move (Operand.tmp 1)), (some (some 113, true)), false⟩, ⟨some 116, (Op.call (Call.mk (Callee.value (Operand.func 16)) #[(Operand.tmp 114), (Operand.tmp 115)] #[22, 22])), (some (some 113, true)), false⟩, ⟨some 117, (Op.pick (Operand.tmp 113) (Operand.tmp 116) (Operand.const (Value.bool false))), none, false⟩, ⟨some 118, (Op.move (Operand.tmp 117)), none, false⟩, ⟨some 119, (Op.call (Call.mk (Callee.value (Operand.func 7)) #[] #[])), (some (some 118, true)), false⟩, ⟨some 120, (Op.pick (Operand.tmp 118) (Operand.tmp 119) (Operand.const (Value.bool false))), none, false⟩, ⟨some 6, (Op.assign (Operand.tmp 120)), none, false⟩]) .ret))))))))))))
theorem body_styluslaw35_PatchDoes : Tryd.f3.body = some code_styluslaw35_PatchDoes := by kernel_rfl
theorem slim_styluslaw35_PatchDoes : slim ann_styluslaw35_PatchDoes code_styluslaw35_PatchDoes = some ac_styluslaw35_PatchDoes := by kernel_rfl
theorem name_styluslaw35_PatchDoes : (Tryd.f3.name == "runtime.NumGoroutine") = false := by kernel_rfl
theorem enter_styluslaw35_PatchDoes {args : List AV} {h : Hp} {Q : AE → Hp → Prop} (H : awp Tryd.prog tab ac_styluslaw35_PatchDoes (retQ tab [(ResultVar.tmp 6)] Q) ⟨args ++ List.replicate (121 - args.length) .any, h⟩) : ACalls Tryd.prog 3 args h Q :=
  acalls_of tab_ok mixed Tryd.func3 body_styluslaw35_PatchDoes name_styluslaw35_PatchDoes slim_styluslaw35_PatchDoes rfl Tryd.ntmps3 H


theorem lent_rows {α : Type} {hb h hz : Hp} {its : List Itm} (H : AM.Own hb h its) (j : Nat) {x : AV} {sz : Nat} {ty : Option (Nat × Nat)} (l : List α) (hs : List AV) (pre : α → List Value) (ls : α → List ByteArray) (hl : hs.length = l.length)
    (hj : its[j]? = some ⟨x, false, sz, (l.zip hs).map (fun p => (pre p.1).map AV.val ++ [p.2]), ty⟩) (hd : ∀ p ∈ l.zip hs, Hdl hz hb (ls p.1) p.2) : Lent h x (.isl sz (l.map fun c => (pre c).map AV.val ++ [.isl 1 ((ls c).map AM.encStr)])) := by
  have hzl : (l.zip hs).length = l.length := by rw [List.length_zip]; omega
  rcases H.cases j hj with ⟨rfl, hnil⟩ | ⟨b, tl, rfl, hbb⟩
  · have : l = [] := by
      have h1 := congrArg List.length hnil
      rw [List.length_map, hzl] at h1
      exact List.length_eq_zero_iff.1 h1
    subst this
    exact Lent.nil h sz
  · have hlen : ((l.zip hs).map (fun p => (pre p.1).map AV.val ++ [p.2])).length = l.length := by rw [List.length_map, hzl]
    refine Lent.oslR hbb rfl (by rw [List.length_append]; omega) (by rw [List.length_map, hlen]) fun i r r' hi hi' => ?_
    have hil : i < l.length := by have := (List.getElem?_eq_some_iff.1 hi').1; simpa using this
    rw [List.getElem?_append_left (by omega), List.getElem?_map] at hi
    rw [List.getElem?_map] at hi'
    obtain ⟨q, hq, rfl⟩ := Option.map_eq_some_iff.1 hi
    obtain ⟨c, hc, rfl⟩ := Option.map_eq_some_iff.1 hi'
    have hq1 : q.1 = c := by
      have := List.getElem?_zip_eq_some.1 hq
      rw [hc] at this; exact (Option.some.inj this.1).symm
    subst hq1
    refine ⟨by simp, fun k y y' hy hy' => ?_⟩
    rcases Nat.lt_or_ge k (pre q.1).length with hk | hk
    · rw [List.getElem?_append_left (by simpa using hk)] at hy hy'
      rw [hy] at hy'; cases hy'
      exact Lent.refl h y
    · rw [List.getElem?_append_right (by simpa using hk)] at hy hy'
      have hk' : k = (pre q.1).length := by
        have := (List.getElem?_eq_some_iff.1 hy).1
        simp at this; omega
      subst hk'
      simp at hy hy'
      subst hy hy'
      exact (hd q (List.mem_of_getElem? hq)).lent H.sub
theorem runD_bounds (was : List (List ByteArray)) (hw : ∀ v ∈ was, v.length ≤ 60) : ∀ (k : Nat) (cs : List ApiChange) (out o : List (List ByteArray)), (∀ c ∈ cs, c.Lines.length ≤ 60) → (∀ v ∈ out, v.length ≤ 60) → runD was k cs out = some o → o.length = out.length + k ∧ ∀ v ∈ o, v.length ≤ 60
  | 0, [], out, o, _, ho, h => by simp [runD] at h; subst h; exact ⟨rfl, ho⟩
  | 0, _ :: _, out, o, _, _, h => by simp [runD] at h
  | k + 1, [], out, o, hc, ho, h => by
    unfold runD at h
    obtain ⟨l, hl, h⟩ := Option.bind_eq_some_iff.1 h
    have := runD_bounds was hw k [] _ o hc (fun v hv => by
      rcases List.mem_append.1 hv with hv | hv
      · exact ho v hv
      · rw [List.mem_singleton] at hv; subst hv; exact hw _ (List.mem_of_getElem? hl)) h
    rw [List.length_append, List.length_singleton] at this
    exact ⟨by omega, this.2⟩
  | k + 1, c :: cs, out, o, hc, ho, h => by
    unfold runD at h
    split at h
    · have := runD_bounds was hw k cs _ o (fun d hd => hc d (List.mem_cons_of_mem _ hd)) (fun v hv => by
        rcases List.mem_append.1 hv with hv | hv
        · exact ho v hv
        · rw [List.mem_singleton] at hv; subst hv; exact hc c (by simp)) h
      rw [List.length_append, List.length_singleton] at this
      exact ⟨by omega, this.2⟩
    · obtain ⟨l, hl, h⟩ := Option.bind_eq_some_iff.1 h
      have := runD_bounds was hw k (c :: cs) _ o hc (fun v hv => by
        rcases List.mem_append.1 hv with hv | hv
        · exact ho v hv
        · rw [List.mem_singleton] at hv; subst hv; exact hw _ (List.mem_of_getElem? hl)) h
      rw [List.length_append, List.length_singleton] at this
      exact ⟨by omega, this.2⟩
theorem doP_bounds (was : List (List ByteArray)) (p : ApiPatch) (h0 : was.length ≤ 60) (hw : ∀ v ∈ was, v.length ≤ 60) (h1 : p.Changes.length ≤ 60) (hc : ∀ c ∈ p.Changes, c.Lines.length ≤ 60) : (resD (doP was p)).1.length ≤ 120 ∧ ∀ v ∈ (resD (doP was p)).1, v.length ≤ 60 := by
  cases e : doP was p with
  | none => simp [resD]
  | some o =>
    unfold doP at e
    split at e
    · cases e
    · rename_i c
      have := runD_bounds was hw _ _ _ o hc (by simp) e
      simp only [resD, List.length_nil] at this ⊢
      exact ⟨by omega, this.2⟩
theorem noN_str (l : List ByteArray) : noNss (l.map AM.encStr) = true := noNss_map (fun s => rfl) l
theorem noN_lines (l : List (List ByteArray)) : noNss (l.map (encSl 1 AM.encStr)) = true := noNss_map (fun l => by simp only [encSl, noNs, noN, noN_str, Bool.and_self]) l
theorem noN_chg (l : List ApiChange) : noNss (l.map ApiChange.enc) = true := noNss_map (fun c => by simp only [ApiChange.enc, aint, noNs, noN, noN_str, Bool.and_self]) l
theorem Of_okO {a0_ : List (List ByteArray)} {a1_ : List (List ByteArray)} {Q : ApiPatch → Prop} (hm : patch_Of.w a0_ a1_ Q) (h0 : Hp) : ACalls Tryd.prog n_patch_Of [(.isl 1 (a0_.map (encSl 1 AM.encStr))), (.isl 1 (a1_.map (encSl 1 AM.encStr)))] h0 (fun e h' => ∃ (r : ApiPatch) (x : AV) (hs : List AV) (h1 : Hp), e = .ret (.agg [aint r.Pages, x]) ∧ hs.length = r.Changes.length ∧ h0.sub h1 ∧ (∀ p ∈ r.Changes.zip hs, Hdl h0 h1 p.1.Lines p.2) ∧
      AM.Own h1 h' [⟨x, false, 2, (r.Changes.zip hs).map (fun p => [aint p.1.Page, p.2]), some (40, 0)⟩] ∧ Q r) :=
  own_of_fresh (P := Tryd.prog) (n := n_patch_Of) (sz := 2) (fun c : ApiChange => [.int .i64 c.Page]) ApiChange.Lines (E := changeN) (fun x => rfl) (wr := fun (r : ApiPatch) x => .agg [aint r.Pages, x])
    (fun r x g g' v hx hv => by
      simp only [VR, CellsAt] at hv ⊢
      obtain ⟨vs, e, ⟨c0, ⟨u, u1, u2, u3⟩, c2⟩, hl⟩ := hv
      exact ⟨vs, e, ⟨by simpa [aint, VR] using c0, ⟨u, u1, u2, hx u u3⟩, c2⟩, hl⟩) (rs := ApiPatch.Changes)
    (by simp only [noNs, noN, noN_lines, Bool.and_self])
    (fun h => patch_Of.okN hm h) h0
theorem Do_okO {a0_ : List (List ByteArray)} {a1_ : ApiPatch} {Q : List (List ByteArray) × Int → Prop} (hm : patch_Do.w a0_ a1_ Q) (h0 : Hp) : ACalls Tryd.prog n_patch_Do [(.isl 1 (a0_.map (encSl 1 AM.encStr))), (.agg (ApiPatch.enc a1_))] h0 (fun e h' => ∃ (r : List (List ByteArray) × Int) (x : AV) (hs : List AV) (h1 : Hp), e = .ret (.tup [x, aint r.2]) ∧ hs.length = r.1.length ∧ h0.sub h1 ∧ (∀ p ∈ r.1.zip hs, Hdl h0 h1 p.1 p.2) ∧
      AM.Own h1 h' [⟨x, false, 1, (r.1.zip hs).map (fun p => [p.2]), some (38, 0)⟩] ∧ Q r) :=
  own_of_fresh (P := Tryd.prog) (n := n_patch_Do) (sz := 1) (fun c : List ByteArray => []) id (E := linesN) (fun x => rfl) (wr := fun (r : List (List ByteArray) × Int) x => .tup [x, aint r.2])
    (fun r x g g' v hx hv => by
      simp only [VR] at hv ⊢
      obtain ⟨vs, e, h1⟩ := hv
      refine ⟨vs, e, ?_⟩
      match q : vs.toList, h1 with
      | [u, t], h1 => simp only [VRs, aint, VR, and_true] at h1 ⊢; exact ⟨hx u h1.1, h1.2⟩
      | [], h1 => simp [VRs] at h1
      | [_], h1 => simp [VRs] at h1
      | _ :: _ :: _ :: _, h1 => simp [VRs] at h1) (rs := fun r => r.1)
    (by simp only [noNs, noN, ApiPatch.enc, aint, noN_lines, noN_chg, Bool.and_self])
    (fun h => patch_Do.okN hm h) h0

theorem PatchDoes_ok (a b : List (List ByteArray)) (p : ApiPatch) (ha : a.length ≤ big) (ha2 : ∀ v ∈ a, v.length ≤ big) (hb : b.length ≤ big) (hb2 : ∀ v ∈ b, v.length ≤ big) (hp : p.Changes.length ≤ big) (hp2 : ∀ c ∈ p.Changes, c.Lines.length ≤ big) :
    ACalls Tryd.prog n_styluslaw35_PatchDoes [(.isl 1 (a.map (encSl 1 AM.encStr))), (.isl 1 (b.map (encSl 1 AM.encStr))), (.agg (ApiPatch.enc p))] Hp.nil (fun e h' => e = .ret (abool true)) := by
  refine enter_styluslaw35_PatchDoes ?_
  have H := AM.Own.nil Hp.nil
  simp (maxSteps := 4000000) -implicitDefEqProofs (disch := omega) only [push_cast, Nat.reduceAdd, Nat.reduceLeDiff, Nat.reduceMul, Nat.reduceSub, Nat.reduceLT, Nat.reduceEqDiff, Int.reduceAdd, Int.reduceSub, Int.reduceLE, Int.reduceLT, Int.reduceEq, Int.reduceNe, Int.reduceToNat, Int.reduceNeg, reduceIte, reduceCtorEq, ac_styluslaw35_PatchDoes]
  refine H.newR (ApiPatch.enc p) rfl (fun b1 h1 H => ?_)
  have e0 := H.getP 0 rfl
  simp (maxSteps := 4000000) -implicitDefEqProofs (disch := omega) only [push_cast, Nat.reduceAdd, Nat.reduceLeDiff, Nat.reduceMul, Nat.reduceSub, Nat.reduceLT, Nat.reduceEqDiff, Int.reduceAdd, Int.reduceSub, Int.reduceLE, Int.reduceLT, Int.reduceEq, Int.reduceNe, Int.reduceToNat, Int.reduceNeg, reduceIte, reduceCtorEq, e0]
  refine calls_w (fun h => styluslaw35_long.ok (long2_w a ha ha2 (Q := fun r => r = false → a.length ≤ 60 ∧ ∀ v ∈ a, v.length ≤ 60 ∧ ∀ x ∈ v, x.size ≤ 200) (fun r hr => hr)) h) (fun r1 q1 => ?_)
  simp (maxSteps := 4000000) -implicitDefEqProofs (disch := omega) only [push_cast, Nat.reduceAdd, Nat.reduceLeDiff, Nat.reduceMul, Nat.reduceSub, Nat.reduceLT, Nat.reduceEqDiff, Int.reduceAdd, Int.reduceSub, Int.reduceLE, Int.reduceLT, Int.reduceEq, Int.reduceNe, Int.reduceToNat, Int.reduceNeg, reduceIte, reduceCtorEq, e0]
  have aw : ∀ {Q : Bool → Prop}, Q true → styluslaw35_awake.w Q := fun h => awake_w h
  rw [gfork_bool']
  refine ⟨fun c1 => ?_, fun c1 => ?_⟩
  · simp (maxSteps := 4000000) -implicitDefEqProofs (disch := omega) only [push_cast, Nat.reduceAdd, Nat.reduceLeDiff, Nat.reduceMul, Nat.reduceSub, Nat.reduceLT, Nat.reduceEqDiff, Int.reduceAdd, Int.reduceSub, Int.reduceLE, Int.reduceLT, Int.reduceEq, Int.reduceNe, Int.reduceToNat, Int.reduceNeg, reduceIte, reduceCtorEq, e0, c1]
    refine calls_w (fun h => styluslaw35_awake.ok (aw (Q := fun r => r = true) rfl) h) (fun r q => ?_)
    simp (maxSteps := 4000000) -implicitDefEqProofs (disch := omega) only [push_cast, Nat.reduceAdd, Nat.reduceLeDiff, Nat.reduceMul, Nat.reduceSub, Nat.reduceLT, Nat.reduceEqDiff, Int.reduceAdd, Int.reduceSub, Int.reduceLE, Int.reduceLT, Int.reduceEq, Int.reduceNe, Int.reduceToNat, Int.reduceNeg, reduceIte, reduceCtorEq, e0, c1]
    exact retQ_o (.inl rfl) (x := abool r) rfl (Shift.refl _ _) (by rw [q]; rfl)
  simp (maxSteps := 4000000) -implicitDefEqProofs (disch := omega) only [push_cast, Nat.reduceAdd, Nat.reduceLeDiff, Nat.reduceMul, Nat.reduceSub, Nat.reduceLT, Nat.reduceEqDiff, Int.reduceAdd, Int.reduceSub, Int.reduceLE, Int.reduceLT, Int.reduceEq, Int.reduceNe, Int.reduceToNat, Int.reduceNeg, reduceIte, reduceCtorEq, e0, c1]
  refine calls_w (fun h => styluslaw35_long.ok (long2_w b hb hb2 (Q := fun r => r = false → b.length ≤ 60 ∧ ∀ v ∈ b, v.length ≤ 60 ∧ ∀ x ∈ v, x.size ≤ 200) (fun r hr => hr)) h) (fun r2 q2 => ?_)
  simp (maxSteps := 4000000) -implicitDefEqProofs (disch := omega) only [push_cast, Nat.reduceAdd, Nat.reduceLeDiff, Nat.reduceMul, Nat.reduceSub, Nat.reduceLT, Nat.reduceEqDiff, Int.reduceAdd, Int.reduceSub, Int.reduceLE, Int.reduceLT, Int.reduceEq, Int.reduceNe, Int.reduceToNat, Int.reduceNeg, reduceIte, reduceCtorEq, e0, c1]
  rw [gfork_bool']
  refine ⟨fun c2 => ?_, fun c2 => ?_⟩
  · simp (maxSteps := 4000000) -implicitDefEqProofs (disch := omega) only [push_cast, Nat.reduceAdd, Nat.reduceLeDiff, Nat.reduceMul, Nat.reduceSub, Nat.reduceLT, Nat.reduceEqDiff, Int.reduceAdd, Int.reduceSub, Int.reduceLE, Int.reduceLT, Int.reduceEq, Int.reduceNe, Int.reduceToNat, Int.reduceNeg, reduceIte, reduceCtorEq, e0, c1, c2]
    refine calls_w (fun h => styluslaw35_awake.ok (aw (Q := fun r => r = true) rfl) h) (fun r q => ?_)
    simp (maxSteps := 4000000) -implicitDefEqProofs (disch := omega) only [push_cast, Nat.reduceAdd, Nat.reduceLeDiff, Nat.reduceMul, Nat.reduceSub, Nat.reduceLT, Nat.reduceEqDiff, Int.reduceAdd, Int.reduceSub, Int.reduceLE, Int.reduceLT, Int.reduceEq, Int.reduceNe, Int.reduceToNat, Int.reduceNeg, reduceIte, reduceCtorEq, e0, c1, c2]
    exact retQ_o (.inl rfl) (x := abool r) rfl (Shift.refl _ _) (by rw [q]; rfl)
  simp (maxSteps := 4000000) -implicitDefEqProofs (disch := omega) only [push_cast, Nat.reduceAdd, Nat.reduceLeDiff, Nat.reduceMul, Nat.reduceSub, Nat.reduceLT, Nat.reduceEqDiff, Int.reduceAdd, Int.reduceSub, Int.reduceLE, Int.reduceLT, Int.reduceEq, Int.reduceNe, Int.reduceToNat, Int.reduceNeg, reduceIte, reduceCtorEq, e0, c1, c2]
  refine calls_w (fun h => styluslaw35_many.ok (many_w p hp hp2 (Q := fun r => r = false → p.Changes.length ≤ 60 ∧ ∀ c ∈ p.Changes, c.Lines.length ≤ 60 ∧ ∀ x ∈ c.Lines, x.size ≤ 200) (fun r hr => hr)) h) (fun r3 q3 => ?_)
  simp (maxSteps := 4000000) -implicitDefEqProofs (disch := omega) only [push_cast, Nat.reduceAdd, Nat.reduceLeDiff, Nat.reduceMul, Nat.reduceSub, Nat.reduceLT, Nat.reduceEqDiff, Int.reduceAdd, Int.reduceSub, Int.reduceLE, Int.reduceLT, Int.reduceEq, Int.reduceNe, Int.reduceToNat, Int.reduceNeg, reduceIte, reduceCtorEq, e0, c1, c2]
  rw [fork_bool]
  refine ⟨fun c3 => ?_, fun c3 => ?_⟩
  · simp (maxSteps := 4000000) -implicitDefEqProofs (disch := omega) only [push_cast, Nat.reduceAdd, Nat.reduceLeDiff, Nat.reduceMul, Nat.reduceSub, Nat.reduceLT, Nat.reduceEqDiff, Int.reduceAdd, Int.reduceSub, Int.reduceLE, Int.reduceLT, Int.reduceEq, Int.reduceNe, Int.reduceToNat, Int.reduceNeg, reduceIte, reduceCtorEq, e0, c1, c2, c3]
    refine calls_w (fun h => styluslaw35_awake.ok (aw (Q := fun r => r = true) rfl) h) (fun r q => ?_)
    simp (maxSteps := 4000000) -implicitDefEqProofs (disch := omega) only [push_cast, Nat.reduceAdd, Nat.reduceLeDiff, Nat.reduceMul, Nat.reduceSub, Nat.reduceLT, Nat.reduceEqDiff, Int.reduceAdd, Int.reduceSub, Int.reduceLE, Int.reduceLT, Int.reduceEq, Int.reduceNe, Int.reduceToNat, Int.reduceNeg, reduceIte, reduceCtorEq, e0, c1, c2, c3]
    exact retQ_o (.inl rfl) (x := abool r) rfl (Shift.refl _ _) (by rw [q]; rfl)
  simp (maxSteps := 4000000) -implicitDefEqProofs (disch := omega) only [push_cast, Nat.reduceAdd, Nat.reduceLeDiff, Nat.reduceMul, Nat.reduceSub, Nat.reduceLT, Nat.reduceEqDiff, Int.reduceAdd, Int.reduceSub, Int.reduceLE, Int.reduceLT, Int.reduceEq, Int.reduceNe, Int.reduceToNat, Int.reduceNeg, reduceIte, reduceCtorEq, e0, c1, c2, c3]
  obtain ⟨a1, a2⟩ := q1 c1
  obtain ⟨b1', b2⟩ := q2 c2
  obtain ⟨p1, p2⟩ := q3 c3
  refine calls_w (fun h => stylusref35_Own.ok (refOwn_w a a1 (fun v hv => (a2 v hv).1) (Q := fun r => r = a) rfl) h) (fun r4 q4 => ?_)
  subst q4
  simp (maxSteps := 4000000) -implicitDefEqProofs (disch := omega) only [push_cast, Nat.reduceAdd, Nat.reduceLeDiff, Nat.reduceMul, Nat.reduceSub, Nat.reduceLT, Nat.reduceEqDiff, Int.reduceAdd, Int.reduceSub, Int.reduceLE, Int.reduceLT, Int.reduceEq, Int.reduceNe, Int.reduceToNat, Int.reduceNeg, reduceIte, reduceCtorEq, e0, c1, c2, c3]
  refine calls_w (fun h => stylusref35_Own.ok (refOwn_w b b1' (fun v hv => (b2 v hv).1) (Q := fun r => r = b) rfl) h) (fun r5 q5 => ?_)
  subst q5
  simp (maxSteps := 4000000) -implicitDefEqProofs (disch := omega) only [push_cast, Nat.reduceAdd, Nat.reduceLeDiff, Nat.reduceMul, Nat.reduceSub, Nat.reduceLT, Nat.reduceEqDiff, Int.reduceAdd, Int.reduceSub, Int.reduceLE, Int.reduceLT, Int.reduceEq, Int.reduceNe, Int.reduceToNat, Int.reduceNeg, reduceIte, reduceCtorEq, e0, c1, c2, c3]
  refine calls_of (Of_okO (Of_w r4 r5 (by omega) (fun l hl => by have := (b2 l hl).1; omega) (fun l hl => by have := (a2 l hl).1; omega) (Q := fun r => r = ofP r4 r5) rfl) _) ?_
  rintro e h' ⟨rr, x, hs, h2, rfl, hl1, hsub1, hd1, HX, rfl⟩
  rw [backK_ret]
  obtain ⟨hb1, HJ, sb1, sb2⟩ := H.join hsub1 HX
  clear HX
  replace H : AM.Own hb1 h' [⟨.optr b1 2 0 0, true, 2, [ApiPatch.enc p], some (25, 2)⟩, ⟨x, false, 2, ((ofP r4 r5).Changes.zip hs).map (fun p => [aint p.1.Page, p.2]), some (40, 0)⟩] := HJ
  have hd1' : ∀ q ∈ (ofP r4 r5).Changes.zip hs, Hdl h1 hb1 q.1.Lines q.2 := fun q hq => by
    rcases hd1 q hq with h | ⟨k, rows, ty, z1, z2, z3, z4⟩
    · exact Or.inl h
    · exact Or.inr ⟨k, rows, ty, z1, z2, sb2 k _ z2 z3, z4⟩
  have g1 : ∀ y ∈ hs, Hg hb1 y := by
    intro y hy
    obtain ⟨k, hk, rfl⟩ := List.getElem_of_mem hy
    have hk' : k < (ofP r4 r5).Changes.length := by omega
    refine (hd1 ((ofP r4 r5).Changes[k], hs[k]) ?_).hg sb2
    exact List.mem_of_getElem? (i := k) (by rw [List.getElem?_zip_eq_some]; exact ⟨List.getElem?_eq_getElem hk', List.getElem?_eq_getElem hk⟩)
  have e0 := H.getP 0 rfl
  simp (maxSteps := 4000000) -implicitDefEqProofs (disch := omega) only [push_cast, Nat.reduceAdd, Nat.reduceLeDiff, Nat.reduceMul, Nat.reduceSub, Nat.reduceLT, Nat.reduceEqDiff, Int.reduceAdd, Int.reduceSub, Int.reduceLE, Int.reduceLT, Int.reduceEq, Int.reduceNe, Int.reduceToNat, Int.reduceNeg, reduceIte, reduceCtorEq, e0, c1, c2, c3]
  refine H.newR [(aint 0), anil] rfl (fun b9 h9 H => ?_)
  have e0 := H.getP 0 rfl
  have e1 := H.getP 2 rfl
  simp (maxSteps := 4000000) -implicitDefEqProofs (disch := omega) only [push_cast, Nat.reduceAdd, Nat.reduceLeDiff, Nat.reduceMul, Nat.reduceSub, Nat.reduceLT, Nat.reduceEqDiff, Int.reduceAdd, Int.reduceSub, Int.reduceLE, Int.reduceLT, Int.reduceEq, Int.reduceNe, Int.reduceToNat, Int.reduceNeg, reduceIte, reduceCtorEq, e0, e1, c1, c2, c3]
  refine H.stP 2 [aint (ofP r4 r5).Pages, x] rfl rfl rfl rfl (Nat.le_of_ble_eq_true rfl) rfl (fun h10 H => ?_)
  replace H : AM.Own hb1 h10 [⟨.optr b1 2 0 0, true, 2, [ApiPatch.enc p], some (25, 2)⟩, ⟨x, false, 2, ((ofP r4 r5).Changes.zip hs).map (fun p => [aint p.1.Page, p.2]), some (40, 0)⟩, ⟨.optr b9 2 0 0, true, 2, [[aint (ofP r4 r5).Pages, x]], some (25, 2)⟩] := H
  have e0 := H.getP 0 rfl
  have e1 := H.getP 2 rfl
  simp (maxSteps := 4000000) -implicitDefEqProofs (disch := omega) only [push_cast, Nat.reduceAdd, Nat.reduceLeDiff, Nat.reduceMul, Nat.reduceSub, Nat.reduceLT, Nat.reduceEqDiff, Int.reduceAdd, Int.reduceSub, Int.reduceLE, Int.reduceLT, Int.reduceEq, Int.reduceNe, Int.reduceToNat, Int.reduceNeg, reduceIte, reduceCtorEq, e0, e1, c1, c2, c3]
  refine calls_of (Do_okO (Doany_w r4 p a1 (fun v hv => (a2 v hv).1) p1 (fun c hc => (p2 c hc).1) (Q := fun r => r = resD (doP r4 p)) rfl) _) ?_
  rintro e h' ⟨rd, y, ys, h3, rfl, hl2, hsub2, hd2, HX, rfl⟩
  rw [backK_ret]
  obtain ⟨hb2', HJ, sb3, sb4⟩ := H.join hsub2 HX
  clear HX
  replace H : AM.Own hb2' h' [⟨.optr b1 2 0 0, true, 2, [ApiPatch.enc p], some (25, 2)⟩, ⟨x, false, 2, ((ofP r4 r5).Changes.zip hs).map (fun p => [aint p.1.Page, p.2]), some (40, 0)⟩, ⟨.optr b9 2 0 0, true, 2, [[aint (ofP r4 r5).Pages, x]], some (25, 2)⟩, ⟨y, false, 1, ((resD (doP r4 p)).1.zip ys).map (fun p => [p.2]), some (38, 0)⟩] := HJ
  have hd2' : ∀ q ∈ (resD (doP r4 p)).1.zip ys, Hdl h10 hb2' q.1 q.2 := fun q hq => by
    rcases hd2 q hq with h | ⟨k, rows, ty, z1, z2, z3, z4⟩
    · exact Or.inl h
    · exact Or.inr ⟨k, rows, ty, z1, z2, sb4 k _ z2 z3, z4⟩
  have hd1'' : ∀ q ∈ (ofP r4 r5).Changes.zip hs, Hdl h1 hb2' q.1.Lines q.2 := fun q hq => by
    rcases hd1' q hq with h | ⟨k, rows, ty, z1, z2, z3, z4⟩
    · exact Or.inl h
    · exact Or.inr ⟨k, rows, ty, z1, z2, sb3.c k _ z3, z4⟩
  have e0 := H.getP 0 rfl
  have e1 := H.getP 2 rfl
  simp (maxSteps := 4000000) -implicitDefEqProofs (disch := omega) only [push_cast, Nat.reduceAdd, Nat.reduceLeDiff, Nat.reduceMul, Nat.reduceSub, Nat.reduceLT, Nat.reduceEqDiff, Int.reduceAdd, Int.reduceSub, Int.reduceLE, Int.reduceLT, Int.reduceEq, Int.reduceNe, Int.reduceToNat, Int.reduceNeg, reduceIte, reduceCtorEq, e0, e1, c1, c2, c3]
  refine calls_w (fun h => stylusref35_Do.ok (refDo_w r4 p a1 p1 (Q := fun r => r = resD (doP r4 p)) rfl) h) (fun r6 q6 => ?_)
  subst q6
  simp (maxSteps := 4000000) -implicitDefEqProofs (disch := omega) only [push_cast, Nat.reduceAdd, Nat.reduceLeDiff, Nat.reduceMul, Nat.reduceSub, Nat.reduceLT, Nat.reduceEqDiff, Int.reduceAdd, Int.reduceSub, Int.reduceLE, Int.reduceLT, Int.reduceEq, Int.reduceNe, Int.reduceToNat, Int.reduceNeg, reduceIte, reduceCtorEq, e0, e1, c1, c2, c3]
  refine calls_w (fun h => patch_Write.ok (Write_w p p1 p2 (Q := fun r => r = resT p) rfl) h) (fun r7 q7 => ?_)
  subst q7
  simp (maxSteps := 4000000) -implicitDefEqProofs (disch := omega) only [push_cast, Nat.reduceAdd, Nat.reduceLeDiff, Nat.reduceMul, Nat.reduceSub, Nat.reduceLT, Nat.reduceEqDiff, Int.reduceAdd, Int.reduceSub, Int.reduceLE, Int.reduceLT, Int.reduceEq, Int.reduceNe, Int.reduceToNat, Int.reduceNeg, reduceIte, reduceCtorEq, e0, e1, c1, c2, c3]
  refine calls_w (fun h => stylusref35_Write.ok (refWrite_w p p1 p2 (Q := fun r => r = resT p) rfl) h) (fun r8 q8 => ?_)
  subst q8
  simp (maxSteps := 4000000) -implicitDefEqProofs (disch := omega) only [push_cast, Nat.reduceAdd, Nat.reduceLeDiff, Nat.reduceMul, Nat.reduceSub, Nat.reduceLT, Nat.reduceEqDiff, Int.reduceAdd, Int.reduceSub, Int.reduceLE, Int.reduceLT, Int.reduceEq, Int.reduceNe, Int.reduceToNat, Int.reduceNeg, reduceIte, reduceCtorEq, e0, e1, c1, c2, c3]
  refine pures_of _ (pure_of_back (r := ofP r4 r5) (fun h => stylusref35_Of.ok (refOf_w r4 r5 b1' (fun l hl => (a2 l hl).1) (Q := fun r => r = ofP r4 r5) rfl) h)) ?_
  simp (maxSteps := 4000000) -implicitDefEqProofs (disch := omega) only [push_cast, Nat.reduceAdd, Nat.reduceLeDiff, Nat.reduceMul, Nat.reduceSub, Nat.reduceLT, Nat.reduceEqDiff, Int.reduceAdd, Int.reduceSub, Int.reduceLE, Int.reduceLT, Int.reduceEq, Int.reduceNe, Int.reduceToNat, Int.reduceNeg, reduceIte, reduceCtorEq, e0, e1, c1, c2, c3]
  have lx : Lent h' x (.isl 2 ((ofP r4 r5).Changes.map ApiChange.enc)) := lent_rows H 1 (ofP r4 r5).Changes hs (fun c => [.int .i64 c.Page]) ApiChange.Lines hl1 rfl hd1''
  have ly : Lent h' y (.isl 1 ((resD (doP r4 p)).1.map (encSl 1 AM.encStr))) := lent_rows H 3 (resD (doP r4 p)).1 ys (fun _ => []) id hl2 rfl hd2'
  have bC : (ofP r4 r5).Changes.length ≤ big := by have := chgs_length r4 r5 r5.length; unfold big; show (chgs r4 r5 r5.length).length ≤ _; omega
  have bL : ∀ c ∈ (ofP r4 r5).Changes, c.Lines.length ≤ big := by
    intro c hc
    obtain ⟨k, hk, rfl⟩ := List.getElem_of_mem hc
    obtain ⟨i, hi, _, hl⟩ := chgs_get r4 r5 r5.length (List.getElem?_eq_getElem hk)
    rw [hl.1]
    simp only [List.getD, List.getElem?_eq_getElem hi, Option.getD_some]
    have := (b2 _ (List.getElem_mem hi)).1
    unfold big; omega
  refine calls_lw (args' := [.agg (ApiPatch.enc (ofP r4 r5)), .agg (ApiPatch.enc (ofP r4 r5))]) (fun h => stylusref35_Same.ok (Same_w (ofP r4 r5) (ofP r4 r5) bC bL (Q := fun r => r = true) (by simp)) h) (fun r => rfl) ⟨Lent.agg rfl (fun k z z' hz hz' => ?_), Lent.refl _ _, trivial⟩ (fun r q => ?_)
  · match k with
    | 0 => simp [ApiPatch.enc] at hz hz'; subst hz hz'; exact Lent.refl _ _
    | 1 => simp [ApiPatch.enc] at hz hz'; subst hz hz'; exact lx
    | k + 2 => simp at hz
  subst q
  simp (maxSteps := 4000000) -implicitDefEqProofs (disch := omega) only [push_cast, Nat.reduceAdd, Nat.reduceLeDiff, Nat.reduceMul, Nat.reduceSub, Nat.reduceLT, Nat.reduceEqDiff, Int.reduceAdd, Int.reduceSub, Int.reduceLE, Int.reduceLT, Int.reduceEq, Int.reduceNe, Int.reduceToNat, Int.reduceNeg, reduceIte, reduceCtorEq, e0, e1, c1, c2, c3]
  obtain ⟨d1, d2⟩ := doP_bounds r4 p a1 (fun v hv => (a2 v hv).1) p1 (fun c hc => (p2 c hc).1)
  refine calls_lw (args' := [.isl 1 ((resD (doP r4 p)).1.map (encSl 1 AM.encStr)), .isl 1 ((resD (doP r4 p)).1.map (encSl 1 AM.encStr))]) (fun h => stylusref35_Pages.ok (Pages_w (resD (doP r4 p)).1 (resD (doP r4 p)).1 (by unfold big; omega) (fun v hv => by have := d2 v hv; unfold big; omega) (Q := fun r => r = true) (by simp)) h) (fun r => rfl) ⟨ly, Lent.refl _ _, trivial⟩ (fun r q => ?_)
  subst q
  simp (maxSteps := 4000000) -implicitDefEqProofs (disch := omega) only [push_cast, Nat.reduceAdd, Nat.reduceLeDiff, Nat.reduceMul, Nat.reduceSub, Nat.reduceLT, Nat.reduceEqDiff, Int.reduceAdd, Int.reduceSub, Int.reduceLE, Int.reduceLT, Int.reduceEq, Int.reduceNe, Int.reduceToNat, Int.reduceNeg, reduceIte, reduceCtorEq, e0, e1, c1, c2, c3]
  have g2 : ∀ z ∈ ys, Hg hb2' z := by
    intro z hz
    obtain ⟨k, hk, rfl⟩ := List.getElem_of_mem hz
    have hk' : k < (resD (doP r4 p)).1.length := by omega
    refine (hd2' ((resD (doP r4 p)).1[k], ys[k]) ?_).hg (fun _ _ _ h => h)
    exact List.mem_of_getElem? (i := k) (by rw [List.getElem?_zip_eq_some]; exact ⟨List.getElem?_eq_getElem hk', List.getElem?_eq_getElem hk⟩)
  replace g1 : ∀ z ∈ hs, Hg hb2' z := fun z hz => (g1 z hz).sub sb3
  have hN : (((ofP r4 r5).Changes.zip hs).map (fun p => [aint p.1.Page, p.2])).length = (ofP r4 r5).Changes.length := by rw [List.length_map, List.length_zip]; omega
  have hM : (((resD (doP r4 p)).1.zip ys).map (fun p => [p.2])).length = (resD (doP r4 p)).1.length := by rw [List.length_map, List.length_zip]; omega
  refine awp_loop (σ := Nat × Hp × Hp) (fun s => ⟨((((((((List.replicate 121 AV.any).set 0 (.isl 1 (r4.map (encSl 1 AM.encStr)))).set 1 (.isl 1 (r5.map (encSl 1 AM.encStr)))).set 7 (.isl 1 (r4.map (encSl 1 AM.encStr)))).set 8 (.isl 1 (r5.map (encSl 1 AM.encStr)))).set 9 (.optr b9 2 0 0)).set 10 y).set 18 (aint (s.1 : Int))), s.2.2⟩) (fun s => s.1 ≤ (ofP r4 r5).Changes.length ∧ AM.Own s.2.1 s.2.2 [⟨.optr b1 2 0 0, true, 2, [ApiPatch.enc p], some (25, 2)⟩, ⟨x, false, 2, ((ofP r4 r5).Changes.zip hs).map (fun p => [aint p.1.Page, p.2]), some (40, 0)⟩, ⟨.optr b9 2 0 0, true, 2, [[aint (ofP r4 r5).Pages, x]], some (25, 2)⟩, ⟨y, false, 1, ((resD (doP r4 p)).1.zip ys).map (fun p => [p.2]), some (38, 0)⟩] ∧ (∀ z ∈ hs, Hg s.2.1 z) ∧ (∀ z ∈ ys, Hg s.2.1 z)) (fun s => (ofP r4 r5).Changes.length - s.1) (0, hb2', h') (Retell.weak (by simp [Weak, push_cast]) (Hp.sub.refl _)) ⟨by omega, H, g1, g2⟩ ?_
  clear e0 e1 lx ly H g1 g2
  rintro ⟨i, hc, hh⟩ ⟨hi, H, G1, G2⟩
  dsimp only at hi H G1 G2 ⊢
  have e1 := H.getP 2 rfl
  have tabC := tab_23
  simp (maxSteps := 4000000) -implicitDefEqProofs (disch := omega) only [push_cast, Nat.reduceAdd, Nat.reduceLeDiff, Nat.reduceMul, Nat.reduceSub, Nat.reduceLT, Nat.reduceEqDiff, Int.reduceAdd, Int.reduceSub, Int.reduceLE, Int.reduceLT, Int.reduceEq, Int.reduceNe, Int.reduceToNat, Int.reduceNeg, reduceIte, reduceCtorEq, e1, H.lenE 1 rfl tabC]
  have bC' : (ofP r4 r5).Changes.length ≤ 60 := by have := chgs_length r4 r5 r5.length; show (chgs r4 r5 r5.length).length ≤ _; omega
  have hZ : ((ofP r4 r5).Changes.zip hs).length = (ofP r4 r5).Changes.length := by rw [List.length_zip]; omega
  rw [fork_cond]
  refine ⟨fun c4 => ?_, fun c4 => ?_⟩
  · have hil : i < (ofP r4 r5).Changes.length := by omega
    have hih : i < hs.length := by omega
    have hrow : (((ofP r4 r5).Changes.zip hs).map (fun p => [aint p.1.Page, p.2]))[(i : Int).toNat]? = some [aint ((ofP r4 r5).Changes[i]).Page, hs[i]] := by
      rw [Int.toNat_natCast, List.getElem?_map, List.getElem?_eq_getElem (by omega), List.getElem_zip]; rfl
    obtain ⟨bC, oC, rfl, qb, qc, qd, qe⟩ := H.row (k := (i : Int).toNat) 1 rfl hrow
    have z1 : 0 ≤ (i : Int) := by omega
    have hz := G1 hs[i] (List.getElem_mem hih)
    generalize hs[i] = z at hz qd hrow
    rw [List.length_map] at qe
    simp only [List.length_map] at H
    have q4 := eq_true qe
    have q5 : i < ((ofP r4 r5).Changes.zip hs).length := by omega
    have q6 := eq_true q5
    rw [Int.toNat_natCast] at qd
    simp (maxSteps := 4000000) -implicitDefEqProofs (disch := omega) only [push_cast, Nat.reduceAdd, Nat.reduceLeDiff, Nat.reduceMul, Nat.reduceSub, Nat.reduceLT, Nat.reduceEqDiff, Int.reduceAdd, Int.reduceSub, Int.reduceLE, Int.reduceLT, Int.reduceEq, Int.reduceNe, Int.reduceToNat, Int.reduceNeg, reduceIte, reduceCtorEq, eq_true c4, eq_true z1, qb, qc, qd, q4, q6, e1, Int.toNat_natCast]
    have w : I64 ((i : Int) + 1) := ⟨by omega, by omega⟩
    have tabS := tab_9
    rcases hz with rfl | ⟨bz, rows, ty, n, rfl, hbz, hn⟩
    · rw [clearK_isl]
      simp (maxSteps := 4000000) -implicitDefEqProofs (disch := omega) only [push_cast, Nat.reduceAdd, Nat.reduceLeDiff, Nat.reduceMul, Nat.reduceSub, Nat.reduceLT, Nat.reduceEqDiff, Int.reduceAdd, Int.reduceSub, Int.reduceLE, Int.reduceLT, Int.reduceEq, Int.reduceNe, Int.reduceToNat, Int.reduceNeg, reduceIte, reduceCtorEq, wrap_i64 _ w]
      exact ⟨(i + 1, hc, hh), by show (ofP r4 r5).Changes.length - (i + 1) < (ofP r4 r5).Changes.length - i; omega, ⟨by show i + 1 ≤ (ofP r4 r5).Changes.length; omega, H, G1, G2⟩, Retell.weak (by simp [Weak, push_cast]) (Hp.sub.refl _)⟩
    · refine clearK_osl bz 1 0 n tabS (H.sub.c _ _ hbz) rfl rfl (by simpa using hn) ?_
      simp (maxSteps := 4000000) -implicitDefEqProofs (disch := omega) only [push_cast, Nat.reduceAdd, Nat.reduceLeDiff, Nat.reduceMul, Nat.reduceSub, Nat.reduceLT, Nat.reduceEqDiff, Int.reduceAdd, Int.reduceSub, Int.reduceLE, Int.reduceLT, Int.reduceEq, Int.reduceNe, Int.reduceToNat, Int.reduceNeg, reduceIte, reduceCtorEq, wrap_i64 _ w]
      have hlen : (List.replicate n [AV.val (Value.string { data := #[] })] ++ rows.drop n).length = rows.length := by simp; omega
      exact ⟨(i + 1, hc.upd bz ⟨1, List.replicate n [AV.val (Value.string { data := #[] })] ++ rows.drop n, ty⟩, hh.upd bz ⟨1, List.replicate n [AV.val (Value.string { data := #[] })] ++ rows.drop n, ty⟩), by show (ofP r4 r5).Changes.length - (i + 1) < (ofP r4 r5).Changes.length - i; omega, ⟨by show i + 1 ≤ (ofP r4 r5).Changes.length; omega, H.under hbz _, fun z hz => (G1 z hz).upd hbz hlen, fun z hz => (G2 z hz).upd hbz hlen⟩, Retell.weak (by simp [Weak, push_cast]) (Hp.sub.refl _)⟩
  · simp (maxSteps := 4000000) -implicitDefEqProofs (disch := omega) only [push_cast, Nat.reduceAdd, Nat.reduceLeDiff, Nat.reduceMul, Nat.reduceSub, Nat.reduceLT, Nat.reduceEqDiff, Int.reduceAdd, Int.reduceSub, Int.reduceLE, Int.reduceLT, Int.reduceEq, Int.reduceNe, Int.reduceToNat, Int.reduceNeg, reduceIte, reduceCtorEq, eq_false c4, e1]
    refine awp_loop (σ := Nat × Hp × Hp) (fun s => ⟨((((((((List.replicate 121 AV.any).set 0 (.isl 1 (r4.map (encSl 1 AM.encStr)))).set 1 (.isl 1 (r5.map (encSl 1 AM.encStr)))).set 7 (.isl 1 (r4.map (encSl 1 AM.encStr)))).set 8 (.isl 1 (r5.map (encSl 1 AM.encStr)))).set 9 (.optr b9 2 0 0)).set 10 y).set 19 (aint (s.1 : Int))), s.2.2⟩) (fun s => s.1 ≤ (resD (doP r4 p)).1.length ∧ AM.Own s.2.1 s.2.2 [⟨.optr b1 2 0 0, true, 2, [ApiPatch.enc p], some (25, 2)⟩, ⟨x, false, 2, ((ofP r4 r5).Changes.zip hs).map (fun p => [aint p.1.Page, p.2]), some (40, 0)⟩, ⟨.optr b9 2 0 0, true, 2, [[aint (ofP r4 r5).Pages, x]], some (25, 2)⟩, ⟨y, false, 1, ((resD (doP r4 p)).1.zip ys).map (fun p => [p.2]), some (38, 0)⟩] ∧ (∀ z ∈ hs, Hg s.2.1 z) ∧ (∀ z ∈ ys, Hg s.2.1 z)) (fun s => (resD (doP r4 p)).1.length - s.1) (0, hc, hh) (Retell.weak (by simp [Weak, push_cast]) (Hp.sub.refl _)) ⟨by omega, H, G1, G2⟩ ?_
    clear e1 H G1 G2 c4 hi i hc hh
    rintro ⟨i, hc, hh⟩ ⟨hi, H, G1, G2⟩
    dsimp only at hi H G1 G2 ⊢
    have tabP := tab_22
    simp (maxSteps := 4000000) -implicitDefEqProofs (disch := omega) only [push_cast, Nat.reduceAdd, Nat.reduceLeDiff, Nat.reduceMul, Nat.reduceSub, Nat.reduceLT, Nat.reduceEqDiff, Int.reduceAdd, Int.reduceSub, Int.reduceLE, Int.reduceLT, Int.reduceEq, Int.reduceNe, Int.reduceToNat, Int.reduceNeg, reduceIte, reduceCtorEq, H.lenE 3 rfl tabP]
    have hY : ((resD (doP r4 p)).1.zip ys).length = (resD (doP r4 p)).1.length := by rw [List.length_zip]; omega
    rw [fork_cond]
    refine ⟨fun c5 => ?_, fun c5 => ?_⟩
    · have hil : i < (resD (doP r4 p)).1.length := by omega
      have hih : i < ys.length := by omega
      have hrow : (((resD (doP r4 p)).1.zip ys).map (fun p => [p.2]))[(i : Int).toNat]? = some [ys[i]] := by
        rw [Int.toNat_natCast, List.getElem?_map, List.getElem?_eq_getElem (by omega), List.getElem_zip]; rfl
      obtain ⟨bD, oD, rfl, qb, qc, qd, qe⟩ := H.row (k := (i : Int).toNat) 3 rfl hrow
      have z1 : 0 ≤ (i : Int) := by omega
      have hz := G2 ys[i] (List.getElem_mem hih)
      generalize ys[i] = z at hz qd hrow
      rw [List.length_map] at qe
      simp only [List.length_map] at H
      have q4 := eq_true qe
      have q5 : i < ((resD (doP r4 p)).1.zip ys).length := by omega
      have q6 := eq_true q5
      rw [Int.toNat_natCast] at qd
      simp (maxSteps := 4000000) -implicitDefEqProofs (disch := omega) only [push_cast, Nat.reduceAdd, Nat.reduceLeDiff, Nat.reduceMul, Nat.reduceSub, Nat.reduceLT, Nat.reduceEqDiff, Int.reduceAdd, Int.reduceSub, Int.reduceLE, Int.reduceLT, Int.reduceEq, Int.reduceNe, Int.reduceToNat, Int.reduceNeg, reduceIte, reduceCtorEq, eq_true c5, eq_true z1, qb, qc, qd, q4, q6, Int.toNat_natCast]
      have w : I64 ((i : Int) + 1) := ⟨by omega, by omega⟩
      have tabS := tab_9
      rcases hz with rfl | ⟨bz, rows, ty, n, rfl, hbz, hn⟩
      · rw [clearK_isl]
        simp (maxSteps := 4000000) -implicitDefEqProofs (disch := omega) only [push_cast, Nat.reduceAdd, Nat.reduceLeDiff, Nat.reduceMul, Nat.reduceSub, Nat.reduceLT, Nat.reduceEqDiff, Int.reduceAdd, Int.reduceSub, Int.reduceLE, Int.reduceLT, Int.reduceEq, Int.reduceNe, Int.reduceToNat, Int.reduceNeg, reduceIte, reduceCtorEq, wrap_i64 _ w]
        exact ⟨(i + 1, hc, hh), by show (resD (doP r4 p)).1.length - (i + 1) < (resD (doP r4 p)).1.length - i; omega, ⟨by show i + 1 ≤ (resD (doP r4 p)).1.length; omega, H, G1, G2⟩, Retell.weak (by simp [Weak, push_cast]) (Hp.sub.refl _)⟩
      · refine clearK_osl bz 1 0 n tabS (H.sub.c _ _ hbz) rfl rfl (by simpa using hn) ?_
        simp (maxSteps := 4000000) -implicitDefEqProofs (disch := omega) only [push_cast, Nat.reduceAdd, Nat.reduceLeDiff, Nat.reduceMul, Nat.reduceSub, Nat.reduceLT, Nat.reduceEqDiff, Int.reduceAdd, Int.reduceSub, Int.reduceLE, Int.reduceLT, Int.reduceEq, Int.reduceNe, Int.reduceToNat, Int.reduceNeg, reduceIte, reduceCtorEq, wrap_i64 _ w]
        have hlen : (List.replicate n [AV.val (Value.string { data := #[] })] ++ rows.drop n).length = rows.length := by simp; omega
        exact ⟨(i + 1, hc.upd bz ⟨1, List.replicate n [AV.val (Value.string { data := #[] })] ++ rows.drop n, ty⟩, hh.upd bz ⟨1, List.replicate n [AV.val (Value.string { data := #[] })] ++ rows.drop n, ty⟩), by show (resD (doP r4 p)).1.length - (i + 1) < (resD (doP r4 p)).1.length - i; omega, ⟨by show i + 1 ≤ (resD (doP r4 p)).1.length; omega, H.under hbz _, fun z hz => (G1 z hz).upd hbz hlen, fun z hz => (G2 z hz).upd hbz hlen⟩, Retell.weak (by simp [Weak, push_cast]) (Hp.sub.refl _)⟩
    · simp (maxSteps := 4000000) -implicitDefEqProofs (disch := omega) only [push_cast, Nat.reduceAdd, Nat.reduceLeDiff, Nat.reduceMul, Nat.reduceSub, Nat.reduceLT, Nat.reduceEqDiff, Int.reduceAdd, Int.reduceSub, Int.reduceLE, Int.reduceLT, Int.reduceEq, Int.reduceNe, Int.reduceToNat, Int.reduceNeg, reduceIte, reduceCtorEq, eq_false c5]
      refine calls_w (fun h => stylusref35_Pages.ok (Pages_w r4 r4 ha ha2 (Q := fun r => r = true) (by simp)) h) (fun r q => ?_)
      subst q
      simp (maxSteps := 4000000) -implicitDefEqProofs (disch := omega) only [push_cast, Nat.reduceAdd, Nat.reduceLeDiff, Nat.reduceMul, Nat.reduceSub, Nat.reduceLT, Nat.reduceEqDiff, Int.reduceAdd, Int.reduceSub, Int.reduceLE, Int.reduceLT, Int.reduceEq, Int.reduceNe, Int.reduceToNat, Int.reduceNeg, reduceIte, reduceCtorEq]
      refine calls_w (fun h => stylusref35_Pages.ok (Pages_w r5 r5 hb hb2 (Q := fun r => r = true) (by simp)) h) (fun r q => ?_)
      subst q
      simp (maxSteps := 4000000) -implicitDefEqProofs (disch := omega) only [push_cast, Nat.reduceAdd, Nat.reduceLeDiff, Nat.reduceMul, Nat.reduceSub, Nat.reduceLT, Nat.reduceEqDiff, Int.reduceAdd, Int.reduceSub, Int.reduceLE, Int.reduceLT, Int.reduceEq, Int.reduceNe, Int.reduceToNat, Int.reduceNeg, reduceIte, reduceCtorEq]
      refine calls_w (fun h => styluslaw35_awake.ok (aw (Q := fun r => r = true) rfl) h) (fun r q => ?_)
      subst q
      simp (maxSteps := 4000000) -implicitDefEqProofs (disch := omega) only [push_cast, Nat.reduceAdd, Nat.reduceLeDiff, Nat.reduceMul, Nat.reduceSub, Nat.reduceLT, Nat.reduceEqDiff, Int.reduceAdd, Int.reduceSub, Int.reduceLE, Int.reduceLT, Int.reduceEq, Int.reduceNe, Int.reduceToNat, Int.reduceNeg, reduceIte, reduceCtorEq]
      exact retQ_o (.inl rfl) (x := abool true) rfl (Shift.refl _ _) rfl
end Go.Proofs.YtlnjajfagildnaaDoor
