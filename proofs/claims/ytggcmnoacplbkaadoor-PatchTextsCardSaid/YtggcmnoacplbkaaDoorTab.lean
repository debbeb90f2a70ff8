/- The types' table of this seat (printed by gen.py out of Lean's own print of the program). -/
import Derived.Test.YtggcmnoacplbkaaDoorOwn
import Derived.Test.YtggcmnoacplbkaaDoorProg
namespace Go.Proofs.YtggcmnoacplbkaaDoor
open Go Go.Proofs.YtggcmnoacplbkaaDoor.AM
set_option maxRecDepth 100000
def tabMask : List Bool := [false, true, true, true, true, true, false, false, false, true, false, false, true, false, false, true, true, false, false, false, true, true, true, true, true, true, true, true, false, true, false, true, true, true, true, true, true, true, true, true, false, true, true, true, true, true, true, true, true, false, true, true, true, true, true, false, true, true, true, true, true, true, true, true, true, true, true, true, true, true, true, false, true, true, true, true, false, true, true, false, true, true, true, true, true, false, true, true, true, true, true, true, true, true, true, true, true, true, false, true, true, true, true, false, true, true, false, true, true, true, true, true, true, true, true, true, true, false, false, true, false, false, true, false, false, true]
def tabL : List (Option TI) := [none,
  some ⟨1, 8, [Value.nilFunc], .func, none⟩,
  some ⟨1, 8, [(Value.int IntKind.i64 0)], .int .i64, none⟩,
  some ⟨1, 8, [(Value.int IntKind.i64 0)], .int .i64, none⟩,
  some ⟨1, 1, [(Value.bool false)], .bool, none⟩,
  some ⟨1, 1, [(Value.int IntKind.u8 0)], .int .u8, none⟩,
  none,
  none,
  none,
  some ⟨1, 16, [(Value.string (ByteArray.mk #[]))], .str, none⟩,
  none,
  none,
  some ⟨1, 8, [(Value.int IntKind.u64 0)], .int .u64, none⟩,
  none,
  none,
  some ⟨1, 8, [(Value.pointer none)], .ptr 118, none⟩,
  some ⟨1, 8, [(Value.pointer none)], .ptr 121, none⟩,
  none,
  none,
  none,
  some ⟨1, 16, [Value.nilIface], .iface, none⟩,
  some ⟨1, 4, [(Value.int IntKind.i32 0)], .int .i32, none⟩,
  some ⟨1, 24, [(Value.slice none 0 0)], .sl 37, none⟩,
  some ⟨2, 32, [(Value.int IntKind.i64 0), (Value.slice none 0 0)], .struct [(0, 3), (1, 22)], none⟩,
  some ⟨2, 32, [(Value.int IntKind.i64 0), (Value.slice none 0 0)], .struct [(0, 3), (1, 22)], none⟩,
  some ⟨1, 8, [Value.nilFunc], .func, none⟩,
  some ⟨1, 8, [Value.nilFunc], .func, none⟩,
  some ⟨1, 8, [(Value.int IntKind.i64 0)], .int .i64, none⟩,
  none,
  some ⟨1, 8, [Value.nilFunc], .func, none⟩,
  none,
  some ⟨1, 8, [Value.nilFunc], .func, none⟩,
  some ⟨1, 8, [Value.nilFunc], .func, none⟩,
  some ⟨1, 8, [Value.nilFunc], .func, none⟩,
  some ⟨1, 8, [Value.nilFunc], .func, none⟩,
  some ⟨1, 24, [(Value.slice none 0 0)], .sl 9, none⟩,
  some ⟨2, 32, [(Value.int IntKind.i64 0), (Value.slice none 0 0)], .struct [(0, 3), (1, 35)], none⟩,
  some ⟨2, 32, [(Value.int IntKind.i64 0), (Value.slice none 0 0)], .struct [(0, 3), (1, 35)], none⟩,
  some ⟨1, 24, [(Value.slice none 0 0)], .sl 35, none⟩,
  some ⟨1, 8, [Value.nilFunc], .func, none⟩,
  none,
  some ⟨1, 8, [Value.nilFunc], .func, none⟩,
  some ⟨1, 8, [Value.nilFunc], .func, none⟩,
  some ⟨1, 8, [(Value.pointer none)], .ptr 46, none⟩,
  some ⟨1, 24, [(Value.slice none 0 0)], .sl 5, none⟩,
  some ⟨2, 32, [(Value.pointer none), (Value.slice none 0 0)], .struct [(0, 43), (1, 44)], none⟩,
  some ⟨2, 32, [(Value.pointer none), (Value.slice none 0 0)], .struct [(0, 43), (1, 44)], none⟩,
  some ⟨1, 16, [Value.nilIface], .iface, none⟩,
  some ⟨1, 16, [Value.nilIface], .iface, none⟩,
  none,
  some ⟨1, 8, [Value.nilFunc], .func, none⟩,
  some ⟨1, 8, [Value.nilFunc], .func, none⟩,
  some ⟨1, 8, [Value.nilFunc], .func, none⟩,
  some ⟨1, 8, [(Value.int IntKind.i64 0)], .struct [(0, 3)], (some [(0, .int .i64)])⟩,
  some ⟨1, 8, [(Value.int IntKind.i64 0)], .struct [(0, 3)], (some [(0, .int .i64)])⟩,
  none,
  some ⟨1, 8, [(Value.pointer none)], .ptr 58, none⟩,
  some ⟨2, 24, [(Value.string (ByteArray.mk #[])), (Value.int IntKind.i64 0)], .struct [(0, 9), (1, 3)], (some [(0, .str), (1, .int .i64)])⟩,
  some ⟨2, 24, [(Value.string (ByteArray.mk #[])), (Value.int IntKind.i64 0)], .struct [(0, 9), (1, 3)], (some [(0, .str), (1, .int .i64)])⟩,
  some ⟨1, 8, [Value.nilFunc], .func, none⟩,
  some ⟨1, 8, [Value.nilFunc], .func, none⟩,
  some ⟨1, 8, [Value.nilFunc], .func, none⟩,
  some ⟨3, 56, [(Value.int IntKind.i64 0), (Value.slice none 0 0), (Value.slice none 0 0)], .struct [(0, 24), (2, 38)], none⟩,
  some ⟨3, 56, [(Value.int IntKind.i64 0), (Value.slice none 0 0), (Value.slice none 0 0)], .struct [(0, 24), (2, 38)], none⟩,
  some ⟨1, 8, [Value.nilFunc], .func, none⟩,
  some ⟨1, 8, [Value.nilFunc], .func, none⟩,
  some ⟨1, 8, [Value.nilFunc], .func, none⟩,
  some ⟨1, 8, [Value.nilFunc], .func, none⟩,
  some ⟨1, 8, [(Value.pointer none)], .ptr 5, none⟩,
  some ⟨1, 8, [Value.nilFunc], .func, none⟩,
  some ⟨1, 8, [Value.nilFunc], .func, none⟩,
  none,
  some ⟨1, 8, [Value.nilFunc], .func, none⟩,
  some ⟨1, 8, [(Value.pointer none)], .ptr 63, none⟩,
  some ⟨1, 8, [Value.nilFunc], .func, none⟩,
  some ⟨1, 8, [Value.nilFunc], .func, none⟩,
  none,
  some ⟨1, 8, [Value.nilFunc], .func, none⟩,
  some ⟨1, 8, [Value.nilFunc], .func, none⟩,
  none,
  some ⟨1, 8, [Value.nilFunc], .func, none⟩,
  some ⟨24, 24, [(Value.int IntKind.u8 0), (Value.int IntKind.u8 0), (Value.int IntKind.u8 0), (Value.int IntKind.u8 0), (Value.int IntKind.u8 0), (Value.int IntKind.u8 0), (Value.int IntKind.u8 0), (Value.int IntKind.u8 0), (Value.int IntKind.u8 0), (Value.int IntKind.u8 0), (Value.int IntKind.u8 0), (Value.int IntKind.u8 0), (Value.int IntKind.u8 0), (Value.int IntKind.u8 0), (Value.int IntKind.u8 0), (Value.int IntKind.u8 0), (Value.int IntKind.u8 0), (Value.int IntKind.u8 0), (Value.int IntKind.u8 0), (Value.int IntKind.u8 0), (Value.int IntKind.u8 0), (Value.int IntKind.u8 0), (Value.int IntKind.u8 0), (Value.int IntKind.u8 0)], .arr 24 5, none⟩,
  some ⟨1, 8, [(Value.int IntKind.u64 0)], .int .u64, none⟩,
  some ⟨1, 8, [Value.nilFunc], .func, none⟩,
  some ⟨1, 8, [Value.nilFunc], .func, none⟩,
  none,
  some ⟨1, 8, [Value.nilFunc], .func, none⟩,
  some ⟨1, 8, [Value.nilFunc], .func, none⟩,
  some ⟨1, 8, [Value.nilFunc], .func, none⟩,
  some ⟨1, 8, [Value.nilFunc], .func, none⟩,
  some ⟨1, 8, [(Value.int IntKind.u64 0)], .int .u64, none⟩,
  some ⟨1, 8, [Value.nilFunc], .func, none⟩,
  some ⟨20, 160, [(Value.int IntKind.u64 0), (Value.int IntKind.u64 0), (Value.int IntKind.u64 0), (Value.int IntKind.u64 0), (Value.int IntKind.u64 0), (Value.int IntKind.u64 0), (Value.int IntKind.u64 0), (Value.int IntKind.u64 0), (Value.int IntKind.u64 0), (Value.int IntKind.u64 0), (Value.int IntKind.u64 0), (Value.int IntKind.u64 0), (Value.int IntKind.u64 0), (Value.int IntKind.u64 0), (Value.int IntKind.u64 0), (Value.int IntKind.u64 0), (Value.int IntKind.u64 0), (Value.int IntKind.u64 0), (Value.int IntKind.u64 0), (Value.int IntKind.u64 0)], .arr 20 82, none⟩,
  some ⟨1, 4, [(Value.int IntKind.u32 0)], .int .u32, none⟩,
  some ⟨65, 65, [(Value.int IntKind.u8 0), (Value.int IntKind.u8 0), (Value.int IntKind.u8 0), (Value.int IntKind.u8 0), (Value.int IntKind.u8 0), (Value.int IntKind.u8 0), (Value.int IntKind.u8 0), (Value.int IntKind.u8 0), (Value.int IntKind.u8 0), (Value.int IntKind.u8 0), (Value.int IntKind.u8 0), (Value.int IntKind.u8 0), (Value.int IntKind.u8 0), (Value.int IntKind.u8 0), (Value.int IntKind.u8 0), (Value.int IntKind.u8 0), (Value.int IntKind.u8 0), (Value.int IntKind.u8 0), (Value.int IntKind.u8 0), (Value.int IntKind.u8 0), (Value.int IntKind.u8 0), (Value.int IntKind.u8 0), (Value.int IntKind.u8 0), (Value.int IntKind.u8 0), (Value.int IntKind.u8 0), (Value.int IntKind.u8 0), (Value.int IntKind.u8 0), (Value.int IntKind.u8 0), (Value.int IntKind.u8 0), (Value.int IntKind.u8 0), (Value.int IntKind.u8 0), (Value.int IntKind.u8 0), (Value.int IntKind.u8 0), (Value.int IntKind.u8 0), (Value.int IntKind.u8 0), (Value.int IntKind.u8 0), (Value.int IntKind.u8 0), (Value.int IntKind.u8 0), (Value.int IntKind.u8 0), (Value.int IntKind.u8 0), (Value.int IntKind.u8 0), (Value.int IntKind.u8 0), (Value.int IntKind.u8 0), (Value.int IntKind.u8 0), (Value.int IntKind.u8 0), (Value.int IntKind.u8 0), (Value.int IntKind.u8 0), (Value.int IntKind.u8 0), (Value.int IntKind.u8 0), (Value.int IntKind.u8 0), (Value.int IntKind.u8 0), (Value.int IntKind.u8 0), (Value.int IntKind.u8 0), (Value.int IntKind.u8 0), (Value.int IntKind.u8 0), (Value.int IntKind.u8 0), (Value.int IntKind.u8 0), (Value.int IntKind.u8 0), (Value.int IntKind.u8 0), (Value.int IntKind.u8 0), (Value.int IntKind.u8 0), (Value.int IntKind.u8 0), (Value.int IntKind.u8 0), (Value.int IntKind.u8 0), (Value.int IntKind.u8 0)], .arr 65 5, none⟩,
  some ⟨1, 8, [Value.nilFunc], .func, none⟩,
  some ⟨1, 8, [Value.nilFunc], .func, none⟩,
  some ⟨1, 8, [(Value.int IntKind.i64 0)], .int .i64, none⟩,
  none,
  some ⟨1, 8, [Value.nilFunc], .func, none⟩,
  some ⟨1, 8, [(Value.pointer none)], .ptr 109, none⟩,
  some ⟨1, 8, [Value.nilFunc], .func, none⟩,
  some ⟨1, 8, [Value.nilFunc], .func, none⟩,
  none,
  some ⟨1, 8, [Value.nilFunc], .func, none⟩,
  some ⟨1, 8, [Value.nilFunc], .func, none⟩,
  none,
  some ⟨1, 8, [Value.nilFunc], .func, none⟩,
  some ⟨3, 48, [(Value.string (ByteArray.mk #[])), (Value.string (ByteArray.mk #[])), Value.nilIface], .struct [(0, 9), (1, 9), (2, 48)], none⟩,
  some ⟨3, 48, [(Value.string (ByteArray.mk #[])), (Value.string (ByteArray.mk #[])), Value.nilIface], .struct [(0, 9), (1, 9), (2, 48)], none⟩,
  some ⟨1, 8, [Value.nilFunc], .func, none⟩,
  some ⟨32, 32, [(Value.int IntKind.u8 0), (Value.int IntKind.u8 0), (Value.int IntKind.u8 0), (Value.int IntKind.u8 0), (Value.int IntKind.u8 0), (Value.int IntKind.u8 0), (Value.int IntKind.u8 0), (Value.int IntKind.u8 0), (Value.int IntKind.u8 0), (Value.int IntKind.u8 0), (Value.int IntKind.u8 0), (Value.int IntKind.u8 0), (Value.int IntKind.u8 0), (Value.int IntKind.u8 0), (Value.int IntKind.u8 0), (Value.int IntKind.u8 0), (Value.int IntKind.u8 0), (Value.int IntKind.u8 0), (Value.int IntKind.u8 0), (Value.int IntKind.u8 0), (Value.int IntKind.u8 0), (Value.int IntKind.u8 0), (Value.int IntKind.u8 0), (Value.int IntKind.u8 0), (Value.int IntKind.u8 0), (Value.int IntKind.u8 0), (Value.int IntKind.u8 0), (Value.int IntKind.u8 0), (Value.int IntKind.u8 0), (Value.int IntKind.u8 0), (Value.int IntKind.u8 0), (Value.int IntKind.u8 0)], .arr 32 5, none⟩,
  some ⟨64, 64, [(Value.int IntKind.u8 0), (Value.int IntKind.u8 0), (Value.int IntKind.u8 0), (Value.int IntKind.u8 0), (Value.int IntKind.u8 0), (Value.int IntKind.u8 0), (Value.int IntKind.u8 0), (Value.int IntKind.u8 0), (Value.int IntKind.u8 0), (Value.int IntKind.u8 0), (Value.int IntKind.u8 0), (Value.int IntKind.u8 0), (Value.int IntKind.u8 0), (Value.int IntKind.u8 0), (Value.int IntKind.u8 0), (Value.int IntKind.u8 0), (Value.int IntKind.u8 0), (Value.int IntKind.u8 0), (Value.int IntKind.u8 0), (Value.int IntKind.u8 0), (Value.int IntKind.u8 0), (Value.int IntKind.u8 0), (Value.int IntKind.u8 0), (Value.int IntKind.u8 0), (Value.int IntKind.u8 0), (Value.int IntKind.u8 0), (Value.int IntKind.u8 0), (Value.int IntKind.u8 0), (Value.int IntKind.u8 0), (Value.int IntKind.u8 0), (Value.int IntKind.u8 0), (Value.int IntKind.u8 0), (Value.int IntKind.u8 0), (Value.int IntKind.u8 0), (Value.int IntKind.u8 0), (Value.int IntKind.u8 0), (Value.int IntKind.u8 0), (Value.int IntKind.u8 0), (Value.int IntKind.u8 0), (Value.int IntKind.u8 0), (Value.int IntKind.u8 0), (Value.int IntKind.u8 0), (Value.int IntKind.u8 0), (Value.int IntKind.u8 0), (Value.int IntKind.u8 0), (Value.int IntKind.u8 0), (Value.int IntKind.u8 0), (Value.int IntKind.u8 0), (Value.int IntKind.u8 0), (Value.int IntKind.u8 0), (Value.int IntKind.u8 0), (Value.int IntKind.u8 0), (Value.int IntKind.u8 0), (Value.int IntKind.u8 0), (Value.int IntKind.u8 0), (Value.int IntKind.u8 0), (Value.int IntKind.u8 0), (Value.int IntKind.u8 0), (Value.int IntKind.u8 0), (Value.int IntKind.u8 0), (Value.int IntKind.u8 0), (Value.int IntKind.u8 0), (Value.int IntKind.u8 0), (Value.int IntKind.u8 0)], .arr 64 5, none⟩,
  some ⟨1, 8, [Value.nilFunc], .func, none⟩,
  some ⟨1, 8, [(Value.pointer none)], .ptr 116, none⟩,
  some ⟨1, 16, [(Value.string (ByteArray.mk #[]))], .struct [(0, 9)], (some [(0, .str)])⟩,
  some ⟨1, 16, [(Value.string (ByteArray.mk #[]))], .struct [(0, 9)], (some [(0, .str)])⟩,
  none,
  none,
  some ⟨0, 0, [], .arr 0 16, none⟩,
  none,
  none,
  some ⟨1, 8, [Value.nilFunc], .func, none⟩,
  none,
  none,
  some ⟨1, 8, [Value.nilFunc], .func, none⟩]
def tab : Tab := fun t => tabL.getD t none
theorem tabL_eq : tabMask.zipIdx.map (fun x => if x.1 then mkTI Tryd.prog x.2 else none) = tabL := by kernel_rfl
theorem tab_ok : TabOK Tryd.prog tab := by
  intro t ti h
  unfold tab at h
  rw [List.getD, ← tabL_eq, List.getElem?_map] at h
  rw [List.getElem?_zipIdx] at h
  cases e : tabMask[t]? with
  | none => simp [e] at h
  | some b =>
    simp only [e, Option.map_some, Option.getD_some, Nat.zero_add] at h
    split at h
    · exact h
    · cases h
theorem mixed : Tryd.prog.follows .mixedOrders = true := by kernel_rfl
@[push_cast] theorem tab_1 : tab 1 = some ⟨1, 8, [Value.nilFunc], .func, none⟩ := rfl
@[push_cast] theorem tab_2 : tab 2 = some ⟨1, 8, [(Value.int IntKind.i64 0)], .int .i64, none⟩ := rfl
@[push_cast] theorem tab_3 : tab 3 = some ⟨1, 8, [(Value.int IntKind.i64 0)], .int .i64, none⟩ := rfl
@[push_cast] theorem tab_4 : tab 4 = some ⟨1, 1, [(Value.bool false)], .bool, none⟩ := rfl
@[push_cast] theorem tab_5 : tab 5 = some ⟨1, 1, [(Value.int IntKind.u8 0)], .int .u8, none⟩ := rfl
@[push_cast] theorem tab_9 : tab 9 = some ⟨1, 16, [(Value.string (ByteArray.mk #[]))], .str, none⟩ := rfl
@[push_cast] theorem tab_12 : tab 12 = some ⟨1, 8, [(Value.int IntKind.u64 0)], .int .u64, none⟩ := rfl
@[push_cast] theorem tab_15 : tab 15 = some ⟨1, 8, [(Value.pointer none)], .ptr 118, none⟩ := rfl
@[push_cast] theorem tab_16 : tab 16 = some ⟨1, 8, [(Value.pointer none)], .ptr 121, none⟩ := rfl
@[push_cast] theorem tab_20 : tab 20 = some ⟨1, 16, [Value.nilIface], .iface, none⟩ := rfl
@[push_cast] theorem tab_21 : tab 21 = some ⟨1, 4, [(Value.int IntKind.i32 0)], .int .i32, none⟩ := rfl
@[push_cast] theorem tab_22 : tab 22 = some ⟨1, 24, [(Value.slice none 0 0)], .sl 37, none⟩ := rfl
@[push_cast] theorem tab_23 : tab 23 = some ⟨2, 32, [(Value.int IntKind.i64 0), (Value.slice none 0 0)], .struct [(0, 3), (1, 22)], none⟩ := rfl
@[push_cast] theorem tab_24 : tab 24 = some ⟨2, 32, [(Value.int IntKind.i64 0), (Value.slice none 0 0)], .struct [(0, 3), (1, 22)], none⟩ := rfl
@[push_cast] theorem tab_25 : tab 25 = some ⟨1, 8, [Value.nilFunc], .func, none⟩ := rfl
@[push_cast] theorem tab_26 : tab 26 = some ⟨1, 8, [Value.nilFunc], .func, none⟩ := rfl
@[push_cast] theorem tab_27 : tab 27 = some ⟨1, 8, [(Value.int IntKind.i64 0)], .int .i64, none⟩ := rfl
@[push_cast] theorem tab_29 : tab 29 = some ⟨1, 8, [Value.nilFunc], .func, none⟩ := rfl
@[push_cast] theorem tab_31 : tab 31 = some ⟨1, 8, [Value.nilFunc], .func, none⟩ := rfl
@[push_cast] theorem tab_32 : tab 32 = some ⟨1, 8, [Value.nilFunc], .func, none⟩ := rfl
@[push_cast] theorem tab_33 : tab 33 = some ⟨1, 8, [Value.nilFunc], .func, none⟩ := rfl
@[push_cast] theorem tab_34 : tab 34 = some ⟨1, 8, [Value.nilFunc], .func, none⟩ := rfl
@[push_cast] theorem tab_35 : tab 35 = some ⟨1, 24, [(Value.slice none 0 0)], .sl 9, none⟩ := rfl
@[push_cast] theorem tab_36 : tab 36 = some ⟨2, 32, [(Value.int IntKind.i64 0), (Value.slice none 0 0)], .struct [(0, 3), (1, 35)], none⟩ := rfl
@[push_cast] theorem tab_37 : tab 37 = some ⟨2, 32, [(Value.int IntKind.i64 0), (Value.slice none 0 0)], .struct [(0, 3), (1, 35)], none⟩ := rfl
@[push_cast] theorem tab_38 : tab 38 = some ⟨1, 24, [(Value.slice none 0 0)], .sl 35, none⟩ := rfl
@[push_cast] theorem tab_39 : tab 39 = some ⟨1, 8, [Value.nilFunc], .func, none⟩ := rfl
@[push_cast] theorem tab_41 : tab 41 = some ⟨1, 8, [Value.nilFunc], .func, none⟩ := rfl
@[push_cast] theorem tab_42 : tab 42 = some ⟨1, 8, [Value.nilFunc], .func, none⟩ := rfl
@[push_cast] theorem tab_43 : tab 43 = some ⟨1, 8, [(Value.pointer none)], .ptr 46, none⟩ := rfl
@[push_cast] theorem tab_44 : tab 44 = some ⟨1, 24, [(Value.slice none 0 0)], .sl 5, none⟩ := rfl
@[push_cast] theorem tab_45 : tab 45 = some ⟨2, 32, [(Value.pointer none), (Value.slice none 0 0)], .struct [(0, 43), (1, 44)], none⟩ := rfl
@[push_cast] theorem tab_46 : tab 46 = some ⟨2, 32, [(Value.pointer none), (Value.slice none 0 0)], .struct [(0, 43), (1, 44)], none⟩ := rfl
@[push_cast] theorem tab_47 : tab 47 = some ⟨1, 16, [Value.nilIface], .iface, none⟩ := rfl
@[push_cast] theorem tab_48 : tab 48 = some ⟨1, 16, [Value.nilIface], .iface, none⟩ := rfl
@[push_cast] theorem tab_50 : tab 50 = some ⟨1, 8, [Value.nilFunc], .func, none⟩ := rfl
@[push_cast] theorem tab_51 : tab 51 = some ⟨1, 8, [Value.nilFunc], .func, none⟩ := rfl
@[push_cast] theorem tab_52 : tab 52 = some ⟨1, 8, [Value.nilFunc], .func, none⟩ := rfl
@[push_cast] theorem tab_53 : tab 53 = some ⟨1, 8, [(Value.int IntKind.i64 0)], .struct [(0, 3)], (some [(0, .int .i64)])⟩ := rfl
@[push_cast] theorem tab_54 : tab 54 = some ⟨1, 8, [(Value.int IntKind.i64 0)], .struct [(0, 3)], (some [(0, .int .i64)])⟩ := rfl
@[push_cast] theorem tab_56 : tab 56 = some ⟨1, 8, [(Value.pointer none)], .ptr 58, none⟩ := rfl
@[push_cast] theorem tab_57 : tab 57 = some ⟨2, 24, [(Value.string (ByteArray.mk #[])), (Value.int IntKind.i64 0)], .struct [(0, 9), (1, 3)], (some [(0, .str), (1, .int .i64)])⟩ := rfl
@[push_cast] theorem tab_58 : tab 58 = some ⟨2, 24, [(Value.string (ByteArray.mk #[])), (Value.int IntKind.i64 0)], .struct [(0, 9), (1, 3)], (some [(0, .str), (1, .int .i64)])⟩ := rfl
@[push_cast] theorem tab_59 : tab 59 = some ⟨1, 8, [Value.nilFunc], .func, none⟩ := rfl
@[push_cast] theorem tab_60 : tab 60 = some ⟨1, 8, [Value.nilFunc], .func, none⟩ := rfl
@[push_cast] theorem tab_61 : tab 61 = some ⟨1, 8, [Value.nilFunc], .func, none⟩ := rfl
@[push_cast] theorem tab_62 : tab 62 = some ⟨3, 56, [(Value.int IntKind.i64 0), (Value.slice none 0 0), (Value.slice none 0 0)], .struct [(0, 24), (2, 38)], none⟩ := rfl
@[push_cast] theorem tab_63 : tab 63 = some ⟨3, 56, [(Value.int IntKind.i64 0), (Value.slice none 0 0), (Value.slice none 0 0)], .struct [(0, 24), (2, 38)], none⟩ := rfl
@[push_cast] theorem tab_64 : tab 64 = some ⟨1, 8, [Value.nilFunc], .func, none⟩ := rfl
@[push_cast] theorem tab_65 : tab 65 = some ⟨1, 8, [Value.nilFunc], .func, none⟩ := rfl
@[push_cast] theorem tab_66 : tab 66 = some ⟨1, 8, [Value.nilFunc], .func, none⟩ := rfl
@[push_cast] theorem tab_67 : tab 67 = some ⟨1, 8, [Value.nilFunc], .func, none⟩ := rfl
@[push_cast] theorem tab_68 : tab 68 = some ⟨1, 8, [(Value.pointer none)], .ptr 5, none⟩ := rfl
@[push_cast] theorem tab_69 : tab 69 = some ⟨1, 8, [Value.nilFunc], .func, none⟩ := rfl
@[push_cast] theorem tab_70 : tab 70 = some ⟨1, 8, [Value.nilFunc], .func, none⟩ := rfl
@[push_cast] theorem tab_72 : tab 72 = some ⟨1, 8, [Value.nilFunc], .func, none⟩ := rfl
@[push_cast] theorem tab_73 : tab 73 = some ⟨1, 8, [(Value.pointer none)], .ptr 63, none⟩ := rfl
@[push_cast] theorem tab_74 : tab 74 = some ⟨1, 8, [Value.nilFunc], .func, none⟩ := rfl
@[push_cast] theorem tab_75 : tab 75 = some ⟨1, 8, [Value.nilFunc], .func, none⟩ := rfl
@[push_cast] theorem tab_77 : tab 77 = some ⟨1, 8, [Value.nilFunc], .func, none⟩ := rfl
@[push_cast] theorem tab_78 : tab 78 = some ⟨1, 8, [Value.nilFunc], .func, none⟩ := rfl
@[push_cast] theorem tab_80 : tab 80 = some ⟨1, 8, [Value.nilFunc], .func, none⟩ := rfl
@[push_cast] theorem tab_81 : tab 81 = some ⟨24, 24, [(Value.int IntKind.u8 0), (Value.int IntKind.u8 0), (Value.int IntKind.u8 0), (Value.int IntKind.u8 0), (Value.int IntKind.u8 0), (Value.int IntKind.u8 0), (Value.int IntKind.u8 0), (Value.int IntKind.u8 0), (Value.int IntKind.u8 0), (Value.int IntKind.u8 0), (Value.int IntKind.u8 0), (Value.int IntKind.u8 0), (Value.int IntKind.u8 0), (Value.int IntKind.u8 0), (Value.int IntKind.u8 0), (Value.int IntKind.u8 0), (Value.int IntKind.u8 0), (Value.int IntKind.u8 0), (Value.int IntKind.u8 0), (Value.int IntKind.u8 0), (Value.int IntKind.u8 0), (Value.int IntKind.u8 0), (Value.int IntKind.u8 0), (Value.int IntKind.u8 0)], .arr 24 5, none⟩ := rfl
@[push_cast] theorem tab_82 : tab 82 = some ⟨1, 8, [(Value.int IntKind.u64 0)], .int .u64, none⟩ := rfl
@[push_cast] theorem tab_83 : tab 83 = some ⟨1, 8, [Value.nilFunc], .func, none⟩ := rfl
@[push_cast] theorem tab_84 : tab 84 = some ⟨1, 8, [Value.nilFunc], .func, none⟩ := rfl
@[push_cast] theorem tab_86 : tab 86 = some ⟨1, 8, [Value.nilFunc], .func, none⟩ := rfl
@[push_cast] theorem tab_87 : tab 87 = some ⟨1, 8, [Value.nilFunc], .func, none⟩ := rfl
@[push_cast] theorem tab_88 : tab 88 = some ⟨1, 8, [Value.nilFunc], .func, none⟩ := rfl
@[push_cast] theorem tab_89 : tab 89 = some ⟨1, 8, [Value.nilFunc], .func, none⟩ := rfl
@[push_cast] theorem tab_90 : tab 90 = some ⟨1, 8, [(Value.int IntKind.u64 0)], .int .u64, none⟩ := rfl
@[push_cast] theorem tab_91 : tab 91 = some ⟨1, 8, [Value.nilFunc], .func, none⟩ := rfl
@[push_cast] theorem tab_92 : tab 92 = some ⟨20, 160, [(Value.int IntKind.u64 0), (Value.int IntKind.u64 0), (Value.int IntKind.u64 0), (Value.int IntKind.u64 0), (Value.int IntKind.u64 0), (Value.int IntKind.u64 0), (Value.int IntKind.u64 0), (Value.int IntKind.u64 0), (Value.int IntKind.u64 0), (Value.int IntKind.u64 0), (Value.int IntKind.u64 0), (Value.int IntKind.u64 0), (Value.int IntKind.u64 0), (Value.int IntKind.u64 0), (Value.int IntKind.u64 0), (Value.int IntKind.u64 0), (Value.int IntKind.u64 0), (Value.int IntKind.u64 0), (Value.int IntKind.u64 0), (Value.int IntKind.u64 0)], .arr 20 82, none⟩ := rfl
@[push_cast] theorem tab_93 : tab 93 = some ⟨1, 4, [(Value.int IntKind.u32 0)], .int .u32, none⟩ := rfl
@[push_cast] theorem tab_94 : tab 94 = some ⟨65, 65, [(Value.int IntKind.u8 0), (Value.int IntKind.u8 0), (Value.int IntKind.u8 0), (Value.int IntKind.u8 0), (Value.int IntKind.u8 0), (Value.int IntKind.u8 0), (Value.int IntKind.u8 0), (Value.int IntKind.u8 0), (Value.int IntKind.u8 0), (Value.int IntKind.u8 0), (Value.int IntKind.u8 0), (Value.int IntKind.u8 0), (Value.int IntKind.u8 0), (Value.int IntKind.u8 0), (Value.int IntKind.u8 0), (Value.int IntKind.u8 0), (Value.int IntKind.u8 0), (Value.int IntKind.u8 0), (Value.int IntKind.u8 0), (Value.int IntKind.u8 0), (Value.int IntKind.u8 0), (Value.int IntKind.u8 0), (Value.int IntKind.u8 0), (Value.int IntKind.u8 0), (Value.int IntKind.u8 0), (Value.int IntKind.u8 0), (Value.int IntKind.u8 0), (Value.int IntKind.u8 0), (Value.int IntKind.u8 0), (Value.int IntKind.u8 0), (Value.int IntKind.u8 0), (Value.int IntKind.u8 0), (Value.int IntKind.u8 0), (Value.int IntKind.u8 0), (Value.int IntKind.u8 0), (Value.int IntKind.u8 0), (Value.int IntKind.u8 0), (Value.int IntKind.u8 0), (Value.int IntKind.u8 0), (Value.int IntKind.u8 0), (Value.int IntKind.u8 0), (Value.int IntKind.u8 0), (Value.int IntKind.u8 0), (Value.int IntKind.u8 0), (Value.int IntKind.u8 0), (Value.int IntKind.u8 0), (Value.int IntKind.u8 0), (Value.int IntKind.u8 0), (Value.int IntKind.u8 0), (Value.int IntKind.u8 0), (Value.int IntKind.u8 0), (Value.int IntKind.u8 0), (Value.int IntKind.u8 0), (Value.int IntKind.u8 0), (Value.int IntKind.u8 0), (Value.int IntKind.u8 0), (Value.int IntKind.u8 0), (Value.int IntKind.u8 0), (Value.int IntKind.u8 0), (Value.int IntKind.u8 0), (Value.int IntKind.u8 0), (Value.int IntKind.u8 0), (Value.int IntKind.u8 0), (Value.int IntKind.u8 0), (Value.int IntKind.u8 0)], .arr 65 5, none⟩ := rfl
@[push_cast] theorem tab_95 : tab 95 = some ⟨1, 8, [Value.nilFunc], .func, none⟩ := rfl
@[push_cast] theorem tab_96 : tab 96 = some ⟨1, 8, [Value.nilFunc], .func, none⟩ := rfl
@[push_cast] theorem tab_97 : tab 97 = some ⟨1, 8, [(Value.int IntKind.i64 0)], .int .i64, none⟩ := rfl
@[push_cast] theorem tab_99 : tab 99 = some ⟨1, 8, [Value.nilFunc], .func, none⟩ := rfl
@[push_cast] theorem tab_100 : tab 100 = some ⟨1, 8, [(Value.pointer none)], .ptr 109, none⟩ := rfl
@[push_cast] theorem tab_101 : tab 101 = some ⟨1, 8, [Value.nilFunc], .func, none⟩ := rfl
@[push_cast] theorem tab_102 : tab 102 = some ⟨1, 8, [Value.nilFunc], .func, none⟩ := rfl
@[push_cast] theorem tab_104 : tab 104 = some ⟨1, 8, [Value.nilFunc], .func, none⟩ := rfl
@[push_cast] theorem tab_105 : tab 105 = some ⟨1, 8, [Value.nilFunc], .func, none⟩ := rfl
@[push_cast] theorem tab_107 : tab 107 = some ⟨1, 8, [Value.nilFunc], .func, none⟩ := rfl
@[push_cast] theorem tab_108 : tab 108 = some ⟨3, 48, [(Value.string (ByteArray.mk #[])), (Value.string (ByteArray.mk #[])), Value.nilIface], .struct [(0, 9), (1, 9), (2, 48)], none⟩ := rfl
@[push_cast] theorem tab_109 : tab 109 = some ⟨3, 48, [(Value.string (ByteArray.mk #[])), (Value.string (ByteArray.mk #[])), Value.nilIface], .struct [(0, 9), (1, 9), (2, 48)], none⟩ := rfl
@[push_cast] theorem tab_110 : tab 110 = some ⟨1, 8, [Value.nilFunc], .func, none⟩ := rfl
@[push_cast] theorem tab_111 : tab 111 = some ⟨32, 32, [(Value.int IntKind.u8 0), (Value.int IntKind.u8 0), (Value.int IntKind.u8 0), (Value.int IntKind.u8 0), (Value.int IntKind.u8 0), (Value.int IntKind.u8 0), (Value.int IntKind.u8 0), (Value.int IntKind.u8 0), (Value.int IntKind.u8 0), (Value.int IntKind.u8 0), (Value.int IntKind.u8 0), (Value.int IntKind.u8 0), (Value.int IntKind.u8 0), (Value.int IntKind.u8 0), (Value.int IntKind.u8 0), (Value.int IntKind.u8 0), (Value.int IntKind.u8 0), (Value.int IntKind.u8 0), (Value.int IntKind.u8 0), (Value.int IntKind.u8 0), (Value.int IntKind.u8 0), (Value.int IntKind.u8 0), (Value.int IntKind.u8 0), (Value.int IntKind.u8 0), (Value.int IntKind.u8 0), (Value.int IntKind.u8 0), (Value.int IntKind.u8 0), (Value.int IntKind.u8 0), (Value.int IntKind.u8 0), (Value.int IntKind.u8 0), (Value.int IntKind.u8 0), (Value.int IntKind.u8 0)], .arr 32 5, none⟩ := rfl
@[push_cast] theorem tab_112 : tab 112 = some ⟨64, 64, [(Value.int IntKind.u8 0), (Value.int IntKind.u8 0), (Value.int IntKind.u8 0), (Value.int IntKind.u8 0), (Value.int IntKind.u8 0), (Value.int IntKind.u8 0), (Value.int IntKind.u8 0), (Value.int IntKind.u8 0), (Value.int IntKind.u8 0), (Value.int IntKind.u8 0), (Value.int IntKind.u8 0), (Value.int IntKind.u8 0), (Value.int IntKind.u8 0), (Value.int IntKind.u8 0), (Value.int IntKind.u8 0), (Value.int IntKind.u8 0), (Value.int IntKind.u8 0), (Value.int IntKind.u8 0), (Value.int IntKind.u8 0), (Value.int IntKind.u8 0), (Value.int IntKind.u8 0), (Value.int IntKind.u8 0), (Value.int IntKind.u8 0), (Value.int IntKind.u8 0), (Value.int IntKind.u8 0), (Value.int IntKind.u8 0), (Value.int IntKind.u8 0), (Value.int IntKind.u8 0), (Value.int IntKind.u8 0), (Value.int IntKind.u8 0), (Value.int IntKind.u8 0), (Value.int IntKind.u8 0), (Value.int IntKind.u8 0), (Value.int IntKind.u8 0), (Value.int IntKind.u8 0), (Value.int IntKind.u8 0), (Value.int IntKind.u8 0), (Value.int IntKind.u8 0), (Value.int IntKind.u8 0), (Value.int IntKind.u8 0), (Value.int IntKind.u8 0), (Value.int IntKind.u8 0), (Value.int IntKind.u8 0), (Value.int IntKind.u8 0), (Value.int IntKind.u8 0), (Value.int IntKind.u8 0), (Value.int IntKind.u8 0), (Value.int IntKind.u8 0), (Value.int IntKind.u8 0), (Value.int IntKind.u8 0), (Value.int IntKind.u8 0), (Value.int IntKind.u8 0), (Value.int IntKind.u8 0), (Value.int IntKind.u8 0), (Value.int IntKind.u8 0), (Value.int IntKind.u8 0), (Value.int IntKind.u8 0), (Value.int IntKind.u8 0), (Value.int IntKind.u8 0), (Value.int IntKind.u8 0), (Value.int IntKind.u8 0), (Value.int IntKind.u8 0), (Value.int IntKind.u8 0), (Value.int IntKind.u8 0)], .arr 64 5, none⟩ := rfl
@[push_cast] theorem tab_113 : tab 113 = some ⟨1, 8, [Value.nilFunc], .func, none⟩ := rfl
@[push_cast] theorem tab_114 : tab 114 = some ⟨1, 8, [(Value.pointer none)], .ptr 116, none⟩ := rfl
@[push_cast] theorem tab_115 : tab 115 = some ⟨1, 16, [(Value.string (ByteArray.mk #[]))], .struct [(0, 9)], (some [(0, .str)])⟩ := rfl
@[push_cast] theorem tab_116 : tab 116 = some ⟨1, 16, [(Value.string (ByteArray.mk #[]))], .struct [(0, 9)], (some [(0, .str)])⟩ := rfl
@[push_cast] theorem tab_119 : tab 119 = some ⟨0, 0, [], .arr 0 16, none⟩ := rfl
@[push_cast] theorem tab_122 : tab 122 = some ⟨1, 8, [Value.nilFunc], .func, none⟩ := rfl
@[push_cast] theorem tab_125 : tab 125 = some ⟨1, 8, [Value.nilFunc], .func, none⟩ := rfl
end Go.Proofs.YtggcmnoacplbkaaDoor
