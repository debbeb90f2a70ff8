/- The types' table of this seat (printed by gen.py out of Lean's own print of the program). -/
import Derived.Test.YtdobeigblnpjhaaAm9
import Derived.Test.YtdobeigblnpjhaaProg
namespace Go.Proofs.Ytdobeigblnpjhaa
open Go Go.Proofs.Ytdobeigblnpjhaa.AM
set_option maxRecDepth 100000
def tabMask : List Bool := [false, true, true, true, true, true, false, false, false, true, false, false, true, false, false, true, true, false, false, false, true, true, true, true, true, true, true, true, true, true, true, true, true, true, true, true, true, true, true, true, true, true, true, false, true, true, true, true, true, true, true, true, true, true, true, true, false, false, true, false, false, true, false, false, true, true]
def tabL : List (Option TI) := [none,
  some ⟨1, 8, [Value.nilFunc], .func, none⟩,
  some ⟨1, 8, [(Value.int IntKind.i64 0)], .int .i64, none⟩,
  some ⟨1, 8, [(Value.int IntKind.i64 0)], .int .i64, none⟩,
  some ⟨1, 1, [(Value.bool false)], .bool, none⟩,
  some ⟨1, 1, [(Value.int IntKind.u8 0)], .int .u8, none⟩,
  none,
  none,
  none,
  some ⟨1, 16, [(Value.string (ByteArray.mk #[]))], .str, none⟩,
  none,
  none,
  some ⟨1, 8, [(Value.int IntKind.u64 0)], .int .u64, none⟩,
  none,
  none,
  some ⟨1, 8, [(Value.pointer none)], .ptr 57, none⟩,
  some ⟨1, 8, [(Value.pointer none)], .ptr 60, none⟩,
  none,
  none,
  none,
  some ⟨1, 16, [Value.nilIface], .iface, none⟩,
  some ⟨1, 4, [(Value.int IntKind.i32 0)], .int .i32, none⟩,
  some ⟨1, 24, [(Value.slice none 0 0)], .sl 29, none⟩,
  some ⟨1, 8, [Value.nilFunc], .func, none⟩,
  some ⟨1, 24, [(Value.slice none 0 0)], .sl 54, none⟩,
  some ⟨3, 40, [(Value.slice none 0 0), (Value.int IntKind.i64 0), (Value.int IntKind.i64 0)], .struct [(0, 24), (1, 3), (2, 3)], none⟩,
  some ⟨3, 40, [(Value.slice none 0 0), (Value.int IntKind.i64 0), (Value.int IntKind.i64 0)], .struct [(0, 24), (1, 3), (2, 3)], none⟩,
  some ⟨1, 24, [(Value.slice none 0 0)], .sl 26, none⟩,
  some ⟨6, 80, [(Value.slice none 0 0), (Value.int IntKind.i64 0), (Value.int IntKind.i64 0), (Value.int IntKind.i64 0), (Value.bool false), (Value.slice none 0 0)], .struct [(0, 26), (3, 3), (4, 4), (5, 27)], none⟩,
  some ⟨6, 80, [(Value.slice none 0 0), (Value.int IntKind.i64 0), (Value.int IntKind.i64 0), (Value.int IntKind.i64 0), (Value.bool false), (Value.slice none 0 0)], .struct [(0, 26), (3, 3), (4, 4), (5, 27)], none⟩,
  some ⟨1, 8, [Value.nilFunc], .func, none⟩,
  some ⟨1, 24, [(Value.slice none 0 0)], .sl 22, none⟩,
  some ⟨1, 8, [Value.nilFunc], .func, none⟩,
  some ⟨1, 8, [Value.nilFunc], .func, none⟩,
  some ⟨1, 8, [Value.nilFunc], .func, none⟩,
  some ⟨1, 8, [Value.nilFunc], .func, none⟩,
  some ⟨1, 8, [Value.nilFunc], .func, none⟩,
  some ⟨1, 24, [(Value.slice none 0 0)], .sl 29, none⟩,
  some ⟨2, 48, [(Value.slice none 0 0), (Value.slice none 0 0)], .struct [(0, 37), (1, 31)], none⟩,
  some ⟨2, 48, [(Value.slice none 0 0), (Value.slice none 0 0)], .struct [(0, 37), (1, 31)], none⟩,
  some ⟨1, 8, [Value.nilFunc], .func, none⟩,
  some ⟨1, 8, [Value.nilFunc], .func, none⟩,
  some ⟨1, 8, [Value.nilFunc], .func, none⟩,
  none,
  some ⟨1, 8, [Value.nilFunc], .func, none⟩,
  some ⟨1, 8, [Value.nilFunc], .func, none⟩,
  some ⟨1, 8, [Value.nilFunc], .func, none⟩,
  some ⟨1, 24, [(Value.slice none 0 0)], .sl 9, none⟩,
  some ⟨1, 8, [Value.nilFunc], .func, none⟩,
  some ⟨1, 8, [(Value.pointer none)], .ptr 39, none⟩,
  some ⟨2, 16, [(Value.int IntKind.i64 0), (Value.int IntKind.i64 0)], .arr 2 3, none⟩,
  some ⟨1, 8, [Value.nilFunc], .func, none⟩,
  some ⟨1, 8, [Value.nilFunc], .func, none⟩,
  some ⟨4, 32, [(Value.int IntKind.i64 0), (Value.int IntKind.u8 0), (Value.int IntKind.i64 0), (Value.int IntKind.i64 0)], .struct [(0, 3), (1, 5), (2, 3), (3, 3)], (some [(0, .int .i64), (1, .int .u8), (2, .int .i64), (3, .int .i64)])⟩,
  some ⟨4, 32, [(Value.int IntKind.i64 0), (Value.int IntKind.u8 0), (Value.int IntKind.i64 0), (Value.int IntKind.i64 0)], .struct [(0, 3), (1, 5), (2, 3), (3, 3)], (some [(0, .int .i64), (1, .int .u8), (2, .int .i64), (3, .int .i64)])⟩,
  some ⟨1, 8, [Value.nilFunc], .func, none⟩,
  none,
  none,
  some ⟨0, 0, [], .arr 0 16, none⟩,
  none,
  none,
  some ⟨1, 4, [(Value.int IntKind.u32 0)], .int .u32, none⟩,
  none,
  none,
  some ⟨1, 8, [Value.nilFunc], .func, none⟩,
  some ⟨1, 8, [(Value.pointer none)], .ptr 5, none⟩]
def tab : Tab := fun t => tabL.getD t none
theorem tabL_eq : tabMask.zipIdx.map (fun x => if x.1 then mkTI Try.prog x.2 else none) = tabL := by kernel_rfl
theorem tab_ok : TabOK Try.prog tab := by
  intro t ti h
  unfold tab at h
  rw [List.getD, ← tabL_eq, List.getElem?_map] at h
  rw [List.getElem?_zipIdx] at h
  cases e : tabMask[t]? with
  | none => simp [e] at h
  | some b =>
    simp only [e, Option.map_some, Option.getD_some, Nat.zero_add] at h
    split at h
    · exact h
    · cases h
theorem mixed : Try.prog.follows .mixedOrders = true := by kernel_rfl
@[push_cast] theorem tab_1 : tab 1 = some ⟨1, 8, [Value.nilFunc], .func, none⟩ := rfl   -- func()
@[push_cast] theorem tab_2 : tab 2 = some ⟨1, 8, [(Value.int IntKind.i64 0)], .int .i64, none⟩ := rfl   -- int64
@[push_cast] theorem tab_3 : tab 3 = some ⟨1, 8, [(Value.int IntKind.i64 0)], .int .i64, none⟩ := rfl   -- int
@[push_cast] theorem tab_4 : tab 4 = some ⟨1, 1, [(Value.bool false)], .bool, none⟩ := rfl   -- bool
@[push_cast] theorem tab_5 : tab 5 = some ⟨1, 1, [(Value.int IntKind.u8 0)], .int .u8, none⟩ := rfl   -- uint8
@[push_cast] theorem tab_9 : tab 9 = some ⟨1, 16, [(Value.string (ByteArray.mk #[]))], .str, none⟩ := rfl   -- string
@[push_cast] theorem tab_12 : tab 12 = some ⟨1, 8, [(Value.int IntKind.u64 0)], .int .u64, none⟩ := rfl   -- uintptr
@[push_cast] theorem tab_15 : tab 15 = some ⟨1, 8, [(Value.pointer none)], .ptr 57, none⟩ := rfl   -- *runtime.TypeAssertionError
@[push_cast] theorem tab_16 : tab 16 = some ⟨1, 8, [(Value.pointer none)], .ptr 60, none⟩ := rfl   -- *runtime.PanicNilError
@[push_cast] theorem tab_20 : tab 20 = some ⟨1, 16, [Value.nilIface], .iface, none⟩ := rfl   -- interface {}
@[push_cast] theorem tab_21 : tab 21 = some ⟨1, 4, [(Value.int IntKind.i32 0)], .int .i32, none⟩ := rfl   -- int32
@[push_cast] theorem tab_22 : tab 22 = some ⟨1, 24, [(Value.slice none 0 0)], .sl 29, none⟩ := rfl   -- []api.Strip
@[push_cast] theorem tab_23 : tab 23 = some ⟨1, 8, [Value.nilFunc], .func, none⟩ := rfl   -- func() bool
@[push_cast] theorem tab_24 : tab 24 = some ⟨1, 24, [(Value.slice none 0 0)], .sl 54, none⟩ := rfl   -- []api.Spot
@[push_cast] theorem tab_25 : tab 25 = some ⟨3, 40, [(Value.slice none 0 0), (Value.int IntKind.i64 0), (Value.int IntKind.i64 0)], .struct [(0, 24), (1, 3), (2, 3)], none⟩ := rfl   -- struct { Spots []api.Spot; Width int; Bits int }
@[push_cast] theorem tab_26 : tab 26 = some ⟨3, 40, [(Value.slice none 0 0), (Value.int IntKind.i64 0), (Value.int IntKind.i64 0)], .struct [(0, 24), (1, 3), (2, 3)], none⟩ := rfl   -- api.Line = stylus/api.Line
@[push_cast] theorem tab_27 : tab 27 = some ⟨1, 24, [(Value.slice none 0 0)], .sl 26, none⟩ := rfl   -- []api.Line
@[push_cast] theorem tab_28 : tab 28 = some ⟨6, 80, [(Value.slice none 0 0), (Value.int IntKind.i64 0), (Value.int IntKind.i64 0), (Value.int IntKind.i64 0), (Value.bool false), (Value.slice none 0 0)], .struct [(0, 26), (3, 3), (4, 4), (5, 27)], none⟩ := rfl   -- struct { Line api.Line; Keep int; Break bool; Notes []api.Line }
@[push_cast] theorem tab_29 : tab 29 = some ⟨6, 80, [(Value.slice none 0 0), (Value.int IntKind.i64 0), (Value.int IntKind.i64 0), (Value.int IntKind.i64 0), (Value.bool false), (Value.slice none 0 0)], .struct [(0, 26), (3, 3), (4, 4), (5, 27)], none⟩ := rfl   -- api.Strip = stylus/api.Strip
@[push_cast] theorem tab_30 : tab 30 = some ⟨1, 8, [Value.nilFunc], .func, none⟩ := rfl   -- func([]api.Strip) []api.Strip
@[push_cast] theorem tab_31 : tab 31 = some ⟨1, 24, [(Value.slice none 0 0)], .sl 22, none⟩ := rfl   -- [][]api.Strip
@[push_cast] theorem tab_32 : tab 32 = some ⟨1, 8, [Value.nilFunc], .func, none⟩ := rfl   -- func([]api.Strip, int) [][]api.Strip
@[push_cast] theorem tab_33 : tab 33 = some ⟨1, 8, [Value.nilFunc], .func, none⟩ := rfl   -- func([]api.Strip, []api.Strip) bool
@[push_cast] theorem tab_34 : tab 34 = some ⟨1, 8, [Value.nilFunc], .func, none⟩ := rfl   -- func([]api.Strip, int) bool
@[push_cast] theorem tab_35 : tab 35 = some ⟨1, 8, [Value.nilFunc], .func, none⟩ := rfl   -- func(string, int, ...string) bool
@[push_cast] theorem tab_36 : tab 36 = some ⟨1, 8, [Value.nilFunc], .func, none⟩ := rfl   -- func([]api.Line) []api.Line
@[push_cast] theorem tab_37 : tab 37 = some ⟨1, 24, [(Value.slice none 0 0)], .sl 29, none⟩ := rfl   -- pages.sheet = stylus/pages.sheet
@[push_cast] theorem tab_38 : tab 38 = some ⟨2, 48, [(Value.slice none 0 0), (Value.slice none 0 0)], .struct [(0, 37), (1, 31)], none⟩ := rfl   -- struct { pages.sheet; out [][]api.Strip }
@[push_cast] theorem tab_39 : tab 39 = some ⟨2, 48, [(Value.slice none 0 0), (Value.slice none 0 0)], .struct [(0, 37), (1, 31)], none⟩ := rfl   -- pages.filler = stylus/pages.filler
@[push_cast] theorem tab_40 : tab 40 = some ⟨1, 8, [Value.nilFunc], .func, none⟩ := rfl   -- func(pages.sheet) pages.sheet
@[push_cast] theorem tab_41 : tab 41 = some ⟨1, 8, [Value.nilFunc], .func, none⟩ := rfl   -- func(int)
@[push_cast] theorem tab_42 : tab 42 = some ⟨1, 8, [Value.nilFunc], .func, none⟩ := rfl   -- func() int
@[push_cast] theorem tab_44 : tab 44 = some ⟨1, 8, [Value.nilFunc], .func, none⟩ := rfl   -- func([]api.Strip, int) (int, bool)
@[push_cast] theorem tab_45 : tab 45 = some ⟨1, 8, [Value.nilFunc], .func, none⟩ := rfl   -- func(api.Line, api.Line) bool
@[push_cast] theorem tab_46 : tab 46 = some ⟨1, 8, [Value.nilFunc], .func, none⟩ := rfl   -- func([]api.Line, []api.Line) bool
@[push_cast] theorem tab_47 : tab 47 = some ⟨1, 24, [(Value.slice none 0 0)], .sl 9, none⟩ := rfl   -- []string
@[push_cast] theorem tab_48 : tab 48 = some ⟨1, 8, [Value.nilFunc], .func, none⟩ := rfl   -- func(string) []api.Strip
@[push_cast] theorem tab_49 : tab 49 = some ⟨1, 8, [(Value.pointer none)], .ptr 39, none⟩ := rfl   -- *pages.filler
@[push_cast] theorem tab_50 : tab 50 = some ⟨2, 16, [(Value.int IntKind.i64 0), (Value.int IntKind.i64 0)], .arr 2 3, none⟩ := rfl   -- [2]int
@[push_cast] theorem tab_51 : tab 51 = some ⟨1, 8, [Value.nilFunc], .func, none⟩ := rfl   -- func(int) int
@[push_cast] theorem tab_52 : tab 52 = some ⟨1, 8, [Value.nilFunc], .func, none⟩ := rfl   -- func([]api.Strip) int
@[push_cast] theorem tab_53 : tab 53 = some ⟨4, 32, [(Value.int IntKind.i64 0), (Value.int IntKind.u8 0), (Value.int IntKind.i64 0), (Value.int IntKind.i64 0)], .struct [(0, 3), (1, 5), (2, 3), (3, 3)], (some [(0, .int .i64), (1, .int .u8), (2, .int .i64), (3, .int .i64)])⟩ := rfl   -- struct { X int; Ch uint8; What int; Tok int }
@[push_cast] theorem tab_54 : tab 54 = some ⟨4, 32, [(Value.int IntKind.i64 0), (Value.int IntKind.u8 0), (Value.int IntKind.i64 0), (Value.int IntKind.i64 0)], .struct [(0, 3), (1, 5), (2, 3), (3, 3)], (some [(0, .int .i64), (1, .int .u8), (2, .int .i64), (3, .int .i64)])⟩ := rfl   -- api.Spot = stylus/api.Spot
@[push_cast] theorem tab_55 : tab 55 = some ⟨1, 8, [Value.nilFunc], .func, none⟩ := rfl   -- func() string
@[push_cast] theorem tab_58 : tab 58 = some ⟨0, 0, [], .arr 0 16, none⟩ := rfl   -- [0]*runtime.PanicNilError
@[push_cast] theorem tab_61 : tab 61 = some ⟨1, 4, [(Value.int IntKind.u32 0)], .int .u32, none⟩ := rfl   -- uint32
@[push_cast] theorem tab_64 : tab 64 = some ⟨1, 8, [Value.nilFunc], .func, none⟩ := rfl   -- func(unsafe.Pointer, unsafe.Pointer) bool
@[push_cast] theorem tab_65 : tab 65 = some ⟨1, 8, [(Value.pointer none)], .ptr 5, none⟩ := rfl   -- *uint8
end Go.Proofs.Ytdobeigblnpjhaa
