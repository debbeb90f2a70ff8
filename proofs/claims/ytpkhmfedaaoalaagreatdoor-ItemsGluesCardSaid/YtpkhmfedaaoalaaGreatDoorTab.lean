/- ItemsGlues: a part of its proof (packed by a program). -/
import Derived.Test.YtpkhmfedaaoalaaGreatDoorOwn
import Derived.Test.YtpkhmfedaaoalaaGreatDoorProg
set_option linter.all false
namespace Go.Proofs.YtpkhmfedaaoalaaGreatDoor
open Go Go.Proofs.YtpkhmfedaaoalaaGreatDoor.AM
set_option maxRecDepth 100000
def tabMask:List Bool:=[false,true,true,true,true,true,false,false,false,true,false,false,true,false,false,true,true,false,false,false,true,true,true,true,true,true,true,true,true,true,true,false,true,true,false,true,true,true,true,true,true,true,true,true,true,true,true,true,true,true,true,true,false,true,true,true,true,true,true,true,true,true,true,true,true,true,true,false,true,true,false,true,true,true,true,true,true,true,true,false,true,true,true,true,true,true,true,true,false,true,true,true,false,true,true,false,true,false,true,true,true,true,true,true,true,true,true,true,true,true,true,true,true,true,true,true,true,true,true,true,true,true,false,true,true,true,true,true,true,true,true,true,true,true,true,true,true,true,false,true,true,true,true,true,true,true,true,true,true,true,true,true,true,true,true,true,true,true,true,true,true,true,true,true,true,true,true,true,true,true,true,true,true,true,true,true,true,true,true,true,true,true,true,true,true,true,true,true,true,true,true,true,true,true,true,false,true,true,true,true,true,true,true,false,true,true,true,true,true,true,true,true,true,true,false,true,false,true,true,false,true,true,true,true,true,false,true,true,true,false,true,true,true,true,true,true,true,true,true,false,false,true,false,false,false,false,true]
def tabL:List (Option TI):=[none,
 some ⟨1,8,[Value.nilFunc],.func,none⟩,
 some ⟨1,8,[(Value.int IntKind.i64 0)],.int .i64,none⟩,
 some ⟨1,8,[(Value.int IntKind.i64 0)],.int .i64,none⟩,
 some ⟨1,1,[(Value.bool false)],.bool,none⟩,
 some ⟨1,1,[(Value.int IntKind.u8 0)],.int .u8,none⟩,
 none,
 none,
 none,
 some ⟨1,16,[(Value.string (ByteArray.mk #[]))],.str,none⟩,
 none,
 none,
 some ⟨1,8,[(Value.int IntKind.u64 0)],.int .u64,none⟩,
 none,
 none,
 some ⟨1,8,[(Value.pointer none)],.ptr 240,none⟩,
 some ⟨1,8,[(Value.pointer none)],.ptr 243,none⟩,
 none,
 none,
 none,
 some ⟨1,16,[Value.nilIface],.iface,none⟩,
 some ⟨1,4,[(Value.int IntKind.i32 0)],.int .i32,none⟩,
 some ⟨1,24,[(Value.slice none 0 0)],.sl 43,none⟩,
 some ⟨128,1024,(List.replicate 128 (Value.int IntKind.i64 0)),.arr 128 3,(some ((List.range 128).map fun i=>(i,TK.int .i64)))⟩,
 some ⟨1,24,[(Value.slice none 0 0)],.sl 47,none⟩,
 some ⟨131,1064,(List.replicate 130 (Value.int IntKind.i64 0)++[(Value.slice none 0 0)]),.struct [(0,23),(128,3),(129,3),(130,24)],none⟩,
 some ⟨131,1064,(List.replicate 130 (Value.int IntKind.i64 0)++[(Value.slice none 0 0)]),.struct [(0,23),(128,3),(129,3),(130,24)],none⟩,
 some ⟨1,8,[Value.nilFunc],.func,none⟩,
 some ⟨1,8,[Value.nilFunc],.func,none⟩,
 some ⟨1,24,[(Value.slice none 0 0)],.sl 3,none⟩,
 some ⟨1,8,[(Value.int IntKind.i64 0)],.int .i64,none⟩,
 none,
 some ⟨1,8,[Value.nilFunc],.func,none⟩,
 some ⟨1,24,[(Value.slice none 0 0)],.sl 41,none⟩,
 none,
 some ⟨1,8,[Value.nilFunc],.func,none⟩,
 some ⟨1,8,[Value.nilFunc],.func,none⟩,
 some ⟨1,8,[Value.nilFunc],.func,none⟩,
 some ⟨1,8,[Value.nilFunc],.func,none⟩,
 some ⟨1,8,[Value.nilFunc],.func,none⟩,
 some ⟨5,40,[(Value.int IntKind.i64 0),(Value.int IntKind.i64 0),(Value.int IntKind.i64 0),(Value.int IntKind.i64 0),(Value.int IntKind.i64 0)],.struct [(0,3),(1,3),(2,3),(3,3),(4,3)],(some [(0,.int .i64),(1,.int .i64),(2,.int .i64),(3,.int .i64),(4,.int .i64)])⟩,
 some ⟨5,40,[(Value.int IntKind.i64 0),(Value.int IntKind.i64 0),(Value.int IntKind.i64 0),(Value.int IntKind.i64 0),(Value.int IntKind.i64 0)],.struct [(0,3),(1,3),(2,3),(3,3),(4,3)],(some [(0,.int .i64),(1,.int .i64),(2,.int .i64),(3,.int .i64),(4,.int .i64)])⟩,
 some ⟨3,24,[(Value.int IntKind.i64 0),(Value.int IntKind.u8 0),(Value.int IntKind.i64 0)],.struct [(0,3),(1,5),(2,3)],(some [(0,.int .i64),(1,.int .u8),(2,.int .i64)])⟩,
 some ⟨3,24,[(Value.int IntKind.i64 0),(Value.int IntKind.u8 0),(Value.int IntKind.i64 0)],.struct [(0,3),(1,5),(2,3)],(some [(0,.int .i64),(1,.int .u8),(2,.int .i64)])⟩,
 some ⟨1,8,[Value.nilFunc],.func,none⟩,
 some ⟨1,8,[Value.nilFunc],.func,none⟩,
 some ⟨2,32,[(Value.string (ByteArray.mk #[])),(Value.string (ByteArray.mk #[]))],.struct [(0,9),(1,9)],(some [(0,.str),(1,.str)])⟩,
 some ⟨2,32,[(Value.string (ByteArray.mk #[])),(Value.string (ByteArray.mk #[]))],.struct [(0,9),(1,9)],(some [(0,.str),(1,.str)])⟩,
 some ⟨1,8,[Value.nilFunc],.func,none⟩,
 some ⟨1,8,[Value.nilFunc],.func,none⟩,
 some ⟨1,8,[Value.nilFunc],.func,none⟩,
 some ⟨1,24,[(Value.slice none 0 0)],.sl 103,none⟩,
 none,
 some ⟨1,8,[Value.nilFunc],.func,none⟩,
 some ⟨1,8,[Value.nilFunc],.func,none⟩,
 some ⟨1,8,[Value.nilFunc],.func,none⟩,
 some ⟨1,8,[(Value.pointer none)],.ptr 59,none⟩,
 some ⟨1,24,[(Value.slice none 0 0)],.sl 5,none⟩,
 some ⟨134,1120,(List.replicate 130 (Value.int IntKind.i64 0)++[(Value.slice none 0 0),(Value.slice none 0 0),(Value.slice none 0 0),(Value.int IntKind.i64 0)]),.struct [(0,26),(131,33),(132,57),(133,3)],none⟩,
 some ⟨134,1120,(List.replicate 130 (Value.int IntKind.i64 0)++[(Value.slice none 0 0),(Value.slice none 0 0),(Value.slice none 0 0),(Value.int IntKind.i64 0)]),.struct [(0,26),(131,33),(132,57),(133,3)],none⟩,
 some ⟨1,8,[Value.nilFunc],.func,none⟩,
 some ⟨1,8,[Value.nilFunc],.func,none⟩,
 some ⟨1,8,[Value.nilFunc],.func,none⟩,
 some ⟨1,8,[Value.nilFunc],.func,none⟩,
 some ⟨1,8,[Value.nilFunc],.func,none⟩,
 some ⟨1,8,[Value.nilFunc],.func,none⟩,
 some ⟨1,8,[Value.nilFunc],.func,none⟩,
 none,
 some ⟨1,8,[Value.nilFunc],.func,none⟩,
 some ⟨1,8,[Value.nilFunc],.func,none⟩,
 none,
 some ⟨1,8,[Value.nilFunc],.func,none⟩,
 some ⟨1,24,[(Value.slice none 0 0)],.sl 110,none⟩,
 some ⟨3,56,[(Value.slice none 0 0),(Value.slice none 0 0),(Value.bool false)],.struct [(0,51),(1,72),(2,4)],none⟩,
 some ⟨3,56,[(Value.slice none 0 0),(Value.slice none 0 0),(Value.bool false)],.struct [(0,51),(1,72),(2,4)],none⟩,
 some ⟨1,8,[Value.nilFunc],.func,none⟩,
 some ⟨1,8,[Value.nilFunc],.func,none⟩,
 some ⟨1,8,[Value.nilFunc],.func,none⟩,
 some ⟨1,8,[Value.nilFunc],.func,none⟩,
 none,
 some ⟨1,8,[Value.nilFunc],.func,none⟩,
 some ⟨1,8,[Value.nilFunc],.func,none⟩,
 some ⟨1,8,[Value.nilFunc],.func,none⟩,
 some ⟨1,8,[Value.nilFunc],.func,none⟩,
 some ⟨1,8,[Value.nilFunc],.func,none⟩,
 some ⟨1,8,[Value.nilFunc],.func,none⟩,
 some ⟨1,8,[Value.nilFunc],.func,none⟩,
 some ⟨1,8,[Value.nilFunc],.func,none⟩,
 none,
 some ⟨1,8,[Value.nilFunc],.func,none⟩,
 some ⟨1,8,[Value.nilFunc],.func,none⟩,
 some ⟨1,24,[(Value.slice none 0 0)],.sl 100,none⟩,
 none,
 some ⟨1,8,[Value.nilFunc],.func,none⟩,
 some ⟨1,24,[(Value.slice none 0 0)],.sl 141,none⟩,
 none,
 some ⟨1,8,[Value.nilFunc],.func,none⟩,
 none,
 some ⟨1,8,[Value.nilFunc],.func,none⟩,
 some ⟨4,40,[(Value.int IntKind.i64 0),(Value.int IntKind.u8 0),(Value.string (ByteArray.mk #[])),(Value.int IntKind.i64 0)],.struct [(0,3),(1,5),(2,9),(3,3)],(some [(0,.int .i64),(1,.int .u8),(2,.str),(3,.int .i64)])⟩,
 some ⟨4,40,[(Value.int IntKind.i64 0),(Value.int IntKind.u8 0),(Value.string (ByteArray.mk #[])),(Value.int IntKind.i64 0)],.struct [(0,3),(1,5),(2,9),(3,3)],(some [(0,.int .i64),(1,.int .u8),(2,.str),(3,.int .i64)])⟩,
 some ⟨1,8,[Value.nilFunc],.func,none⟩,
 some ⟨4,40,[(Value.int IntKind.u8 0),(Value.string (ByteArray.mk #[])),(Value.int IntKind.i64 0),(Value.int IntKind.i64 0)],.struct [(0,5),(1,9),(2,3),(3,3)],(some [(0,.int .u8),(1,.str),(2,.int .i64),(3,.int .i64)])⟩,
 some ⟨4,40,[(Value.int IntKind.u8 0),(Value.string (ByteArray.mk #[])),(Value.int IntKind.i64 0),(Value.int IntKind.i64 0)],.struct [(0,5),(1,9),(2,3),(3,3)],(some [(0,.int .u8),(1,.str),(2,.int .i64),(3,.int .i64)])⟩,
 some ⟨1,8,[Value.nilFunc],.func,none⟩,
 some ⟨1,8,[Value.nilFunc],.func,none⟩,
 some ⟨1,8,[Value.nilFunc],.func,none⟩,
 some ⟨1,8,[Value.nilFunc],.func,none⟩,
 some ⟨1,8,[(Value.pointer none)],.ptr 74,none⟩,
 some ⟨4,32,[(Value.int IntKind.i64 0),(Value.int IntKind.u8 0),(Value.int IntKind.i64 0),(Value.int IntKind.i64 0)],.struct [(0,43),(3,3)],none⟩,
 some ⟨4,32,[(Value.int IntKind.i64 0),(Value.int IntKind.u8 0),(Value.int IntKind.i64 0),(Value.int IntKind.i64 0)],.struct [(0,43),(3,3)],none⟩,
 some ⟨1,8,[Value.nilFunc],.func,none⟩,
 some ⟨1,8,[Value.nilFunc],.func,none⟩,
 some ⟨1,8,[Value.nilFunc],.func,none⟩,
 some ⟨1,8,[(Value.pointer none)],.ptr 158,none⟩,
 some ⟨1,8,[Value.nilFunc],.func,none⟩,
 some ⟨1,8,[Value.nilFunc],.func,none⟩,
 some ⟨4,32,[Value.nilFunc,Value.nilFunc,Value.nilFunc,Value.nilFunc],.arr 4 116,none⟩,
 some ⟨1,8,[Value.nilFunc],.func,none⟩,
 some ⟨1,8,[Value.nilFunc],.func,none⟩,
 some ⟨1,8,[Value.nilFunc],.func,none⟩,
 some ⟨1,8,[Value.nilFunc],.func,none⟩,
 none,
 some ⟨1,8,[Value.nilFunc],.func,none⟩,
 some ⟨1,8,[Value.nilFunc],.func,none⟩,
 some ⟨1,8,[Value.nilFunc],.func,none⟩,
 some ⟨1,8,[Value.nilFunc],.func,none⟩,
 some ⟨1,8,[Value.nilFunc],.func,none⟩,
 some ⟨1,8,[Value.nilFunc],.func,none⟩,
 some ⟨1,8,[Value.nilFunc],.func,none⟩,
 some ⟨1,8,[(Value.int IntKind.u64 0)],.int .u64,none⟩,
 some ⟨1,8,[Value.nilFunc],.func,none⟩,
 some ⟨1,8,[Value.nilFunc],.func,none⟩,
 some ⟨1,8,[(Value.int IntKind.u64 0)],.int .u64,none⟩,
 some ⟨4,32,[(Value.int IntKind.u64 0),(Value.int IntKind.u64 0),(Value.int IntKind.u64 0),(Value.int IntKind.u64 0)],.arr 4 133,(some ((List.range 4).map fun i=>(i,TK.int .u64)))⟩,
 some ⟨4,32,[(Value.int IntKind.u64 0),(Value.int IntKind.u64 0),(Value.int IntKind.u64 0),(Value.int IntKind.u64 0)],.arr 4 133,(some ((List.range 4).map fun i=>(i,TK.int .u64)))⟩,
 some ⟨28,224,[(Value.int IntKind.u64 0),(Value.int IntKind.u64 0),(Value.int IntKind.u64 0),(Value.int IntKind.u64 0),(Value.int IntKind.u64 0),(Value.int IntKind.u64 0),(Value.int IntKind.u64 0),(Value.int IntKind.u64 0),(Value.int IntKind.u64 0),(Value.int IntKind.u64 0),(Value.int IntKind.u64 0),(Value.int IntKind.u64 0),(Value.int IntKind.u64 0),(Value.int IntKind.u64 0),(Value.int IntKind.u64 0),(Value.int IntKind.u64 0),(Value.int IntKind.u64 0),(Value.int IntKind.u64 0),(Value.int IntKind.u64 0),(Value.int IntKind.u64 0),(Value.int IntKind.u64 0),(Value.int IntKind.u64 0),(Value.int IntKind.u64 0),(Value.int IntKind.u64 0),(Value.int IntKind.u64 0),(Value.int IntKind.u64 0),(Value.int IntKind.u64 0),(Value.int IntKind.u64 0)],.arr 7 135,none⟩,
 some ⟨1,8,[Value.nilFunc],.func,none⟩,
 none,
 some ⟨1,8,[Value.nilFunc],.func,none⟩,
 some ⟨6,64,[(Value.int IntKind.u8 0),(Value.string (ByteArray.mk #[])),(Value.int IntKind.i64 0),(Value.int IntKind.i64 0),(Value.int IntKind.i64 0),(Value.string (ByteArray.mk #[]))],.struct [(0,5),(1,9),(2,3),(3,3),(4,3),(5,9)],(some [(0,.int .u8),(1,.str),(2,.int .i64),(3,.int .i64),(4,.int .i64),(5,.str)])⟩,
 some ⟨6,64,[(Value.int IntKind.u8 0),(Value.string (ByteArray.mk #[])),(Value.int IntKind.i64 0),(Value.int IntKind.i64 0),(Value.int IntKind.i64 0),(Value.string (ByteArray.mk #[]))],.struct [(0,5),(1,9),(2,3),(3,3),(4,3),(5,9)],(some [(0,.int .u8),(1,.str),(2,.int .i64),(3,.int .i64),(4,.int .i64),(5,.str)])⟩,
 some ⟨1,8,[Value.nilFunc],.func,none⟩,
 some ⟨1,8,[Value.nilFunc],.func,none⟩,
 some ⟨1,8,[Value.nilFunc],.func,none⟩,
 some ⟨1,8,[Value.nilFunc],.func,none⟩,
 some ⟨1,24,[(Value.slice none 0 0)],.sl 150,none⟩,
 some ⟨1,8,[Value.nilFunc],.func,none⟩,
 some ⟨1,8,[Value.nilFunc],.func,none⟩,
 some ⟨3,24,[(Value.int IntKind.u8 0),(Value.int IntKind.i64 0),(Value.int IntKind.i64 0)],.struct [(0,5),(1,3),(2,3)],(some [(0,.int .u8),(1,.int .i64),(2,.int .i64)])⟩,
 some ⟨3,24,[(Value.int IntKind.u8 0),(Value.int IntKind.i64 0),(Value.int IntKind.i64 0)],.struct [(0,5),(1,3),(2,3)],(some [(0,.int .u8),(1,.int .i64),(2,.int .i64)])⟩,
 some ⟨1,8,[Value.nilFunc],.func,none⟩,
 some ⟨1,8,[Value.nilFunc],.func,none⟩,
 some ⟨1,8,[(Value.map none)],.map 167 3,none⟩,
 some ⟨1,8,[Value.nilFunc],.func,none⟩,
 some ⟨1,24,[(Value.slice none 0 0)],.sl 163,none⟩,
 some ⟨1,24,[(Value.slice none 0 0)],.sl 163,none⟩,
 some ⟨3,56,[(Value.slice none 0 0),(Value.slice none 0 0),(Value.map none)],.struct [(0,156),(1,51),(2,153)],none⟩,
 some ⟨3,56,[(Value.slice none 0 0),(Value.slice none 0 0),(Value.map none)],.struct [(0,156),(1,51),(2,153)],none⟩,
 some ⟨1,8,[Value.nilFunc],.func,none⟩,
 some ⟨1,8,[(Value.pointer none)],.ptr 163,none⟩,
 some ⟨1,8,[Value.nilFunc],.func,none⟩,
 some ⟨7,56,[(Value.int IntKind.u8 0),(Value.int IntKind.i64 0),(Value.int IntKind.i64 0),(Value.int IntKind.i64 0),(Value.bool false),(Value.int IntKind.i64 0),(Value.int IntKind.i64 0)],.struct [(0,5),(1,3),(2,3),(3,3),(4,4),(5,3),(6,3)],(some [(0,.int .u8),(1,.int .i64),(2,.int .i64),(3,.int .i64),(4,.bool),(5,.int .i64),(6,.int .i64)])⟩,
 some ⟨7,56,[(Value.int IntKind.u8 0),(Value.int IntKind.i64 0),(Value.int IntKind.i64 0),(Value.int IntKind.i64 0),(Value.bool false),(Value.int IntKind.i64 0),(Value.int IntKind.i64 0)],.struct [(0,5),(1,3),(2,3),(3,3),(4,4),(5,3),(6,3)],(some [(0,.int .u8),(1,.int .i64),(2,.int .i64),(3,.int .i64),(4,.bool),(5,.int .i64),(6,.int .i64)])⟩,
 some ⟨1,8,[Value.nilFunc],.func,none⟩,
 some ⟨1,8,[Value.nilFunc],.func,none⟩,
 some ⟨2,2,[(Value.int IntKind.u8 0),(Value.int IntKind.u8 0)],.struct [(0,5),(1,5)],(some [(0,.int .u8),(1,.int .u8)])⟩,
 some ⟨2,2,[(Value.int IntKind.u8 0),(Value.int IntKind.u8 0)],.struct [(0,5),(1,5)],(some [(0,.int .u8),(1,.int .u8)])⟩,
 some ⟨3,24,[(Value.int IntKind.i64 0),(Value.int IntKind.i64 0),(Value.int IntKind.i64 0)],.arr 3 30,(some ((List.range 3).map fun i=>(i,TK.int .i64)))⟩,
 some ⟨1,8,[Value.nilFunc],.func,none⟩,
 some ⟨1,8,[Value.nilFunc],.func,none⟩,
 some ⟨1,8,[Value.nilFunc],.func,none⟩,
 some ⟨1,8,[Value.nilFunc],.func,none⟩,
 some ⟨1,8,[Value.nilFunc],.func,none⟩,
 some ⟨1,8,[Value.nilFunc],.func,none⟩,
 some ⟨1,8,[Value.nilFunc],.func,none⟩,
 some ⟨1,8,[Value.nilFunc],.func,none⟩,
 some ⟨1,8,[Value.nilFunc],.func,none⟩,
 some ⟨1,8,[Value.nilFunc],.func,none⟩,
 some ⟨1,8,[Value.nilFunc],.func,none⟩,
 some ⟨1,24,[(Value.slice none 0 0)],.sl 9,none⟩,
 some ⟨1,8,[Value.nilFunc],.func,none⟩,
 some ⟨1,8,[Value.nilFunc],.func,none⟩,
 some ⟨1,8,[Value.nilFunc],.func,none⟩,
 some ⟨1,8,[Value.nilFunc],.func,none⟩,
 some ⟨1,8,[(Value.map none)],.map 3 187,none⟩,
 some ⟨1,8,[Value.nilFunc],.func,none⟩,
 some ⟨1,8,[(Value.pointer none)],.ptr 191,none⟩,
 some ⟨2,16,[(Value.int IntKind.u8 0),(Value.int IntKind.i64 0)],.struct [(0,5),(1,3)],(some [(0,.int .u8),(1,.int .i64)])⟩,
 some ⟨2,16,[(Value.int IntKind.u8 0),(Value.int IntKind.i64 0)],.struct [(0,5),(1,3)],(some [(0,.int .u8),(1,.int .i64)])⟩,
 some ⟨2,16,[(Value.int IntKind.u8 0),(Value.int IntKind.i64 0)],.struct [(0,189)],none⟩,
 some ⟨2,16,[(Value.int IntKind.u8 0),(Value.int IntKind.i64 0)],.struct [(0,189)],none⟩,
 some ⟨1,8,[Value.nilFunc],.func,none⟩,
 some ⟨1,8,[Value.nilFunc],.func,none⟩,
 some ⟨1,8,[Value.nilFunc],.func,none⟩,
 none,
 some ⟨1,8,[Value.nilFunc],.func,none⟩,
 some ⟨1,8,[(Value.pointer none)],.ptr 199,none⟩,
 some ⟨2,32,[(Value.pointer none),(Value.slice none 0 0)],.struct [(0,197),(1,57)],none⟩,
 some ⟨2,32,[(Value.pointer none),(Value.slice none 0 0)],.struct [(0,197),(1,57)],none⟩,
 some ⟨1,8,[Value.nilFunc],.func,none⟩,
 some ⟨1,16,[Value.nilIface],.iface,none⟩,
 some ⟨1,16,[Value.nilIface],.iface,none⟩,
 none,
 some ⟨1,8,[Value.nilFunc],.func,none⟩,
 some ⟨1,8,[Value.nilFunc],.func,none⟩,
 some ⟨1,8,[(Value.map none)],.map 210 24,none⟩,
 some ⟨1,8,[Value.nilFunc],.func,none⟩,
 some ⟨2,2,[(Value.int IntKind.u8 0),(Value.int IntKind.u8 0)],.arr 2 5,(some ((List.range 2).map fun i=>(i,TK.int .u8)))⟩,
 some ⟨3,16,[(Value.int IntKind.i64 0),(Value.int IntKind.u8 0),(Value.int IntKind.u8 0)],.struct [(0,3),(1,208)],(some [(0,.int .i64),(1,TK.int .u8),(2,TK.int .u8)])⟩,
 some ⟨3,16,[(Value.int IntKind.i64 0),(Value.int IntKind.u8 0),(Value.int IntKind.u8 0)],.struct [(0,3),(1,208)],(some [(0,.int .i64),(1,TK.int .u8),(2,TK.int .u8)])⟩,
 some ⟨1,8,[Value.nilFunc],.func,none⟩,
 some ⟨1,8,[Value.nilFunc],.func,none⟩,
 some ⟨1,4,[(Value.int IntKind.u32 0)],.int .u32,none⟩,
 none,
 some ⟨1,8,[Value.nilFunc],.func,none⟩,
 none,
 some ⟨1,8,[Value.nilFunc],.func,none⟩,
 some ⟨1,8,[(Value.pointer none)],.ptr 5,none⟩,
 none,
 some ⟨1,8,[Value.nilFunc],.func,none⟩,
 some ⟨1,8,[Value.nilFunc],.func,none⟩,
 some ⟨1,8,[Value.nilFunc],.func,none⟩,
 some ⟨256,256,(List.replicate 256 (Value.bool false)),.arr 256 4,none⟩,
 some ⟨256,256,(List.replicate 256 (Value.bool false)),.arr 256 4,none⟩,
 none,
 some ⟨1,8,[Value.nilFunc],.func,none⟩,
 some ⟨1,8,[Value.nilFunc],.func,none⟩,
 some ⟨1,8,[(Value.pointer none)],.ptr 224,none⟩,
 none,
 some ⟨1,8,[Value.nilFunc],.func,none⟩,
 some ⟨1,8,[Value.nilFunc],.func,none⟩,
 some ⟨1,8,[Value.nilFunc],.func,none⟩,
 some ⟨256,256,(List.replicate 256 (Value.int IntKind.u8 0)),.arr 256 5,(some ((List.range 256).map fun i=>(i,TK.int .u8)))⟩,
 some ⟨2,2,[(Value.int IntKind.u8 0),(Value.int IntKind.u8 0)],.struct [(0,5),(1,5)],(some [(0,.int .u8),(1,.int .u8)])⟩,
 some ⟨2,2,[(Value.int IntKind.u8 0),(Value.int IntKind.u8 0)],.struct [(0,5),(1,5)],(some [(0,.int .u8),(1,.int .u8)])⟩,
 some ⟨32,32,[(Value.int IntKind.u8 0),(Value.int IntKind.u8 0),(Value.int IntKind.u8 0),(Value.int IntKind.u8 0),(Value.int IntKind.u8 0),(Value.int IntKind.u8 0),(Value.int IntKind.u8 0),(Value.int IntKind.u8 0),(Value.int IntKind.u8 0),(Value.int IntKind.u8 0),(Value.int IntKind.u8 0),(Value.int IntKind.u8 0),(Value.int IntKind.u8 0),(Value.int IntKind.u8 0),(Value.int IntKind.u8 0),(Value.int IntKind.u8 0),(Value.int IntKind.u8 0),(Value.int IntKind.u8 0),(Value.int IntKind.u8 0),(Value.int IntKind.u8 0),(Value.int IntKind.u8 0),(Value.int IntKind.u8 0),(Value.int IntKind.u8 0),(Value.int IntKind.u8 0),(Value.int IntKind.u8 0),(Value.int IntKind.u8 0),(Value.int IntKind.u8 0),(Value.int IntKind.u8 0),(Value.int IntKind.u8 0),(Value.int IntKind.u8 0),(Value.int IntKind.u8 0),(Value.int IntKind.u8 0)],.arr 16 235,none⟩,
 some ⟨1,8,[Value.nilFunc],.func,none⟩,
 some ⟨1,8,[Value.nilFunc],.func,none⟩,
 none,
 none,
 some ⟨0,0,[],.arr 0 16,none⟩,
 none,
 none,
 none,
 none,
 some ⟨1,8,[Value.nilFunc],.func,none⟩]
def tab:Tab:=fun t=>tabL.getD t none
theorem tabL_eq:tabMask.zipIdx.map (fun x=>if x.1 then mkTI Tryz.prog x.2 else none) = tabL:=by kernel_rfl
theorem tab_ok:Kb Tryz.prog tab:=by
 intro t ti h
 unfold tab at h
 rw [List.getD,← tabL_eq,List.getElem?_map] at h
 rw [List.getElem?_zipIdx] at h
 cases e:tabMask[t]? with
 | none=>simp [e] at h
 | some b=>
  simp only [e,Option.map_some,Option.getD_some,Nat.zero_add] at h
  split at h
  ·exact h
  ·cases h
theorem mixed:Tryz.prog.follows .mixedOrders = true:=by kernel_rfl
@[push_cast] theorem tab_3:tab 3 = some ⟨1,8,[(Value.int IntKind.i64 0)],.int .i64,none⟩:=rfl
@[push_cast] theorem tab_4:tab 4 = some ⟨1,1,[(Value.bool false)],.bool,none⟩:=rfl
@[push_cast] theorem tab_5:tab 5 = some ⟨1,1,[(Value.int IntKind.u8 0)],.int .u8,none⟩:=rfl
@[push_cast] theorem Zmb:tab 9 = some ⟨1,16,[(Value.string (ByteArray.mk #[]))],.str,none⟩:=rfl
@[push_cast] theorem tab_21:tab 21 = some ⟨1,4,[(Value.int IntKind.i32 0)],.int .i32,none⟩:=rfl
@[push_cast] theorem tab_22:tab 22 = some ⟨1,24,[(Value.slice none 0 0)],.sl 43,none⟩:=rfl
@[push_cast] theorem tab_23:tab 23 = some ⟨128,1024,(List.replicate 128 (Value.int IntKind.i64 0)),.arr 128 3,(some ((List.range 128).map fun i=>(i,TK.int .i64)))⟩:=rfl
@[push_cast] theorem tab_24:tab 24 = some ⟨1,24,[(Value.slice none 0 0)],.sl 47,none⟩:=rfl
@[push_cast] theorem tab_26:tab 26 = some ⟨131,1064,(List.replicate 130 (Value.int IntKind.i64 0)++[(Value.slice none 0 0)]),.struct [(0,23),(128,3),(129,3),(130,24)],none⟩:=rfl
@[push_cast] theorem Wua:tab 29 = some ⟨1,24,[(Value.slice none 0 0)],.sl 3,none⟩:=rfl
@[push_cast] theorem tab_30:tab 30 = some ⟨1,8,[(Value.int IntKind.i64 0)],.int .i64,none⟩:=rfl
@[push_cast] theorem tab_33:tab 33 = some ⟨1,24,[(Value.slice none 0 0)],.sl 41,none⟩:=rfl
@[push_cast] theorem tab_41:tab 41 = some ⟨5,40,[(Value.int IntKind.i64 0),(Value.int IntKind.i64 0),(Value.int IntKind.i64 0),(Value.int IntKind.i64 0),(Value.int IntKind.i64 0)],.struct [(0,3),(1,3),(2,3),(3,3),(4,3)],(some [(0,.int .i64),(1,.int .i64),(2,.int .i64),(3,.int .i64),(4,.int .i64)])⟩:=rfl
@[push_cast] theorem tab_43:tab 43 = some ⟨3,24,[(Value.int IntKind.i64 0),(Value.int IntKind.u8 0),(Value.int IntKind.i64 0)],.struct [(0,3),(1,5),(2,3)],(some [(0,.int .i64),(1,.int .u8),(2,.int .i64)])⟩:=rfl
@[push_cast] theorem tab_47:tab 47 = some ⟨2,32,[(Value.string (ByteArray.mk #[])),(Value.string (ByteArray.mk #[]))],.struct [(0,9),(1,9)],(some [(0,.str),(1,.str)])⟩:=rfl
@[push_cast] theorem tab_51:tab 51 = some ⟨1,24,[(Value.slice none 0 0)],.sl 103,none⟩:=rfl
@[push_cast] theorem tab_56:tab 56 = some ⟨1,8,[(Value.pointer none)],.ptr 59,none⟩:=rfl
@[push_cast] theorem Ja:tab 57 = some ⟨1,24,[(Value.slice none 0 0)],.sl 5,none⟩:=rfl
@[push_cast] theorem tab_59:tab 59 = some ⟨134,1120,(List.replicate 130 (Value.int IntKind.i64 0)++[(Value.slice none 0 0),(Value.slice none 0 0),(Value.slice none 0 0),(Value.int IntKind.i64 0)]),.struct [(0,26),(131,33),(132,57),(133,3)],none⟩:=rfl
@[push_cast] theorem tab_72:tab 72 = some ⟨1,24,[(Value.slice none 0 0)],.sl 110,none⟩:=rfl
@[push_cast] theorem tab_74:tab 74 = some ⟨3,56,[(Value.slice none 0 0),(Value.slice none 0 0),(Value.bool false)],.struct [(0,51),(1,72),(2,4)],none⟩:=rfl
@[push_cast] theorem tab_91:tab 91 = some ⟨1,24,[(Value.slice none 0 0)],.sl 100,none⟩:=rfl
@[push_cast] theorem tab_100:tab 100 = some ⟨4,40,[(Value.int IntKind.i64 0),(Value.int IntKind.u8 0),(Value.string (ByteArray.mk #[])),(Value.int IntKind.i64 0)],.struct [(0,3),(1,5),(2,9),(3,3)],(some [(0,.int .i64),(1,.int .u8),(2,.str),(3,.int .i64)])⟩:=rfl
@[push_cast] theorem tab_103:tab 103 = some ⟨4,40,[(Value.int IntKind.u8 0),(Value.string (ByteArray.mk #[])),(Value.int IntKind.i64 0),(Value.int IntKind.i64 0)],.struct [(0,5),(1,9),(2,3),(3,3)],(some [(0,.int .u8),(1,.str),(2,.int .i64),(3,.int .i64)])⟩:=rfl
@[push_cast] theorem tab_110:tab 110 = some ⟨4,32,[(Value.int IntKind.i64 0),(Value.int IntKind.u8 0),(Value.int IntKind.i64 0),(Value.int IntKind.i64 0)],.struct [(0,43),(3,3)],none⟩:=rfl
@[push_cast] theorem tab_116:tab 116 = some ⟨1,8,[Value.nilFunc],.func,none⟩:=rfl
@[push_cast] theorem tab_117:tab 117 = some ⟨4,32,[Value.nilFunc,Value.nilFunc,Value.nilFunc,Value.nilFunc],.arr 4 116,none⟩:=rfl
@[push_cast] theorem tab_130:tab 130 = some ⟨1,8,[(Value.int IntKind.u64 0)],.int .u64,none⟩:=rfl
@[push_cast] theorem tab_133:tab 133 = some ⟨1,8,[(Value.int IntKind.u64 0)],.int .u64,none⟩:=rfl
@[push_cast] theorem tab_135:tab 135 = some ⟨4,32,[(Value.int IntKind.u64 0),(Value.int IntKind.u64 0),(Value.int IntKind.u64 0),(Value.int IntKind.u64 0)],.arr 4 133,(some ((List.range 4).map fun i=>(i,TK.int .u64)))⟩:=rfl
@[push_cast] theorem tab_136:tab 136 = some ⟨28,224,[(Value.int IntKind.u64 0),(Value.int IntKind.u64 0),(Value.int IntKind.u64 0),(Value.int IntKind.u64 0),(Value.int IntKind.u64 0),(Value.int IntKind.u64 0),(Value.int IntKind.u64 0),(Value.int IntKind.u64 0),(Value.int IntKind.u64 0),(Value.int IntKind.u64 0),(Value.int IntKind.u64 0),(Value.int IntKind.u64 0),(Value.int IntKind.u64 0),(Value.int IntKind.u64 0),(Value.int IntKind.u64 0),(Value.int IntKind.u64 0),(Value.int IntKind.u64 0),(Value.int IntKind.u64 0),(Value.int IntKind.u64 0),(Value.int IntKind.u64 0),(Value.int IntKind.u64 0),(Value.int IntKind.u64 0),(Value.int IntKind.u64 0),(Value.int IntKind.u64 0),(Value.int IntKind.u64 0),(Value.int IntKind.u64 0),(Value.int IntKind.u64 0),(Value.int IntKind.u64 0)],.arr 7 135,none⟩:=rfl
@[push_cast] theorem tab_153:tab 153 = some ⟨1,8,[(Value.map none)],.map 167 3,none⟩:=rfl
@[push_cast] theorem V1:tab 156 = some ⟨1,24,[(Value.slice none 0 0)],.sl 163,none⟩:=rfl
@[push_cast] theorem tab_158:tab 158 = some ⟨3,56,[(Value.slice none 0 0),(Value.slice none 0 0),(Value.map none)],.struct [(0,156),(1,51),(2,153)],none⟩:=rfl
@[push_cast] theorem tab_160:tab 160 = some ⟨1,8,[(Value.pointer none)],.ptr 163,none⟩:=rfl
@[push_cast] theorem tab_163:tab 163 = some ⟨7,56,[(Value.int IntKind.u8 0),(Value.int IntKind.i64 0),(Value.int IntKind.i64 0),(Value.int IntKind.i64 0),(Value.bool false),(Value.int IntKind.i64 0),(Value.int IntKind.i64 0)],.struct [(0,5),(1,3),(2,3),(3,3),(4,4),(5,3),(6,3)],(some [(0,.int .u8),(1,.int .i64),(2,.int .i64),(3,.int .i64),(4,.bool),(5,.int .i64),(6,.int .i64)])⟩:=rfl
@[push_cast] theorem tab_167:tab 167 = some ⟨2,2,[(Value.int IntKind.u8 0),(Value.int IntKind.u8 0)],.struct [(0,5),(1,5)],(some [(0,.int .u8),(1,.int .u8)])⟩:=rfl
@[push_cast] theorem tab_168:tab 168 = some ⟨3,24,[(Value.int IntKind.i64 0),(Value.int IntKind.i64 0),(Value.int IntKind.i64 0)],.arr 3 30,(some ((List.range 3).map fun i=>(i,TK.int .i64)))⟩:=rfl
@[push_cast] theorem tab_180:tab 180 = some ⟨1,24,[(Value.slice none 0 0)],.sl 9,none⟩:=rfl
@[push_cast] theorem tab_185:tab 185 = some ⟨1,8,[(Value.map none)],.map 3 187,none⟩:=rfl
@[push_cast] theorem tab_187:tab 187 = some ⟨1,8,[(Value.pointer none)],.ptr 191,none⟩:=rfl
@[push_cast] theorem tab_189:tab 189 = some ⟨2,16,[(Value.int IntKind.u8 0),(Value.int IntKind.i64 0)],.struct [(0,5),(1,3)],(some [(0,.int .u8),(1,.int .i64)])⟩:=rfl
@[push_cast] theorem tab_191:tab 191 = some ⟨2,16,[(Value.int IntKind.u8 0),(Value.int IntKind.i64 0)],.struct [(0,189)],none⟩:=rfl
@[push_cast] theorem Zob:tab 206 = some ⟨1,8,[(Value.map none)],.map 210 24,none⟩:=rfl
@[push_cast] theorem Znb:tab 210 = some ⟨3,16,[(Value.int IntKind.i64 0),(Value.int IntKind.u8 0),(Value.int IntKind.u8 0)],.struct [(0,3),(1,208)],(some [(0,.int .i64),(1,TK.int .u8),(2,TK.int .u8)])⟩:=rfl
@[push_cast] theorem tab_224:tab 224 = some ⟨256,256,(List.replicate 256 (Value.bool false)),.arr 256 4,none⟩:=rfl
def EN (ac:AC) (rs:List ResultVar) (nt f:Nat):Prop:=∀ {args:List AV} {h:Hp} {Q:AE→Hp→Prop},awp Tryz.prog tab ac (retQ tab rs Q) ⟨args++List.replicate (nt - args.length) .any,h⟩→Zo Tryz.prog f args h Q
theorem acE {f:Nat} {fn:Func} {ac:AC} {ann:Nat→Ann} {rs:List ResultVar} {nt:Nat} (hf:Tryz.prog.funcs[f]? = some fn) (hs:fn.body.bind (slim ann) = some ac∧(fn.name == "runtime.NumGoroutine") = false∧fn.results.toList = rs∧fn.ntmps = nt:=by exact ⟨by kernel_rfl,by kernel_rfl,rfl,by kernel_rfl⟩):EN ac rs nt f:=
 fun H=>acalls_at tab_ok mixed hf hs H
end Go.Proofs.YtpkhmfedaaoalaaGreatDoor
