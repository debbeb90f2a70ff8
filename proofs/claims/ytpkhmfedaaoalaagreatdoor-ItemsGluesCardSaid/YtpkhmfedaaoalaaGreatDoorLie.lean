/- ItemsGlues: a part of its proof (packed by a program). -/
import Derived.Shelf.Strings.Trim
import Derived.Shelf.Small.Utf8
import Derived.Shelf.Small.Strs
import Derived.Shelf.Strings.Search1
import Derived.Shelf.Strings.Prefix
import Derived.Shelf.Strings.Runes
import Derived.Shelf.Strings.AsciiSet
import Derived.Shelf.Bits.Mul64
import Derived.Shelf.Strings.Repeat
import Derived.Shelf.Unicode.DecodeSlow
import Derived.Test.YtpkhmfedaaoalaaGreatDoorProg
import Derived.Test.YtpkhmfedaaoalaaGreatDoorOwn
import Derived.Below
import Derived.WalkSmall
import Derived.Test.YtpkhmfedaaoalaaGreatDoorArr
set_option linter.all false
namespace Go.Proofs
open Go.Shelf
def Tryz.lays137_ren:Go.Shelf.Ren:=⟨fun | 137=>43 | 217=>83 | 266=>128 | n=>n,fun | 9=>9 | 5=>5 | 3=>3 | n=>n,fun | n=>n⟩
theorem Tryz.lays137:Go.Proofs.Lays.n137 Tryz.prog Tryz.lays137_ren:={
 mixed:=by kernel_rfl
 f137:=Tryz.func43.trans (congrArg some (by kernel_rfl))
 f217:=Tryz.func83.trans (congrArg some (by kernel_rfl))
 f266:=Tryz.func128.trans (congrArg some (by kernel_rfl))
 t3:=Tryz.underlying3
 a3:=Tryz.isAgg3
 z3:=Tryz.sizeOf3
 v3:=Tryz.zeroValue3
 t5:=Tryz.underlying5
 a5:=Tryz.isAgg5
 z5:=Tryz.sizeOf5
 v5:=Tryz.zeroValue5
 t9:=Tryz.underlying9
 a9:=Tryz.isAgg9
 z9:=Tryz.sizeOf9
 v9:=Tryz.zeroValue9 }
open Go.RowKit in
theorem Tryz.strings_IndexByte (s:ByteArray) (c:Int) (w:World) :
  Calls Tryz.prog 43 #[.string s,.int .u8 c] w fun e w'=>e = .returned (.int .i64 (Lib.indexByte s.data.toList c.toNat.toUInt8))∧w' = w:=Any.strings_IndexByte Tryz.lays137 s c w
def Tryz.lays105_ren:Go.Shelf.Ren:=⟨fun | 105=>134 | 212=>156 | 99=>157 | 165=>158 | 166=>159 | 170=>160 | 169=>161 | 263=>166 | 264=>167 | 206=>154 | 240=>168 | 241=>169 | 276=>171 | 277=>172 | n=>n,fun | 9=>9 | 3=>3 | 4=>4 | 20=>20 | 0=>0 | 46=>130 | 109=>195 | 5=>5 | 72=>199 | 76=>203 | 51=>213 | 146=>214 | 53=>133 | 148=>216 | 70=>197 | 37=>57 | 75=>202 | 127=>218 | 164=>219 | 80=>151 | n=>n,fun | n=>n⟩
theorem Tryz.lays105:Go.Proofs.Lays.n105 Tryz.prog Tryz.lays105_ren:={
 mixed:=by kernel_rfl
 f99:=Tryz.func157.trans (congrArg some (by kernel_rfl))
 f105:=Tryz.func134.trans (congrArg some (by kernel_rfl))
 f165:=Tryz.func158.trans (congrArg some (by kernel_rfl))
 f166:=Tryz.func159.trans (congrArg some (by kernel_rfl))
 f169:=Tryz.func161.trans (congrArg some (by kernel_rfl))
 f170:=Tryz.func160.trans (congrArg some (by kernel_rfl))
 f206:=Tryz.func154.trans (congrArg some (by kernel_rfl))
 f212:=Tryz.func156.trans (congrArg some (by kernel_rfl))
 f240:=Tryz.func168.trans (congrArg some (by kernel_rfl))
 f241:=Tryz.func169.trans (congrArg some (by kernel_rfl))
 f263:=Tryz.func166.trans (congrArg some (by kernel_rfl))
 f264:=Tryz.func167.trans (congrArg some (by kernel_rfl))
 f276:=Tryz.func171.trans (congrArg some (by kernel_rfl))
 f277:=Tryz.func172.trans (congrArg some (by kernel_rfl))
 t0:=Tryz.underlying0
 a0:=Tryz.isAgg0
 z0:=Tryz.sizeOf0
 v0:=Tryz.zeroValue0
 t3:=Tryz.underlying3
 a3:=Tryz.isAgg3
 z3:=Tryz.sizeOf3
 v3:=Tryz.zeroValue3
 t4:=Tryz.underlying4
 a4:=Tryz.isAgg4
 z4:=Tryz.sizeOf4
 v4:=Tryz.zeroValue4
 t5:=Tryz.underlying5
 a5:=Tryz.isAgg5
 z5:=Tryz.sizeOf5
 v5:=Tryz.zeroValue5
 t9:=Tryz.underlying9
 a9:=Tryz.isAgg9
 z9:=Tryz.sizeOf9
 v9:=Tryz.zeroValue9
 t20:=Tryz.underlying20
 a20:=Tryz.isAgg20
 z20:=Tryz.sizeOf20
 v20:=Tryz.zeroValue20
 t37:=Tryz.underlying57
 a37:=Tryz.isAgg57
 z37:=Tryz.sizeOf57
 v37:=Tryz.zeroValue57
 t46:=Tryz.underlying130
 a46:=Tryz.isAgg130
 z46:=Tryz.sizeOf130
 v46:=Tryz.zeroValue130
 t51:=Tryz.underlying213
 a51:=Tryz.isAgg213
 z51:=Tryz.sizeOf213
 v51:=Tryz.zeroValue213
 t53:=Tryz.underlying133
 a53:=Tryz.isAgg133
 z53:=Tryz.sizeOf133
 v53:=Tryz.zeroValue133
 t70:=Tryz.underlying197
 a70:=Tryz.isAgg197
 z70:=Tryz.sizeOf197
 v70:=Tryz.zeroValue197
 t72:=Tryz.underlying199
 a72:=Tryz.isAgg199
 z72:=Tryz.sizeOf199
 v72:=Tryz.zeroValue199
 t75:=Tryz.underlying202
 a75:=Tryz.isAgg202
 z75:=Tryz.sizeOf202
 v75:=Tryz.zeroValue202
 t76:=Tryz.underlying203
 a76:=Tryz.isAgg203
 z76:=Tryz.sizeOf203
 v76:=Tryz.zeroValue203
 t109:=Tryz.underlying195
 a109:=Tryz.isAgg195
 z109:=Tryz.sizeOf195
 v109:=Tryz.zeroValue195
 t127:=Tryz.underlying218
 a127:=Tryz.isAgg218
 z127:=Tryz.sizeOf218
 v127:=Tryz.zeroValue218
 t146:=Tryz.underlying214
 a146:=Tryz.isAgg214
 z146:=Tryz.sizeOf214
 v146:=Tryz.zeroValue214
 t148:=Tryz.underlying216
 a148:=Tryz.isAgg216
 z148:=Tryz.sizeOf216
 v148:=Tryz.zeroValue216
 t164:=Tryz.underlying219
 a164:=Tryz.isAgg219
 z164:=Tryz.sizeOf219
 v164:=Tryz.zeroValue219 }
theorem Tryz.Builder_Extra_105:Builder.Extra Tryz.prog Tryz.lays105_ren:={
 sizeBuilder:=by kernel_rfl
 liesBuilder:=by kernel_rfl
 t5:=Tryz.underlying5
 a5:=Tryz.isAgg5
 z5:=Tryz.sizeOf5
 v5:=Tryz.zeroValue5
 infoByte:=by kernel_rfl
 cellsByte:=by kernel_rfl
 sizeByte:=by kernel_rfl
 neB5:=by decide }
open Go.RowKit Go.Lib in
theorem Tryz.strings_Repeat (s:ByteArray) (c:Nat) (w:World) (hc:c≤9223372036854775807) (hlen:s.size * c≤140737488355328) :
  Calls Tryz.prog 134 #[.string s,.int .i64 c] w fun e w'=>e = .returned (.string ⟨(Lib.repeatL s.data.toList c).toArray⟩)∧Below w.heap.size w w':=Any.strings_Repeat Tryz.lays105 Tryz.Builder_Extra_105 s c w hc hlen
end Go.Proofs
namespace Go.Proofs.YtpkhmfedaaoalaaGreatDoor.AM
open Go Go.RowKit
theorem HR.below {g:Gh} {h:Hp} {w w':World} (k:HR g h w) (hb:Below w.heap.size w w'):HR g h w':=by
 have old:∀ (b:Nat) (o:Obj),w.heap[b]? = some o→w'.heap[b]? = some o:=fun b o q=>by
  rw [hb.block b (Array.getElem?_eq_some_iff.1 q).1]; exact q
 refine ⟨hb.os.trans k.os,hb.tape.trans k.tape,hb.output.trans k.output,Nat.le_trans k.size hb.size,fun b o q=>old b o (k.fz b o q),fun b x q=>?_,fun b o q=>?_,k.gl,fun b o q=>⟨⟨old b o (k.raw b o q).1.1,(k.raw b o q).1.2⟩,(k.raw b o q).2⟩⟩
 ·have h1:=k.shp b x q
  have:w'.heap[b]? = w.heap[b]?:=by
   cases e2:w.heap[b]? with
   | none=>simp [World.shape?,e2] at h1
   | some o=>exact old b o e2
  simpa only [World.shape?,this] using h1
 ·obtain ⟨q1,c,e,q2,q3,q4⟩:=k.ob b o q
  exact ⟨q1,c,e,q2.of (old b),q3,q4⟩
end Go.Proofs.YtpkhmfedaaoalaaGreatDoor.AM
namespace Go.Proofs.YtpkhmfedaaoalaaGreatDoor
open Go Go.RowKit Go.Proofs.YtpkhmfedaaoalaaGreatDoor.AM
theorem Z3b {n:Nat} {args:List AV} {ρ:Type} {enc:ρ→AV} {Q:ρ→Prop} (r:ρ) (hq:Q r) (hc:callable Tryz.prog n) (H:∀ (g:Gh) (h:Hp) (w:World) (vs:Array Value),VRs g args vs.toList→HR g h w→Calls Tryz.prog n vs w fun e w'=>∃ v,e = .returned v∧VR g (enc r) v∧Below w.heap.size w w') (h0:Hp):Zo Tryz.prog n args h0 (Back h0 enc Q):=
 ⟨hc,fun g w vs hv hh=>(H g h0 w vs hv hh).mono fun e w' ⟨v,he,hx,hb⟩=>by
  subst he
  exact ⟨g,h0,.ret (enc r),Gh.le.refl g,hh.below hb,⟨r,rfl,rfl,hq⟩,hx⟩⟩
def Y2b (s:ByteArray) (c:Int):Int:=Lib.indexByte s.data.toList c.toNat.toUInt8
def strings_IndexByte.w (s:ByteArray) (c:Int) (Q:Int→Prop):Prop:=Q (Y2b s c)
theorem strings_IndexByte.ok {s:ByteArray} {c:Int} {Q:Int→Prop} (hm:strings_IndexByte.w s c Q) (h0:Hp):Zo Tryz.prog 43 [astr s,.val (.int .u8 c)] h0 (Back h0 (fun r=>aint r) Q):=by
 refine Z3b (Y2b s c) hm ⟨_,Tryz.func43,by kernel_rfl,by kernel_rfl⟩ (fun g h w vs hv hh=>?_) h0
 obtain rfl:vs = #[.string s,.int .u8 c]:=by
  match e:vs.toList,hv with
  | [u,v],hv=>
   simp only [VRs,astr,VR,and_true] at hv
   obtain ⟨rfl,rfl⟩:=hv
   apply Array.ext'; rw [e]
  | [],hv=>simp [VRs] at hv
  | [_],hv=>simp [VRs] at hv
  | _ :: _ :: _ :: _,hv=>simp [VRs] at hv
 refine (Tryz.strings_IndexByte s c w).mono ?_
 rintro e w' ⟨rfl,rfl⟩
 exact ⟨_,rfl,by simp only [aint,VR,Y2b],Below.refl _ _⟩
def Z1a (s:ByteArray) (c:Nat):ByteArray:=⟨(Lib.repeatL s.data.toList c).toArray⟩
def strings_Repeat.w (s:ByteArray) (c:Int) (Q:ByteArray→Prop):Prop:=0≤c∧c≤9223372036854775807∧s.size * c.toNat≤140737488355328∧Q (Z1a s c.toNat)
theorem strings_Repeat.ok {s:ByteArray} {c:Int} {Q:ByteArray→Prop} (hm:strings_Repeat.w s c Q) (h0:Hp):Zo Tryz.prog 134 [astr s,aint c] h0 (Back h0 (fun r=>astr r) Q):=by
 obtain ⟨c0,c1,hs,hq⟩:=hm
 refine Z3b (Z1a s c.toNat) hq ⟨_,Tryz.func134,by kernel_rfl,by kernel_rfl⟩ (fun g h w vs hv hh=>?_) h0
 obtain rfl:vs = #[.string s,.int .i64 c]:=by
  match e:vs.toList,hv with
  | [u,v],hv=>
   simp only [VRs,astr,aint,VR,and_true] at hv
   obtain ⟨rfl,rfl⟩:=hv
   apply Array.ext'; rw [e]
  | [],hv=>simp [VRs] at hv
  | [_],hv=>simp [VRs] at hv
  | _ :: _ :: _ :: _,hv=>simp [VRs] at hv
 have hc:c = (c.toNat:Int):=(Int.toNat_of_nonneg c0).symm
 rw [hc]
 refine (Tryz.strings_Repeat s c.toNat w (by omega) (by simpa using hs)).mono ?_
 rintro e w' ⟨rfl,hb⟩
 exact ⟨_,rfl,by simp only [astr,VR,Z1a,Int.toNat_natCast],hb⟩
end Go.Proofs.YtpkhmfedaaoalaaGreatDoor
