/- ItemsGlues: a part of its proof (packed by a program). -/
import Derived.Test.YtpkhmfedaaoalaaGreatDoorLie
set_option linter.all false
namespace Go.Proofs.YtpkhmfedaaoalaaGreatDoor
open Go Go.Proofs.YtpkhmfedaaoalaaGreatDoor.AM
structure Za where
 Kind:Int
 Text:ByteArray
 At:Int
 Size:Int
 deriving DecidableEq
instance : Inhabited Za:=⟨⟨0,ByteArray.mk #[],0,0⟩⟩
@[push_cast] def Za.enc (x:Za):List AV:=[.val (.int .u8 x.Kind),astr x.Text,aint x.At,aint x.Size]
structure Wsa where
 byte:Int
 at_:Int
 deriving DecidableEq
instance : Inhabited Wsa:=⟨⟨0,0⟩⟩
@[push_cast] def Wsa.enc (x:Wsa):List AV:=[.val (.int .u8 x.byte),aint x.at_]
structure Zj where
 Letters:ByteArray
 Figures:ByteArray
 deriving DecidableEq
instance : Inhabited Zj:=⟨⟨ByteArray.mk #[],ByteArray.mk #[]⟩⟩
@[push_cast] def Zj.enc (x:Zj):List AV:=[astr x.Letters,astr x.Figures]
structure Ze where
 Kind:Int
 Ch:Int
 At:Int
 deriving DecidableEq
instance : Inhabited Ze:=⟨⟨0,0,0⟩⟩
@[push_cast] def Ze.enc (x:Ze):List AV:=[aint x.Kind,.val (.int .u8 x.Ch),aint x.At]
structure Zg where
 Widths:List Int
 Stretch:Int
 Shrink:Int
 Pats:List Zj
 deriving DecidableEq
instance : Inhabited Zg:=⟨⟨[],0,0,[]⟩⟩
@[push_cast] def Zg.enc (x:Zg):List AV:=(x.Widths.map (fun v=>(aint v)))++[aint x.Stretch,aint x.Shrink,.isl 2 (x.Pats.map Zj.enc)]
structure Zh where
 Kind:Int
 Width:Int
 Stretch:Int
 Shrink:Int
 Tok:Int
 deriving DecidableEq
instance : Inhabited Zh:=⟨⟨0,0,0,0,0⟩⟩
@[push_cast] def Zh.enc (x:Zh):List AV:=[aint x.Kind,aint x.Width,aint x.Stretch,aint x.Shrink,aint x.Tok]
structure Zv where
 Tok:Ze
 node:Int
 deriving DecidableEq
instance : Inhabited Zv:=⟨⟨default,0⟩⟩
@[push_cast] def Zv.enc (x:Zv):List AV:=Ze.enc x.Tok++[aint x.node]
structure FlatGrown where
 t:List Za
 row:List Zv
 text:Bool
 deriving DecidableEq
instance : Inhabited FlatGrown:=⟨⟨[],[],false⟩⟩
@[push_cast] def FlatGrown.enc (x:FlatGrown):List AV:=[.isl 4 (x.t.map Za.enc),.isl 4 (x.row.map Zv.enc),Zk x.text]
structure Xb where
 in_:Int
 kind:Int
 deriving DecidableEq
instance : Inhabited Xb:=⟨⟨0,0⟩⟩
@[push_cast] def Xb.enc (x:Xb):List AV:=[.val (.int .u8 x.in_),.val (.int .u8 x.kind)]
theorem X8a {m1 m2:Nat} {z2:List Value} {fs:List (Nat×Nat)}:KeyV ⟨m1,m2,z2,.struct fs,some [(0,.int .u8),(1,.int .u8)]⟩ (fun x:Xb=>Value.agg #[Value.int .u8 x.in_,Value.int .u8 x.kind]):=⟨fun x=>rfl,fun x y=>by
 obtain ⟨x0,x1⟩:=x; obtain ⟨y0,y1⟩:=y
 by_cases h0:x0 = y0 <;> by_cases h1:x1 = y1 <;> simp [W4a,aeqs,Instr.sameBits,sameBits_int,sameBits_str,sameBits_bool,one_int,one_str,one_bool,h0,h1]⟩
structure Zm where
 Kind:Int
 Name:Int
 Text:ByteArray
 At:Int
 deriving DecidableEq
instance : Inhabited Zm:=⟨⟨0,0,ByteArray.mk #[],0⟩⟩
@[push_cast] def Zm.enc (x:Zm):List AV:=[aint x.Kind,.val (.int .u8 x.Name),astr x.Text,aint x.At]
structure Zc where
 kind:Int
 at_:Int
 kids:Int
 note:Int
 past:Bool
 cols:Int
 text:Int
 deriving DecidableEq
instance : Inhabited Zc:=⟨⟨0,0,0,0,false,0,0⟩⟩
@[push_cast] def Zc.enc (x:Zc):List AV:=[.val (.int .u8 x.kind),aint x.at_,aint x.kids,aint x.note,Zk x.past,aint x.cols,aint x.text]
structure Ycb where
 Metric:Zg
 out:List Zh
 word:List Int
 from_:Int
 deriving DecidableEq
instance : Inhabited Ycb:=⟨⟨default,[],[],0⟩⟩
@[push_cast] def Ycb.enc (x:Ycb):List AV:=Zg.enc x.Metric++[.isl 5 (x.out.map Zh.enc),.isl 1 (x.word.map Xj),aint x.from_]
end Go.Proofs.YtpkhmfedaaoalaaGreatDoor
namespace Go.Proofs.YtpkhmfedaaoalaaGreatDoor
open Go Go.Proofs.YtpkhmfedaaoalaaGreatDoor.AM
def isW (c:Int):Bool:=decide (c = 32) || decide (c = 10)
def sqT:List Int→Int→List Int×Int
 | [],b=>([],b)
 | c :: cs,b=>if isW c then (if b = 0∨b = 32 then sqT cs b else (32 :: (sqT cs 32).1,(sqT cs 32).2)) else (c :: (sqT cs c).1,(sqT cs c).2)
def sqK:List Int→Int→Int→Option Int
 | [],_,_=>none
 | c :: cs,b,k=>if isW c && (decide (b = 0) || decide (b = 32)) then sqK cs b (k+1) else some k
abbrev Jua:=List (Int×(Int×Int))
def sqN (x:Za) (i:Int) (f:Int×Int):Za×(Int×Int):=
 (⟨x.Kind,Yg (sqT (Zd x.Text) f.1).1,(match sqK (Zd x.Text) f.1 0 with | some k=>IntKind.i64.wrap (x.At+k) | none=>x.At),x.Size⟩,
  if (sqT (Zd x.Text) f.1).1 = [] then f else ((sqT (Zd x.Text) f.1).2,i))
def sqL:List Za→List Int→Int→Jua→List Za×Jua
 | [],_,_,m=>([],m)
 | x :: xs,[],_,m=>(x :: xs,m)
 | x :: xs,o :: os,i,m=>if x.Kind = 46 then
   ((sqN x i ((aget m o).getD (0,0))).1 :: (sqL xs os (i+1) (aset m o (sqN x i ((aget m o).getD (0,0))).2)).1,(sqL xs os (i+1) (aset m o (sqN x i ((aget m o).getD (0,0))).2)).2)
  else (x :: (sqL xs os (i+1) m).1,(sqL xs os (i+1) m).2)
def trimS (s:ByteArray):ByteArray:=if (Zd s).getLast? = some 32 then Yg ((Zd s).dropLast) else s
def sqFin (m:Jua) (i:Int) (x:Za):Za:=if m.any (fun p=>decide (p.2.1 = 32) && decide (p.2.2 = i)) then ⟨x.Kind,trimS x.Text,x.At,x.Size⟩ else x
def Zpb (m:Jua):List Za→Int→List Za
 | [],_=>[]
 | x :: xs,i=>sqFin m i x :: Zpb m xs (i+1)
def Wg (t:List Za) (ow:List Int):List Za:=Zpb (sqL t ow 0 []).2 (sqL t ow 0 []).1 0
namespace Fg
structure Via where
 size:Int
 a:Int
 b:Int
 deriving DecidableEq
def V2a (s:ByteArray) (k:Nat):Int:=((Zd s)[k]?).getD 0
def keyP (s:ByteArray):Via:=⟨s.size,V2a s 0,V2a s 1⟩
def maxL:List Int→Nat→List Int→List Int
 | f,_,[]=>f
 | f,k,c :: cs=>maxL (f.set k (if c > f.getD k 0 then c else f.getD k 0)) (k+1) cs
def V9a (ri:Zj→Bool) (ps:List Zj) (o:Via):List Zj:=ps.filter fun p=>ri p && decide (keyP p.Letters = o)
def bookF (t:ByteArray) (a:Nat) (f:List Int) (l:List Zj):List Int:=l.foldl (fun f p=>if t = p.Letters then maxL f a (Zd p.Figures) else f) f
def rowF (ri:Zj→Bool) (ps:List Zj) (s:ByteArray) (a:Nat) (f:List Int) (m:Nat):List Int:=
 (List.range m).foldl (fun f n=>bookF (s.extract a (a+(n+1))) a f (V9a ri ps (keyP (s.extract a (a+(n+1)))))) f
def matchF (ri:Zj→Bool) (ps:List Zj) (s:ByteArray) (f:List Int) (k:Nat):List Int:=(List.range k).foldl (fun f a=>rowF ri ps s a f (min 16 (s.size - a))) f
def preD (s:ByteArray):ByteArray:=if 1≤s.size∧s.extract 0 1 = ⟨#[46]⟩ then s.extract 1 s.size else s
def sufD (s:ByteArray):ByteArray:=if 1≤s.size∧s.extract (s.size - 1) s.size = ⟨#[46]⟩ then s.extract 0 (s.size - 1) else s
def smallD (c:Int):Bool:=decide (97≤c) && decide (c≤122)
def digitD (c:Int):Bool:=decide (48≤c) && decide (c≤57)
def rightX (p:Zj):Bool:=decide (sufD (preD p.Letters)≠ByteArray.mk #[]) && (Zd (sufD (preD p.Letters))).all smallD && (Zd p.Figures).all digitD && decide ((p.Letters.size:Int)≤16) && decide ((p.Figures.size:Int) = (p.Letters.size:Int)+1)
def letD (c:Int):Bool:=decide (97≤c∧c≤122) || decide (65≤c∧c≤90)
def lowD (c:Int):Int:=if 65≤c∧c≤90 then c+32 else c
def dotD:ByteArray:=ByteArray.mk #[46]
def wordD (w:ByteArray):Bool:=(Zd w).all letD && decide (¬ w = ByteArray.mk #[])
end Fg
def Zwa (ps:List Zj) (w:ByteArray):ByteArray:=
 if Fg.wordD w = true then Yg (((Fg.matchF Fg.rightX ps ((Fg.dotD++Yg ((Zd w).map Fg.lowD))++Fg.dotD) (List.replicate (w.size+3) 48) (w.size+2)).take (w.size+1)).drop 2) else ByteArray.mk #[]
end Go.Proofs.YtpkhmfedaaoalaaGreatDoor
