/- A part of the proof that Iol's row holds (made smaller by a program: its texts stand in wip/tpl). -/
import Derived.Test.YtpkhmfedaaoalaaGreatDoorAwk
import Derived.Test.YtpkhmfedaaoalaaGreatDoorWA2
import Derived.Test.YtpkhmfedaaoalaaGreatDoorWA15
import Derived.Test.YtpkhmfedaaoalaaGreatDoorWA16
set_option linter.unusedSimpArgs false
set_option linter.unusedVariables false
set_option linter.unusedSectionVars false
namespace Go.Proofs.YtpkhmfedaaoalaaGreatDoor
open Go Go.Proofs.YtpkhmfedaaoalaaGreatDoor.AM
set_option maxRecDepth 100000
set_option linter.unusedSimpArgs false
set_option linter.unusedVariables false
set_option maxHeartbeats 4000000
abbrev X4a:Nat:=4
def Y4a:Nat→Ann
 | 10=>{ pure:=[6],plan:=(.op 0 (.op 1 (.op 2 (.op 3 (.op 4 (.op 5 (.op 6 (.op 7 (.op 8 (.op 9 (.op 10 (.op 11 .done)))))))))))),ghost:=false,post:=false }
 | 18=>{ pure:=[],plan:=(.op 0 (.op 1 (.op 2 (.op 3 (.op 4 (.op 5 (.op 6 (.op 7 (.op 8 (.op 9 (.op 10 (.op 11 (.op 12 (.op 13 .done)))))))))))))),ghost:=false,post:=false }
 | 22=>{ pure:=[],plan:=(.op 0 (.op 1 (.op 2 (.op 3 (.op 4 (.op 5 (.op 6 (.op 7 (.op 8 (.op 9 (.op 10 (.op 11 (.op 12 (.op 13 (.op 14 (.op 15 (.op 16 (.op 17 (.op 18 (.op 19 (.op 20 (.op 21 (.op 22 (.op 23 (.op 24 (.op 25 (.op 26 (.op 27 (.op 28 (.op 29 (.op 30 (.op 31 (.op 32 (.op 33 (.op 34 (.op 35 (.op 36 (.op 37 (.op 38 (.op 39 (.op 40 (.op 41 (.op 42 (.op 43 (.op 44 (.op 45 (.op 46 (.op 47 (.op 48 (.op 49 (.op 50 (.op 51 .done)))))))))))))))))))))))))))))))))))))))))))))))))))),ghost:=false,post:=false }
 | _=>{}
noncomputable def Yla:AC:=
 (.seq (.seq (.draw [oF 96 41 13 4,oL 97 3 96,oM 98 11,oO 99 (.binOp .leq 3 (oT 97) (oT 98) 3),oM 100 99,oG 101 100 false (.fieldAddr 43 (oT 14) 0),oG 102 100 false (.load 3 (oT 101)),oG 103 100 false (.binOp .eql 3 (oT 102) (oC 1) 3),oG 104 100 false (.move (oT 103)),oG 105 104 true (.fieldAddr 43 (oT 14) 1),oG 106 104 true (.load 5 (oT 105)),oG 107 104 true (.binOp .eql 5 (oT 106) (oD 32) 5),oG 108 100 false (.pick (oT 104) (oT 107) (.const (.bool false))),oG 109 100 false (.fieldAddr 41 (oT 13) 0),oG 110 100 false (.load 3 (oT 109)),oG 111 100 false (.binOp .eql 3 (oT 110) (oC 2) 3),oG 112 100 false (.binOp .neq 4 (oT 108) (oT 111) 4),oO 113 (.pick (oT 100) (.const (.bool true)) (oT 112)),oM 114 113,oG 115 114 false (.fieldAddr 43 (oT 14) 0),oG 116 114 false (.load 3 (oT 115)),oG 117 114 false (.binOp .eql 3 (oT 116) (oC 2) 3),oG 118 114 false (.move (oT 117)),oG 119 118 true (.fieldAddr 43 (oT 14) 1),oG 120 118 true (.load 5 (oT 119)),oG 121 118 true (.binOp .eql 5 (oT 120) (oD 110) 5),oG 122 114 false (.pick (oT 118) (oT 121) (.const (.bool false))),oG 123 114 false (.fieldAddr 41 (oT 13) 0),oG 124 114 false (.load 3 (oT 123)),oG 125 114 false (.binOp .eql 3 (oT 124) (oC 4) 3),oG 126 114 false (.binOp .neq 4 (oT 122) (oT 125) 4),oO 127 (.pick (oT 114) (.const (.bool true)) (oT 126)),oM 128 127,oG 129 128 false (.fieldAddr 43 (oT 14) 0),oG 130 128 false (.load 3 (oT 129)),oG 131 128 false (.binOp .eql 3 (oT 130) (oC 1) 3),oG 132 128 false (.move (oT 131)),oG 133 132 true (.fieldAddr 43 (oT 14) 1),oG 134 132 true (.load 5 (oT 133)),oG 135 132 true (.binOp .lss 5 (oT 134) (oD 128) 5),oG 136 128 false (.pick (oT 132) (oT 135) (.const (.bool false))),oG 137 128 false (.move (oT 136)),oG 138 137 true (.fieldAddr 41 (oT 13) 1),oG 139 137 true (.load 3 (oT 138)),oG 140 137 true (.fieldAddr 43 (oT 14) 1),oG 141 137 true (.load 5 (oT 140)),oG 142 137 true (.fieldAddr 26 (oT 3) 0),oG 143 137 true (.indexAddr 23 (oT 142) (oT 141)),oG 144 137 true (.load 3 (oT 143)),oG 145 137 true (.binOp .neq 3 (oT 139) (oT 144) 3),oG 146 128 false (.pick (oT 137) (oT 145) (.const (.bool false))),oO 147 (.pick (oT 128) (.const (.bool true)) (oT 146))] (.op 0 (.op 1 (.op 2 (.op 3 (.op 4 (.op 5 (.op 6 (.op 7 (.op 8 (.op 9 (.op 10 (.op 11 (.op 12 (.op 13 (.op 14 (.op 15 (.op 16 (.op 17 (.op 18 (.op 19 (.op 20 (.op 21 (.op 22 (.op 23 (.op 24 (.op 25 (.op 26 (.op 27 (.op 28 (.op 29 (.op 30 (.op 31 (.op 32 (.op 33 (.op 34 (.op 35 (.op 36 (.op 37 (.op 38 (.op 39 (.op 40 (.op 41 (.op 42 (.op 43 (.op 44 (.op 45 (.op 46 (.op 47 (.op 48 (.op 49 (.op 50 (.op 51 .done))))))))))))))))))))))))))))))))))))))))))))))))))))) (.cond (oT 147) (.seq (.reg [oO 4 (.assign (.const (.bool false)))]) .ret) .skip)) (.seq (.reg [oF 148 41 13 4,oL 149 3 148,oA 11 149]) (.reg [oM 150 7,oF 151 41 13 4,oL 152 3 151,oI 153 29 150 152,oL 154 3 153,oO 155 (.binOp .add 3 (oT 154) (oC 1) 3),oI 156 29 150 152,oS (.store 3 (oT 156) (oT 155))])))
noncomputable def Yka:AC:=
 (.seq (.block 3 (.seq (.reg [oM 70 9,oM 71 12,oI 72 33 70 71,oL 73 41 72,oO 13 (.alloc 41),oS (.store 41 (oT 13) (oT 73))]) (.seq (.seq (.draw [oF 74 41 13 4,oL 75 3 74,oM 76 5,oM 77 8,oI 78 29 76 77,oL 79 3 78,oO 80 (.binOp .leq 3 (oT 75) (oT 79) 3),oM 81 80,oG 82 81 false (.fieldAddr 41 (oT 13) 4),oG 83 81 false (.load 3 (oT 82)),oG 84 81 false (.move (oT 0)),oG 85 81 false (.call (.mk (.builtin .len) #[(oT 84)] #[22])),oG 86 81 false (.binOp .geq 3 (oT 83) (oT 85) 3),oO 87 (.pick (oT 81) (.const (.bool true)) (oT 86))] (.op 0 (.op 1 (.op 2 (.op 3 (.op 4 (.op 5 (.op 6 (.op 7 (.op 8 (.op 9 (.op 10 (.op 11 (.op 12 (.op 13 .done))))))))))))))) (.cond (oT 87) (.seq (.reg [oO 4 (.assign (.const (.bool false)))]) .ret) .skip)) (.seq (.seq (.reg [oF 88 41 13 0,oL 89 3 88,oO 90 (.binOp .eql 3 (oT 89) (oC 3) 3)]) (.cond (oT 90) (.exit 3) .skip)) (.seq (.reg [oM 91 0,oF 92 41 13 4,oL 93 3 92,oI 94 22 91 93,oL 95 43 94,oO 14 (.alloc 43),oS (.store 43 (oT 14) (oT 95))]) Yla))))) (.reg [oM 68 12,oO 69 (.binOp .add 3 (oT 68) (oC 1) 3),oA 12 69]))
noncomputable def Yja:AC:=
 (.seq (.reg [oM 163 0,oM 164 15,oI 165 22 163 164,oF 166 43 165 0,oL 167 3 166,oO 168 (.binOp .eql 3 (oT 167) (oC 1) 3),oM 169 168,oG 170 169 false (.move (oT 0)),oG 171 169 false (.move (oT 15)),oG 172 169 false (.indexAddr 22 (oT 170) (oT 171)),oG 173 169 false (.fieldAddr 43 (oT 172) 0),oG 174 169 false (.load 3 (oT 173)),oG 175 169 false (.binOp .eql 3 (oT 174) (oC 2) 3),oG 176 169 false (.move (oT 175)),oG 177 176 true (.move (oT 0)),oG 178 176 true (.move (oT 15)),oG 179 176 true (.indexAddr 22 (oT 177) (oT 178)),oG 180 176 true (.fieldAddr 43 (oT 179) 1),oG 181 176 true (.load 5 (oT 180)),oG 182 176 true (.binOp .eql 5 (oT 181) (oD 110) 5),oG 183 169 false (.pick (oT 176) (oT 182) (.const (.bool false))),oO 184 (.pick (oT 169) (.const (.bool true)) (oT 183)),oA 16 184]) (.seq (.reg [oM 185 16,oM 186 7,oM 187 15,oI 188 29 186 187,oL 189 3 188,oO 190 (.binOp .eql 3 (oT 189) (oC 1) 3),oO 191 (.binOp .neq 4 (oT 185) (oT 190) 4),oM 192 191,oG 193 192 false (.move (oT 7)),oG 194 192 false (.move (oT 15)),oG 195 192 false (.indexAddr 29 (oT 193) (oT 194)),oG 196 192 false (.load 3 (oT 195)),oG 197 192 false (.binOp .gtr 3 (oT 196) (oC 1) 3),oO 198 (.pick (oT 192) (.const (.bool true)) (oT 197))]) (.cond (oT 198) (.seq (.reg [oO 4 (.assign (.const (.bool false)))]) .ret) .skip)))
noncomputable def Jf:AC:=
 (.seq (.reg [oO 3 (.box 26 (oT 1)),oO 4 (.assign (.const (.bool false)))]) (.seq (.seq (.reg [oM 17 0,oL 18 26 3,oO 19 (oK 6 #[(oT 17),(oT 18)] #[22,26])]) (.cond (oT 19) (.seq (.reg [oO 20 (oK 7 #[] #[]),oA 4 20]) .ret) .skip)) (.seq (.reg [oM 22 0,oO 23 (oK 8 #[(oT 22)] #[22]),oM 21 23,oO 24 (.extract (oT 21) 0),oO 25 (.extract (oT 21) 1),oA 5 24,oA 6 25]) (.seq (.seq (.reg [oM 26 6,oO 27 (.binOp .neq 30 (oT 26) (oC 0) 30)]) (.cond (oT 27) (.seq (.reg [oM 28 5,oN 29 28 29,oO 30 (.binOp .eql 3 (oT 29) (oC 0) 3),oM 31 30,oG 32 31 true (oK 7 #[] #[]),oO 33 (.pick (oT 31) (oT 32) (.const (.bool false))),oA 4 33]) .ret) .skip)) (.seq (.reg [oM 34 0,oN 35 34 22,oO 36 (.makeSlice 29 (oT 35) (oT 35)),oA 7 36]) (.seq (.seq (.reg [oO 8 (.assign (oC 0))]) (.block 0 (.loop (.seq (.seq (.reg [oM 37 8,oM 38 5,oN 39 38 29,oO 40 (.binOp .lss 3 (oT 37) (oT 39) 3)]) (.cond (oT 40) .skip (.exit 0))) (.seq (.block 1 (.seq (.draw [oM 44 0,oL 45 26 3,oM 46 5,oM 47 8,oI 48 29 46 47,oL 49 3 48,⟨some 50,(oK 10 #[(oT 44),(oT 45),(oT 49)] #[22,26,3]),none,true⟩,oM 43 50,oO 51 (.extract (oT 43) 0),oO 52 (.extract (oT 43) 1),oA 9 51,oA 10 52] (.op 0 (.op 1 (.op 2 (.op 3 (.op 4 (.op 5 (.op 6 (.op 7 (.op 8 (.op 9 (.op 10 (.op 11 .done))))))))))))) (.seq (.seq (.reg [oM 53 10,oO 54 (.binOp .neq 30 (oT 53) (oC 0) 30)]) (.cond (oT 54) (.seq (.reg [oM 55 10,oO 56 (.binOp .eql 30 (oT 55) (oC 7) 30),oM 57 56,oG 58 57 true (oK 7 #[] #[]),oO 59 (.pick (oT 57) (oT 58) (.const (.bool false))),oA 4 59]) .ret) .skip)) (.seq (.reg [oM 60 5,oM 61 8,oI 62 29 60 61,oL 63 3 62,oA 11 63]) (.seq (.reg [oO 12 (.assign (oC 0))]) (.block 2 (.loop (.seq (.seq (.reg [oM 64 12,oM 65 9,oN 66 65 33,oO 67 (.binOp .lss 3 (oT 64) (oT 66) 3)]) (.cond (oT 67) .skip (.exit 2))) Yka)))))))) (.reg [oM 41 8,oO 42 (.binOp .add 3 (oT 41) (oC 1) 3),oA 8 42])))))) (.seq (.seq (.reg [oO 15 (.assign (oC 0))]) (.block 4 (.loop (.seq (.seq (.reg [oM 157 15,oM 158 0,oN 159 158 22,oO 160 (.binOp .lss 3 (oT 157) (oT 159) 3)]) (.cond (oT 160) .skip (.exit 4))) (.seq (.block 5 Yja) (.reg [oM 161 15,oO 162 (.binOp .add 3 (oT 161) (oC 1) 3),oA 15 162])))))) (.seq (.reg [oO 199 (oK 7 #[] #[]),oA 4 199]) .ret))))))))
theorem Yca:EN Jf [(ResultVar.tmp 4)] 200 4:=acE Tryz.func4 (ann:=Y4a)
def Xd.w (a0_:List Ze) (a1_:Zg) (Q:Bool→Prop):Prop:=
 (a1_.Widths.length = 128) ∧
 X3.w a0_ a1_ (fun r1=>
  if r1 = true then
   Yh.w  (fun r2=>
    Q r2)
  else
   K7.w a0_ (fun r3=>
    if r3.2 = 0 then
     (0≤(a0_.length:Int)∧(a0_.length:Int)≤(a0_.length:Int)∧8 * (a0_.length:Int)≤281474976710656) ∧
     X2 (σ:=(List Int)×Int) (fun ⟨a1,a2⟩ next1=>
      if a2 < (r3.1.length:Int) then
       (0≤a2) ∧
       ∃ v1:Int,r3.1[a2.toNat]? = some v1 ∧
       ∃ r5:(List Zh)×Int,Jn.w a0_ a1_ v1 (fun r'=>r' = r5) ∧
       if r5.2 = 0 then
        X2 (σ:=(List Int)×Int×Int) (fun ⟨a3,a4,a5⟩ next2=>
         if a5 < (r5.1.length:Int) then
          wcut (α:=(List Int)×Int) (fun k1=>
           (0≤a5) ∧
           ∃ v3:Zh,r5.1[a5.toNat]? = some v3 ∧
           if v3.Tok≤v1 then
            Q false
           else
            if (a0_.length:Int)≤v3.Tok then
             Q false
            else
             if v3.Kind = 3 then
              k1 (a3,a4)
             else
              (0≤v3.Tok) ∧
              ∃ v5:Ze,a0_[v3.Tok.toNat]? = some v5 ∧
              wcut (α:=Unit) (fun k2=>
               if v3.Tok≤a4 then
                Q false
               else
                if v5.Kind = 1 then
                 if (!(decide (v5.Ch = 32) == decide (v3.Kind = 2))) = true then
                  Q false
                 else
                  if v5.Kind = 2 then
                   if (!(decide (v5.Ch = 110) == decide (v3.Kind = 4))) = true then
                    Q false
                   else
                    if v5.Ch < 128 then
                     (0≤v5.Ch) ∧
                     (v5.Ch.toNat < 128) ∧
                     ∃ v6:Int,a1_.Widths[v5.Ch.toNat]? = some v6 ∧
                     if v3.Width = v6 then
                      k2 ()
                     else
                      Q false
                    else
                     k2 ()
                  else
                   if (!(false == decide (v3.Kind = 4))) = true then
                    Q false
                   else
                    if v5.Ch < 128 then
                     (0≤v5.Ch) ∧
                     (v5.Ch.toNat < 128) ∧
                     ∃ v7:Int,a1_.Widths[v5.Ch.toNat]? = some v7 ∧
                     if v3.Width = v7 then
                      k2 ()
                     else
                      Q false
                    else
                     k2 ()
                else
                 if (!(false == decide (v3.Kind = 2))) = true then
                  Q false
                 else
                  if v5.Kind = 2 then
                   if (!(decide (v5.Ch = 110) == decide (v3.Kind = 4))) = true then
                    Q false
                   else
                    k2 ()
                  else
                   if (!(false == decide (v3.Kind = 4))) = true then
                    Q false
                   else
                    k2 ()) (fun _=>
               ∃ v8:Int,a3[v3.Tok.toNat]? = some v8 ∧
               (I64 (v8+1)) ∧
               k1 (a3.set v3.Tok.toNat (v8+1),v3.Tok))) (fun ⟨a6,a7⟩=>
           (I64 (a5+1)) ∧
           next2 (a6,a7,a5+1))
         else
          (I64 (a2+1)) ∧
          next1 (a3,a2+1)) (a1,v1,0)
       else
        if r5.2 = 7 then
         Yh.w  (fun r6=>
          Q r6)
        else
         Q false
      else
       X2 (σ:=(List Int)×Int) (fun ⟨a8,a9⟩ next3=>
        if a9 < (a0_.length:Int) then
         wcut (α:=Bool) (fun k3=>
          (0≤a9) ∧
          ∃ v10:Ze,a0_[a9.toNat]? = some v10 ∧
          if v10.Kind = 1 then
           k3 true
          else
           if v10.Kind = 2 then
            k3 (decide (v10.Ch = 110))
           else
            k3 false) (fun a10=>
          (0≤a9) ∧
          ∃ v13:Int,a8[a9.toNat]? = some v13 ∧
          if (!(a10 == decide (v13 = 1))) = true then
           Q false
          else
           if 1 < v13 then
            Q false
           else
            (I64 (a9+1)) ∧
            next3 (a8,a9+1))
        else
         Yh.w  (fun r7=>
          Q r7)) (a1,0)) (List.replicate a0_.length 0,0)
    else
     if (r3.1.length:Int) = 0 then
      Yh.w  (fun r4=>
       Q r4)
     else
      Q false))
theorem Xd.ok {a0_:List Ze} {a1_:Zg} {Q:Bool→Prop} (hm:Xd.w a0_ a1_ Q) (h0:Hp):Zo Tryz.prog X4a [(.isl 3 (a0_.map Ze.enc)),(.agg (Zg.enc a1_))] h0 (Back h0 (fun r=>(Zk r)) Q):=by
 refine Yca ?_
 unfold Xd.w at hm
 have H:=AM.Own.nil h0
 try simp -implicitDefEqProofs (disch:=omega) only [push_cast,seval,Jf]
 obtain ⟨z1,hm⟩:=hm
 have fa1g0:∀ r:List AV,(List.map (fun v=>AV.val (Value.int IntKind.i64 v)) a1_.Widths++r)[128]? = r[0]?:=fun r=>Zz (k:=0) z1 r
 have fa1t0:∀ r:List AV,(List.map (fun v=>AV.val (Value.int IntKind.i64 v)) a1_.Widths++r).take 129 = List.map (fun v=>AV.val (Value.int IntKind.i64 v)) a1_.Widths++r.take 1:=fun r=>Zr (k:=1) z1 r
 have fa1g1:∀ r:List AV,(List.map (fun v=>AV.val (Value.int IntKind.i64 v)) a1_.Widths++r)[129]? = r[1]?:=fun r=>Zz (k:=1) z1 r
 have fa1t1:∀ r:List AV,(List.map (fun v=>AV.val (Value.int IntKind.i64 v)) a1_.Widths++r).take 130 = List.map (fun v=>AV.val (Value.int IntKind.i64 v)) a1_.Widths++r.take 2:=fun r=>Zr (k:=2) z1 r
 have fa1g2:∀ r:List AV,(List.map (fun v=>AV.val (Value.int IntKind.i64 v)) a1_.Widths++r)[130]? = r[2]?:=fun r=>Zz (k:=2) z1 r
 have fa1t2:∀ r:List AV,(List.map (fun v=>AV.val (Value.int IntKind.i64 v)) a1_.Widths++r).take 131 = List.map (fun v=>AV.val (Value.int IntKind.i64 v)) a1_.Widths++r.take 3:=fun r=>Zr (k:=3) z1 r
 refine ⟨by first | rfl | (rw [Xu z1]; rfl) | (simp [push_cast]; omega),?_⟩
 refine H.newR (List.map (fun v=>AV.val (Value.int IntKind.i64 v)) a1_.Widths++[(aint a1_.Stretch),(aint a1_.Shrink),(.isl 2 (a1_.Pats.map Zj.enc))]) (by first | rfl | (simp only [List.append_assoc,List.cons_append,List.nil_append]; try rfl)) (fun b1 h1 H=>?_)
 have u1:=Xu (f:=(fun v=>AV.val (Value.int IntKind.i64 v))) z1
 have u2:=Vb (f:=(fun v=>AV.val (Value.int IntKind.i64 v))) z1
 refine sg (ai u1 (ai u2 (ai fa1g0 (ai fa1t0 (ai fa1g1 (ai fa1t1 (ai fa1g2 (ai fa1t2 (H.p 0 rfl))))))))) ?_
 refine Zn (fun h=>X3.ok hm h) (fun r1 hm=>?_)
 refine sg (ai u1 (ai u2 (ai fa1g0 (ai fa1t0 (ai fa1g1 (ai fa1t1 (ai fa1g2 (ai fa1t2 (H.p 0 rfl))))))))) ?_
 rw [Zw]
 refine ⟨fun c1=>?_,fun c1=>?_⟩
 ·replace hm:=ifp hm c1
  have F1:=ai fa1g0 (ai fa1t0 (ai fa1g1 (ai fa1t1 (ai fa1g2 (ai fa1t2 c1)))))
  refine sg (ai F1 (ai u1 (ai u2 (H.p 0 rfl)))) ?_
  refine Zn (fun h=>Yh.ok hm h) (fun r2 hm=>?_)
  refine sg (ai F1 (ai u1 (ai u2 (H.p 0 rfl)))) ?_
  exact Zb (.inl rfl) r2 _ rfl (Zf.refl _ _) H.sub hm
 replace hm:=ifn hm (by rw [c1]; exact Bool.false_ne_true)
 have F2:=ai fa1g0 (ai fa1t0 (ai fa1g1 (ai fa1t1 (ai fa1g2 (ai fa1t2 c1)))))
 refine sg (ai F2 (ai u1 (ai u2 (H.p 0 rfl)))) ?_
 refine Zn (fun h=>K7.ok hm h) (fun r3 hm=>?_)
 refine sg (ai F2 (ai u1 (ai u2 (H.p 0 rfl)))) ?_
 refine fkc (fun c2=>?_) fun c2=>?_
 ·replace hm:=ifn hm c2
  refine sg (ai F2 (ai u1 (ai u2 (ai (eq_false c2) (H.p 0 rfl))))) ?_
  refine gfk (fun c3=>?_) fun c3=>?_
  ·replace hm:=ifp hm c3
   refine sg (ai F2 (ai u1 (ai u2 (ai (eq_false c2) (ai (eq_true c3) (H.p 0 rfl)))))) ?_
   refine Zn (fun h=>Yh.ok hm h) (fun r4 hm=>?_)
   refine sg (ai F2 (ai u1 (ai u2 (ai (eq_false c2) (ai (eq_true c3) (H.p 0 rfl)))))) ?_
   exact Zb (.inl rfl) r4 _ rfl (Zf.refl _ _) H.sub hm
  replace hm:=ifn hm c3
  refine sg (ai F2 (ai u1 (ai u2 (ai (eq_false c2) (ai (eq_false c3) (H.p 0 rfl)))))) ?_
  exact Zb (.inl rfl) false _ rfl (Zf.refl _ _) H.sub hm
 replace c2:=Decidable.not_not.1 c2
 replace hm:=ifp hm c2
 refine sg (ai F2 (ai u1 (ai u2 (ai (eq_true c2) (H.p 0 rfl))))) ?_
 obtain ⟨w1,hm⟩:=hm
 first | refine ⟨by decide,by omega,by omega,by omega,by omega,?_⟩ | refine ⟨by omega,by omega,by omega,by omega,?_⟩ | refine ⟨by omega,by omega,by omega,?_⟩ | refine ⟨by omega,by omega,?_⟩ | refine ⟨by omega,?_⟩ | skip
 refine H.newL (E:=Yd) (List.replicate a0_.length 0) (by rw [List.map_replicate]; rfl) (List.length_replicate) (fun b2 h2 H=>?_)
 refine sg (ai F2 (ai u1 (ai u2 (ai (eq_true c2) (H.p 0 rfl))))) ?_
 obtain ⟨inv1,mu1,hi1,hs1⟩:=hm
 replace H:=H.pm [0,1]
 refine Z7 (σ:=((List Int)×Int)×AV×Hp) (fun ⟨⟨a1,a2⟩,x1,h3⟩=>⟨(((((List.replicate 200 AV.any).set 0 (.isl 3 (a0_.map Ze.enc))).set 3 (.optr b1 131 0 0)).set 5 (.isl 1 (r3.1.map Yd))).set 7 x1).set 8 (aint a2),h3⟩) (fun ⟨⟨a1,a2⟩,x1,h3⟩=>inv1 (a1,a2)∧AM.Own h0 h3 [⟨(.optr b1 131 0 0),true,131,[(List.map (fun v=>AV.val (Value.int IntKind.i64 v)) a1_.Widths++[(aint a1_.Stretch),(aint a1_.Shrink),(.isl 2 (a1_.Pats.map Zj.enc))])],some (26,131)⟩,⟨x1,false,1,a1.map Yd,some (3,0)⟩]) (fun ⟨⟨a1,a2⟩,x1,h3⟩=>mu1 (a1,a2)) ⟨(List.replicate a0_.length 0,0),(.osl b2 1 0 a0_.length),h2⟩ (rtw) ⟨hi1,H⟩ ?_
 rintro ⟨⟨a1,a2⟩,x1,h3⟩ ⟨hi1,H⟩
 have hm:=hs1 _ hi1
 dsimp only at hm H ⊢
 have F3:=ai fa1g0 (ai fa1t0 (ai fa1g1 (ai fa1t1 (ai fa1g2 (ai fa1t2 (ai c1 (eq_true c2)))))))
 refine sg (ai F3 (ai u1 (ai u2 (H.p 0 rfl)))) ?_
 refine fkc (fun c4=>?_) fun c4=>?_
 ·replace hm:=ifp hm c4
  obtain ⟨z2,v1,i1,hm⟩:=hm
  refine sg (ai F3 (ai u1 (ai u2 (ai (eq_true c4) (ai (eq_true z2) (ai i1 (H.p 0 rfl))))))) ?_
  obtain ⟨r5,g1,hm⟩:=hm
  refine K4a _ (Jc (fun h=>Jn.ok g1 h)) ?_
  refine sg (ai F3 (ai u1 (ai u2 (ai (eq_true c4) (ai (eq_true z2) (ai i1 (H.p 0 rfl))))))) ?_
  refine fkc (fun c5=>?_) fun c5=>?_
  ·replace hm:=ifn hm c5
   have F4:=ai F3 (ai (eq_true c4) (ai (eq_true z2) (ai i1 (eq_false c5))))
   refine sg (ai F4 (ai u1 (ai u2 (H.p 0 rfl)))) ?_
   refine gfk (fun c6=>?_) fun c6=>?_
   ·replace hm:=ifp hm c6
    refine sg (ai F4 (ai u1 (ai u2 (ai (eq_true c6) (H.p 0 rfl))))) ?_
    refine Zn (fun h=>Yh.ok hm h) (fun r6 hm=>?_)
    refine sg (ai F4 (ai u1 (ai u2 (ai (eq_true c6) (H.p 0 rfl))))) ?_
    exact Zb (.inl rfl) r6 _ rfl (Zf.refl _ _) H.sub hm
   replace hm:=ifn hm c6
   refine sg (ai F4 (ai u1 (ai u2 (ai (eq_false c6) (H.p 0 rfl))))) ?_
   exact Zb (.inl rfl) false _ rfl (Zf.refl _ _) H.sub hm
  replace c5:=Decidable.not_not.1 c5
  replace hm:=ifp hm c5
  have F5:=ai F3 (ai (eq_true c4) (ai (eq_true z2) (ai i1 (eq_true c5))))
  refine sg (ai F5 (ai u1 (ai u2 (H.p 0 rfl)))) ?_
  obtain ⟨inv2,mu2,hi2,hs2⟩:=hm
  replace H:=H.pm [0,1]
  refine Z7 (σ:=((List Int)×Int×Int)×AV×Hp) (fun ⟨⟨a3,a4,a5⟩,x2,h4⟩=>⟨((((((((List.replicate 200 AV.any).set 0 (.isl 3 (a0_.map Ze.enc))).set 3 (.optr b1 131 0 0)).set 5 (.isl 1 (r3.1.map Yd))).set 7 x2).set 8 (aint a2)).set 9 (.isl 5 (r5.1.map Zh.enc))).set 11 (aint a4)).set 12 (aint a5),h4⟩) (fun ⟨⟨a3,a4,a5⟩,x2,h4⟩=>inv2 (a3,a4,a5)∧AM.Own h0 h4 [⟨(.optr b1 131 0 0),true,131,[(List.map (fun v=>AV.val (Value.int IntKind.i64 v)) a1_.Widths++[(aint a1_.Stretch),(aint a1_.Shrink),(.isl 2 (a1_.Pats.map Zj.enc))])],some (26,131)⟩,⟨x2,false,1,a3.map Yd,some (3,0)⟩]) (fun ⟨⟨a3,a4,a5⟩,x2,h4⟩=>mu2 (a3,a4,a5)) ⟨(a1,v1,0),x1,h3⟩ (rtw) ⟨hi2,H⟩ ?_
  rintro ⟨⟨a3,a4,a5⟩,x2,h4⟩ ⟨hi2,H⟩
  have hm:=hs2 _ hi2
  dsimp only at hm H ⊢
  have F6:=ai fa1g0 (ai fa1t0 (ai fa1g1 (ai fa1t1 (ai fa1g2 (ai fa1t2 (ai c1 (ai (eq_true c2) (ai (eq_true c4) (ai (eq_true z2) (ai i1 (eq_true c5)))))))))))
  refine sg (ai F6 (ai u1 (ai u2 (H.p 0 rfl)))) ?_
  refine fkc (fun c7=>?_) fun c7=>?_
  ·replace hm:=ifp hm c7
   refine sg (ai F6 (ai u1 (ai u2 (ai (eq_true c7) (H.p 0 rfl))))) ?_
   obtain ⟨k1,hm,hk1⟩:=Yn hm
   obtain ⟨M1,hM1⟩:∃ M:AM.St→Prop,M = (fun s'=>∃ (a6:List Int) (a7:Int) (x3:AV) (h5:Hp),Like s'.tm (((((((((List.replicate 200 none).set 0 (some (.isl 3 (a0_.map Ze.enc)))).set 3 (some (.optr b1 131 0 0))).set 5 (some (.isl 1 (r3.1.map Yd)))).set 7 (some x3)).set 8 (some (aint a2))).set 9 (some (.isl 5 (r5.1.map Zh.enc)))).set 11 (some (aint a7))).set 12 (some (aint a5)))∧s'.h = h5∧AM.Own h0 h5 [⟨(.optr b1 131 0 0),true,131,[(List.map (fun v=>AV.val (Value.int IntKind.i64 v)) a1_.Widths++[(aint a1_.Stretch),(aint a1_.Shrink),(.isl 2 (a1_.Pats.map Zj.enc))])],some (26,131)⟩,⟨x3,false,1,a6.map Yd,some (3,0)⟩]∧k1 (a6,a7)):=⟨_,rfl⟩
   refine Xe M1 ?_ ?_
   ·obtain ⟨z3,v3,i3,hm⟩:=hm
    refine sg (ai F6 (ai u1 (ai u2 (ai (eq_true c7) (ai (eq_true z3) (ai i3 (H.p 0 rfl))))))) ?_
    refine H.newR [(aint 0),(aint 0),(aint 0),(aint 0),(aint 0)] rfl (fun b3 h6 H=>?_)
    refine sg (ai F6 (ai u1 (ai u2 (ai (eq_true c7) (ai (eq_true z3) (ai i3 (ai (H.p 0 rfl) (H.p 2 rfl)))))))) ?_
    refine H.stP 2 (Zh.enc v3) rfl rfl rfl rfl (Nat.le_of_ble_eq_true rfl) rfl (fun h7 H=>?_)
    refine sg (ai F6 (ai u1 (ai u2 (ai (eq_true c7) (ai (eq_true z3) (ai i3 (ai (H.p 0 rfl) (H.p 2 rfl)))))))) ?_
    refine gfk' (fun c8=>?_) fun c8=>?_
    ·replace hm:=ifp hm c8
     have F7:=ai F6 (ai (eq_true c7) (ai (eq_true z3) (ai i3 (eq_true c8))))
     refine sg (ai F7 (ai u1 (ai u2 (ai (H.p 0 rfl) (H.p 2 rfl))))) ?_
     exact Zb (.inl rfl) false _ rfl (Zf.refl _ _) H.sub hm
    replace hm:=ifn hm c8
    have F8:=ai F6 (ai (eq_true c7) (ai (eq_true z3) (ai i3 (eq_false c8))))
    refine sg (ai F8 (ai u1 (ai u2 (ai (H.p 0 rfl) (H.p 2 rfl))))) ?_
    refine fkc (fun c9=>?_) fun c9=>?_
    ·replace hm:=ifp hm c9
     refine sg (ai F8 (ai u1 (ai u2 (ai (eq_true c9) (ai (H.p 0 rfl) (H.p 2 rfl)))))) ?_
     exact Zb (.inl rfl) false _ rfl (Zf.refl _ _) H.sub hm
    replace hm:=ifn hm c9
    refine sg (ai F8 (ai u1 (ai u2 (ai (eq_false c9) (ai (H.p 0 rfl) (H.p 2 rfl)))))) ?_
    refine fkc (fun c10=>?_) fun c10=>?_
    ·replace hm:=ifp hm c10
     refine sg (ai F8 (ai u1 (ai u2 (ai (eq_false c9) (ai (eq_true c10) (ai (H.p 0 rfl) (H.p 2 rfl))))))) ?_
     replace H:=H.pm [0,1]
     subst hM1
     exact ⟨a3,a4,x2,h7,lkt,rfl,H,hm⟩
    replace hm:=ifn hm c10
    obtain ⟨z4,v5,i5,hm⟩:=hm
    have F9:=ai F8 (ai (eq_false c9) (ai (eq_false c10) (ai (eq_true z4) i5)))
    refine sg (ai F9 (ai u1 (ai u2 (ai (H.p 0 rfl) (H.p 2 rfl))))) ?_
    refine H.newR [(aint 0),(.val (.int .u8 0)),(aint 0)] rfl (fun b4 h8 H=>?_)
    refine sg (ai F9 (ai u1 (ai u2 (ai (H.p 0 rfl) (ai (H.p 2 rfl) (H.p 3 rfl)))))) ?_
    refine H.stP 3 (Ze.enc v5) rfl rfl rfl rfl (Nat.le_of_ble_eq_true rfl) rfl (fun h9 H=>?_)
    refine sg (ai F9 (ai u1 (ai u2 (ai (H.p 0 rfl) (ai (H.p 2 rfl) (H.p 3 rfl)))))) ?_
    obtain ⟨k2,hm,hk2⟩:=Yn hm
    obtain ⟨M2,hM2⟩:∃ M:AM.St→Prop,M = (fun s'=>∃ (h10:Hp),Like s'.tm (((((((((List.replicate 200 none).set 0 (some (.isl 3 (a0_.map Ze.enc)))).set 3 (some (.optr b1 131 0 0))).set 5 (some (.isl 1 (r3.1.map Yd)))).set 7 (some x2)).set 8 (some (aint a2))).set 9 (some (.isl 5 (r5.1.map Zh.enc)))).set 12 (some (aint a5))).set 13 (some (.optr b3 5 0 0)))∧s'.h = h10∧AM.Own h0 h10 [⟨(.optr b1 131 0 0),true,131,[(List.map (fun v=>AV.val (Value.int IntKind.i64 v)) a1_.Widths++[(aint a1_.Stretch),(aint a1_.Shrink),(.isl 2 (a1_.Pats.map Zj.enc))])],some (26,131)⟩,⟨x2,false,1,a3.map Yd,some (3,0)⟩,⟨(.optr b3 5 0 0),true,5,[(Zh.enc v3)],some (41,5)⟩]∧k2 ()):=⟨_,rfl⟩
    refine Xe M2 ?_ ?_
    ·refine sg (ai F9 (ai u1 (ai u2 (ai (H.p 0 rfl) (ai (H.p 2 rfl) (H.p 3 rfl)))))) ?_
     refine gfk' (fun c11=>?_) fun c11=>?_
     ·replace hm:=ifp hm c11
      refine sg (ai F9 (ai u1 (ai u2 (ai (eq_true c11) (ai (H.p 0 rfl) (ai (H.p 2 rfl) (H.p 3 rfl))))))) ?_
      exact Zb (.inl rfl) false _ rfl (Zf.refl _ _) H.sub hm
     replace hm:=ifn hm c11
     refine sg (ai F9 (ai u1 (ai u2 (ai (eq_false c11) (ai (H.p 0 rfl) (ai (H.p 2 rfl) (H.p 3 rfl))))))) ?_
     refine gfk (fun c12=>?_) fun c12=>?_
     ·replace hm:=ifp hm c12
      refine sg (ai F9 (ai u1 (ai u2 (ai (eq_false c11) (ai (eq_true c12) (ai (H.p 0 rfl) (ai (H.p 2 rfl) (H.p 3 rfl)))))))) ?_
      rw [Xh]
      refine ⟨fun c13=>?_,fun c13=>?_⟩
      ·replace hm:=ifp hm c13
       have F10:=ai F9 (ai (eq_false c11) (ai (eq_true c12) c13))
       refine sg (ai F10 (ai u1 (ai u2 (ai (H.p 0 rfl) (ai (H.p 2 rfl) (H.p 3 rfl)))))) ?_
       exact Zb (.inl rfl) false _ rfl (Zf.refl _ _) H.sub hm
      replace hm:=ifn hm (by rw [c13]; exact Bool.false_ne_true)
      have F11:=ai F9 (ai (eq_false c11) (ai (eq_true c12) c13))
      refine sg (ai F11 (ai u1 (ai u2 (ai (H.p 0 rfl) (ai (H.p 2 rfl) (H.p 3 rfl)))))) ?_
      refine gfk (fun c14=>?_) fun c14=>?_
      ·replace hm:=ifp hm c14
       refine sg (ai F11 (ai u1 (ai u2 (ai (eq_true c14) (ai (H.p 0 rfl) (ai (H.p 2 rfl) (H.p 3 rfl))))))) ?_
       rw [Xh]
       refine ⟨fun c15=>?_,fun c15=>?_⟩
       ·replace hm:=ifp hm c15
        refine sg (ai F11 (ai u1 (ai u2 (ai (eq_true c14) (ai c15 (ai (H.p 0 rfl) (ai (H.p 2 rfl) (H.p 3 rfl)))))))) ?_
        exact Zb (.inl rfl) false _ rfl (Zf.refl _ _) H.sub hm
       replace hm:=ifn hm (by rw [c15]; exact Bool.false_ne_true)
       refine sg (ai F11 (ai u1 (ai u2 (ai (eq_true c14) (ai c15 (ai (H.p 0 rfl) (ai (H.p 2 rfl) (H.p 3 rfl)))))))) ?_
       refine gfk (fun c16=>?_) fun c16=>?_
       ·replace hm:=ifp hm c16
        obtain ⟨z5,z6,v6,i6,hm⟩:=hm
        have F12:=ai F11 (ai (eq_true c14) (ai c15 (ai (eq_true c16) (ai (eq_true z5) (eq_true z6)))))
        have u3:=arrAtA (f:=(fun v=>AV.val (Value.int IntKind.i64 v))) i6
        refine sg (ai F12 (ai u1 (ai u2 (ai u3 (ai (H.p 0 rfl) (ai (H.p 2 rfl) (H.p 3 rfl))))))) ?_
        refine fkc (fun c17=>?_) fun c17=>?_
        ·replace hm:=ifn hm c17
         refine sg (ai F12 (ai u1 (ai u2 (ai u3 (ai (eq_false c17) (ai (H.p 0 rfl) (ai (H.p 2 rfl) (H.p 3 rfl)))))))) ?_
         exact Zb (.inl rfl) false _ rfl (Zf.refl _ _) H.sub hm
        replace c17:=Decidable.not_not.1 c17
        replace hm:=ifp hm c17
        refine sg (ai F12 (ai u1 (ai u2 (ai u3 (ai (eq_true c17) (ai (H.p 0 rfl) (ai (H.p 2 rfl) (H.p 3 rfl)))))))) ?_
        replace H:=H.pm [0,1,2]
        subst hM2
        exact ⟨h9,lkt,rfl,H,hm⟩
       replace hm:=ifn hm c16
       have F13:=ai F11 (ai (eq_true c14) (ai c15 (eq_false c16)))
       refine sg (ai F13 (ai u1 (ai u2 (ai (H.p 0 rfl) (ai (H.p 2 rfl) (H.p 3 rfl)))))) ?_
       replace H:=H.pm [0,1,2]
       subst hM2
       exact ⟨h9,lkt,rfl,H,hm⟩
      replace hm:=ifn hm c14
      refine sg (ai F11 (ai u1 (ai u2 (ai (eq_false c14) (ai (H.p 0 rfl) (ai (H.p 2 rfl) (H.p 3 rfl))))))) ?_
      rw [Xh]
      refine ⟨fun c18=>?_,fun c18=>?_⟩
      ·replace hm:=ifp hm c18
       refine sg (ai F11 (ai u1 (ai u2 (ai (eq_false c14) (ai c18 (ai (H.p 0 rfl) (ai (H.p 2 rfl) (H.p 3 rfl)))))))) ?_
       exact Zb (.inl rfl) false _ rfl (Zf.refl _ _) H.sub hm
      replace hm:=ifn hm (by rw [c18]; exact Bool.false_ne_true)
      refine sg (ai F11 (ai u1 (ai u2 (ai (eq_false c14) (ai c18 (ai (H.p 0 rfl) (ai (H.p 2 rfl) (H.p 3 rfl)))))))) ?_
      refine gfk (fun c19=>?_) fun c19=>?_
      ·replace hm:=ifp hm c19
       obtain ⟨z7,z8,v7,i7,hm⟩:=hm
       have F14:=ai F11 (ai (eq_false c14) (ai c18 (ai (eq_true c19) (ai (eq_true z7) (eq_true z8)))))
       have u4:=arrAtA (f:=(fun v=>AV.val (Value.int IntKind.i64 v))) i7
       refine sg (ai F14 (ai u1 (ai u2 (ai u4 (ai (H.p 0 rfl) (ai (H.p 2 rfl) (H.p 3 rfl))))))) ?_
       refine fkc (fun c20=>?_) fun c20=>?_
       ·replace hm:=ifn hm c20
        refine sg (ai F14 (ai u1 (ai u2 (ai u4 (ai (eq_false c20) (ai (H.p 0 rfl) (ai (H.p 2 rfl) (H.p 3 rfl)))))))) ?_
        exact Zb (.inl rfl) false _ rfl (Zf.refl _ _) H.sub hm
       replace c20:=Decidable.not_not.1 c20
       replace hm:=ifp hm c20
       refine sg (ai F14 (ai u1 (ai u2 (ai u4 (ai (eq_true c20) (ai (H.p 0 rfl) (ai (H.p 2 rfl) (H.p 3 rfl)))))))) ?_
       replace H:=H.pm [0,1,2]
       subst hM2
       exact ⟨h9,lkt,rfl,H,hm⟩
      replace hm:=ifn hm c19
      have F15:=ai F11 (ai (eq_false c14) (ai c18 (eq_false c19)))
      refine sg (ai F15 (ai u1 (ai u2 (ai (H.p 0 rfl) (ai (H.p 2 rfl) (H.p 3 rfl)))))) ?_
      replace H:=H.pm [0,1,2]
      subst hM2
      exact ⟨h9,lkt,rfl,H,hm⟩
     replace hm:=ifn hm c12
     refine sg (ai F9 (ai u1 (ai u2 (ai (eq_false c11) (ai (eq_false c12) (ai (H.p 0 rfl) (ai (H.p 2 rfl) (H.p 3 rfl)))))))) ?_
     rw [Xh]
     refine ⟨fun c21=>?_,fun c21=>?_⟩
     ·replace hm:=ifp hm c21
      have F16:=ai F9 (ai (eq_false c11) (ai (eq_false c12) c21))
      refine sg (ai F16 (ai u1 (ai u2 (ai (H.p 0 rfl) (ai (H.p 2 rfl) (H.p 3 rfl)))))) ?_
      exact Zb (.inl rfl) false _ rfl (Zf.refl _ _) H.sub hm
     replace hm:=ifn hm (by rw [c21]; exact Bool.false_ne_true)
     have F17:=ai F9 (ai (eq_false c11) (ai (eq_false c12) c21))
     refine sg (ai F17 (ai u1 (ai u2 (ai (H.p 0 rfl) (ai (H.p 2 rfl) (H.p 3 rfl)))))) ?_
     refine gfk (fun c22=>?_) fun c22=>?_
     ·replace hm:=ifp hm c22
      refine sg (ai F17 (ai u1 (ai u2 (ai (eq_true c22) (ai (H.p 0 rfl) (ai (H.p 2 rfl) (H.p 3 rfl))))))) ?_
      rw [Xh]
      refine ⟨fun c23=>?_,fun c23=>?_⟩
      ·replace hm:=ifp hm c23
       refine sg (ai F17 (ai u1 (ai u2 (ai (eq_true c22) (ai c23 (ai (H.p 0 rfl) (ai (H.p 2 rfl) (H.p 3 rfl)))))))) ?_
       exact Zb (.inl rfl) false _ rfl (Zf.refl _ _) H.sub hm
      replace hm:=ifn hm (by rw [c23]; exact Bool.false_ne_true)
      refine sg (ai F17 (ai u1 (ai u2 (ai (eq_true c22) (ai c23 (ai (H.p 0 rfl) (ai (H.p 2 rfl) (H.p 3 rfl)))))))) ?_
      replace H:=H.pm [0,1,2]
      subst hM2
      exact ⟨h9,lkt,rfl,H,hm⟩
     replace hm:=ifn hm c22
     refine sg (ai F17 (ai u1 (ai u2 (ai (eq_false c22) (ai (H.p 0 rfl) (ai (H.p 2 rfl) (H.p 3 rfl))))))) ?_
     rw [Xh]
     refine ⟨fun c24=>?_,fun c24=>?_⟩
     ·replace hm:=ifp hm c24
      refine sg (ai F17 (ai u1 (ai u2 (ai (eq_false c22) (ai c24 (ai (H.p 0 rfl) (ai (H.p 2 rfl) (H.p 3 rfl)))))))) ?_
      exact Zb (.inl rfl) false _ rfl (Zf.refl _ _) H.sub hm
     replace hm:=ifn hm (by rw [c24]; exact Bool.false_ne_true)
     refine sg (ai F17 (ai u1 (ai u2 (ai (eq_false c22) (ai c24 (ai (H.p 0 rfl) (ai (H.p 2 rfl) (H.p 3 rfl)))))))) ?_
     replace H:=H.pm [0,1,2]
     subst hM2
     exact ⟨h9,lkt,rfl,H,hm⟩
    subst hM2
    rintro ⟨tm,h10⟩ ⟨_,hL,rfl,H,hm⟩
    dsimp only at hL H
    obtain ⟨D,rfl⟩:=hL.fill 0
    replace hm:=hk2 _ hm
    have F18:=ai fa1g0 (ai fa1t0 (ai fa1g1 (ai fa1t1 (ai fa1g2 (ai fa1t2 (ai c1 (ai (eq_true c2) (ai (eq_true c4) (ai (eq_true z2) (ai i1 (ai (eq_true c5) (ai (eq_true c7) (ai (eq_true z3) (ai i3 (ai (eq_false c8) (ai (eq_false c9) (ai (eq_false c10) (ai (eq_true z4) i5))))))))))))))))))
    refine sg (ai F18 (ai u1 (ai u2 (ai (H.p 0 rfl) (H.p 2 rfl))))) ?_
    obtain ⟨v8,i8,hm⟩:=hm
    obtain ⟨b5,o1,rfl,qb,qc,qd,qe⟩:=H.row (k:=v3.Tok.toNat) (r:=Yd v8) 1 rfl (gmp i8)
    try rw [List.length_map] at qe
    have q1:=ai qb (ai qc (ai qd (eq_true qe)))
    rw [List.length_map] at H
    obtain ⟨w2,hm⟩:=hm
    refine sg (ai F18 (ai u1 (ai u2 (ai q1 (ai (wrap_i64 _ w2) (ai (H.p 0 rfl) (H.p 2 rfl))))))) ?_
    have i10:=Z0a (v8+1) i8
    refine H.stL 1 (v8+1) rfl i8 rfl rfl rfl (Nat.le_of_ble_eq_true rfl) rfl (fun h11 H=>?_)
    refine sg (ai F18 (ai u1 (ai u2 (ai q1 (ai (wrap_i64 _ w2) (ai (H.p 0 rfl) (H.p 2 rfl))))))) ?_
    replace H:=H.pm [0,1]
    subst hM1
    exact ⟨a3.set v3.Tok.toNat (v8+1),v3.Tok,(.osl b5 1 0 a3.length),h11,lkt,rfl,H,hm⟩
   subst hM1
   rintro ⟨tm,h5⟩ ⟨a6,a7,x3,_,hL,rfl,H,hm⟩
   dsimp only at hL H
   obtain ⟨D,rfl⟩:=hL.fill 0
   replace hm:=hk1 _ hm
   obtain ⟨w3,hm⟩:=hm
   have F19:=ai fa1g0 (ai fa1t0 (ai fa1g1 (ai fa1t1 (ai fa1g2 (ai fa1t2 (ai c1 (ai (eq_true c2) (ai (eq_true c4) (ai (eq_true z2) (ai i1 (ai (eq_true c5) (ai (eq_true c7) (wrap_i64 _ w3)))))))))))))
   refine sg (ai F19 (ai u1 (ai u2 (H.p 0 rfl)))) ?_
   replace H:=H.pm [0,1]
   exact ⟨⟨(a6,a7,a5+1),x3,h5⟩,hm.2,⟨hm.1,H⟩,rtw⟩
  replace hm:=ifn hm c7
  obtain ⟨w4,hm⟩:=hm
  refine sg (ai F6 (ai u1 (ai u2 (ai (eq_false c7) (ai (wrap_i64 _ w4) (H.p 0 rfl)))))) ?_
  replace H:=H.pm [0,1]
  exact ⟨⟨(a3,a2+1),x2,h4⟩,hm.2,⟨hm.1,H⟩,rtw⟩
 replace hm:=ifn hm c4
 refine sg (ai F3 (ai u1 (ai u2 (ai (eq_false c4) (H.p 0 rfl))))) ?_
 obtain ⟨inv3,mu3,hi3,hs3⟩:=hm
 replace H:=H.pm [1]
 refine Z7 (σ:=((List Int)×Int)×AV×Hp) (fun ⟨⟨a8,a9⟩,x4,h12⟩=>⟨(((List.replicate 200 AV.any).set 0 (.isl 3 (a0_.map Ze.enc))).set 7 x4).set 15 (aint a9),h12⟩) (fun ⟨⟨a8,a9⟩,x4,h12⟩=>inv3 (a8,a9)∧AM.Own h0 h12 [⟨x4,false,1,a8.map Yd,some (3,0)⟩]) (fun ⟨⟨a8,a9⟩,x4,h12⟩=>mu3 (a8,a9)) ⟨(a1,0),x1,h3⟩ (rtw) ⟨hi3,H⟩ ?_
 rintro ⟨⟨a8,a9⟩,x4,h12⟩ ⟨hi3,H⟩
 have hm:=hs3 _ hi3
 dsimp only at hm H ⊢
 have F20:=ai fa1g0 (ai fa1t0 (ai fa1g1 (ai fa1t1 (ai fa1g2 (ai fa1t2 (ai c1 (ai (eq_true c2) (eq_false c4))))))))
 refine sg (ai F20 (ai u1 u2)) ?_
 refine fkc (fun c25=>?_) fun c25=>?_
 ·replace hm:=ifp hm c25
  refine sg (ai F20 (ai u1 (ai u2 (eq_true c25)))) ?_
  obtain ⟨k3,hm,hk3⟩:=Yn hm
  obtain ⟨M3,hM3⟩:∃ M:AM.St→Prop,M = (fun s'=>∃ (a10:Bool) (h13:Hp),Like s'.tm (((((List.replicate 200 none).set 0 (some (.isl 3 (a0_.map Ze.enc)))).set 7 (some x4)).set 15 (some (aint a9))).set 16 (some (Zk a10)))∧s'.h = h13∧AM.Own h0 h13 [⟨x4,false,1,a8.map Yd,some (3,0)⟩]∧k3 a10):=⟨_,rfl⟩
  refine Xe M3 ?_ ?_
  ·obtain ⟨z9,v10,i11,hm⟩:=hm
   refine sg (ai F20 (ai u1 (ai u2 (ai (eq_true c25) (ai (eq_true z9) i11))))) ?_
   refine gfk' (fun c26=>?_) fun c26=>?_
   ·replace hm:=ifp hm c26
    have F21:=ai F20 (ai (eq_true c25) (ai (eq_true z9) (ai i11 (eq_true c26))))
    refine sg (ai F21 (ai u1 u2)) ?_
    replace H:=H.pm [0]
    subst hM3
    exact ⟨true,h12,lkt,rfl,H,hm⟩
   replace hm:=ifn hm c26
   have F22:=ai F20 (ai (eq_true c25) (ai (eq_true z9) (ai i11 (eq_false c26))))
   refine sg (ai F22 (ai u1 u2)) ?_
   refine gfk (fun c27=>?_) fun c27=>?_
   ·replace hm:=ifp hm c27
    refine sg (ai F22 (ai u1 (ai u2 (eq_true c27)))) ?_
    replace H:=H.pm [0]
    subst hM3
    exact ⟨decide (v10.Ch = 110),h12,lkt,rfl,H,hm⟩
   replace hm:=ifn hm c27
   refine sg (ai F22 (ai u1 (ai u2 (eq_false c27)))) ?_
   replace H:=H.pm [0]
   subst hM3
   exact ⟨false,h12,lkt,rfl,H,hm⟩
  subst hM3
  rintro ⟨tm,h13⟩ ⟨a10,_,hL,rfl,H,hm⟩
  dsimp only at hL H
  obtain ⟨D,rfl⟩:=hL.fill 0
  replace hm:=hk3 _ hm
  have F23:=ai fa1g0 (ai fa1t0 (ai fa1g1 (ai fa1t1 (ai fa1g2 (ai fa1t2 (ai c1 (ai (eq_true c2) (ai (eq_false c4) (eq_true c25)))))))))
  refine sg (ai F23 (ai u1 u2)) ?_
  obtain ⟨z10,v13,i14,hm⟩:=hm
  obtain ⟨b6,o2,rfl,qb,qc,qd,qe⟩:=H.row (k:=a9.toNat) (r:=Yd v13) 0 rfl (gmp i14)
  try rw [List.length_map] at qe
  have q5:=ai qb (ai qc (ai qd (eq_true qe)))
  rw [List.length_map] at H
  refine sg (ai F23 (ai u1 (ai u2 (ai (eq_true z10) q5)))) ?_
  rw [Xh]
  refine ⟨fun c28=>?_,fun c28=>?_⟩
  ·replace hm:=ifp hm c28
   refine sg (ai F23 (ai u1 (ai u2 (ai (eq_true z10) (ai q5 c28))))) ?_
   exact Zb (.inl rfl) false _ rfl (Zf.refl _ _) H.sub hm
  replace hm:=ifn hm (by rw [c28]; exact Bool.false_ne_true)
  refine sg (ai F23 (ai u1 (ai u2 (ai (eq_true z10) (ai q5 c28))))) ?_
  refine fkc (fun c29=>?_) fun c29=>?_
  ·replace hm:=ifp hm c29
   have F24:=ai F23 (ai (eq_true z10) (ai c28 (eq_true c29)))
   refine sg (ai F24 (ai u1 (ai u2 q5))) ?_
   exact Zb (.inl rfl) false _ rfl (Zf.refl _ _) H.sub hm
  replace hm:=ifn hm c29
  obtain ⟨w5,hm⟩:=hm
  have F25:=ai F23 (ai (eq_true z10) (ai c28 (ai (eq_false c29) (wrap_i64 _ w5))))
  refine sg (ai F25 (ai u1 (ai u2 q5))) ?_
  replace H:=H.pm [0]
  exact ⟨⟨(a8,a9+1),(.osl b6 1 0 a8.length),h13⟩,hm.2,⟨hm.1,H⟩,rtw⟩
 replace hm:=ifn hm c25
 refine sg (ai F20 (ai u1 (ai u2 (eq_false c25)))) ?_
 refine Zn (fun h=>Yh.ok hm h) (fun r7 hm=>?_)
 refine sg (ai F20 (ai u1 (ai u2 (eq_false c25)))) ?_
 exact Zb (.inl rfl) r7 _ rfl (Zf.refl _ _) H.sub hm
end Go.Proofs.YtpkhmfedaaoalaaGreatDoor
