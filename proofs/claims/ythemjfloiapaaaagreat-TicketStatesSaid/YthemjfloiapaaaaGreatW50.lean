/- Functions of the program as functions of data, part 1; printed by a program of mine. -/
import Derived.Test.YthemjfloiapaaaaGreatP5
import Derived.Test.YthemjfloiapaaaaGreatProg
set_option linter.unusedSectionVars false
set_option linter.unusedVariables false
set_option linter.unusedSimpArgs false
open Go.AM
namespace Go.Proofs.Tryz
set_option maxRecDepth 100000
set_option synthInstance.maxSize 4000
set_option synthInstance.maxHeartbeats 400000
set_option synthInstance.maxSize 4000
set_option synthInstance.maxHeartbeats 400000
theorem mixed : prog.follows .mixedOrders = true := by kernel_rfl
@[reducible] def tG : Ty := .prod .str (.prod tI (.prod .str (.prod .str tI)))
abbrev GG := ByteArray × Int × ByteArray × ByteArray × Int
abbrev Tbk := List (GG × Bool)
abbrev Tdb := List (ByteArray × Bool)
abbrev Tdl := List (ByteArray × List ByteArray)
abbrev Tdm := List (ByteArray × GG)
abbrev Tlg := List GG
@[reducible] def oo (n : Nat) (i : I) : Itm := .op (some n) none i
@[reducible] def om (n k : Nat) : Itm := .op (some n) none (.mv (.t k))
@[reducible] def ol (n k : Nat) : Itm := .op (some n) none (.load false 1 (.t k))
@[reducible] def og (n k : Nat) (b : Bool) (i : I) : Itm := .op (some n) (some (k, b)) i
@[reducible] def ki (n : Nat) : O := .c (.int .i64 (Int.ofNat n))
@[reducible] def hzI : SP := .c (.hole (.int .i64))
@[reducible] def hzL : SP := .c (.hole (.list (.int .i64)))
@[reducible] def hzM : SP := .c (.hole (.list (.list (.int .i64))))

/- 130 -/
noncomputable def cx130:Cx:=(mkCxH [] [])
theorem cx130_ok:cx130.Ok prog:=mkCxH_ok trivial trivial
noncomputable def dd130:D prog 6 none 0:=dO [] (kd prog f130) 0
noncomputable def F130 (a0:ByteArray):Tr0 (Bool×Unit) :=
 .ret ((!(seq a0 a0)),())
theorem c130_ok:trF prog f130=some ⟨6,1,dd130.er,[.t 2],[some .bool]⟩:=by kernel_rfl
noncomputable def ct130:Ct:=⟨130,[.c (.hole .str)],.c (.hole .bool),fun x=>run0 (F130 x.1)⟩
theorem ct130_ok:ct130.Ok prog:=ct_ok mixed cx130_ok func130 c130_ok (enters_of func130 rfl rfl) dd130 (by kernel_rfl) rfl (fun x=>by kernel_rfl)

/- 113 -/
noncomputable def cx113:Cx:=(mkCxH [ct130] [])
theorem cx113_ok:cx113.Ok prog:=mkCxH_ok ⟨ct130_ok,trivial⟩ trivial
noncomputable def dd113:D prog 20 none 0:=dO [] (kd prog f113) 0
noncomputable def F113 (a0:ByteArray) (a1:ByteArray):Tr0 (Int×Unit) :=
 .bd (F130 a0) fun y0 =>
 .bd (F130 a1) fun y1 =>
 .br y0.1 (
 .br y1.1 (
 .ret ((0:Int),())) (
 .ret ((-1:Int),()))) (
 .br y1.1 (
 .ret ((1:Int),())) (
 .br (slt a0 a1) (
 .ret ((-1:Int),())) (
 .br (!(bite (slt a0 a1) true (seq a0 a1))) (
 .ret ((1:Int),())) (
 .ret ((0:Int),())))))
theorem c113_ok:trF prog f113=some ⟨20,2,dd113.er,[.t 4],[some tI]⟩:=by kernel_rfl
noncomputable def ct113:Ct:=⟨113,[.c (.hole .str),.c (.hole .str)],hI,fun x=>run0 (F113 x.1 x.2.1)⟩
theorem ct113_ok:ct113.Ok prog:=ct_ok mixed cx113_ok func113 c113_ok (enters_of func113 rfl rfl) dd113 (by kernel_rfl) rfl (fun x=>by kernel_rfl)

/- 131 -/
noncomputable def cx131:Cx:=(mkCxH [] [])
theorem cx131_ok:cx131.Ok prog:=mkCxH_ok trivial trivial
noncomputable def dd131:D prog 6 none 0:=dO [] (kd prog f131) 0
noncomputable def F131 (a0:Int):Tr0 (Bool×Unit) :=
 .ret ((!(a0==a0)),())
theorem c131_ok:trF prog f131=some ⟨6,1,dd131.er,[.t 2],[some .bool]⟩:=by kernel_rfl
noncomputable def ct131:Ct:=⟨131,[hI],.c (.hole .bool),fun x=>run0 (F131 x.1)⟩
theorem ct131_ok:ct131.Ok prog:=ct_ok mixed cx131_ok func131 c131_ok (enters_of func131 rfl rfl) dd131 (by kernel_rfl) rfl (fun x=>by kernel_rfl)

/- 114 -/
noncomputable def cx114:Cx:=(mkCxH [ct131] [])
theorem cx114_ok:cx114.Ok prog:=mkCxH_ok ⟨ct131_ok,trivial⟩ trivial
noncomputable def dd114:D prog 20 none 0:=dO [] (kd prog f114) 0
noncomputable def F114 (a0:Int) (a1:Int):Tr0 (Int×Unit) :=
 .bd (F131 a0) fun y0 =>
 .bd (F131 a1) fun y1 =>
 .br y0.1 (
 .br y1.1 (
 .ret ((0:Int),())) (
 .ret ((-1:Int),()))) (
 .br y1.1 (
 .ret ((1:Int),())) (
 .br (decide (a0<a1)) (
 .ret ((-1:Int),())) (
 .br (decide (a1<a0)) (
 .ret ((1:Int),())) (
 .ret ((0:Int),())))))
theorem c114_ok:trF prog f114=some ⟨20,2,dd114.er,[.t 4],[some tI]⟩:=by kernel_rfl
noncomputable def ct114:Ct:=⟨114,[hI,hI],hI,fun x=>run0 (F114 x.1 x.2.1)⟩
theorem ct114_ok:ct114.Ok prog:=ct_ok mixed cx114_ok func114 c114_ok (enters_of func114 rfl rfl) dd114 (by kernel_rfl) rfl (fun x=>by kernel_rfl)

/- 112 -/
noncomputable def cx112:Cx:=(mkCxH [] [])
theorem cx112_ok:cx112.Ok prog:=mkCxH_ok trivial trivial
@[reducible] def p112_0:Pat:=Pat.mk [(3,hI),(6,hL),(7,hI),(8,hI)] [] [] []
@[reducible] def x112_0:Outs:=[(.ret,Pat.mk [(2,hI)] [] [] []),(.exit 0,Pat.mk [(3,hI)] [] [] [])]
noncomputable def b112_0:D prog 18 none 0:=dO [] (pick (kd prog f112) [(0,false)]) 0
noncomputable def g112_0:Int×List Int×Int×Int×Unit→Tr0 ((Int×List Int×Int×Int×Unit) ⊕ ((Int×Unit) ⊕ ((Int×Unit)))):=fun (v3,v6,v7,v8,_) =>
 .br (decide (v8<v7)) (
 .nb v8 (((v6).length:Nat):Int) <|
 .br (!(((v6).getD (Int.toNat v8) (0:Int))==v3)) (
 .ret (.inr <| .inl<|(((v6).getD (Int.toNat v8) (0:Int)),()))) (
 .ni (v8+(1:Int)) <|
 .ret (.inl (v3,v6,v7,(v8+(1:Int)),())))) (
 .ret (.inr <| .inr<|(v3,())))
noncomputable def L112_0:LoopS prog 18 none 0:=mkLoop mixed cx112 cx112_ok [] rfl p112_0 x112_0 rfl (b112_0) (fun x=>run0 (g112_0 x)) (fun x=>by kernel_rfl)
noncomputable def dd112:D prog 18 none 0:=dO [.l L112_0] (kd prog f112) 0
noncomputable def F112 (a0:List Int):Tr0 (Int×Unit) :=
 .bd (.it g112_0 ((0:Int),a0,(((a0).length:Nat):Int),(0:Int),())) fun z0 =>
 .sm z0 (fun z1 =>
 .ret (z1.1,())) fun z2 =>
 .ret (z2.1,())
theorem c112_ok:trF prog f112=some ⟨18,1,dd112.er,[.t 2],[some tI]⟩:=by kernel_rfl
noncomputable def ct112:Ct:=⟨112,[hL],hI,fun x=>run0 (F112 x.1)⟩
theorem ct112_ok:ct112.Ok prog:=ct_ok mixed cx112_ok func112 c112_ok (enters_of func112 rfl rfl) dd112 (by kernel_rfl) rfl (fun x=>by kernel_rfl)

/- 85 -/
noncomputable def cx85:Cx:=(mkCxH [ct113,ct114,ct112] [])
theorem cx85_ok:cx85.Ok prog:=mkCxH_ok ⟨ct113_ok,ct114_ok,ct112_ok,trivial⟩ trivial
noncomputable def dd85:D prog 35 none 0:=dO [] (kd prog f85) 0
noncomputable def F85 (a0:GG) (a1:GG):Tr0 (Int×Unit) :=
 .br ((seq a0.1 a1.1)&&((a0.2.1==a1.2.1)&&((seq a0.2.2.1 a1.2.2.1)&&((seq a0.2.2.2.1 a1.2.2.2.1)&&((a0.2.2.2.2==a1.2.2.2.2)&&true))))) (
 .ret ((0:Int),())) (
 .bd (F113 a0.1 a1.1) fun y0 =>
 .bd (F114 a0.2.1 a1.2.1) fun y1 =>
 .bd (F113 a0.2.2.1 a1.2.2.1) fun y2 =>
 .bd (F113 a0.2.2.2.1 a1.2.2.2.1) fun y3 =>
 .bd (F114 a0.2.2.2.2 a1.2.2.2.2) fun y4 =>
 .bd (F112 ((((y0.1::(y1.1::(y2.1::(y3.1::(y4.1::[])))))).drop (0:Nat)).take (5:Nat))) fun y5 =>
 .ret (y5.1,()))
theorem c85_ok:trF prog f85=some ⟨35,2,dd85.er,[.t 4],[some tI]⟩:=by kernel_rfl
noncomputable def ct85:Ct:=⟨85,[.c (.hole tG),.c (.hole tG)],hI,fun x=>run0 (F85 x.1 x.2.1)⟩
theorem ct85_ok:ct85.Ok prog:=ct_ok mixed cx85_ok func85 c85_ok (enters_of func85 rfl rfl) dd85 (by kernel_rfl) rfl (fun x=>by kernel_rfl)

/- 50 -/
noncomputable def cx50:Cx:=(mkCxH [] [])
theorem cx50_ok:cx50.Ok prog:=mkCxH_ok trivial trivial
noncomputable def dd50:D prog 11 none 0:=dO [] (kd prog f50) 0
noncomputable def F50 (a0:ByteArray) (a1:ByteArray) (a2:Int):Tr0 ((GG)×Unit) :=
 .ret ((a0,(1:Int),(bs []),a1,a2),())
theorem c50_ok:trF prog f50=some ⟨11,3,dd50.er,[.cell 6 true 5],[some tG]⟩:=by kernel_rfl
noncomputable def ct50:Ct:=⟨50,[.c (.hole .str),.c (.hole .str),hI],.c (.hole tG),fun x=>run0 (F50 x.1 x.2.1 x.2.2.1)⟩
theorem ct50_ok:ct50.Ok prog:=ct_ok mixed cx50_ok func50 c50_ok (enters_of func50 rfl rfl) dd50 (by kernel_rfl) rfl (fun x=>by kernel_rfl)

/- 42 -/
noncomputable def cx42:Cx:=(mkCxH [] [])
theorem cx42_ok:cx42.Ok prog:=mkCxH_ok trivial trivial
noncomputable def dd42:D prog 14 none 0:=dO [] (kd prog f42) 0
noncomputable def F42 (a0:ByteArray) (a1:ByteArray) (a2:ByteArray) (a3:Int):Tr0 ((GG)×Unit) :=
 .ret ((a0,(2:Int),a1,a2,a3),())
theorem c42_ok:trF prog f42=some ⟨14,4,dd42.er,[.cell 8 true 5],[some tG]⟩:=by kernel_rfl
noncomputable def ct42:Ct:=⟨42,[.c (.hole .str),.c (.hole .str),.c (.hole .str),hI],.c (.hole tG),fun x=>run0 (F42 x.1 x.2.1 x.2.2.1 x.2.2.2.1)⟩
theorem ct42_ok:ct42.Ok prog:=ct_ok mixed cx42_ok func42 c42_ok (enters_of func42 rfl rfl) dd42 (by kernel_rfl) rfl (fun x=>by kernel_rfl)

/- 39 -/
noncomputable def cx39:Cx:=(mkCxH [] [])
theorem cx39_ok:cx39.Ok prog:=mkCxH_ok trivial trivial
noncomputable def dd39:D prog 8 none 0:=dO [] (kd prog f39) 0
noncomputable def F39 (a0:ByteArray) (a1:ByteArray):Tr0 ((GG)×Unit) :=
 .ret ((a0,(3:Int),a1,(bs []),(0:Int)),())
theorem c39_ok:trF prog f39=some ⟨8,2,dd39.er,[.cell 4 true 5],[some tG]⟩:=by kernel_rfl
noncomputable def ct39:Ct:=⟨39,[.c (.hole .str),.c (.hole .str)],.c (.hole tG),fun x=>run0 (F39 x.1 x.2.1)⟩
theorem ct39_ok:ct39.Ok prog:=ct_ok mixed cx39_ok func39 c39_ok (enters_of func39 rfl rfl) dd39 (by kernel_rfl) rfl (fun x=>by kernel_rfl)

/- 46 -/
noncomputable def cx46:Cx:=(mkCxH [ct50,ct42,ct39] [])
theorem cx46_ok:cx46.Ok prog:=mkCxH_ok ⟨ct50_ok,ct42_ok,ct39_ok,trivial⟩ trivial
noncomputable def dd46:D prog 10 none 0:=dO [] (kd prog f46) 0
noncomputable def F46:Tr0 ((List (GG))×Unit) :=
 .bd (F50 (bs [116,49]) (bs [97,110,97]) (40:Int)) fun y0 =>
 .bd (F50 (bs [116,50]) (bs [98,101,110]) (25:Int)) fun y1 =>
 .bd (F42 (bs [99,49]) (bs [116,49]) (bs [97,110,97]) (42:Int)) fun y2 =>
 .bd (F42 (bs [99,50]) (bs [116,49]) (bs [99,121]) (40:Int)) fun y3 =>
 .bd (F42 (bs [99,51]) (bs [99,49]) (bs [97,110,97]) (41:Int)) fun y4 =>
 .bd (F42 (bs [119,49]) (bs [120,57]) (bs [98,101,110]) (5:Int)) fun y5 =>
 .bd (F39 (bs [114,49]) (bs [99,49])) fun y6 =>
 .bd (F39 (bs [114,50]) (bs [99,50])) fun y7 =>
 .ret ((((((y0.1.1,y0.1.2.1,y0.1.2.2.1,y0.1.2.2.2.1,y0.1.2.2.2.2)::((y1.1.1,y1.1.2.1,y1.1.2.2.1,y1.1.2.2.2.1,y1.1.2.2.2.2)::((y2.1.1,y2.1.2.1,y2.1.2.2.1,y2.1.2.2.2.1,y2.1.2.2.2.2)::((y3.1.1,y3.1.2.1,y3.1.2.2.1,y3.1.2.2.2.1,y3.1.2.2.2.2)::((y4.1.1,y4.1.2.1,y4.1.2.2.1,y4.1.2.2.2.1,y4.1.2.2.2.2)::((y5.1.1,y5.1.2.1,y5.1.2.2.1,y5.1.2.2.2.1,y5.1.2.2.2.2)::((y6.1.1,y6.1.2.1,y6.1.2.2.1,y6.1.2.2.2.1,y6.1.2.2.2.2)::((y7.1.1,y7.1.2.1,y7.1.2.2.1,y7.1.2.2.2.1,y7.1.2.2.2.2)::[]))))))))).drop (0:Nat)).take (8:Nat)),())
theorem c46_ok:trF prog f46=some ⟨10,0,dd46.er,[.t 0],[some (.list tG)]⟩:=by kernel_rfl
noncomputable def ct46:Ct:=⟨46,[],.c (.hole (.list tG)),fun x=>run0 (F46)⟩
theorem ct46_ok:ct46.Ok prog:=ct_ok mixed cx46_ok func46 c46_ok (enters_of func46 rfl rfl) dd46 (by kernel_rfl) rfl (fun x=>by kernel_rfl)

/- 18, lent -/
@[reducible] def pH18:Pat:=Pat.mk [] [] [] []
@[reducible] def qH18:Pat:=Pat.mk [(0,.c (.ptr 0 0))] [(0,.cells [.mp 1] false),(1,.map tG true .bool false)] [.slot 0,.cell 0 0] []
noncomputable def cxH18:Cx:=(mkCxH [] [])
theorem cxH18_ok:cxH18.Ok prog:=mkCxH_ok trivial trivial
noncomputable def ddH18:D prog 4 none 0:=dO [] (kd prog f18) 0
noncomputable def FH18:Tr0 ((List ((GG)×Bool))×Unit) :=
 .ret ([],())
theorem cH18_ok:trF prog f18=some ⟨4,0,ddH18.er,[.t 0],[none]⟩:=by kernel_rfl
noncomputable def ht18:Ht:=⟨18,pH18,qH18,(fun x=>run0 (FH18))⟩
theorem ht18_ok:ht18.Ok prog:=ht_ok mixed cxH18_ok rfl func18 cH18_ok (enters_of func18 rfl rfl) ddH18 (by kernel_rfl) rfl rfl ⟨_,rfl⟩ rfl (pre:=[]) rfl (fun x=>by kernel_rfl)

/- 54, lent -/
@[reducible] def pH54:Pat:=Pat.mk [(0,.c (.ptr 0 0))] [(0,.cells [.mp 1] false),(1,.map tG true .bool false)] [.slot 0,.cell 0 0] []
@[reducible] def qH54:Pat:=Pat.mk [(0,.c (.hole .bool))] [(0,.cells [.mp 1] false),(1,.map tG true .bool false)] [] []
noncomputable def cxH54:Cx:=(mkCxH [] [])
theorem cxH54_ok:cxH54.Ok prog:=mkCxH_ok trivial trivial
noncomputable def ddH54:D prog 12 none 2:=dO [] (kd prog f54) 0
noncomputable def FH54 (m1:List ((GG)×Bool)):Tr0 (Bool×(List ((GG)×Bool))×Unit) :=
 .ret (false,m1,())
theorem cH54_ok:trF prog f54=some ⟨12,1,ddH54.er,[.t 2],[some .bool]⟩:=by kernel_rfl
noncomputable def ht54:Ht:=⟨54,pH54,qH54,(fun x=>run0 (FH54 x.1))⟩
theorem ht54_ok:ht54.Ok prog:=ht_ok mixed cxH54_ok rfl func54 cH54_ok (enters_of func54 rfl rfl) ddH54 (by kernel_rfl) rfl rfl ⟨_,rfl⟩ rfl (pre:=[0,1]) rfl (fun x=>by kernel_rfl)

/- 65 -/
noncomputable def cx65:Cx:=(mkCxH [] [])
theorem cx65_ok:cx65.Ok prog:=mkCxH_ok trivial trivial
@[reducible] def p65_0:Pat:=Pat.mk [(0,.c (.hole .str)),(6,.c (.hole (.list (.int .u8)))),(7,hI),(8,hI)] [] [] []
@[reducible] def x65_0:Outs:=[(.ret,Pat.mk [(2,.c (.tf false))] [] [] []),(.exit 0,Pat.mk [(0,.c (.hole .str))] [] [] [])]
noncomputable def b65_0:D prog 40 none 0:=dO [] (pick (kd prog f65) [(0,false)]) 0
noncomputable def g65_0:ByteArray×List Int×Int×Int×Unit→Tr0 ((ByteArray×List Int×Int×Int×Unit) ⊕ ((Unit) ⊕ ((ByteArray×Unit)))):=fun (v0,v6,v7,v8,_) =>
 .br (decide (v8<v7)) (
 .nb v8 (((v6).length:Nat):Int) <|
 .br (decide (((v6).getD (Int.toNat v8) (0:Int))<(97:Int))) (
 .br (v8==(0:Int)) (
 .ret (.inr <| .inl<|())) (
 .br (decide (((v6).getD (Int.toNat v8) (0:Int))<(48:Int))) (
 .ret (.inr <| .inl<|())) (
 .br (decide ((57:Int)<((v6).getD (Int.toNat v8) (0:Int)))) (
 .ret (.inr <| .inl<|())) (
 .ni (v8+(1:Int)) <|
 .ret (.inl (v0,v6,v7,(v8+(1:Int)),())))))) (
 .br (decide ((122:Int)<((v6).getD (Int.toNat v8) (0:Int)))) (
 .br (v8==(0:Int)) (
 .ret (.inr <| .inl<|())) (
 .br (decide (((v6).getD (Int.toNat v8) (0:Int))<(48:Int))) (
 .ret (.inr <| .inl<|())) (
 .br (decide ((57:Int)<((v6).getD (Int.toNat v8) (0:Int)))) (
 .ret (.inr <| .inl<|())) (
 .ni (v8+(1:Int)) <|
 .ret (.inl (v0,v6,v7,(v8+(1:Int)),())))))) (
 .ni (v8+(1:Int)) <|
 .ret (.inl (v0,v6,v7,(v8+(1:Int)),()))))) (
 .ret (.inr <| .inr<|(v0,())))
noncomputable def L65_0:LoopS prog 40 none 0:=mkLoop mixed cx65 cx65_ok [] rfl p65_0 x65_0 rfl (b65_0) (fun x=>run0 (g65_0 x)) (fun x=>by kernel_rfl)
noncomputable def dd65:D prog 40 none 0:=dO [.l L65_0] (kd prog f65) 0
noncomputable def F65 (a0:ByteArray):Tr0 (Bool×Unit) :=
 .bd (.it g65_0 (a0,(bysL a0),((((bysL a0)).length:Nat):Int),(0:Int),())) fun z0 =>
 .sm z0 (fun z1 =>
 .ret (false,())) fun z2 =>
 .br (decide ((0:Int)<((z2.1.size:Nat):Int))) (
 .ret ((decide (((z2.1.size:Nat):Int)≤(10:Int))),())) (
 .ret (false,()))
theorem c65_ok:trF prog f65=some ⟨40,1,dd65.er,[.t 2],[some .bool]⟩:=by kernel_rfl
noncomputable def ct65:Ct:=⟨65,[.c (.hole .str)],.c (.hole .bool),fun x=>run0 (F65 x.1)⟩
theorem ct65_ok:ct65.Ok prog:=ct_ok mixed cx65_ok func65 c65_ok (enters_of func65 rfl rfl) dd65 (by kernel_rfl) rfl (fun x=>by kernel_rfl)

/- 87 -/
noncomputable def cx87:Cx:=(mkCxH [ct65] [])
theorem cx87_ok:cx87.Ok prog:=mkCxH_ok ⟨ct65_ok,trivial⟩ trivial
noncomputable def dd87:D prog 27 none 0:=dO [] (kd prog f87) 0
noncomputable def F87 (a0:GG):Tr0 (Int×Unit) :=
 .br (a0.2.1==(1:Int)) (
 .br (!(seq a0.2.2.1 (bs []))) (
 .ret ((22:Int),())) (
 .br (a0.2.1==(1:Int)) (
 .ret ((0:Int),())) (
 .bd (F65 a0.2.2.1) fun y0 =>
 .br (!y0.1) (
 .ret ((8:Int),())) (
 .br (seq a0.2.2.1 a0.1) (
 .ret ((22:Int),())) (
 .ret ((0:Int),())))))) (
 .br (a0.2.1==(1:Int)) (
 .ret ((0:Int),())) (
 .bd (F65 a0.2.2.1) fun y1 =>
 .br (!y1.1) (
 .ret ((8:Int),())) (
 .br (seq a0.2.2.1 a0.1) (
 .ret ((22:Int),())) (
 .ret ((0:Int),())))))
theorem c87_ok:trF prog f87=some ⟨27,1,dd87.er,[.t 2],[some tI]⟩:=by kernel_rfl
noncomputable def ct87:Ct:=⟨87,[.c (.hole tG)],hI,fun x=>run0 (F87 x.1)⟩
theorem ct87_ok:ct87.Ok prog:=ct_ok mixed cx87_ok func87 c87_ok (enters_of func87 rfl rfl) dd87 (by kernel_rfl) rfl (fun x=>by kernel_rfl)

/- 88 -/
noncomputable def cx88:Cx:=(mkCxH [ct65] [])
theorem cx88_ok:cx88.Ok prog:=mkCxH_ok ⟨ct65_ok,trivial⟩ trivial
noncomputable def dd88:D prog 35 none 0:=dO [] (kd prog f88) 0
noncomputable def F88 (a0:GG):Tr0 (Int×Unit) :=
 .br (a0.2.1==(3:Int)) (
 .br (!(seq a0.2.2.2.1 (bs []))) (
 .ret ((22:Int),())) (
 .br (!(a0.2.2.2.2==(0:Int))) (
 .ret ((22:Int),())) (
 .br (a0.2.1==(3:Int)) (
 .ret ((0:Int),())) (
 .bd (F65 a0.2.2.2.1) fun y0 =>
 .br (!y0.1) (
 .ret ((8:Int),())) (
 .br (decide (a0.2.2.2.2<(-1000:Int))) (
 .ret ((2:Int),())) (
 .br (decide ((1000:Int)<a0.2.2.2.2)) (
 .ret ((2:Int),())) (
 .ret ((0:Int),())))))))) (
 .br (a0.2.1==(3:Int)) (
 .ret ((0:Int),())) (
 .bd (F65 a0.2.2.2.1) fun y1 =>
 .br (!y1.1) (
 .ret ((8:Int),())) (
 .br (decide (a0.2.2.2.2<(-1000:Int))) (
 .ret ((2:Int),())) (
 .br (decide ((1000:Int)<a0.2.2.2.2)) (
 .ret ((2:Int),())) (
 .ret ((0:Int),()))))))
theorem c88_ok:trF prog f88=some ⟨35,1,dd88.er,[.t 2],[some tI]⟩:=by kernel_rfl
noncomputable def ct88:Ct:=⟨88,[.c (.hole tG)],hI,fun x=>run0 (F88 x.1)⟩
theorem ct88_ok:ct88.Ok prog:=ct_ok mixed cx88_ok func88 c88_ok (enters_of func88 rfl rfl) dd88 (by kernel_rfl) rfl (fun x=>by kernel_rfl)

/- 86 -/
noncomputable def cx86:Cx:=(mkCxH [] [])
theorem cx86_ok:cx86.Ok prog:=mkCxH_ok trivial trivial
@[reducible] def p86_0:Pat:=Pat.mk [(3,hI),(6,hL),(7,hI),(8,hI)] [] [] []
@[reducible] def x86_0:Outs:=[(.ret,Pat.mk [(2,hI)] [] [] []),(.exit 0,Pat.mk [(3,hI)] [] [] [])]
noncomputable def b86_0:D prog 18 none 0:=dO [] (pick (kd prog f86) [(0,false)]) 0
noncomputable def g86_0:Int×List Int×Int×Int×Unit→Tr0 ((Int×List Int×Int×Int×Unit) ⊕ ((Int×Unit) ⊕ ((Int×Unit)))):=fun (v3,v6,v7,v8,_) =>
 .br (decide (v8<v7)) (
 .nb v8 (((v6).length:Nat):Int) <|
 .br (!(((v6).getD (Int.toNat v8) (0:Int))==v3)) (
 .ret (.inr <| .inl<|(((v6).getD (Int.toNat v8) (0:Int)),()))) (
 .ni (v8+(1:Int)) <|
 .ret (.inl (v3,v6,v7,(v8+(1:Int)),())))) (
 .ret (.inr <| .inr<|(v3,())))
noncomputable def L86_0:LoopS prog 18 none 0:=mkLoop mixed cx86 cx86_ok [] rfl p86_0 x86_0 rfl (b86_0) (fun x=>run0 (g86_0 x)) (fun x=>by kernel_rfl)
noncomputable def dd86:D prog 18 none 0:=dO [.l L86_0] (kd prog f86) 0
noncomputable def F86 (a0:List Int):Tr0 (Int×Unit) :=
 .bd (.it g86_0 ((0:Int),a0,(((a0).length:Nat):Int),(0:Int),())) fun z0 =>
 .sm z0 (fun z1 =>
 .ret (z1.1,())) fun z2 =>
 .ret (z2.1,())
theorem c86_ok:trF prog f86=some ⟨18,1,dd86.er,[.t 2],[some tI]⟩:=by kernel_rfl
noncomputable def ct86:Ct:=⟨86,[hL],hI,fun x=>run0 (F86 x.1)⟩
theorem ct86_ok:ct86.Ok prog:=ct_ok mixed cx86_ok func86 c86_ok (enters_of func86 rfl rfl) dd86 (by kernel_rfl) rfl (fun x=>by kernel_rfl)

/- 55 -/
noncomputable def cx55:Cx:=(mkCxH [ct65,ct87,ct88,ct86] [])
theorem cx55_ok:cx55.Ok prog:=mkCxH_ok ⟨ct65_ok,ct87_ok,ct88_ok,ct86_ok,trivial⟩ trivial
noncomputable def dd55:D prog 23 none 0:=dO [] (kd prog f55) 0
noncomputable def F55 (a0:GG):Tr0 (Int×Unit) :=
 .br (decide (a0.2.1<(1:Int))) (
 .ret ((18:Int),())) (
 .br (decide ((3:Int)<a0.2.1)) (
 .ret ((18:Int),())) (
 .bd (F65 a0.1) fun y0 =>
 .br (!y0.1) (
 .ret ((8:Int),())) (
 .bd (F87 (a0.1,a0.2.1,a0.2.2.1,a0.2.2.2.1,a0.2.2.2.2)) fun y1 =>
 .bd (F88 (a0.1,a0.2.1,a0.2.2.1,a0.2.2.2.1,a0.2.2.2.2)) fun y2 =>
 .bd (F86 ((((y1.1::(y2.1::[]))).drop (0:Nat)).take (2:Nat))) fun y3 =>
 .ret (y3.1,()))))
theorem c55_ok:trF prog f55=some ⟨23,1,dd55.er,[.t 2],[some tI]⟩:=by kernel_rfl
noncomputable def ct55:Ct:=⟨55,[.c (.hole tG)],hI,fun x=>run0 (F55 x.1)⟩
theorem ct55_ok:ct55.Ok prog:=ct_ok mixed cx55_ok func55 c55_ok (enters_of func55 rfl rfl) dd55 (by kernel_rfl) rfl (fun x=>by kernel_rfl)

/- 89, by hand -/
@[reducible] def pH89:Pat:=Pat.mk [(0,.c (.mp 0))] [(0,.map tG true .bool false)] [.slot 0] []
@[reducible] def qH89:Pat:=Pat.mk [(0,.c (.mp 1))] [(1,.map tG true .bool false),(0,.map tG true .bool false)] [.slot 0] []
noncomputable def FH89 (m0:List ((GG)×Bool)):Tr0 ((List ((GG)×Bool))×(List ((GG)×Bool))×Unit) :=
 .ret (m0,m0,())
noncomputable def ht89:Ht:=⟨89,pH89,qH89,(fun x=>run0 (FH89 x.1))⟩
theorem ht89_ok:ht89.Ok prog:=fun x y h=>by
  have h':some (x.1,x.1,())=some y:=h
  cases h'
  exact clone_acall (ρ:=lay89_ren) lay89 (enters_of func89 rfl rfl)

/- 193, lent -/
@[reducible] def pH193:Pat:=Pat.mk [(0,.c (.hole tG))] [] [] []
@[reducible] def qH193:Pat:=Pat.mk [(0,.c (.sl0 0 tG))] [(0,.arr tG false)] [.slot 0] []
noncomputable def cxH193:Cx:=(mkCxH [] [])
theorem cxH193_ok:cxH193.Ok prog:=mkCxH_ok trivial trivial
noncomputable def ddH193:D prog 5 none 0:=dO [] (kd prog f193) 0
noncomputable def FH193 (v0:GG):Tr0 (Nat×(List (GG))×Unit) :=
 .ret ((1:Nat),((v0.1,v0.2.1,v0.2.2.1,v0.2.2.2.1,v0.2.2.2.2)::[]),())
theorem cH193_ok:trF prog f193=some ⟨5,1,ddH193.er,[.t 2],[some (.list tG)]⟩:=by kernel_rfl
noncomputable def ht193:Ht:=⟨193,pH193,qH193,(fun x=>run0 (FH193 x.1))⟩
theorem ht193_ok:ht193.Ok prog:=ht_ok mixed cxH193_ok rfl func193 cH193_ok (enters_of func193 rfl rfl) ddH193 (by kernel_rfl) rfl rfl ⟨_,rfl⟩ rfl (pre:=[]) rfl (fun x=>by kernel_rfl)

/- 56, lent -/
@[reducible] def pH56:Pat:=Pat.mk [(0,.c (.ptr 0 0)),(1,.c (.ifcs 33 true (.cons (.hole .str) (.cons (.hole tI) (.cons (.hole .str) (.cons (.hole .str) (.cons (.hole tI) .nil)))))))] [(0,.cells [.mp 1] false),(1,.map tG true .bool false)] [.slot 0,.cell 0 0] []
@[reducible] def qH56:Pat:=Pat.mk [(0,hI)] [(0,.cells [.mp 2] false),(2,.map tG true .bool false)] [.cell 0 0] []
noncomputable def cxH56:Cx:=(mkCxH [] [ht89,ht193])
theorem cxH56_ok:cxH56.Ok prog:=mkCxH_ok trivial ⟨⟨ht89_ok,rfl⟩,⟨ht193_ok,rfl⟩,trivial⟩
@[reducible] def pH56_0:Pat:=Pat.mk [(0,.c (.ptr 0 0)),(5,.c (.mp 2)),(14,.c (.sl0 3 tG)),(15,hI),(16,hI)] [(0,.cells [.mp 1] false),(2,.map tG true .bool false),(3,.arr tG false),(1,.map tG true .bool false)] [.slot 5,.slot 14] []
@[reducible] def xH56_0:Outs:=[(.exit 0,Pat.mk [(0,.c (.ptr 0 0)),(5,.c (.mp 2))] [(0,.cells [.mp 1] false),(2,.map tG true .bool false),(1,.map tG true .bool false)] [.slot 5] [])]
noncomputable def bH56_0:D prog 30 none 2:=dO [] (pick (kd prog f56) [(0,false)]) 0
noncomputable def gH56_0:Nat×Int×Int×(List ((GG)×Bool))×(List (GG))×(List ((GG)×Bool))×Unit→Tr0 ((Nat×Int×Int×(List ((GG)×Bool))×(List (GG))×(List ((GG)×Bool))×Unit) ⊕ (((List ((GG)×Bool))×(List ((GG)×Bool))×Unit))):=fun (nv14,v15,v16,m2,b3,m1,_) =>
 .br (decide (v16<v15)) (
 .nb v16 ((nv14:Nat):Int) <|
 .nd (decide (((0:Nat)+(Int.toNat v16))<(b3).length)) <|
 .ni (v16+(1:Int)) <|
 .ret (.inl (nv14,v15,(v16+(1:Int)),(msetL (.prod .str (.prod (.int .i64) (.prod .str (.prod .str (.int .i64))))) m2 (((b3).getD ((0:Nat)+(Int.toNat v16)) ((bs []),(0:Int),(bs []),(bs []),(0:Int))).1,((b3).getD ((0:Nat)+(Int.toNat v16)) ((bs []),(0:Int),(bs []),(bs []),(0:Int))).2.1,((b3).getD ((0:Nat)+(Int.toNat v16)) ((bs []),(0:Int),(bs []),(bs []),(0:Int))).2.2.1,((b3).getD ((0:Nat)+(Int.toNat v16)) ((bs []),(0:Int),(bs []),(bs []),(0:Int))).2.2.2.1,((b3).getD ((0:Nat)+(Int.toNat v16)) ((bs []),(0:Int),(bs []),(bs []),(0:Int))).2.2.2.2) true),b3,m1,()))) (
 .ret (.inr (m2,m1,())))
noncomputable def LH56_0:LoopS prog 30 none 2:=mkLoop mixed cxH56 cxH56_ok [0,1] rfl pH56_0 xH56_0 rfl (bH56_0) (fun x=>run0 (gH56_0 x)) (fun x=>by kernel_rfl)
noncomputable def ddH56:D prog 30 none 2:=dO [.l LH56_0] (kd prog f56) 0
noncomputable def FH56 (v1c0:ByteArray) (v1c1:Int) (v1c2:ByteArray) (v1c3:ByteArray) (v1c4:Int) (m1:List ((GG)×Bool)):Tr0 (Int×(List ((GG)×Bool))×Unit) :=
 .bd (FH89 m1) fun y0 =>
 .bd (FH193 (v1c0,v1c1,v1c2,v1c3,v1c4)) fun y1 =>
 .bd (.it gH56_0 (y1.1,((y1.1:Nat):Int),(0:Int),y0.1,y1.2.1,y0.2.1,())) fun z2 =>
 .br (decide ((60:Int)<(((z2.1).length:Nat):Int))) (
 .ret ((15:Int),z2.2.1,())) (
 .ret ((0:Int),z2.1,()))
theorem cH56_ok:trF prog f56=some ⟨30,2,ddH56.er,[.t 4],[some tI]⟩:=by kernel_rfl
noncomputable def ht56:Ht:=⟨56,pH56,qH56,(fun x=>run0 (FH56 x.1 x.2.1 x.2.2.1 x.2.2.2.1 x.2.2.2.2.1 x.2.2.2.2.2.1))⟩
theorem ht56_ok:ht56.Ok prog:=ht_ok mixed cxH56_ok rfl func56 cH56_ok (enters_of func56 rfl rfl) ddH56 (by kernel_rfl) rfl rfl ⟨_,rfl⟩ rfl (pre:=[0,1]) rfl (fun x=>by kernel_rfl)

/- 20, lent -/
@[reducible] def pH20:Pat:=Pat.mk [(0,.c (.ptr 0 0)),(1,.c (.hole tG))] [(0,.cells [.mp 1] false),(1,.map tG true .bool false)] [.slot 0,.cell 0 0] []
@[reducible] def qH20:Pat:=Pat.mk [(0,hI)] [(0,.cells [.mp 2] false),(2,.map tG true .bool false)] [.cell 0 0] []
noncomputable def cxH20:Cx:=(mkCxH [ct55] [ht54,ht56])
theorem cxH20_ok:cxH20.Ok prog:=mkCxH_ok ⟨ct55_ok,trivial⟩ ⟨⟨ht54_ok,rfl⟩,⟨ht56_ok,rfl⟩,trivial⟩
noncomputable def ddH20:D prog 17 none 2:=dO [] (kd prog f20) 0
noncomputable def FH20 (v1:GG) (m1:List ((GG)×Bool)):Tr0 (Int×(List ((GG)×Bool))×Unit) :=
 .bd (FH54 m1) fun y0 =>
 .br y0.1 (
 .ret ((9:Int),y0.2.1,())) (
 .bd (F55 (v1.1,v1.2.1,v1.2.2.1,v1.2.2.2.1,v1.2.2.2.2)) fun y1 =>
 .br (!(y1.1==(0:Int))) (
 .ret (y1.1,y0.2.1,())) (
 .bd (FH56 v1.1 v1.2.1 v1.2.2.1 v1.2.2.2.1 v1.2.2.2.2 y0.2.1) fun y2 =>
 .ret (y2.1,y2.2.1,())))
theorem cH20_ok:trF prog f20=some ⟨17,2,ddH20.er,[.t 4],[some tI]⟩:=by kernel_rfl
noncomputable def ht20:Ht:=⟨20,pH20,qH20,(fun x=>run0 (FH20 x.1 x.2.1))⟩
theorem ht20_ok:ht20.Ok prog:=ht_ok mixed cxH20_ok rfl func20 cH20_ok (enters_of func20 rfl rfl) ddH20 (by kernel_rfl) rfl rfl ⟨_,rfl⟩ rfl (pre:=[0,1]) rfl (fun x=>by kernel_rfl)

/- 29, lent -/
@[reducible] def pH29:Pat:=Pat.mk [(0,.c (.hole (.list tG)))] [] [] []
@[reducible] def qH29:Pat:=Pat.mk [(0,.c (.ptr 0 0))] [(0,.cells [.mp 1] false),(1,.map tG true .bool false)] [.slot 0,.cell 0 0] []
noncomputable def cxH29:Cx:=(mkCxH [] [ht18,ht20])
theorem cxH29_ok:cxH29.Ok prog:=mkCxH_ok trivial ⟨⟨ht18_ok,rfl⟩,⟨ht20_ok,rfl⟩,trivial⟩
@[reducible] def pH29_0:Pat:=Pat.mk [(0,.c (.hole (.list tG))),(3,.c (.ptr 0 0)),(4,hI)] [(0,.cells [.mp 1] false),(1,.map tG true .bool false)] [.slot 3,.cell 0 0] []
@[reducible] def xH29_0:Outs:=[(.exit 0,Pat.mk [(3,.c (.ptr 0 0))] [(0,.cells [.mp 1] false),(1,.map tG true .bool false)] [.slot 3,.cell 0 0] [])]
noncomputable def bH29_0:D prog 19 none 0:=dO [] (pick (kd prog f29) [(0,false)]) 0
noncomputable def gH29_0:(List (GG))×Int×(List ((GG)×Bool))×Unit→Tr0 (((List (GG))×Int×(List ((GG)×Bool))×Unit) ⊕ (((List ((GG)×Bool))×Unit))):=fun (v0,v4,m1,_) =>
 .br (decide (v4<(((v0).length:Nat):Int))) (
 .nb v4 (((v0).length:Nat):Int) <|
 .bd (FH20 (((v0).getD (Int.toNat v4) ((bs []),(0:Int),(bs []),(bs []),(0:Int))).1,((v0).getD (Int.toNat v4) ((bs []),(0:Int),(bs []),(bs []),(0:Int))).2.1,((v0).getD (Int.toNat v4) ((bs []),(0:Int),(bs []),(bs []),(0:Int))).2.2.1,((v0).getD (Int.toNat v4) ((bs []),(0:Int),(bs []),(bs []),(0:Int))).2.2.2.1,((v0).getD (Int.toNat v4) ((bs []),(0:Int),(bs []),(bs []),(0:Int))).2.2.2.2) m1) fun y1 =>
 .ni (v4+(1:Int)) <|
 .ret (.inl (v0,(v4+(1:Int)),y1.2.1,()))) (
 .ret (.inr (m1,())))
noncomputable def LH29_0:LoopS prog 19 none 0:=mkLoop mixed cxH29 cxH29_ok [] rfl pH29_0 xH29_0 rfl (bH29_0) (fun x=>run0 (gH29_0 x)) (fun x=>by kernel_rfl)
noncomputable def ddH29:D prog 19 none 0:=dO [.l LH29_0] (kd prog f29) 0
noncomputable def FH29 (v0:List (GG)):Tr0 ((List ((GG)×Bool))×Unit) :=
 .bd (FH18) fun y0 =>
 .bd (.it gH29_0 (v0,(0:Int),y0.1,())) fun z2 =>
 .ret (z2.1,())
theorem cH29_ok:trF prog f29=some ⟨19,1,ddH29.er,[.t 2],[none]⟩:=by kernel_rfl
noncomputable def ht29:Ht:=⟨29,pH29,qH29,(fun x=>run0 (FH29 x.1))⟩
theorem ht29_ok:ht29.Ok prog:=ht_ok mixed cxH29_ok rfl func29 cH29_ok (enters_of func29 rfl rfl) ddH29 (by kernel_rfl) rfl rfl ⟨_,rfl⟩ rfl (pre:=[]) rfl (fun x=>by kernel_rfl)

/- 84, lent -/
@[reducible] def pH84:Pat:=Pat.mk [(0,.c (.mp 0))] [(0,.map tG true .bool false)] [.slot 0] []
@[reducible] def qH84:Pat:=Pat.mk [(0,.fn 111 [] [.ptr 1 0])] [(1,.cells [.mp 0] false),(0,.map tG true .bool false)] [.part 0 0] []
noncomputable def cxH84:Cx:=(mkCxH [] [])
theorem cxH84_ok:cxH84.Ok prog:=mkCxH_ok trivial trivial
noncomputable def ddH84:D prog 4 none 1:=dO [] (kd prog f84) 0
noncomputable def FH84 (m0:List ((GG)×Bool)):Tr0 ((List ((GG)×Bool))×Unit) :=
 .ret (m0,())
theorem cH84_ok:trF prog f84=some ⟨4,1,ddH84.er,[.t 2],[none]⟩:=by kernel_rfl
noncomputable def ht84:Ht:=⟨84,pH84,qH84,(fun x=>run0 (FH84 x.1))⟩
theorem ht84_ok:ht84.Ok prog:=ht_ok mixed cxH84_ok rfl func84 cH84_ok (enters_of func84 rfl rfl) ddH84 (by kernel_rfl) rfl rfl ⟨_,rfl⟩ rfl (pre:=[0]) rfl (fun x=>by kernel_rfl)

/- 110, by hand -/
@[reducible] def pH110:Pat:=Pat.mk [(0,.c (.sl0 0 tG)),(1,.c (.fn0 85))] [(0,.arr tG false)] [.slot 0] []
@[reducible] def qH110:Pat:=Pat.mk [(0,.c .any)] [(0,.arr tG false)] [] []
noncomputable def FH110 (nv0:Nat) (b0:List (GG)):Tr0 ((List (GG))×Unit) :=
 .of (srtN (.prod .str (.prod (.int .i64) (.prod .str (.prod .str (.int .i64))))) b0 nv0)
noncomputable def ht110:Ht:=⟨110,pH110,qH110,(fun x=>run0 (FH110 x.1 x.2.1))⟩
theorem seq_eqT (a b:ByteArray):(seq a b=true)↔a=b:=by
  unfold seq
  rw [beq_iff_eq,Go.ByteArray.toList_eq,Go.ByteArray.toList_eq]
  obtain ⟨a⟩:=a;obtain ⟨b⟩:=b
  simp
def cmpST (a b:ByteArray):Int:=if slt a b=true then -1 else if a=b then 0 else 1
def cmpIT (a b:Int):Int:=if a<b then -1 else if b<a then 1 else 0
def orLT : List Int → Int
 |[]=>0
 |a::r=>if a=0 then orLT r else a
theorem wq130 (a:ByteArray):run0 (F130 a)=some (false,()):=by
  have:seq a a=true:=(seq_eqT a a).2 rfl
  simp [F130,run_ret,this]
theorem wq131 (a:Int):run0 (F131 a)=some (false,()):=by simp [F131,run_ret]
theorem wq113 (a b:ByteArray):run0 (F113 a b)=some (cmpST a b,()):=by
  simp only [F113,run_bd,run_br,run_ret,wq130,bindO_s,br_false,br_if,cmpST]
  cases h:slt a b
  · by_cases he : a = b
    · subst he;simp [(seq_eqT a a).2 rfl]
    · have : seq a b = false := by rw [← Bool.not_eq_true]; exact fun h => he ((seq_eqT a b).1 h)
      simp [this,he]
  · simp
theorem wq114 (a b:Int):run0 (F114 a b)=some (cmpIT a b,()):=by
  simp only [F114,run_bd,run_br,run_ret,wq131,bindO_s,br_false,br_d,cmpIT]
  repeat' split
  all_goals rfl
theorem wq112 (l:List Int) (hl:l.length≤1000):run0 (F112 l)=some (orLT l,()):=by
  simp only [F112,run_bd,run_it,run_ret]
  refine bind_eq (iter_list l (fun k (_:Unit)=>((0:Int),l,((l.length:Nat):Int),(k:Int),())) (fun _ r=>if orLT r=0 then .inr (0,()) else .inl (orLT r,())) (fun _ _=>True) ?_ ?_ (s:=()) trivial) ?_
  · rintro pre x post _ hx -
    have hlen:l.length=pre.length+(post.length+1):=by rw [hx];simp
    have hd:l.getD pre.length 0=x:=by rw [hx];exact getD_mid rfl
    have i1:inb (pre.length:Int) ((l.length:Nat):Int)=true:=inb_t (by omega) (by omega)
    have r1:rng .i64 ((pre.length:Int)+1)=true:=rng_i64 (by omega) (by omega)
    simp only [g112_0,run_br,run_nb,run_ni,run_nd,run_ret,Int.toNat_natCast,hd,i1,r1,need_true,br_d,br_not,br_eq]
    rw [if_pos (by omega)]
    by_cases h:x=0
    · left
      refine ⟨(),?_,trivial,by simp [orLT,h]⟩
      rw [if_pos h];rfl
    · right
      rw [if_neg h]
      have:orLT (x::post)=x:=by simp [orLT,h]
      rw [this,if_neg h]
  · rintro _ _
    simp only [g112_0,run_br,br_d,run_ret]
    rw [if_neg (by omega)]
    simp [orLT]
  · by_cases h : orLT l = 0
    · rw [if_pos h,h];rfl
    · rw [if_neg h];rfl
@[reducible] def tMsg:Ty:=.prod .str (.prod tI (.prod .str (.prod .str tI)))
def cmpMT (a b:tMsg.den):Int:=orLT [cmpST a.1 b.1,cmpIT a.2.1 b.2.1,cmpST a.2.2.1 b.2.2.1,cmpST a.2.2.2.1 b.2.2.2.1,cmpIT a.2.2.2.2 b.2.2.2.2]
theorem cmpST_z {a b:ByteArray}:cmpST a b=0↔a=b:=by
  unfold cmpST
  split
  · rename_i h
    constructor
    · intro h';omega
    · rintro rfl
      have:dlt .str a a=true:=h
      rw [dlt_irr (t:=.str) rfl] at this;cases this
  · split<;>simp_all
theorem cmpIT_z {a b:Int}:cmpIT a b=0↔a=b:=by
  unfold cmpIT
  repeat' split
  all_goals omega
theorem cmpST_n {a b:ByteArray}:cmpST a b<0↔dlt .str a b=true:=by
  unfold cmpST
  split
  · rename_i h;simp only [dlt];exact ⟨fun _=>h,fun _=>by omega⟩
  · rename_i h
    constructor
    · intro h';split at h'<;>omega
    · intro h';exact absurd h' h
theorem cmpIT_n {a b:Int}:cmpIT a b<0↔dlt tI a b=true:=by
  have e:dlt tI a b=decide (a<b):=rfl
  rw [e,decide_eq_true_eq]
  unfold cmpIT
  repeat' split
  all_goals omega
theorem orLT_n {c:Int} {r:List Int}:orLT (c::r)<0↔c<0∨(c=0∧orLT r<0):=by
  simp only [orLT]
  split<;>omega
theorem cmpMT_n (a b:tMsg.den):decide (cmpMT a b<0)=dlt tMsg a b:=by
  have hS:∀x y:ByteArray,deq .str x y=true↔x=y:=fun x y=>⟨fun h=>deq_eq h,fun h=>by subst h;exact deq_refl (t:=.str) x rfl⟩
  have hI:∀x y:Int,deq tI x y=true↔x=y:=fun x y=>⟨fun h=>deq_eq (t:=tI) h,fun h=>by subst h;exact deq_refl (t:=tI) x rfl⟩
  rw [Bool.eq_iff_iff,decide_eq_true_eq]
  show _↔(dlt .str a.1 b.1||(deq .str a.1 b.1&&(dlt tI a.2.1 b.2.1||(deq tI a.2.1 b.2.1&&(dlt .str a.2.2.1 b.2.2.1||(deq .str a.2.2.1 b.2.2.1&&(dlt .str a.2.2.2.1 b.2.2.2.1||(deq .str a.2.2.2.1 b.2.2.2.1&&dlt tI a.2.2.2.2 b.2.2.2.2))))))))=true
  have e:orLT []<0↔False:=by simp [orLT]
  unfold cmpMT
  simp only [orLT_n,e,and_false,or_false,cmpST_z,cmpIT_z,cmpST_n,cmpIT_n,Bool.or_eq_true,Bool.and_eq_true,hS,hI]
theorem wq85 (a b:tMsg.den):run0 (F85 a b)=some (cmpMT a b,()):=by
  have hq:∀x y:ByteArray,(x.toList=y.toList)↔x=y:=fun x y=>by rw [←seq_eqT];unfold seq;rw [beq_iff_eq]
  simp only [F85,run_br,run_bd,run_ret,wq113,wq114,bindO_s,br_if]
  split
  · rename_i h
    simp only [Bool.and_eq_true,beq_iff_eq,and_true,hq] at h
    obtain ⟨h1,h2,h3,h4,h5⟩:=h
    have:cmpMT a b=0:=by
      unfold cmpMT
      simp only [orLT,cmpST_z.2 h1,cmpIT_z.2 h2,cmpST_z.2 h3,cmpST_z.2 h4,cmpIT_z.2 h5,if_true]
    rw [this]
  · exact bind_eq (wq112 [cmpST a.1 b.1,cmpIT a.2.1 b.2.1,cmpST a.2.2.1 b.2.2.1,cmpST a.2.2.2.1 b.2.2.2.1,cmpIT a.2.2.2.2 b.2.2.2.2] (by simp)) rfl
theorem ht110_ok:ht110.Ok prog:=fun x y h =>
  srtN_fn (ρ := lay110_ren) lay110 (enters_of func110 rfl rfl) (g := 85) (t := tMsg) (ks := [.s, .i, .s, .s, .i]) rfl (by decide) (fun w => isAgg33 w) (fun w => sizeOf33 w) cmpMT
    (fun a b=>ct85_ok (a,b,()) (cmpMT a b,()) (wq85 a b)) cmpMT_n (xs:=x.2.1) (n:=x.1) (y:=y) h

/- 83, lent -/
@[reducible] def pH83:Pat:=Pat.mk [(0,.fn 111 [] [.ptr 0 0]),(1,.c (.fn0 85))] [(0,.cells [.mp 1] false),(1,.map tG true .bool false)] [.part 0 0,.cell 0 0] []
@[reducible] def qH83:Pat:=Pat.mk [(0,.c (.sl0 2 tG))] [(2,.arr tG false),(0,.cells [.mp 1] false),(1,.map tG true .bool false)] [.slot 0] []
noncomputable def cxH83j0:Cx:=(mkCxH [] [ht110])
theorem cxH83j0_ok:cxH83j0.Ok prog:=mkCxH_ok (cts:=[]) (hts:=[ht110]) trivial ⟨⟨ht110_ok,rfl⟩,trivial⟩
noncomputable def adH83f109f128_0:D prog 13 (some 4) 8:=dO [] (pick (kd prog f128) [(0,false)]) 0
noncomputable def bdH83f109f128_0:D prog 13 (some 4) 8:=dO [] (pick (kd prog f128) [(0,true)]) 0
noncomputable def cxH83f109f128_0i:Cx:=itCx cxH83j0 (fun kz=>rdK kz cxH83j0 ar0 4 8 [7] (adH83f109f128_0) (bdH83f109f128_0))
theorem cxH83f109f128_0i_ok:(cxH83f109f128_0i).Ok prog:=itCx_ok cxH83j0_ok (fun h=>rdK_ok mixed cxH83j0_ok h)
@[reducible] def pH83f109f128_0i_0:Pat:=Pat.mk [(0,.c (.yl 4)),(4,.c (.mp 1))] [(4,.loop .ready none 3 [(2,.c (.ptr 2 0)),(4,.c .nsl),(6,.fn 111 [] [.ptr 0 0])] [7] (.reg [.op (some 5) none (.alloc [.str (ByteArray.mk (Array.mk [])),.int .i64 (Int.ofNat 0),.str (ByteArray.mk (Array.mk [])),.str (ByteArray.mk (Array.mk [])),.int .i64 (Int.ofNat 0)]),.op none none (.store 5 (.t 5) (.t 7))]) (.block 1 (.reg [.op (some 8) none (.load false 1 (.t 2)),.op (some 9) none (.load true 5 (.t 5)),.op (some 10) none (.bslice tG [.t 9]),.op (some 11) none (.append 5 (.t 8) (.t 10)),.op none none (.store 1 (.t 2) (.t 11))])) 13),(1,.map tG true .bool false),(3,.dfr),(2,.cells [.sl0 5 tG] false),(0,.cells [.mp 1] false),(5,.arr tG false)] [.cell 2 0] []
noncomputable def bH83f109f128_0i_0:D prog 14 none 7:=dO [] (pick (kd prog f111) [(0,false)]) 0
noncomputable def gH83f109f128_0i_0:(((GG))×(Bool))→(List ((GG)×Bool))×Nat×(List (GG))×Unit→Tr0 ((List ((GG)×Bool))×Nat×(List (GG))×Unit):=fun e (m1,nc2_0,b5,_) =>
 .nd (decide ((nc2_0+((((((e.1.1,e.1.2.1,e.1.2.2.1,e.1.2.2.2.1,e.1.2.2.2.2)::[])).drop (0:Nat)).take (1:Nat))).length)<bigL)) <|
 .nd (sameD m1 m1) <|
 .ret (m1,(nc2_0+((((((e.1.1,e.1.2.1,e.1.2.2.1,e.1.2.2.2.1,e.1.2.2.2.2)::[])).drop (0:Nat)).take (1:Nat))).length),((((b5).drop (0:Nat)).take nc2_0)++(((((e.1.1,e.1.2.1,e.1.2.2.1,e.1.2.2.2.1,e.1.2.2.2.2)::[])).drop (0:Nat)).take (1:Nat))),())
noncomputable def MH83f109f128_0i_0:MapS prog 14 none 5:=mkMapRA mixed cxH83f109f128_0i cxH83f109f128_0i_ok [0,1,2,3,4] rfl pH83f109f128_0i_0 ( [.op (some 4) none (.load false 1 (.t 1))]) 4 5 [6,7] (some 8) ( .prod .str (.prod tI (.prod .str (.prod .str tI))))  true ( .bool)  false 0 rfl 7 rfl (bH83f109f128_0i_0) (fun e x=>run0 (gH83f109f128_0i_0 e x)) (fun e=>fun x=>by kernel_rfl)
@[reducible] def pH83f109f128_0:Pat:=Pat.mk [(2,.c (.ptr 2 0)),(4,.c .nsl),(6,.fn 111 [] [.ptr 0 0])] [(2,.cells [.nsl] false),(0,.cells [.mp 1] false),(1,.map tG true .bool false)] [.slot 2] []
@[reducible] def xH83f109f128_0:Outs:=[(.normal,Pat.mk [(2,.c (.ptr 2 0))] [(2,.cells [.sl0 3 tG] false),(0,.cells [.mp 1] false),(1,.map tG true .bool false),(3,.arr tG false)] [.slot 2,.cell 2 0] [])]
noncomputable def bH83f109f128_0i:D prog 14 none 5:=dO [.m MH83f109f128_0i_0] (kd prog f111) 0
theorem ciH83f109f128_0:trF prog f111=some ⟨14,2,(bH83f109f128_0i).er,[],[]⟩:=by kernel_rfl
noncomputable def RH83f109f128_0:RangeS prog 13 none 2:=mkRangeI mixed cxH83f109f128_0i cxH83f109f128_0i_ok [0,1] rfl pH83f109f128_0 xH83f109f128_0 ( .t 6) [7] rfl (adH83f109f128_0).er (bdH83f109f128_0).er 111 func111 (ciH83f109f128_0) (enters_of func111 rfl rfl) 5 rfl (bH83f109f128_0i) rfl
@[reducible] noncomputable def fnH83j1:Go.AM.Fn:=⟨13,2,(dO [.r RH83f109f128_0] (kd prog f128) 0:D prog 13 none 2).er,[.t 4],[some (.list tG)]⟩
noncomputable def cxH83j1:Cx:=inCxB prog cxH83j0 128 fnH83j1 2 (dO [.r RH83f109f128_0] (kd prog f128) 0)
theorem cxH83j1_ok:cxH83j1.Ok prog:=inCxB_ok mixed cxH83j0_ok func128 (by kernel_rfl) (enters_of func128 rfl rfl) rfl
@[reducible] noncomputable def fnH83j2:Go.AM.Fn:=⟨5,1,(dO [] (kd prog f109) 0:D prog 5 none 0).er,[.t 2],[some (.list tG)]⟩
noncomputable def cxH83j2:Cx:=inCx prog cxH83j1 109 fnH83j2 (fun _=>dO [] (kd prog f109) 0)
theorem cxH83j2_ok:cxH83j2.Ok prog:=inCx_ok mixed cxH83j1_ok func109 (by kernel_rfl) (enters_of func109 rfl rfl) (fun _=>by kernel_rfl)
noncomputable def cxH83:Cx:=cxH83j2
theorem cxH83_ok:cxH83.Ok prog:=cxH83j2_ok
noncomputable def ddH83:D prog 12 none 2:=dO [] (kd prog f83) 0
noncomputable def FH83 (m1:List ((GG)×Bool)):Tr0 (Nat×(List (GG))×(List ((GG)×Bool))×Unit) :=
 .an m1 fun l0 =>
 .bd (.fm gH83f109f128_0i_0 l0 (m1,(0:Nat),[],())) fun z1 =>
 .bd (FH110 z1.2.1 z1.2.2.1) fun y2 =>
 .ret (z1.2.1,y2.1,z1.1,())
theorem cH83_ok:trF prog f83=some ⟨12,2,ddH83.er,[.t 4],[some (.list tG)]⟩:=by kernel_rfl
noncomputable def ht83:Ht:=⟨83,pH83,qH83,(fun x=>run0 (FH83 x.1))⟩
theorem ht83_ok:ht83.Ok prog:=ht_ok mixed cxH83_ok rfl func83 cH83_ok (enters_of func83 rfl rfl) ddH83 (by kernel_rfl) rfl rfl ⟨_,rfl⟩ rfl (pre:=[0,1]) rfl (fun x=>by kernel_rfl)

/- 47, lent -/
@[reducible] def pH47:Pat:=Pat.mk [(0,.c (.ptr 0 0))] [(0,.cells [.mp 1] false),(1,.map tG true .bool false)] [.slot 0,.cell 0 0] []
@[reducible] def qH47:Pat:=Pat.mk [(0,.c (.sl0 2 tG))] [(2,.arr tG false),(0,.cells [.mp 1] false),(1,.map tG true .bool false)] [.slot 0] []
noncomputable def cxH47:Cx:=(mkCxH [] [ht54,ht84,ht83])
theorem cxH47_ok:cxH47.Ok prog:=mkCxH_ok trivial ⟨⟨ht54_ok,rfl⟩,⟨ht84_ok,rfl⟩,⟨ht83_ok,rfl⟩,trivial⟩
noncomputable def ddH47:D prog 11 none 2:=dO [] (kd prog f47) 0
noncomputable def FH47 (m1:List ((GG)×Bool)):Tr0 (Nat×(List (GG))×(List ((GG)×Bool))×Unit) :=
 .bd (FH54 m1) fun y0 =>
 .br y0.1 (
 .ret ((0:Nat),[],y0.2.1,())) (
 .bd (FH84 y0.2.1) fun y1 =>
 .bd (FH83 y1.1) fun y2 =>
 .ret (y2.1,y2.2.1,y2.2.2.1,()))
theorem cH47_ok:trF prog f47=some ⟨11,1,ddH47.er,[.t 2],[some (.list tG)]⟩:=by kernel_rfl
noncomputable def ht47:Ht:=⟨47,pH47,qH47,(fun x=>run0 (FH47 x.1))⟩
theorem ht47_ok:ht47.Ok prog:=ht_ok mixed cxH47_ok rfl func47 cH47_ok (enters_of func47 rfl rfl) ddH47 (by kernel_rfl) rfl rfl ⟨_,rfl⟩ rfl (pre:=[0,1]) rfl (fun x=>by kernel_rfl)

/- 95, lent -/
@[reducible] def pH95:Pat:=Pat.mk [(0,.c (.mp 0))] [(0,.map .str false tG true)] [.slot 0] []
@[reducible] def qH95:Pat:=Pat.mk [(0,.fn 118 [] [.ptr 1 0])] [(1,.cells [.mp 0] false),(0,.map .str false tG true)] [.part 0 0] []
noncomputable def cxH95:Cx:=(mkCxH [] [])
theorem cxH95_ok:cxH95.Ok prog:=mkCxH_ok trivial trivial
noncomputable def ddH95:D prog 4 none 1:=dO [] (kd prog f95) 0
noncomputable def FH95 (m0:Tdm):Tr0 (Tdm×Unit) :=
 .ret (m0,())
theorem cH95_ok:trF prog f95=some ⟨4,1,ddH95.er,[.t 2],[none]⟩:=by kernel_rfl
noncomputable def ht95:Ht:=⟨95,pH95,qH95,(fun x=>run0 (FH95 x.1))⟩
theorem ht95_ok:ht95.Ok prog:=ht_ok mixed cxH95_ok rfl func95 cH95_ok (enters_of func95 rfl rfl) ddH95 (by kernel_rfl) rfl rfl ⟨_,rfl⟩ rfl (pre:=[0]) rfl (fun x=>by kernel_rfl)

/- 105, by hand -/
@[reducible] def pH105:Pat:=Pat.mk [(0,.c (.sl0 0 .str))] [(0,.arr .str false)] [.slot 0] []
@[reducible] def qH105:Pat:=Pat.mk [(0,.c .any)] [(0,.arr .str false)] [] []
noncomputable def FH105 (nv0:Nat) (b0:List ByteArray):Tr0 (List ByteArray×Unit) :=
 .of (srtN .str b0 nv0)
noncomputable def ht105:Ht:=⟨105,pH105,qH105,(fun x=>run0 (FH105 x.1 x.2.1))⟩
theorem ht105_ok:ht105.Ok prog:=fun x y h=>srtN_str (ρ:=lay105_ren) lay105 (enters_of func105 rfl rfl) (xs:=x.2.1) (n:=x.1) (y:=y) h

/- 81, lent -/
@[reducible] def pH81:Pat:=Pat.mk [(0,.fn 118 [] [.ptr 0 0])] [(0,.cells [.mp 1] false),(1,.map .str false tG true)] [.part 0 0,.cell 0 0] []
@[reducible] def qH81:Pat:=Pat.mk [(0,.c (.sl0 2 .str))] [(2,.arr .str false),(0,.cells [.mp 1] false),(1,.map .str false tG true)] [.slot 0] []
noncomputable def cxH81j0:Cx:=(mkCxH [] [ht105])
theorem cxH81j0_ok:cxH81j0.Ok prog:=mkCxH_ok (cts:=[]) (hts:=[ht105]) trivial ⟨⟨ht105_ok,rfl⟩,trivial⟩
noncomputable def adH81f107f126_0:D prog 13 (some 4) 7:=dO [] (pick (kd prog f126) [(0,false)]) 0
noncomputable def bdH81f107f126_0:D prog 13 (some 4) 7:=dO [] (pick (kd prog f126) [(0,true)]) 0
noncomputable def cxH81f107f126_0i:Cx:=itCx cxH81j0 (fun kz=>rdK kz cxH81j0 ar0 4 7 [7] (adH81f107f126_0) (bdH81f107f126_0))
theorem cxH81f107f126_0i_ok:(cxH81f107f126_0i).Ok prog:=itCx_ok cxH81j0_ok (fun h=>rdK_ok mixed cxH81j0_ok h)
@[reducible] def pH81f107f126_0i_0:Pat:=Pat.mk [(0,.c (.yl 4)),(4,.c (.mp 1))] [(4,.loop .ready none 3 [(2,.c (.ptr 2 0)),(4,.c .nsl),(6,.fn 118 [] [.ptr 0 0])] [7] (.reg [.op (some 5) none (.mv (.t 7))]) (.block 1 (.reg [.op (some 8) none (.load false 1 (.t 2)),.op (some 9) none (.mv (.t 5)),.op (some 10) none (.bslice .str [.t 9]),.op (some 11) none (.append 1 (.t 8) (.t 10)),.op none none (.store 1 (.t 2) (.t 11))])) 13),(1,.map .str false tG true),(3,.dfr),(2,.cells [.sl0 5 .str] false),(0,.cells [.mp 1] false),(5,.arr .str false)] [.cell 2 0] []
noncomputable def bH81f107f126_0i_0:D prog 14 none 7:=dO [] (pick (kd prog f118) [(0,false)]) 0
noncomputable def gH81f107f126_0i_0:((ByteArray)×(GG))→Tdm×Nat×List ByteArray×Unit→Tr0 (Tdm×Nat×List ByteArray×Unit):=fun e (m1,nc2_0,b5,_) =>
 .nd (decide ((nc2_0+(((((e.1::[])).drop (0:Nat)).take (1:Nat))).length)<bigL)) <|
 .nd (sameD m1 m1) <|
 .ret (m1,(nc2_0+(((((e.1::[])).drop (0:Nat)).take (1:Nat))).length),((((b5).drop (0:Nat)).take nc2_0)++((((e.1::[])).drop (0:Nat)).take (1:Nat))),())
noncomputable def MH81f107f126_0i_0:MapS prog 14 none 5:=mkMapRA mixed cxH81f107f126_0i cxH81f107f126_0i_ok [0,1,2,3,4] rfl pH81f107f126_0i_0 ( [.op (some 4) none (.load false 1 (.t 1))]) 4 5 [6,7] (some 8) ( .str)  false ( .prod .str (.prod tI (.prod .str (.prod .str tI))))  true 0 rfl 7 rfl (bH81f107f126_0i_0) (fun e x=>run0 (gH81f107f126_0i_0 e x)) (fun e=>fun x=>by kernel_rfl)
@[reducible] def pH81f107f126_0:Pat:=Pat.mk [(2,.c (.ptr 2 0)),(4,.c .nsl),(6,.fn 118 [] [.ptr 0 0])] [(2,.cells [.nsl] false),(0,.cells [.mp 1] false),(1,.map .str false tG true)] [.slot 2] []
@[reducible] def xH81f107f126_0:Outs:=[(.normal,Pat.mk [(2,.c (.ptr 2 0))] [(2,.cells [.sl0 3 .str] false),(0,.cells [.mp 1] false),(1,.map .str false tG true),(3,.arr .str false)] [.slot 2,.cell 2 0] [])]
noncomputable def bH81f107f126_0i:D prog 14 none 5:=dO [.m MH81f107f126_0i_0] (kd prog f118) 0
theorem ciH81f107f126_0:trF prog f118=some ⟨14,2,(bH81f107f126_0i).er,[],[]⟩:=by kernel_rfl
noncomputable def RH81f107f126_0:RangeS prog 13 none 2:=mkRangeI mixed cxH81f107f126_0i cxH81f107f126_0i_ok [0,1] rfl pH81f107f126_0 xH81f107f126_0 ( .t 6) [7] rfl (adH81f107f126_0).er (bdH81f107f126_0).er 118 func118 (ciH81f107f126_0) (enters_of func118 rfl rfl) 5 rfl (bH81f107f126_0i) rfl
@[reducible] noncomputable def fnH81j1:Go.AM.Fn:=⟨13,2,(dO [.r RH81f107f126_0] (kd prog f126) 0:D prog 13 none 2).er,[.t 4],[some (.list .str)]⟩
noncomputable def cxH81j1:Cx:=inCxB prog cxH81j0 126 fnH81j1 2 (dO [.r RH81f107f126_0] (kd prog f126) 0)
theorem cxH81j1_ok:cxH81j1.Ok prog:=inCxB_ok mixed cxH81j0_ok func126 (by kernel_rfl) (enters_of func126 rfl rfl) rfl
@[reducible] noncomputable def fnH81j2:Go.AM.Fn:=⟨5,1,(dO [] (kd prog f107) 0:D prog 5 none 0).er,[.t 2],[some (.list .str)]⟩
noncomputable def cxH81j2:Cx:=inCx prog cxH81j1 107 fnH81j2 (fun _=>dO [] (kd prog f107) 0)
theorem cxH81j2_ok:cxH81j2.Ok prog:=inCx_ok mixed cxH81j1_ok func107 (by kernel_rfl) (enters_of func107 rfl rfl) (fun _=>by kernel_rfl)
noncomputable def cxH81:Cx:=cxH81j2
theorem cxH81_ok:cxH81.Ok prog:=cxH81j2_ok
noncomputable def ddH81:D prog 9 none 2:=dO [] (kd prog f81) 0
noncomputable def FH81 (m1:Tdm):Tr0 (Nat×List ByteArray×Tdm×Unit) :=
 .an m1 fun l0 =>
 .bd (.fm gH81f107f126_0i_0 l0 (m1,(0:Nat),[],())) fun z1 =>
 .bd (FH105 z1.2.1 z1.2.2.1) fun y2 =>
 .ret (z1.2.1,y2.1,z1.1,())
theorem cH81_ok:trF prog f81=some ⟨9,1,ddH81.er,[.t 2],[some (.list .str)]⟩:=by kernel_rfl
noncomputable def ht81:Ht:=⟨81,pH81,qH81,(fun x=>run0 (FH81 x.1))⟩
theorem ht81_ok:ht81.Ok prog:=ht_ok mixed cxH81_ok rfl func81 cH81_ok (enters_of func81 rfl rfl) ddH81 (by kernel_rfl) rfl rfl ⟨_,rfl⟩ rfl (pre:=[0,1]) rfl (fun x=>by kernel_rfl)

/- 98, lent -/
@[reducible] def pH98:Pat:=Pat.mk [(0,.c (.hole (.list .str)))] [] [] []
@[reducible] def qH98:Pat:=Pat.mk [(0,.c (.sl0 0 .str))] [(0,.arr .str false)] [.slot 0] []
noncomputable def cxH98:Cx:=(mkCxH [] [])
theorem cxH98_ok:cxH98.Ok prog:=mkCxH_ok trivial trivial
noncomputable def ddH98:D prog 8 none 0:=dO [] (kd prog f98) 0
noncomputable def FH98 (v0:List ByteArray):Tr0 (Nat×List ByteArray×Unit) :=
 .br ((((v0).length:Nat):Int)==(0:Int)) (
 .am inferInstance (
 .ret ((0:Nat),[],())) (
 .nd (decide (((0:Nat)+(v0).length)<bigL)) <|
 .ret (((0:Nat)+(v0).length),(((([]).drop (0:Nat)).take (0:Nat))++v0),()))) (
 .nd (decide (((0:Nat)+(v0).length)<bigL)) <|
 .ret (((0:Nat)+(v0).length),(((([]).drop (0:Nat)).take (0:Nat))++v0),()))
theorem cH98_ok:trF prog f98=some ⟨8,1,ddH98.er,[.t 2],[some (.list .str)]⟩:=by kernel_rfl
noncomputable def ht98:Ht:=⟨98,pH98,qH98,(fun x=>run0 (FH98 x.1))⟩
theorem ht98_ok:ht98.Ok prog:=ht_ok mixed cxH98_ok rfl func98 cH98_ok (enters_of func98 rfl rfl) ddH98 (by kernel_rfl) rfl rfl ⟨_,rfl⟩ rfl (pre:=[]) rfl (fun x=>by kernel_rfl)

/- 99, lent -/
@[reducible] def pH99:Pat:=Pat.mk [(0,.c (.hole .str)),(1,.c (.ptr 0 0))] [(0,.cells [.ptr 1 0] false),(1,.cells [.mp 2,.mp 3,.mp 4,.mp 5] false),(2,.map .str false tG true),(3,.map .str false (.list .str) false),(4,.map .str false .bool false),(5,.map .str false .bool false)] [.slot 1,.cell 0 0,.cell 1 0,.cell 1 1,.cell 1 2,.cell 1 3] []
@[reducible] def qH99:Pat:=Pat.mk [(0,.c (.hole .bool))] [(0,.cells [.ptr 1 0] false),(1,.cells [.mp 2,.mp 3,.mp 4,.mp 5] false),(2,.map .str false tG true),(3,.map .str false (.list .str) false),(4,.map .str false .bool false),(5,.map .str false .bool false)] [] []
noncomputable def cxH99:Cx:=(mkCxH [] [])
theorem cxH99_ok:cxH99.Ok prog:=mkCxH_ok trivial trivial
noncomputable def ddH99:D prog 11 none 6:=dO [] (kd prog f99) 0
noncomputable def FH99 (v0:ByteArray) (m2:Tdm) (m3:Tdl) (m4:Tdb) (m5:Tdb):Tr0 (Bool×Tdm×Tdl×Tdb×Tdb×Unit) :=
 .ret ((!(mgetL .str false m4 v0)),m2,m3,m4,m5,())
theorem cH99_ok:trF prog f99=some ⟨11,2,ddH99.er,[.t 3],[some .bool]⟩:=by kernel_rfl
noncomputable def ht99:Ht:=⟨99,pH99,qH99,(fun x=>run0 (FH99 x.1 x.2.1 x.2.2.1 x.2.2.2.1 x.2.2.2.2.1))⟩
theorem ht99_ok:ht99.Ok prog:=ht_ok mixed cxH99_ok rfl func99 cH99_ok (enters_of func99 rfl rfl) ddH99 (by kernel_rfl) rfl rfl ⟨_,rfl⟩ rfl (pre:=[0,1,2,3,4,5]) rfl (fun x=>by kernel_rfl)

/- 119, lent -/
@[reducible] def pH119:Pat:=Pat.mk [(0,.c (.sl0 0 .str)),(1,.fn 99 [] [.ptr 1 0])] [(0,.arr .str false),(1,.cells [.ptr 2 0] false),(2,.cells [.mp 3,.mp 4,.mp 5,.mp 6] false),(3,.map .str false tG true),(4,.map .str false (.list .str) false),(5,.map .str false .bool false),(6,.map .str false .bool false)] [.slot 0,.part 1 0,.cell 1 0,.cell 2 0,.cell 2 1,.cell 2 2,.cell 2 3] []
@[reducible] def qH119:Pat:=Pat.mk [(0,hI)] [(1,.cells [.ptr 2 0] false),(2,.cells [.mp 3,.mp 4,.mp 5,.mp 6] false),(3,.map .str false tG true),(4,.map .str false (.list .str) false),(5,.map .str false .bool false),(6,.map .str false .bool false),(0,.arr .str false)] [] []
noncomputable def cxH119:Cx:=(mkCxH [] [ht99])
theorem cxH119_ok:cxH119.Ok prog:=mkCxH_ok trivial ⟨⟨ht99_ok,rfl⟩,trivial⟩
@[reducible] def pH119_0:Pat:=Pat.mk [(0,.c (.sl0 0 .str)),(1,.fn 99 [] [.ptr 1 0]),(7,hI),(8,hI)] [(0,.arr .str false),(1,.cells [.ptr 2 0] false),(2,.cells [.mp 3,.mp 4,.mp 5,.mp 6] false),(3,.map .str false tG true),(4,.map .str false (.list .str) false),(5,.map .str false .bool false),(6,.map .str false .bool false)] [] []
@[reducible] def xH119_0:Outs:=[(.ret,Pat.mk [(4,hI)] [(1,.cells [.ptr 2 0] false),(2,.cells [.mp 3,.mp 4,.mp 5,.mp 6] false),(3,.map .str false tG true),(4,.map .str false (.list .str) false),(5,.map .str false .bool false),(6,.map .str false .bool false),(0,.arr .str false)] [] []),(.exit 0,Pat.mk [] [(1,.cells [.ptr 2 0] false),(2,.cells [.mp 3,.mp 4,.mp 5,.mp 6] false),(3,.map .str false tG true),(4,.map .str false (.list .str) false),(5,.map .str false .bool false),(6,.map .str false .bool false),(0,.arr .str false)] [] [])]
noncomputable def bH119_0:D prog 19 none 7:=dO [] (pick (kd prog f119) [(0,false)]) 0
noncomputable def gH119_0:Nat×Int×Int×List ByteArray×Tdm×Tdl×Tdb×Tdb×Unit→Tr0 ((Nat×Int×Int×List ByteArray×Tdm×Tdl×Tdb×Tdb×Unit) ⊕ ((Int×Tdm×Tdl×Tdb×Tdb×List ByteArray×Unit) ⊕ ((Tdm×Tdl×Tdb×Tdb×List ByteArray×Unit)))):=fun (nv0,v7,v8,b0,m3,m4,m5,m6,_) =>
 .br (decide (v8<v7)) (
 .nb v8 ((nv0:Nat):Int) <|
 .nd (decide (((0:Nat)+(Int.toNat v8))<(b0).length)) <|
 .bd (FH99 ((b0).getD ((0:Nat)+(Int.toNat v8)) (bs [])) m3 m4 m5 m6) fun y0 =>
 .br y0.1 (
 .ret (.inr <| .inl<|(v8,y0.2.1,y0.2.2.1,y0.2.2.2.1,y0.2.2.2.2.1,b0,()))) (
 .ni (v8+(1:Int)) <|
 .ret (.inl (nv0,v7,(v8+(1:Int)),b0,y0.2.1,y0.2.2.1,y0.2.2.2.1,y0.2.2.2.2.1,())))) (
 .ret (.inr <| .inr<|(m3,m4,m5,m6,b0,())))
noncomputable def LH119_0:LoopS prog 19 none 7:=mkLoop mixed cxH119 cxH119_ok [0,1,2,3,4,5,6] rfl pH119_0 xH119_0 rfl (bH119_0) (fun x=>run0 (gH119_0 x)) (fun x=>by kernel_rfl)
noncomputable def ddH119:D prog 19 none 7:=dO [.l LH119_0] (kd prog f119) 0
noncomputable def FH119 (nv0:Nat) (b0:List ByteArray) (m3:Tdm) (m4:Tdl) (m5:Tdb) (m6:Tdb):Tr0 (Int×Tdm×Tdl×Tdb×Tdb×List ByteArray×Unit) :=
 .bd (.it gH119_0 (nv0,((nv0:Nat):Int),(0:Int),b0,m3,m4,m5,m6,())) fun z1 =>
 .sm z1 (fun z2 =>
 .ret (z2.1,z2.2.1,z2.2.2.1,z2.2.2.2.1,z2.2.2.2.2.1,z2.2.2.2.2.2.1,())) fun z3 =>
 .ret ((-1:Int),z3.1,z3.2.1,z3.2.2.1,z3.2.2.2.1,z3.2.2.2.2.1,())
theorem cH119_ok:trF prog f119=some ⟨19,2,ddH119.er,[.t 4],[some tI]⟩:=by kernel_rfl
noncomputable def ht119:Ht:=⟨119,pH119,qH119,(fun x=>run0 (FH119 x.1 x.2.1 x.2.2.1 x.2.2.2.1 x.2.2.2.2.1 x.2.2.2.2.2.1))⟩
theorem ht119_ok:ht119.Ok prog:=ht_ok mixed cxH119_ok rfl func119 cH119_ok (enters_of func119 rfl rfl) ddH119 (by kernel_rfl) rfl rfl ⟨_,rfl⟩ rfl (pre:=[0,1,2,3,4,5,6]) rfl (fun x=>by kernel_rfl)

/- 97, lent -/
@[reducible] def pH97:Pat:=Pat.mk [(0,.c (.sl0 0 .str)),(1,.fn 99 [] [.ptr 1 0])] [(0,.arr .str false),(1,.cells [.ptr 2 0] false),(2,.cells [.mp 3,.mp 4,.mp 5,.mp 6] false),(3,.map .str false tG true),(4,.map .str false (.list .str) false),(5,.map .str false .bool false),(6,.map .str false .bool false)] [.slot 0,.part 1 0,.cell 1 0,.cell 2 0,.cell 2 1,.cell 2 2,.cell 2 3] []
@[reducible] def qH97:Pat:=Pat.mk [(0,.c (.slx 0 .str))] [(0,.arr .str false),(1,.cells [.ptr 2 0] false),(2,.cells [.mp 3,.mp 4,.mp 5,.mp 6] false),(3,.map .str false tG true),(4,.map .str false (.list .str) false),(5,.map .str false .bool false),(6,.map .str false .bool false)] [] []
noncomputable def cxH97:Cx:=(mkCxH [] [ht119,ht99])
theorem cxH97_ok:cxH97.Ok prog:=mkCxH_ok trivial ⟨⟨ht119_ok,rfl⟩,⟨ht99_ok,rfl⟩,trivial⟩
@[reducible] def pH97_0:Pat:=Pat.mk [(0,.c (.sl0 0 .str)),(1,.fn 99 [] [.ptr 1 0]),(5,hI),(6,hI)] [(0,.arr .str false),(1,.cells [.ptr 2 0] false),(2,.cells [.mp 3,.mp 4,.mp 5,.mp 6] false),(3,.map .str false tG true),(4,.map .str false (.list .str) false),(5,.map .str false .bool false),(6,.map .str false .bool false)] [] []
@[reducible] def xH97_0:Outs:=[(.exit 0,Pat.mk [(0,.c (.sl0 0 .str)),(5,hI)] [(0,.arr .str false),(1,.cells [.ptr 2 0] false),(2,.cells [.mp 3,.mp 4,.mp 5,.mp 6] false),(3,.map .str false tG true),(4,.map .str false (.list .str) false),(5,.map .str false .bool false),(6,.map .str false .bool false)] [] [])]
noncomputable def bH97_0:D prog 42 none 7:=dO [] (pick (kd prog f97) [(0,false)]) 0
noncomputable def gH97_0:Nat×Int×Int×List ByteArray×Tdm×Tdl×Tdb×Tdb×Unit→Tr0 ((Nat×Int×Int×List ByteArray×Tdm×Tdl×Tdb×Tdb×Unit) ⊕ ((Nat×Int×List ByteArray×Tdm×Tdl×Tdb×Tdb×Unit))):=fun (nv0,v5,v6,b0,m3,m4,m5,m6,_) =>
 .br (decide (v6<((nv0:Nat):Int))) (
 .nb v6 ((nv0:Nat):Int) <|
 .nd (decide (((0:Nat)+(Int.toNat v6))<(b0).length)) <|
 .bd (FH99 ((b0).getD ((0:Nat)+(Int.toNat v6)) (bs [])) m3 m4 m5 m6) fun y1 =>
 .br (!y1.1) (
 .nb v5 ((nv0:Nat):Int) <|
 .nd (decide (((0:Nat)+(Int.toNat v5))<(b0).length)) <|
 .ni (v5+(1:Int)) <|
 .ni (v6+(1:Int)) <|
 .ret (.inl (nv0,(v5+(1:Int)),(v6+(1:Int)),((b0).set ((0:Nat)+(Int.toNat v5)) ((b0).getD ((0:Nat)+(Int.toNat v6)) (bs []))),y1.2.1,y1.2.2.1,y1.2.2.2.1,y1.2.2.2.2.1,()))) (
 .ni (v6+(1:Int)) <|
 .ret (.inl (nv0,v5,(v6+(1:Int)),b0,y1.2.1,y1.2.2.1,y1.2.2.2.1,y1.2.2.2.2.1,())))) (
 .ret (.inr (nv0,v5,b0,m3,m4,m5,m6,())))
noncomputable def LH97_0:LoopS prog 42 none 7:=mkLoop mixed cxH97 cxH97_ok [0,1,2,3,4,5,6] rfl pH97_0 xH97_0 rfl (bH97_0) (fun x=>run0 (gH97_0 x)) (fun x=>by kernel_rfl)
noncomputable def ddH97:D prog 42 none 7:=dO [.l LH97_0] (kd prog f97) 0
noncomputable def FH97 (nv0:Nat) (b0:List ByteArray) (m3:Tdm) (m4:Tdl) (m5:Tdb) (m6:Tdb):Tr0 (Nat×Nat×List ByteArray×Tdm×Tdl×Tdb×Tdb×Unit) :=
 .bd (FH119 nv0 b0 m3 m4 m5 m6) fun y0 =>
 .br (y0.1==(-1:Int)) (
 .ret ((0:Nat),nv0,y0.2.2.2.2.2.1,y0.2.1,y0.2.2.1,y0.2.2.2.1,y0.2.2.2.2.1,())) (
 .ni (y0.1+(1:Int)) <|
 .bd (.it gH97_0 (nv0,y0.1,(y0.1+(1:Int)),y0.2.2.2.2.2.1,y0.2.1,y0.2.2.1,y0.2.2.2.1,y0.2.2.2.2.1,())) fun z2 =>
 .nd (decide ((0:Int)≤z2.2.1)) <|
 .nd (decide (z2.2.1≤((z2.1:Nat):Int))) <|
 .nd (decide (((z2.1:Nat):Int)≤((z2.1:Nat):Int))) <|
 .nd (decide ((0:Int)≤(0:Int))) <|
 .nd (decide ((0:Int)≤z2.2.1)) <|
 .nd (decide (z2.2.1≤((z2.1:Nat):Int))) <|
 .ret (((0:Nat)+(Int.toNat (0:Int))),((Int.toNat z2.2.1) - (Int.toNat (0:Int))),(clrL (bs []) z2.2.2.1 ((0:Nat)+(Int.toNat z2.2.1)) ((Int.toNat ((z2.1:Nat):Int)) - (Int.toNat z2.2.1))),z2.2.2.2.1,z2.2.2.2.2.1,z2.2.2.2.2.2.1,z2.2.2.2.2.2.2.1,()))
theorem cH97_ok:trF prog f97=some ⟨42,2,ddH97.er,[.t 4],[some (.list .str)]⟩:=by kernel_rfl
noncomputable def ht97:Ht:=⟨97,pH97,qH97,(fun x=>run0 (FH97 x.1 x.2.1 x.2.2.1 x.2.2.2.1 x.2.2.2.2.1 x.2.2.2.2.2.1))⟩
theorem ht97_ok:ht97.Ok prog:=ht_ok mixed cxH97_ok rfl func97 cH97_ok (enters_of func97 rfl rfl) ddH97 (by kernel_rfl) rfl rfl ⟨_,rfl⟩ rfl (pre:=[0,1,2,3,4,5,6]) rfl (fun x=>by kernel_rfl)

/- 96, lent -/
@[reducible] def pH96:Pat:=Pat.mk [(0,.c (.hole .str)),(1,.c (.ptr 0 0)),(2,.c (.ptr 1 0))] [(0,.cells [.ptr 2 0] false),(1,.cells [.fn 96 .nil (.cons (.ptr 0 0) (.cons (.ptr 1 0) .nil))] false),(2,.cells [.mp 3,.mp 4,.mp 5,.mp 6] false),(3,.map .str false tG true),(4,.map .str false (.list .str) false),(5,.map .str false .bool false),(6,.map .str false .bool false)] [.slot 1,.slot 2,.cell 0 0,.cell 2 0,.cell 2 1,.cell 2 2,.cell 2 3] []
@[reducible] def qH96:Pat:=Pat.mk [(0,.c .any)] [(0,.cells [.ptr 2 0] false),(2,.cells [.mp 3,.mp 4,.mp 5,.mp 6] false),(3,.map .str false tG true),(4,.map .str false (.list .str) false),(5,.map .str false .bool false),(6,.map .str false .bool false),(1,.cells [.fn 96 .nil (.cons (.ptr 0 0) (.cons (.ptr 1 0) .nil))] false)] [] []
noncomputable def cxH96 (rec:pH96.T→Option qH96.T):Cx:=(mkCxH [] [⟨96,pH96,qH96,rec⟩])
theorem cxH96_ok (rec:pH96.T→Option qH96.T) (h:Ht.Ok prog ⟨96,pH96,qH96,rec⟩):(cxH96 rec).Ok prog:=mkCxH_ok trivial ⟨⟨h,rfl⟩,trivial⟩
@[reducible] def pH96_0:Pat:=Pat.mk [(2,.c (.ptr 1 0)),(22,.c (.hole (.list .str))),(23,hI),(24,hI)] [(1,.cells [.fn 96 .nil (.cons (.ptr 0 0) (.cons (.ptr 1 0) .nil))] false),(0,.cells [.ptr 2 0] false),(2,.cells [.mp 3,.mp 4,.mp 5,.mp 6] false),(3,.map .str false tG true),(4,.map .str false (.list .str) false),(5,.map .str false .bool false),(6,.map .str false .bool false)] [] []
@[reducible] def xH96_0:Outs:=[(.exit 0,Pat.mk [] [(0,.cells [.ptr 2 0] false),(2,.cells [.mp 3,.mp 4,.mp 5,.mp 6] false),(3,.map .str false tG true),(4,.map .str false (.list .str) false),(5,.map .str false .bool false),(6,.map .str false .bool false),(1,.cells [.fn 96 .nil (.cons (.ptr 0 0) (.cons (.ptr 1 0) .nil))] false)] [] [])]
noncomputable def bH96_0 (rec:pH96.T→Option qH96.T) (h:Ht.Ok prog ⟨96,pH96,qH96,rec⟩):D prog 32 none 7:=dO [] (pick (kd prog f96) [(0,false)]) 0
noncomputable def gH96_0:List ByteArray×Int×Int×Tdm×Tdl×Tdb×Tdb×Unit→Tr pH96.T qH96.T ((List ByteArray×Int×Int×Tdm×Tdl×Tdb×Tdb×Unit) ⊕ ((Tdm×Tdl×Tdb×Tdb×Unit))):=fun (v22,v23,v24,m3,m4,m5,m6,_) =>
 .br (decide (v24<v23)) (
 .nb v24 (((v22).length:Nat):Int) <|
 .bd (.rc (((v22).getD (Int.toNat v24) (bs [])),m3,m4,m5,m6,())) fun y0 =>
 .ni (v24+(1:Int)) <|
 .ret (.inl (v22,v23,(v24+(1:Int)),y0.1,y0.2.1,y0.2.2.1,y0.2.2.2.1,()))) (
 .ret (.inr (m3,m4,m5,m6,())))
theorem sH96_0 (rec:pH96.T→Option qH96.T) (h:Ht.Ok prog ⟨96,pH96,qH96,rec⟩):∀x,roundE (kzO (pH96_0.T ⊕ xH96_0.T)) (cxH96 rec) ar0 [0,1,2,3,4,5,6] pH96_0 xH96_0 (bH96_0 rec h) (fun y=>some (.inl y)) (fun b=>some (.inr b)) x=run rec (gH96_0 x):=fun x=>by kernel_rfl
noncomputable def LH96_0 (rec:pH96.T→Option qH96.T) (h:Ht.Ok prog ⟨96,pH96,qH96,rec⟩):LoopS prog 32 none 7:=mkLoop mixed (cxH96 rec) (cxH96_ok rec h) [0,1,2,3,4,5,6] rfl pH96_0 xH96_0 rfl (bH96_0 rec h) (fun x=>run rec (gH96_0 x)) (sH96_0 rec h)
noncomputable def ddH96 (rec:pH96.T→Option qH96.T) (h:Ht.Ok prog ⟨96,pH96,qH96,rec⟩):D prog 32 none 7:=dO [.l (LH96_0 rec h)] (kd prog f96) 0
noncomputable def FH96 (v0:ByteArray) (m3:Tdm) (m4:Tdl) (m5:Tdb) (m6:Tdb):Tr pH96.T qH96.T (Tdm×Tdl×Tdb×Tdb×Unit) :=
 .br (mgetL .str false m6 v0) (
 .ret (m3,m4,m5,m6,())) (
 .bd (.it gH96_0 ((mgetL .str [] m4 v0),((((mgetL .str [] m4 v0)).length:Nat):Int),(0:Int),m3,m4,m5,(msetL .str m6 v0 true),())) fun z1 =>
 .ret (z1.1,z1.2.1,z1.2.2.1,z1.2.2.2.1,()))
theorem cH96_ok (rec:pH96.T→Option qH96.T) (h:Ht.Ok prog ⟨96,pH96,qH96,rec⟩):trF prog f96=some ⟨32,3,(ddH96 rec h).er,[],[]⟩:=by kernel_rfl
theorem ht96_step (rec:pH96.T→Option qH96.T) (h:Ht.Ok prog ⟨96,pH96,qH96,rec⟩):Ht.Ok prog ⟨96,pH96,qH96,(fun x=>run rec (FH96 x.1 x.2.1 x.2.2.1 x.2.2.2.1 x.2.2.2.2.1))⟩:=ht_ok mixed (cxH96_ok rec h) rfl func96 (cH96_ok rec h) (enters_of func96 rfl rfl) (ddH96 rec h) (by kernel_rfl) rfl rfl ⟨_,rfl⟩ rfl (pre:=[0,1,2,3,4,5,6]) rfl (fun x=>by kernel_rfl)
noncomputable def FH96fix (v0:ByteArray) (m3:Tdm) (m4:Tdl) (m5:Tdb) (m6:Tdb):Tr0 (Tdm×Tdl×Tdb×Tdb×Unit):=.fx (A1:=pH96.T) (B1:=qH96.T) (fun x=>FH96 x.1 x.2.1 x.2.2.1 x.2.2.2.1 x.2.2.2.2.1) (v0,m3,m4,m5,m6,())
noncomputable def ht96:Ht:=⟨96,pH96,qH96,fun x=>run0 (FH96fix x.1 x.2.1 x.2.2.1 x.2.2.2.1 x.2.2.2.2.1)⟩
theorem ht96_ok:ht96.Ok prog:=ht_fix (F:=fun rec x=>run rec (FH96 x.1 x.2.1 x.2.2.1 x.2.2.2.1 x.2.2.2.2.1)) (fun rec h=>ht96_step rec h)

/- 66, lent -/
@[reducible] def pH66:Pat:=Pat.mk [(0,.c (.ptr 0 0))] [(0,.cells [.mp 1] false),(1,.map tG true .bool false)] [.slot 0,.cell 0 0] []
@[reducible] def qH66:Pat:=Pat.mk [(0,.c (.ptr 2 0))] [(2,.cells [.mp 3,.mp 4,.mp 5,.mp 6] false),(0,.cells [.mp 1] false),(1,.map tG true .bool false),(3,.map .str false tG true),(4,.map .str false (.list .str) false),(5,.map .str false .bool false),(6,.map .str false .bool false)] [.slot 0,.cell 2 0,.cell 2 1,.cell 2 2,.cell 2 3] []
noncomputable def cxH66:Cx:=(mkCxH [] [ht47,ht95,ht81,ht98,ht97,ht96])
theorem cxH66_ok:cxH66.Ok prog:=mkCxH_ok trivial ⟨⟨ht47_ok,rfl⟩,⟨ht95_ok,rfl⟩,⟨ht81_ok,rfl⟩,⟨ht98_ok,rfl⟩,⟨ht97_ok,rfl⟩,⟨ht96_ok,rfl⟩,trivial⟩
@[reducible] def pH66_0:Pat:=Pat.mk [(3,.c (.ptr 2 0)),(26,.c (.sl0 3 tG)),(27,hI),(28,hI)] [(2,.cells [.ptr 4 0] false),(3,.arr tG false),(0,.cells [.mp 1] false),(1,.map tG true .bool false),(4,.cells [.mp 5,.mp 6,.mp 7,.mp 8] false),(5,.map .str false tG true),(6,.map .str false (.list .str) false),(7,.map .str false .bool false),(8,.map .str false .bool false)] [.slot 3,.slot 26,.cell 2 0,.cell 4 0,.cell 4 1,.cell 4 2,.cell 4 3] []
@[reducible] def xH66_0:Outs:=[(.exit 0,Pat.mk [(3,.c (.ptr 2 0))] [(2,.cells [.ptr 3 0] false),(0,.cells [.mp 1] false),(1,.map tG true .bool false),(3,.cells [.mp 4,.mp 5,.mp 6,.mp 7] false),(4,.map .str false tG true),(5,.map .str false (.list .str) false),(6,.map .str false .bool false),(7,.map .str false .bool false)] [.slot 3,.cell 2 0,.cell 3 0,.cell 3 1,.cell 3 2,.cell 3 3] [])]
noncomputable def bH66_0:D prog 148 none 2:=dO [] (pick (kd prog f66) [(0,false)]) 0
noncomputable def gH66_0:Nat×Int×Int×(List (GG))×(List ((GG)×Bool))×Tdm×Tdl×Tdb×Tdb×Unit→Tr0 ((Nat×Int×Int×(List (GG))×(List ((GG)×Bool))×Tdm×Tdl×Tdb×Tdb×Unit) ⊕ (((List ((GG)×Bool))×Tdm×Tdl×Tdb×Tdb×Unit))):=fun (nv26,v27,v28,b3,m1,m5,m6,m7,m8,_) =>
 .br (decide (v28<v27)) (
 .nb v28 ((nv26:Nat):Int) <|
 .nd (decide (((0:Nat)+(Int.toNat v28))<(b3).length)) <|
 .br (!(mhasL .str m5 ((b3).getD ((0:Nat)+(Int.toNat v28)) ((bs []),(0:Int),(bs []),(bs []),(0:Int))).1)) (
 .ni (v28+(1:Int)) <|
 .ret (.inl (nv26,v27,(v28+(1:Int)),b3,m1,(msetL .str m5 ((b3).getD ((0:Nat)+(Int.toNat v28)) ((bs []),(0:Int),(bs []),(bs []),(0:Int))).1 (((b3).getD ((0:Nat)+(Int.toNat v28)) ((bs []),(0:Int),(bs []),(bs []),(0:Int))).1,((b3).getD ((0:Nat)+(Int.toNat v28)) ((bs []),(0:Int),(bs []),(bs []),(0:Int))).2.1,((b3).getD ((0:Nat)+(Int.toNat v28)) ((bs []),(0:Int),(bs []),(bs []),(0:Int))).2.2.1,((b3).getD ((0:Nat)+(Int.toNat v28)) ((bs []),(0:Int),(bs []),(bs []),(0:Int))).2.2.2.1,((b3).getD ((0:Nat)+(Int.toNat v28)) ((bs []),(0:Int),(bs []),(bs []),(0:Int))).2.2.2.2)),m6,m7,m8,()))) (
 .ni (v28+(1:Int)) <|
 .ret (.inl (nv26,v27,(v28+(1:Int)),b3,m1,m5,m6,m7,m8,())))) (
 .ret (.inr (m1,m5,m6,m7,m8,())))
noncomputable def LH66_0:LoopS prog 148 none 2:=mkLoop mixed cxH66 cxH66_ok [0,1] rfl pH66_0 xH66_0 rfl (bH66_0) (fun x=>run0 (gH66_0 x)) (fun x=>by kernel_rfl)
@[reducible] def pH66_1:Pat:=Pat.mk [(3,.c (.ptr 2 0)),(57,.c (.sl0 3 .str)),(58,hI),(59,hI)] [(2,.cells [.ptr 4 0] false),(3,.arr .str false),(0,.cells [.mp 1] false),(1,.map tG true .bool false),(4,.cells [.mp 5,.mp 6,.mp 7,.mp 8] false),(5,.map .str false tG true),(6,.map .str false (.list .str) false),(7,.map .str false .bool false),(8,.map .str false .bool false)] [.slot 3,.slot 57,.cell 2 0,.cell 4 0,.cell 4 1,.cell 4 2,.cell 4 3] []
@[reducible] def xH66_1:Outs:=[(.exit 2,Pat.mk [(3,.c (.ptr 2 0))] [(2,.cells [.ptr 3 0] false),(0,.cells [.mp 1] false),(1,.map tG true .bool false),(3,.cells [.mp 4,.mp 5,.mp 6,.mp 7] false),(4,.map .str false tG true),(5,.map .str false (.list .str) false),(6,.map .str false .bool false),(7,.map .str false .bool false)] [.slot 3,.cell 2 0,.cell 3 0,.cell 3 1,.cell 3 2,.cell 3 3] [])]
noncomputable def bH66_1:D prog 148 none 2:=dO [] (pick (kd prog f66) [(1,false)]) 0
noncomputable def gH66_1:Nat×Int×Int×List ByteArray×(List ((GG)×Bool))×Tdm×Tdl×Tdb×Tdb×Unit→Tr0 ((Nat×Int×Int×List ByteArray×(List ((GG)×Bool))×Tdm×Tdl×Tdb×Tdb×Unit) ⊕ (((List ((GG)×Bool))×Tdm×Tdl×Tdb×Tdb×Unit))):=fun (nv57,v58,v59,b3,m1,m5,m6,m7,m8,_) =>
 .br (decide (v59<v58)) (
 .nb v59 ((nv57:Nat):Int) <|
 .nd (decide (((0:Nat)+(Int.toNat v59))<(b3).length)) <|
 .br ((mgetL .str ((bs []),(0:Int),(bs []),(bs []),(0:Int)) m5 ((b3).getD ((0:Nat)+(Int.toNat v59)) (bs []))).2.1==(3:Int)) (
 .ni (v59+(1:Int)) <|
 .ret (.inl (nv57,v58,(v59+(1:Int)),b3,m1,m5,m6,(msetL .str m7 (mgetL .str ((bs []),(0:Int),(bs []),(bs []),(0:Int)) m5 ((b3).getD ((0:Nat)+(Int.toNat v59)) (bs []))).2.2.1 true),m8,()))) (
 .br ((mgetL .str ((bs []),(0:Int),(bs []),(bs []),(0:Int)) m5 ((b3).getD ((0:Nat)+(Int.toNat v59)) (bs []))).2.1==(2:Int)) (
 .nd (decide (((mgetL .str [] m6 (mgetL .str ((bs []),(0:Int),(bs []),(bs []),(0:Int)) m5 ((b3).getD ((0:Nat)+(Int.toNat v59)) (bs []))).2.2.1)).length+1<bigL)) <|
 .ni (v59+(1:Int)) <|
 .ret (.inl (nv57,v58,(v59+(1:Int)),b3,m1,m5,(msetL .str m6 (mgetL .str ((bs []),(0:Int),(bs []),(bs []),(0:Int)) m5 ((b3).getD ((0:Nat)+(Int.toNat v59)) (bs []))).2.2.1 ((mgetL .str [] m6 (mgetL .str ((bs []),(0:Int),(bs []),(bs []),(0:Int)) m5 ((b3).getD ((0:Nat)+(Int.toNat v59)) (bs []))).2.2.1)++(((b3).getD ((0:Nat)+(Int.toNat v59)) (bs []))::[]))),m7,m8,()))) (
 .ni (v59+(1:Int)) <|
 .ret (.inl (nv57,v58,(v59+(1:Int)),b3,m1,m5,m6,m7,m8,()))))) (
 .ret (.inr (m1,m5,m6,m7,m8,())))
/-! The loop in which lists grow that lie in a map, by hand. -/
@[reducible] def tM66:Ty:=.prod .str (.prod tI (.prod .str (.prod .str tI)))
def bl66 (b3:List ByteArray) (m1:List (tM66.den×Bool)) (m5:List (ByteArray×tM66.den)) (m7 m8:Tdb):Blks :=
 [(2,.cells [.ptr 4 0] false),(3,.arr .str b3 false),(0,.cells [.mp 1] false),(1,.map tM66 true .bool false m1),(4,.cells [.mp 5,.mp 6,.mp 7,.mp 8] false),(5,.map .str false tM66 true m5),(7,.map .str false .bool false m7),(8,.map .str false .bool false m8)]
def en66 (nv57:Nat) (v58 v59:Int):Env:=[(3,.ptr 2 0),(57,.sl 3 .str 0 nv57),(58,.int .i64 v58),(59,.int .i64 v59)]
def I66 (x:pH66_1.T):St:=⟨en66 x.1 x.2.1 x.2.2.1,⟨9,bl66 x.2.2.2.1 x.2.2.2.2.1 x.2.2.2.2.2.1 x.2.2.2.2.2.2.2.1 x.2.2.2.2.2.2.2.2.1⟩,[]⟩
def r18_66:C:=.reg [.op (some 97) none (.bin .add (.t 59) (.c (.int .i64 (Int.ofNat 1)))),.op (some 59) none (.mv (.t 97))]
def d15_66 : C := .draw [[], [0], [0, 1], [0, 1, 2], [], [4], [0, 1, 2, 3, 4, 5]]
 [.op (some 73) none (.load false 1 (.t 3)),.op (some 74) none (.ex .nchk [.t 73]),.op (some 75) none (.fld 2 [true,true,false] (.t 74)),.op (some 76) none (.load false 1 (.t 75)),.op (some 77) none (.fld 2 [true,true,false] (.t 10)),.op (some 78) none (.load false 1 (.t 77)),
 .op none none (.ex (.mset .str false .bool false) [.t 76,.t 78,.c (.tf true)])]
def in66 : C := .block 4 (.seq (.reg [.op (some 72) none (.bin .eql (.t 70) (.c (.int .i64 (Int.ofNat 3)))), .op (some 71) none (.mv (.t 72))])
 (.cond (.t 71) d15_66 (.seq (.reg [.op (some 80) none (.bin .eql (.t 70) (.c (.int .i64 (Int.ofNat 2)))),.op (some 79) none (.mv (.t 80))]) (.cond (.t 79) (.draw pr17 it17) .skip))))
def mid66 : C := .seq (.block 3 (.seq (.reg [.op (some 61) none (.idx 1 (.t 57) (.t 59)), .op (some 62) none (.load false 1 (.t 61)), .op (some 9) none (.mv (.t 62))])
 (.seq (.reg [.op (some 63) none (.load false 1 (.t 3)),.op (some 64) none (.ex .nchk [.t 63]),.op (some 65) none (.fld 0 [false] (.t 64)),.op (some 66) none (.load false 1 (.t 65)),.op (some 67) none (.mv (.t 9)),
 .op (some 68) none (.ex (.mget .str false tM66 true false) [.t 66,.t 67]),.op (some 10) none (.alloc [.str ⟨⟨[]⟩⟩,.int .i64 (Int.ofNat 0),.str ⟨⟨[]⟩⟩,.str ⟨⟨[]⟩⟩,.int .i64 (Int.ofNat 0)]),.op none none (.store 5 (.t 10) (.t 68))])
 (.seq (.reg [.op (some 69) none (.fld 1 [true,false] (.t 10)),.op (some 70) none (.load false 1 (.t 69))]) in66)))) r18_66
def c66:C:=.seq (.reg [.op (some 60) none (.bin .lss (.t 59) (.t 58))]) (.seq (.cond (.t 60) .skip (.exit 2)) mid66)
theorem ent66 {nv57 : Nat} {v58 v59 : Int} {b3 : List ByteArray} {m1 : List (tM66.den × Bool)} {m5 : List (ByteArray × tM66.den)} {m7 m8 : Tdb} {env : Env} {nx : Nat} {bl : Blks}
    (h3:get 3 env = .ptr 2 0) (h57:get 57 env = .sl 3 .str 0 nv57) (h58:get 58 env = .int .i64 v58) (h59:get 59 env = .int .i64 v59) (hb:∀p∈bl66 b3 m1 m5 m7 m8,bget p.1 bl=some p.2) :
    Ent2 2 (List.range 9) ⟨env,⟨nx,bl⟩,[]⟩ ⟨en66 nv57 v58 v59,⟨9,bl66 b3 m1 m5 m7 m8⟩,[]⟩:=by
  refine ent_range (by omega) rfl rfl rfl (fun p hp=>?_) (fun p hp=>?_)
  · simp only [en66, List.mem_cons, List.not_mem_nil, or_false] at hp
    rcases hp with rfl|rfl|rfl|rfl
    · rw [h3];exact .ptr 2 2 0 rfl
    · rw [h57];exact .sl 3 3 .str 0 nv57 rfl
    · rw [h58];exact .int _ _
    · rw [h59];exact .int _ _
  · have hg := hb p hp
    simp only [bl66,List.mem_cons,List.not_mem_nil,or_false] at hp
    rcases hp with rfl|rfl|rfl|rfl|rfl|rfl|rfl|rfl
    · exact ⟨by omega,2,rfl,_,hg,.cons (.ptr 4 4 0 rfl) .nil⟩
    · exact ⟨by omega,3,rfl,.inl hg⟩
    · exact ⟨by omega,0,rfl,_,hg,.cons (.mp 1 1 rfl) .nil⟩
    · exact ⟨by omega,1,rfl,hg⟩
    · exact ⟨by omega,4,rfl,_,hg,.cons (.mp 5 5 rfl) (.cons (.mp 6 6 rfl) (.cons (.mp 7 7 rfl) (.cons (.mp 8 8 rfl) .nil)))⟩
    · exact ⟨by omega,5,rfl,hg⟩
    · exact ⟨by omega,7,rfl,hg⟩
    · exact ⟨by omega,8,rfl,hg⟩
def P66:pH66_1.T ⊕ xH66_1.T→Ex→St→Tdl→Prop:=GRnd 6 2 I66 (fun x=>x.2.2.2.2.2.2.1) (xH66_1.st 2) (fun b=>b.2.2.1)
theorem end66 {nv57 : Nat} {v58 v59 : Int} {b3 : List ByteArray} {m1 : List (tM66.den × Bool)} {m5 : List (ByteArray × tM66.den)} {m6 : Tdl} {m7 m8 : Tdb} {env : Env} {nx : Nat} {bl : Blks} (u : Unit) (hi : rng .i64 (v59 + 1) = true)
    (h3:get 3 env = .ptr 2 0) (h57:get 57 env = .sl 3 .str 0 nv57) (h58:get 58 env = .int .i64 v58) (h59:get 59 env = .int .i64 v59) (hb:∀p∈bl66 b3 m1 m5 m7 m8,bget p.1 bl=some p.2) :
    gC prog 148 none 6 r18_66 ⟨env,⟨nx,bl⟩,[]⟩ m6 (P66 (.inl (nv57,v58,v59+1,b3,m1,m5,m6,m7,m8,u))):=by
  refine g_end (env':=(59,.int .i64 (v59+1))::(97,.int .i64 (v59+1))::env) (nx':=nx) (bl':=bl) (ms':=[]) mixed (fun _=>rfl) (fun base=>?_) ⟨rfl,rfl,List.range 9,rfl,ent66 h3 h57 h58 rfl hb⟩
  refine Eq.trans (b:=need (rng .i64 (v59+1)) (some (Ex.normal,(59,.int .i64 (v59+1))::(97,.int .i64 (v59+1))::env,nx,bl,[]))) ?_ (by rw [need_t hi])
  have h1:evF ar0 (.bin .add (.t 59) (.c (.int .i64 (Int.ofNat 1)))) env bl nx=some ([rng .i64 (v59+1)],.int .i64 (v59+1),[]):=by
    show (match (O.t 59).ev env,(O.c (V.int .i64 (Int.ofNat 1))).ev env with
      | .int k a,.int k' b=>_
      | .str a,.str b=>_
      |_,_=>_)=_
    rw [show (O.t 59).ev env = .int .i64 v59 from h59]
    rfl
  show (match evF ar0 (.bin .add (.t 59) (.c (.int .i64 (Int.ofNat 1)))) env bl nx with
    |some (ob,v,u)=>_
    |none=>_)=_
  rw [h1]
  rfl
def e2_66 (nv57:Nat) (v58 v59:Int):Env:=(60,.tf true)::(60,.bool (decide (v59<v58)))::en66 nv57 v58 v59
def e5_66 (nv57:Nat) (v58 v59:Int) (id:ByteArray) (m:tM66.den):Env :=
 (70,.int .i64 m.2.1)::(69,.ptr 9 1)::(10,.ptr 9 0)::(68,.agg [.str m.1,.int .i64 m.2.1,.str m.2.2.1,.str m.2.2.2.1,.int .i64 m.2.2.2.2])::(67,.str id)::(66,.mp 5)::(65,.ptr 4 0)::(64,.ptr 4 0)::(63,.ptr 4 0) ::
 (9,.str id)::(62,.str id)::(61,.ep 3 .str (0+Int.toNat v59) [])::e2_66 nv57 v58 v59
/-- Up to the switch. -/
theorem mid66_ok {nv57 : Nat} {v58 v59 : Int} {b3 : List ByteArray} {m1 : List (tM66.den × Bool)} {m5 : List (ByteArray × tM66.den)} {m6 : Tdl} {m7 m8 : Tdb} {Q R : Ex → St → Tdl → Prop}
    (hb1:inb v59 (nv57:Int)=true) (hb2:decide (0+Int.toNat v59<b3.length)=true) {id:ByteArray} {m:tM66.den} (hid:id=b3.getD (0+Int.toNat v59) (bs [])) (hm:m=mgetL .str (bs [],(0:Int),bs [],bs [],(0:Int)) m5 id)
    (hin:gC prog 148 none 6 in66 ⟨e5_66 nv57 v58 v59 id m,⟨10,(9,.cells [.str m.1,.int .i64 m.2.1,.str m.2.2.1,.str m.2.2.2.1,.int .i64 m.2.2.2.2] false)::bl66 b3 m1 m5 m7 m8⟩,[]⟩ m6 fun e S' es'=>e = .normal∧R .normal S' es')
    (h18:∀S' es',R .normal S' es'→gC prog 148 none 6 r18_66 S' es' Q):gC prog 148 none 6 mid66 ⟨e2_66 nv57 v58 v59,⟨9,bl66 b3 m1 m5 m7 m8⟩,[]⟩ m6 Q:=by
  subst hm;subst hid
  refine g_seq (Q1:=fun e S' es'=>e = .normal∧R .normal S' es') (fun _ _ h=>by cases h) (g_block (Q1:=fun e S' es'=>e = .normal∧R .normal S' es') ?_ (fun _ _ h=>h) (fun i _ _ h=>by cases h.1) (fun _ _ h=>by cases h.1)) (fun S' es' hq=>h18 _ _ hq.2) (fun i S' es' hq=>by cases hq.1) (fun S' es' hq=>by cases hq.1)
  generalize hE3:((9,V.str (b3.getD (0+Int.toNat v59) (bs [])))::(62,V.str (b3.getD (0+Int.toNat v59) (bs [])))::(61,V.ep 3 .str (0+Int.toNat v59) [])::e2_66 nv57 v58 v59:Env)=e3
  refine g_regseq (env':=e3) (nx':=9) (bl':=bl66 b3 m1 m5 m7 m8) (ms':=[]) mixed (fun base=>Eq.trans (b:=need (inb v59 (nv57:Int)) (need (decide (0+Int.toNat v59<b3.length)) (some (Ex.normal,e3,9,bl66 b3 m1 m5 m7 m8,[])))) (by subst hE3;kernel_rfl) (by rw [need_t hb1,need_t hb2])) ?_
  subst hE3
  refine g_regseq (nx' := 10) (ms' := []) (bl' := (9, .cells [.str (mgetL .str (bs [], (0 : Int), bs [], bs [], (0 : Int)) m5 (b3.getD (0 + Int.toNat v59) (bs []))).1, .int .i64 (mgetL .str (bs [], (0 : Int), bs [], bs [], (0 : Int)) m5 (b3.getD (0 + Int.toNat v59) (bs []))).2.1, .str (mgetL .str (bs [], (0 : Int), bs [], bs [], (0 : Int)) m5 (b3.getD (0 + Int.toNat v59) (bs []))).2.2.1, .str (mgetL .str (bs [], (0 : Int), bs [], bs [], (0 : Int)) m5 (b3.getD (0 + Int.toNat v59) (bs []))).2.2.2.1, .int .i64 (mgetL .str (bs [], (0 : Int), bs [], bs [], (0 : Int)) m5 (b3.getD (0 + Int.toNat v59) (bs []))).2.2.2.2] false) :: bl66 b3 m1 m5 m7 m8)
    (env':=(e5_66 nv57 v58 v59 (b3.getD (0+Int.toNat v59) (bs [])) (mgetL .str (bs [],(0:Int),bs [],bs [],(0:Int)) m5 (b3.getD (0+Int.toNat v59) (bs [])))).drop 2) mixed (fun base=>by kernel_rfl) ?_
  exact g_regseq (nx':=10) (ms':=[]) mixed (fun base=>by kernel_rfl) hin
theorem step66:∀(x:pH66_1.T) (r:pH66_1.T ⊕ xH66_1.T),run0 (gH66_1 x)=some r→gC prog 148 none 6 c66 (I66 x) x.2.2.2.2.2.2.1 (P66 r):=by
  rintro ⟨nv57,v58,v59,b3,m1,m5,m6,m7,m8,u⟩ r hr
  have hr:brO (decide (v59<v58)) _ _=some r:=hr
  rcases cond_some hr with ⟨hlt,hr⟩|⟨hlt,hr⟩
  · obtain ⟨hb1, hr⟩ := need_some hr
    obtain ⟨hb2,hr⟩:=need_some hr
    refine g_regseq (env':=(60,.bool (decide (v59<v58)))::en66 nv57 v58 v59) (nx':=9) (bl':=bl66 b3 m1 m5 m7 m8) (ms':=[]) mixed (fun base=>by kernel_rfl) ?_
    refine g_seq (Q1:=fun e S' es'=>e = .normal∧S'=⟨e2_66 nv57 v58 v59,⟨9,bl66 b3 m1 m5 m7 m8⟩,[]⟩∧es'=m6) (fun _ _ h=>by cases h) (g_cond (t:=true) (by show V.bool _=_;rw [hlt]) (g_end mixed (fun _=>rfl) (fun base=>by kernel_rfl) ⟨rfl,rfl,rfl⟩)) (fun S' es' hq=>?_) (fun i S' es' hq=>by cases hq.1) (fun S' es' hq=>by cases hq.1)
    obtain ⟨-,rfl,rfl⟩:=hq
    obtain ⟨id,hid⟩:∃id,id=b3.getD (0+Int.toNat v59) (bs []):=⟨_,rfl⟩
    obtain ⟨m,hm⟩:∃m,m=mgetL .str (bs [],(0:Int),bs [],bs [],(0:Int)) m5 id:=⟨_,rfl⟩
    rw [←hid,←hm] at hr
    have hr:brO (m.2.1==3) _ _=some r:=hr
    rcases cond_some hr with ⟨h3,hr⟩|⟨h3,hr⟩
    · obtain ⟨hi, hr⟩ := need_some hr
      cases hr
      refine mid66_ok (R:=fun _ S' es2=>es2=es'∧S'=⟨(78,.str m.2.2.1)::(77,.ptr 9 2)::(76,.mp 7)::(75,.ptr 4 2)::(74,.ptr 4 0)::(73,.ptr 4 0)::(71,.tf true)::(71,.bool (m.2.1==3))::(72,.bool (m.2.1==3))::e5_66 nv57 v58 v59 id m,⟨17,(7,.map .str false .bool false (msetL .str m7 m.2.2.1 true))::(9,.cells [.str m.1,.int .i64 m.2.1,.str m.2.2.1,.str m.2.2.2.1,.int .i64 m.2.2.2.2] false)::bdel 7 (bl66 b3 m1 m5 m7 m8)⟩,[]⟩) hb1 hb2 hid hm ?_ ?_
      · refine g_block (Q1 := fun e S' es2 => e = .normal ∧ (es2 = es' ∧ S' = _)) ?_ (fun _ _ h => h) (fun i _ _ h => by cases h.1) (fun _ _ h => by cases h.1)
        refine g_regseq (env':=(71,.bool (m.2.1==3))::(72,.bool (m.2.1==3))::e5_66 nv57 v58 v59 id m) (nx':=10) (ms':=[]) (bl':=(9,.cells [.str m.1,.int .i64 m.2.1,.str m.2.2.1,.str m.2.2.2.1,.int .i64 m.2.2.2.2] false)::bl66 b3 m1 m5 m7 m8) mixed (fun base=>by kernel_rfl) ?_
        refine g_cond (t:=true) (by show V.bool _=_;rw [h3]) ?_
        exact g_end mixed (fun _=>rfl) (fun base=>by kernel_rfl) ⟨rfl,rfl,rfl⟩
      · rintro S' es2 ⟨rfl, rfl⟩
        refine end66 u hi rfl rfl rfl rfl fun p hp=>?_
        simp only [bl66,List.mem_cons,List.not_mem_nil,or_false] at hp
        rcases hp with rfl|rfl|rfl|rfl|rfl|rfl|rfl|rfl<;>rfl
    · have hr : brO (m.2.1 == 2) _ _ = some r := hr
      rcases cond_some hr with ⟨h2,hr⟩|⟨h2,hr⟩
      · obtain ⟨hbig, hr⟩ := need_some hr
        obtain ⟨hi,hr⟩:=need_some hr
        cases hr
        refine mid66_ok (R:=fun _ S' es2=>es2=msetL .str es' m.2.2.1 (mgetL .str [] es' m.2.2.1++[id])∧S'=⟨en66 nv57 v58 v59,⟨28,bl66 b3 m1 m5 m7 m8⟩,[]⟩) hb1 hb2 hid hm ?_ ?_
        · refine g_block (Q1 := fun e S' es2 => e = .normal ∧ (es2 = _ ∧ S' = _)) ?_ (fun _ _ h => h) (fun i _ _ h => by cases h.1) (fun _ _ h => by cases h.1)
          refine g_regseq (env':=(71,.bool (m.2.1==3))::(72,.bool (m.2.1==3))::e5_66 nv57 v58 v59 id m) (nx':=10) (ms':=[]) (bl':=(9,.cells [.str m.1,.int .i64 m.2.1,.str m.2.2.1,.str m.2.2.2.1,.int .i64 m.2.2.2.2] false)::bl66 b3 m1 m5 m7 m8) mixed (fun base=>by kernel_rfl) ?_
          refine g_cond (t:=false) (by show V.bool _=_;rw [h3]) ?_
          refine g_regseq (env':=(79,.bool (m.2.1==2))::(80,.bool (m.2.1==2))::(71,.tf false)::(71,.bool (m.2.1==3))::(72,.bool (m.2.1==3))::e5_66 nv57 v58 v59 id m) (nx':=10) (ms':=[]) (bl':=(9,.cells [.str m.1,.int .i64 m.2.1,.str m.2.2.1,.str m.2.2.2.1,.int .i64 m.2.2.2.2] false)::bl66 b3 m1 m5 m7 m8) mixed (fun base=>by kernel_rfl) ?_
          refine g_cond (t:=true) (by show V.bool _=_;rw [h2]) ?_
          refine g_mono (g_draw17 (c2:=2) (c4:=4) (c9:=9) (k:=m.2.2.1) (x:=id) (env':=en66 nv57 v58 v59) (bl':=bl66 b3 m1 m5 m7 m8) mixed rfl rfl rfl rfl rfl rfl (of_decide_eq_true hbig) (fun i B hB=>?_) (fun t=>?_)) fun e S' es2 hq=>⟨hq.1,hq.2.2,hq.2.1⟩
          · have hm := bget_mem hB
            simp only [bl66,List.mem_cons,List.not_mem_nil,or_false,Prod.mk.injEq] at hm
            rcases hm with ⟨rfl,rfl⟩|⟨rfl,rfl⟩|⟨rfl,rfl⟩|⟨rfl,rfl⟩|⟨rfl,rfl⟩|⟨rfl,rfl⟩|⟨rfl,rfl⟩|⟨rfl,rfl⟩<;>rfl
          · by_cases ht : t = 3 ∨ t = 57 ∨ t = 58 ∨ t = 59
            · rcases ht with rfl|rfl|rfl|rfl<;>exact .inr ⟨rfl,by omega⟩
            · refine .inl (get_none ?_)
              simp only [en66,List.map_cons,List.map_nil,List.mem_cons,List.not_mem_nil,or_false]
              omega
        · rintro S' es2 ⟨rfl, rfl⟩
          refine end66 u hi rfl rfl rfl rfl fun p hp=>?_
          simp only [bl66,List.mem_cons,List.not_mem_nil,or_false] at hp
          rcases hp with rfl|rfl|rfl|rfl|rfl|rfl|rfl|rfl<;>rfl
      · obtain ⟨hi, hr⟩ := need_some hr
        cases hr
        refine mid66_ok (R:=fun _ S' es2=>es2=es'∧S'=⟨(79,.tf false)::(79,.bool (m.2.1==2))::(80,.bool (m.2.1==2))::(71,.tf false)::(71,.bool (m.2.1==3))::(72,.bool (m.2.1==3))::e5_66 nv57 v58 v59 id m,⟨10,(9,.cells [.str m.1,.int .i64 m.2.1,.str m.2.2.1,.str m.2.2.2.1,.int .i64 m.2.2.2.2] false)::bl66 b3 m1 m5 m7 m8⟩,[]⟩) hb1 hb2 hid hm ?_ ?_
        · refine g_block (Q1 := fun e S' es2 => e = .normal ∧ (es2 = es' ∧ S' = _)) ?_ (fun _ _ h => h) (fun i _ _ h => by cases h.1) (fun _ _ h => by cases h.1)
          refine g_regseq (env':=(71,.bool (m.2.1==3))::(72,.bool (m.2.1==3))::e5_66 nv57 v58 v59 id m) (nx':=10) (ms':=[]) (bl':=(9,.cells [.str m.1,.int .i64 m.2.1,.str m.2.2.1,.str m.2.2.2.1,.int .i64 m.2.2.2.2] false)::bl66 b3 m1 m5 m7 m8) mixed (fun base=>by kernel_rfl) ?_
          refine g_cond (t:=false) (by show V.bool _=_;rw [h3]) ?_
          refine g_regseq (env':=(79,.bool (m.2.1==2))::(80,.bool (m.2.1==2))::(71,.tf false)::(71,.bool (m.2.1==3))::(72,.bool (m.2.1==3))::e5_66 nv57 v58 v59 id m) (nx':=10) (ms':=[]) (bl':=(9,.cells [.str m.1,.int .i64 m.2.1,.str m.2.2.1,.str m.2.2.2.1,.int .i64 m.2.2.2.2] false)::bl66 b3 m1 m5 m7 m8) mixed (fun base=>by kernel_rfl) ?_
          refine g_cond (t:=false) (by show V.bool _=_;rw [h2]) ?_
          exact g_end mixed (fun _=>rfl) (fun base=>by kernel_rfl) ⟨rfl,rfl,rfl⟩
        · rintro S' es2 ⟨rfl, rfl⟩
          refine end66 u hi rfl rfl rfl rfl fun p hp=>?_
          simp only [bl66,List.mem_cons,List.not_mem_nil,or_false] at hp
          rcases hp with rfl|rfl|rfl|rfl|rfl|rfl|rfl|rfl<;>rfl
  · cases hr
    refine g_regseq (env':=(60,.bool (decide (v59<v58)))::en66 nv57 v58 v59) (nx':=9) (bl':=bl66 b3 m1 m5 m7 m8) (ms':=[]) mixed (fun base=>by kernel_rfl) ?_
    refine g_seq (Q1:=fun e S' es'=>e = .exit 2∧S'=⟨(60,.tf false)::(60,.bool (decide (v59<v58)))::en66 nv57 v58 v59,⟨9,bl66 b3 m1 m5 m7 m8⟩,[]⟩∧es'=m6) (fun _ _ h=>by cases h) (g_cond (t:=false) (by show V.bool _=_;rw [hlt]) ?_) (fun S' es' hq=>by cases hq.1) (fun i S' es' hq=>?_) (fun S' es' hq=>by cases hq.1)
    · exact g_end mixed (fun _=>rfl) (fun base=>by kernel_rfl) ⟨rfl,rfl,rfl⟩
    · obtain ⟨h1, rfl, rfl⟩ := hq
      cases h1
      refine ⟨by simp,rfl,by show 6<9;omega,rfl,?_⟩
      obtain ⟨b',π,h1,h2,h3⟩:=Outs.rd_ent (base:=2) (xs:=xH66_1) (e:=.exit 2) (k:=fun x=>some x) (r:=(m1,m5,es',m7,m8,u)) (env:=(60,.tf false)::(60,.bool (decide (v59<v58)))::en66 nv57 v58 v59) (nx:=9) (bl:=(6,.map .str false (.list .str) false es')::bdel 6 (bl66 b3 m1 m5 m7 m8)) (ms:=[]) (by kernel_rfl)
      cases h1
      exact ⟨π,h3⟩
noncomputable def LH66_1:LoopS prog 148 none 2 where
  c:=(bH66_1).er
  run kz env nx bl ms K:=pH66_1.rd kz.no [0,1] 2 env nx bl ms fun x=>kz.nd x.2.2.2.2.2.2.1.isEmpty (kz.bd (iter (fun x=>run0 (gH66_1 x)) x) fun b=>xH66_1.go kz 2 b K)
  ok:=by
    intro X env nx bl ms K r h Q hQ
    obtain ⟨x,π,h1,h2⟩:=Pat.rd_ent (base:=2) (show Pat.rd none (List.range 2) 2 pH66_1 _ _ _ _ _=some r from h)
    obtain ⟨hemp,h1⟩:=need_some h1
    obtain ⟨b,h3,h4⟩:=bd_some h1
    have h5:=Outs.go_st h4
    intro body hbody Y ι μ a w ho hb hR
    have hR1:=h2.rep hb hR
    obtain ⟨nv57,v58,v59,b3,m1,m5,m6,m7,m8,u⟩:=x
    have hm:m6=[]:=List.isEmpty_iff.1 hemp
    subst hm
    have hbl:∀id B,bget id (bl66 b3 m1 m5 m7 m8)=some B→bget id (pH66_1.st 2 (nv57,v58,v59,b3,m1,m5,[],m7,m8,u)).H.bl=some B∧id≠6:=by
      intro id B hB
      have hm:=bget_mem hB
      simp only [bl66,List.mem_cons,List.not_mem_nil,or_false,Prod.mk.injEq] at hm
      rcases hm with ⟨rfl,rfl⟩|⟨rfl,rfl⟩|⟨rfl,rfl⟩|⟨rfl,rfl⟩|⟨rfl,rfl⟩|⟨rfl,rfl⟩|⟨rfl,rfl⟩|⟨rfl,rfl⟩<;>exact ⟨rfl,by omega⟩
    obtain ⟨hI,hG⟩:=g_enter (gi:=6) (bl':=bl66 b3 m1 m5 m7 m8) hR1.inv rfl hbl
    exact g_loop (I:=I66) (ES:=fun x=>x.2.2.2.2.2.2.1) (X:=xH66_1.st 2) (nb:=fun b=>b.2.2.1) (c:=c66) step66 h3 (hQ _ _ _ _ _ h5) (by rw [hbody];kernel_rfl) ho hb ⟨hR1.env,hR1.sz,hI,hR1.ms⟩ hG
@[reducible] def pH66_2b_3:Pat:=Pat.mk [(3,.c (.ptr 2 0)),(11,.c (.ptr 3 0)),(16,.c (.slx 10 .str)),(102,.c (.mp 5)),(103,.c (.ptr 9 0)),(121,.c (.ptr 11 1)),(122,hI),(123,.c (.hole .bool)),(132,.c (.hole (.list .str))),(133,hI),(134,hI)] [(2,.cells [.ptr 4 0] false),(3,.cells [.fn 96 .nil (.cons (.ptr 2 0) (.cons (.ptr 3 0) .nil))] false),(10,.arr .str false),(5,.map .str false (.list .str) false),(11,.cells [.hole .str,.hole tI,.hole .str,.hole .str,.hole tI] false),(4,.cells [.mp 6,.mp 5,.mp 7,.mp 8] false),(6,.map .str false tG true),(7,.map .str false .bool false),(8,.map .str false .bool false),(0,.cells [.mp 1] false),(1,.map tG true .bool false)] [.slot 16,.slot 121] []
@[reducible] def xH66_2b_3:Outs:=[(.exit 7,Pat.mk [(3,.c (.ptr 2 0)),(11,.c (.ptr 3 0)),(102,.c (.mp 5)),(103,.c (.ptr 9 0)),(121,.c (.ptr 10 1)),(122,hI),(123,.c (.hole .bool))] [(2,.cells [.ptr 4 0] false),(3,.cells [.fn 96 .nil (.cons (.ptr 2 0) (.cons (.ptr 3 0) .nil))] false),(5,.map .str false (.list .str) false),(10,.cells [.hole .str,.hole tI,.hole .str,.hole .str,.hole tI] false),(4,.cells [.mp 6,.mp 5,.mp 7,.mp 8] false),(6,.map .str false tG true),(7,.map .str false .bool false),(8,.map .str false .bool false),(0,.cells [.mp 1] false),(1,.map tG true .bool false)] [.slot 121] [])]
noncomputable def bH66_2b_3:D prog 148 none 10:=dO [] (pick (kd prog f66) [(2,false),(0,false)]) 0
noncomputable def gH66_2b_3:Nat×Nat×Int×Bool×List ByteArray×Int×Int×List ByteArray×Tdl×ByteArray×Int×ByteArray×ByteArray×Int×Tdm×Tdb×Tdb×(List ((GG)×Bool))×Unit→Tr0 ((Nat×Nat×Int×Bool×List ByteArray×Int×Int×List ByteArray×Tdl×ByteArray×Int×ByteArray×ByteArray×Int×Tdm×Tdb×Tdb×(List ((GG)×Bool))×Unit) ⊕ ((Int×Bool×Tdl×ByteArray×Int×ByteArray×ByteArray×Int×Tdm×Tdb×Tdb×(List ((GG)×Bool))×Unit))):=fun (lv16,nv16,v122,v123,v132,v133,v134,b10,m5,c11_0,c11_1,c11_2,c11_3,c11_4,m6,m7,m8,m1,_) =>
 .br (decide (v134<v133)) (
 .nb v134 (((v132).length:Nat):Int) <|
 .nb (0:Int) ((nv16:Nat):Int) <|
 .nd (decide ((lv16+(Int.toNat (0:Int)))<(b10).length)) <|
 .br (!(seq ((v132).getD (Int.toNat v134) (bs [])) ((b10).getD (lv16+(Int.toNat (0:Int))) (bs [])))) (
 .bd (FH96fix ((v132).getD (Int.toNat v134) (bs [])) m6 m5 m7 m8) fun y7 =>
 .ni (v134+(1:Int)) <|
 .ret (.inl (lv16,nv16,v122,v123,v132,v133,(v134+(1:Int)),b10,y7.2.1,c11_0,c11_1,c11_2,c11_3,c11_4,y7.1,y7.2.2.1,y7.2.2.2.1,m1,()))) (
 .ni (v134+(1:Int)) <|
 .ret (.inl (lv16,nv16,v122,v123,v132,v133,(v134+(1:Int)),b10,m5,c11_0,c11_1,c11_2,c11_3,c11_4,m6,m7,m8,m1,())))) (
 .ret (.inr (v122,v123,m5,c11_0,c11_1,c11_2,c11_3,c11_4,m6,m7,m8,m1,())))
noncomputable def LH66_2b_3:LoopS prog 148 none 10:=mkLoop mixed cxH66 cxH66_ok [0,1,2,3,4,5,6,7,8,9] rfl pH66_2b_3 xH66_2b_3 rfl (bH66_2b_3) (fun x=>run0 (gH66_2b_3 x)) (fun x=>by kernel_rfl)
@[reducible] def pH66_2:Pat:=Pat.mk [(3,.c (.ptr 2 0)),(11,.c (.ptr 3 0)),(102,.c (.mp 5))] [(2,.cells [.ptr 4 0] false),(3,.cells [.fn 96 .nil (.cons (.ptr 2 0) (.cons (.ptr 3 0) .nil))] false),(4,.cells [.mp 6,.mp 5,.mp 7,.mp 8] false),(5,.map .str false (.list .str) false),(0,.cells [.mp 1] false),(1,.map tG true .bool false),(6,.map .str false tG true),(7,.map .str false .bool false),(8,.map .str false .bool false)] [.slot 3,.slot 11,.cell 2 0,.cell 4 1,.cell 4 0,.cell 4 2,.cell 4 3] []
noncomputable def bH66_2:D prog 148 none 10:=dO [.l LH66_2b_3] (pick (kd prog f66) [(2,false)]) 0
noncomputable def gH66_2:((ByteArray)×(List ByteArray))→Tdl×(List ((GG)×Bool))×Tdm×Tdb×Tdb×Unit→Tr0 (Tdl×(List ((GG)×Bool))×Tdm×Tdb×Tdb×Unit):=fun e (m5,m1,m6,m7,m8,_) =>
 .br (!(mhasL .str m6 e.1)) (
 .nd (sameD m5 m5) <|
 .ret (m5,m1,m6,m7,m8,())) (
 .br ((mgetL .str ((bs []),(0:Int),(bs []),(bs []),(0:Int)) m6 e.1).2.1==(3:Int)) (
 .nd (sameD m5 m5) <|
 .ret (m5,m1,m6,m7,m8,())) (
 .bd (FH98 e.2) fun y5 =>
 .bd (FH97 y5.1 y5.2.1 m6 m5 m7 m8) fun y6 =>
 .br (!(((y6.2.1:Nat):Int)==(1:Int))) (
 .nd (sameD y6.2.2.2.2.1 m5) <|
 .ret (y6.2.2.2.2.1,m1,y6.2.2.2.1,y6.2.2.2.2.2.1,y6.2.2.2.2.2.2.1,())) (
 .bd (.it gH66_2b_3 (y6.1,y6.2.1,(mgetL .str ((bs []),(0:Int),(bs []),(bs []),(0:Int)) m6 e.1).2.1,((mgetL .str ((bs []),(0:Int),(bs []),(bs []),(0:Int)) m6 e.1).2.1==(3:Int)),e.2,(((e.2).length:Nat):Int),(0:Int),y6.2.2.1,y6.2.2.2.2.1,(mgetL .str ((bs []),(0:Int),(bs []),(bs []),(0:Int)) m6 e.1).1,(mgetL .str ((bs []),(0:Int),(bs []),(bs []),(0:Int)) m6 e.1).2.1,(mgetL .str ((bs []),(0:Int),(bs []),(bs []),(0:Int)) m6 e.1).2.2.1,(mgetL .str ((bs []),(0:Int),(bs []),(bs []),(0:Int)) m6 e.1).2.2.2.1,(mgetL .str ((bs []),(0:Int),(bs []),(bs []),(0:Int)) m6 e.1).2.2.2.2,y6.2.2.2.1,y6.2.2.2.2.2.1,y6.2.2.2.2.2.2.1,m1,())) fun z8 =>
 .nd (sameD z8.2.2.1 m5) <|
 .ret (z8.2.2.1,z8.2.2.2.2.2.2.2.2.2.2.2.1,z8.2.2.2.2.2.2.2.2.1,z8.2.2.2.2.2.2.2.2.2.1,z8.2.2.2.2.2.2.2.2.2.2.1,()))))
noncomputable def MH66_2:MapS prog 148 none 2:=mkMapR0 mixed cxH66 cxH66_ok [0,1] rfl pH66_2 ( [.op (some 99) none (.load false 1 (.t 3)),.op (some 100) none (.ex Xop.nchk [.t 99]),.op (some 101) none (.fld 1 [true,false] (.t 100)),.op (some 102) none (.load false 1 (.t 101))]) 102 103 [104,105] (some 106) ( .str)  false ( .list .str)  false 5 rfl 10 rfl (bH66_2) (fun e x=>run0 (gH66_2 e x)) (fun e=>fun x=>by kernel_rfl)
noncomputable def ddH66:D prog 148 none 2:=dO [.l LH66_0,.l LH66_1,.m MH66_2] (kd prog f66) 0
noncomputable def FH66 (m1:List ((GG)×Bool)):Tr0 ((List ((GG)×Bool))×Tdm×Tdl×Tdb×Tdb×Unit) :=
 .bd (FH47 m1) fun y0 =>
 .bd (.it gH66_0 (y0.1,((y0.1:Nat):Int),(0:Int),y0.2.1,y0.2.2.1,[],[],[],[],())) fun z1 =>
 .bd (FH95 z1.2.1) fun y2 =>
 .bd (FH81 y2.1) fun y3 =>
 .nd (z1.2.2.1).isEmpty <|
 .bd (.it gH66_1 (y3.1,((y3.1:Nat):Int),(0:Int),y3.2.1,z1.1,y3.2.2.1,z1.2.2.1,z1.2.2.2.1,z1.2.2.2.2.1,())) fun z4 =>
 .bd (.mq gH66_2 z4.2.2.1 (z4.2.2.1,z4.1,z4.2.1,z4.2.2.2.1,z4.2.2.2.2.1,())) fun z9 =>
 .ret (z9.2.1,z9.2.2.1,z9.1,z9.2.2.2.1,z9.2.2.2.2.1,())
theorem cH66_ok:trF prog f66=some ⟨148,1,ddH66.er,[.t 2],[none]⟩:=by kernel_rfl
noncomputable def ht66:Ht:=⟨66,pH66,qH66,(fun x=>run0 (FH66 x.1))⟩
theorem ht66_ok:ht66.Ok prog:=ht_ok mixed cxH66_ok rfl func66 cH66_ok (enters_of func66 rfl rfl) ddH66 (by kernel_rfl) rfl rfl ⟨_,rfl⟩ rfl (pre:=[0,1]) rfl (fun x=>by kernel_rfl)

/- 123, lent -/
@[reducible] def pH123:Pat:=Pat.mk [(0,.c (.hole .str)),(1,.c (.ptr 0 0))] [(0,.cells [.ptr 1 0] false),(1,.cells [.mp 2,.mp 3,.mp 4,.mp 5] false),(2,.map .str false tG true),(3,.map .str false (.list .str) false),(4,.map .str false .bool false),(5,.map .str false .bool false)] [.slot 1,.cell 0 0,.cell 1 0,.cell 1 1,.cell 1 2,.cell 1 3] []
@[reducible] def qH123:Pat:=Pat.mk [(0,.c (.hole .bool))] [(0,.cells [.ptr 1 0] false),(1,.cells [.mp 2,.mp 3,.mp 4,.mp 5] false),(2,.map .str false tG true),(3,.map .str false (.list .str) false),(4,.map .str false .bool false),(5,.map .str false .bool false)] [] []
noncomputable def cxH123:Cx:=(mkCxH [] [])
theorem cxH123_ok:cxH123.Ok prog:=mkCxH_ok trivial trivial
noncomputable def ddH123:D prog 10 none 6:=dO [] (kd prog f123) 0
noncomputable def FH123 (v0:ByteArray) (m2:Tdm) (m3:Tdl) (m4:Tdb) (m5:Tdb):Tr0 (Bool×Tdm×Tdl×Tdb×Tdb×Unit) :=
 .ret ((mgetL .str false m5 v0),m2,m3,m4,m5,())
theorem cH123_ok:trF prog f123=some ⟨10,2,ddH123.er,[.t 3],[some .bool]⟩:=by kernel_rfl
noncomputable def ht123:Ht:=⟨123,pH123,qH123,(fun x=>run0 (FH123 x.1 x.2.1 x.2.2.1 x.2.2.2.1 x.2.2.2.2.1))⟩
theorem ht123_ok:ht123.Ok prog:=ht_ok mixed cxH123_ok rfl func123 cH123_ok (enters_of func123 rfl rfl) ddH123 (by kernel_rfl) rfl rfl ⟨_,rfl⟩ rfl (pre:=[0,1,2,3,4,5]) rfl (fun x=>by kernel_rfl)

/- 119, lent -/
@[reducible] def pH119_v1:Pat:=Pat.mk [(0,.c (.sl0 0 .str)),(1,.fn 123 [] [.ptr 1 0])] [(0,.arr .str false),(1,.cells [.ptr 2 0] false),(2,.cells [.mp 3,.mp 4,.mp 5,.mp 6] false),(3,.map .str false tG true),(4,.map .str false (.list .str) false),(5,.map .str false .bool false),(6,.map .str false .bool false)] [.slot 0,.part 1 0,.cell 1 0,.cell 2 0,.cell 2 1,.cell 2 2,.cell 2 3] []
@[reducible] def qH119_v1:Pat:=Pat.mk [(0,hI)] [(1,.cells [.ptr 2 0] false),(2,.cells [.mp 3,.mp 4,.mp 5,.mp 6] false),(3,.map .str false tG true),(4,.map .str false (.list .str) false),(5,.map .str false .bool false),(6,.map .str false .bool false),(0,.arr .str false)] [] []
noncomputable def cxH119_v1:Cx:=(mkCxH [] [ht123])
theorem cxH119_v1_ok:cxH119_v1.Ok prog:=mkCxH_ok trivial ⟨⟨ht123_ok,rfl⟩,trivial⟩
@[reducible] def pH119_v1_0:Pat:=Pat.mk [(0,.c (.sl0 0 .str)),(1,.fn 123 [] [.ptr 1 0]),(7,hI),(8,hI)] [(0,.arr .str false),(1,.cells [.ptr 2 0] false),(2,.cells [.mp 3,.mp 4,.mp 5,.mp 6] false),(3,.map .str false tG true),(4,.map .str false (.list .str) false),(5,.map .str false .bool false),(6,.map .str false .bool false)] [] []
@[reducible] def xH119_v1_0:Outs:=[(.ret,Pat.mk [(4,hI)] [(1,.cells [.ptr 2 0] false),(2,.cells [.mp 3,.mp 4,.mp 5,.mp 6] false),(3,.map .str false tG true),(4,.map .str false (.list .str) false),(5,.map .str false .bool false),(6,.map .str false .bool false),(0,.arr .str false)] [] []),(.exit 0,Pat.mk [] [(1,.cells [.ptr 2 0] false),(2,.cells [.mp 3,.mp 4,.mp 5,.mp 6] false),(3,.map .str false tG true),(4,.map .str false (.list .str) false),(5,.map .str false .bool false),(6,.map .str false .bool false),(0,.arr .str false)] [] [])]
noncomputable def bH119_v1_0:D prog 19 none 7:=dO [] (pick (kd prog f119) [(0,false)]) 0
noncomputable def gH119_v1_0:Nat×Int×Int×List ByteArray×Tdm×Tdl×Tdb×Tdb×Unit→Tr0 ((Nat×Int×Int×List ByteArray×Tdm×Tdl×Tdb×Tdb×Unit) ⊕ ((Int×Tdm×Tdl×Tdb×Tdb×List ByteArray×Unit) ⊕ ((Tdm×Tdl×Tdb×Tdb×List ByteArray×Unit)))):=fun (nv0,v7,v8,b0,m3,m4,m5,m6,_) =>
 .br (decide (v8<v7)) (
 .nb v8 ((nv0:Nat):Int) <|
 .nd (decide (((0:Nat)+(Int.toNat v8))<(b0).length)) <|
 .bd (FH123 ((b0).getD ((0:Nat)+(Int.toNat v8)) (bs [])) m3 m4 m5 m6) fun y0 =>
 .br y0.1 (
 .ret (.inr <| .inl<|(v8,y0.2.1,y0.2.2.1,y0.2.2.2.1,y0.2.2.2.2.1,b0,()))) (
 .ni (v8+(1:Int)) <|
 .ret (.inl (nv0,v7,(v8+(1:Int)),b0,y0.2.1,y0.2.2.1,y0.2.2.2.1,y0.2.2.2.2.1,())))) (
 .ret (.inr <| .inr<|(m3,m4,m5,m6,b0,())))
noncomputable def LH119_v1_0:LoopS prog 19 none 7:=mkLoop mixed cxH119_v1 cxH119_v1_ok [0,1,2,3,4,5,6] rfl pH119_v1_0 xH119_v1_0 rfl (bH119_v1_0) (fun x=>run0 (gH119_v1_0 x)) (fun x=>by kernel_rfl)
noncomputable def ddH119_v1:D prog 19 none 7:=dO [.l LH119_v1_0] (kd prog f119) 0
noncomputable def FH119_v1 (nv0:Nat) (b0:List ByteArray) (m3:Tdm) (m4:Tdl) (m5:Tdb) (m6:Tdb):Tr0 (Int×Tdm×Tdl×Tdb×Tdb×List ByteArray×Unit) :=
 .bd (.it gH119_v1_0 (nv0,((nv0:Nat):Int),(0:Int),b0,m3,m4,m5,m6,())) fun z1 =>
 .sm z1 (fun z2 =>
 .ret (z2.1,z2.2.1,z2.2.2.1,z2.2.2.2.1,z2.2.2.2.2.1,z2.2.2.2.2.2.1,())) fun z3 =>
 .ret ((-1:Int),z3.1,z3.2.1,z3.2.2.1,z3.2.2.2.1,z3.2.2.2.2.1,())
theorem cH119_v1_ok:trF prog f119=some ⟨19,2,ddH119_v1.er,[.t 4],[some tI]⟩:=by kernel_rfl
noncomputable def ht119_v1:Ht:=⟨119,pH119_v1,qH119_v1,(fun x=>run0 (FH119_v1 x.1 x.2.1 x.2.2.1 x.2.2.2.1 x.2.2.2.2.1 x.2.2.2.2.2.1))⟩
theorem ht119_v1_ok:ht119_v1.Ok prog:=ht_ok mixed cxH119_v1_ok rfl func119 cH119_v1_ok (enters_of func119 rfl rfl) ddH119_v1 (by kernel_rfl) rfl rfl ⟨_,rfl⟩ rfl (pre:=[0,1,2,3,4,5,6]) rfl (fun x=>by kernel_rfl)

/- 97, lent -/
@[reducible] def pH97_v1:Pat:=Pat.mk [(0,.c (.sl0 0 .str)),(1,.fn 123 [] [.ptr 1 0])] [(0,.arr .str false),(1,.cells [.ptr 2 0] false),(2,.cells [.mp 3,.mp 4,.mp 5,.mp 6] false),(3,.map .str false tG true),(4,.map .str false (.list .str) false),(5,.map .str false .bool false),(6,.map .str false .bool false)] [.slot 0,.part 1 0,.cell 1 0,.cell 2 0,.cell 2 1,.cell 2 2,.cell 2 3] []
@[reducible] def qH97_v1:Pat:=Pat.mk [(0,.c (.slx 0 .str))] [(0,.arr .str false),(1,.cells [.ptr 2 0] false),(2,.cells [.mp 3,.mp 4,.mp 5,.mp 6] false),(3,.map .str false tG true),(4,.map .str false (.list .str) false),(5,.map .str false .bool false),(6,.map .str false .bool false)] [] []
noncomputable def cxH97_v1:Cx:=(mkCxH [] [ht119_v1,ht123])
theorem cxH97_v1_ok:cxH97_v1.Ok prog:=mkCxH_ok trivial ⟨⟨ht119_v1_ok,rfl⟩,⟨ht123_ok,rfl⟩,trivial⟩
@[reducible] def pH97_v1_0:Pat:=Pat.mk [(0,.c (.sl0 0 .str)),(1,.fn 123 [] [.ptr 1 0]),(5,hI),(6,hI)] [(0,.arr .str false),(1,.cells [.ptr 2 0] false),(2,.cells [.mp 3,.mp 4,.mp 5,.mp 6] false),(3,.map .str false tG true),(4,.map .str false (.list .str) false),(5,.map .str false .bool false),(6,.map .str false .bool false)] [] []
@[reducible] def xH97_v1_0:Outs:=[(.exit 0,Pat.mk [(0,.c (.sl0 0 .str)),(5,hI)] [(0,.arr .str false),(1,.cells [.ptr 2 0] false),(2,.cells [.mp 3,.mp 4,.mp 5,.mp 6] false),(3,.map .str false tG true),(4,.map .str false (.list .str) false),(5,.map .str false .bool false),(6,.map .str false .bool false)] [] [])]
noncomputable def bH97_v1_0:D prog 42 none 7:=dO [] (pick (kd prog f97) [(0,false)]) 0
noncomputable def gH97_v1_0:Nat×Int×Int×List ByteArray×Tdm×Tdl×Tdb×Tdb×Unit→Tr0 ((Nat×Int×Int×List ByteArray×Tdm×Tdl×Tdb×Tdb×Unit) ⊕ ((Nat×Int×List ByteArray×Tdm×Tdl×Tdb×Tdb×Unit))):=fun (nv0,v5,v6,b0,m3,m4,m5,m6,_) =>
 .br (decide (v6<((nv0:Nat):Int))) (
 .nb v6 ((nv0:Nat):Int) <|
 .nd (decide (((0:Nat)+(Int.toNat v6))<(b0).length)) <|
 .bd (FH123 ((b0).getD ((0:Nat)+(Int.toNat v6)) (bs [])) m3 m4 m5 m6) fun y1 =>
 .br (!y1.1) (
 .nb v5 ((nv0:Nat):Int) <|
 .nd (decide (((0:Nat)+(Int.toNat v5))<(b0).length)) <|
 .ni (v5+(1:Int)) <|
 .ni (v6+(1:Int)) <|
 .ret (.inl (nv0,(v5+(1:Int)),(v6+(1:Int)),((b0).set ((0:Nat)+(Int.toNat v5)) ((b0).getD ((0:Nat)+(Int.toNat v6)) (bs []))),y1.2.1,y1.2.2.1,y1.2.2.2.1,y1.2.2.2.2.1,()))) (
 .ni (v6+(1:Int)) <|
 .ret (.inl (nv0,v5,(v6+(1:Int)),b0,y1.2.1,y1.2.2.1,y1.2.2.2.1,y1.2.2.2.2.1,())))) (
 .ret (.inr (nv0,v5,b0,m3,m4,m5,m6,())))
noncomputable def LH97_v1_0:LoopS prog 42 none 7:=mkLoop mixed cxH97_v1 cxH97_v1_ok [0,1,2,3,4,5,6] rfl pH97_v1_0 xH97_v1_0 rfl (bH97_v1_0) (fun x=>run0 (gH97_v1_0 x)) (fun x=>by kernel_rfl)
noncomputable def ddH97_v1:D prog 42 none 7:=dO [.l LH97_v1_0] (kd prog f97) 0
noncomputable def FH97_v1 (nv0:Nat) (b0:List ByteArray) (m3:Tdm) (m4:Tdl) (m5:Tdb) (m6:Tdb):Tr0 (Nat×Nat×List ByteArray×Tdm×Tdl×Tdb×Tdb×Unit) :=
 .bd (FH119_v1 nv0 b0 m3 m4 m5 m6) fun y0 =>
 .br (y0.1==(-1:Int)) (
 .ret ((0:Nat),nv0,y0.2.2.2.2.2.1,y0.2.1,y0.2.2.1,y0.2.2.2.1,y0.2.2.2.2.1,())) (
 .ni (y0.1+(1:Int)) <|
 .bd (.it gH97_v1_0 (nv0,y0.1,(y0.1+(1:Int)),y0.2.2.2.2.2.1,y0.2.1,y0.2.2.1,y0.2.2.2.1,y0.2.2.2.2.1,())) fun z2 =>
 .nd (decide ((0:Int)≤z2.2.1)) <|
 .nd (decide (z2.2.1≤((z2.1:Nat):Int))) <|
 .nd (decide (((z2.1:Nat):Int)≤((z2.1:Nat):Int))) <|
 .nd (decide ((0:Int)≤(0:Int))) <|
 .nd (decide ((0:Int)≤z2.2.1)) <|
 .nd (decide (z2.2.1≤((z2.1:Nat):Int))) <|
 .ret (((0:Nat)+(Int.toNat (0:Int))),((Int.toNat z2.2.1) - (Int.toNat (0:Int))),(clrL (bs []) z2.2.2.1 ((0:Nat)+(Int.toNat z2.2.1)) ((Int.toNat ((z2.1:Nat):Int)) - (Int.toNat z2.2.1))),z2.2.2.2.1,z2.2.2.2.2.1,z2.2.2.2.2.2.1,z2.2.2.2.2.2.2.1,()))
theorem cH97_v1_ok:trF prog f97=some ⟨42,2,ddH97_v1.er,[.t 4],[some (.list .str)]⟩:=by kernel_rfl
noncomputable def ht97_v1:Ht:=⟨97,pH97_v1,qH97_v1,(fun x=>run0 (FH97_v1 x.1 x.2.1 x.2.2.1 x.2.2.2.1 x.2.2.2.2.1 x.2.2.2.2.2.1))⟩
theorem ht97_v1_ok:ht97_v1.Ok prog:=ht_ok mixed cxH97_v1_ok rfl func97 cH97_v1_ok (enters_of func97 rfl rfl) ddH97_v1 (by kernel_rfl) rfl rfl ⟨_,rfl⟩ rfl (pre:=[0,1,2,3,4,5,6]) rfl (fun x=>by kernel_rfl)

/- 104, lent -/
@[reducible] def pH104:Pat:=Pat.mk [(0,.c (.ptr 0 0)),(1,.c (.hole .str))] [(0,.cells [.mp 1,.mp 2,.mp 3,.mp 4] false),(1,.map .str false tG true),(2,.map .str false (.list .str) false),(3,.map .str false .bool false),(4,.map .str false .bool false)] [.slot 0,.cell 0 0,.cell 0 1,.cell 0 2,.cell 0 3] []
@[reducible] def qH104:Pat:=Pat.mk [(0,.c (.slx 5 .str))] [(5,.arr .str false),(0,.cells [.mp 1,.mp 2,.mp 3,.mp 4] false),(1,.map .str false tG true),(2,.map .str false (.list .str) false),(3,.map .str false .bool false),(4,.map .str false .bool false)] [.slot 0] []
noncomputable def cxH104:Cx:=(mkCxH [] [ht98,ht97_v1])
theorem cxH104_ok:cxH104.Ok prog:=mkCxH_ok trivial ⟨⟨ht98_ok,rfl⟩,⟨ht97_v1_ok,rfl⟩,trivial⟩
noncomputable def ddH104:D prog 14 none 5:=dO [] (kd prog f104) 0
noncomputable def FH104 (v1:ByteArray) (m1:Tdm) (m2:Tdl) (m3:Tdb) (m4:Tdb):Tr0 (Nat×Nat×List ByteArray×Tdm×Tdl×Tdb×Tdb×Unit) :=
 .bd (FH98 (mgetL .str [] m2 v1)) fun y0 =>
 .bd (FH97_v1 y0.1 y0.2.1 m1 m2 m3 m4) fun y1 =>
 .ret (y1.1,y1.2.1,y1.2.2.1,y1.2.2.2.1,y1.2.2.2.2.1,y1.2.2.2.2.2.1,y1.2.2.2.2.2.2.1,())
theorem cH104_ok:trF prog f104=some ⟨14,2,ddH104.er,[.t 4],[some (.list .str)]⟩:=by kernel_rfl
noncomputable def ht104:Ht:=⟨104,pH104,qH104,(fun x=>run0 (FH104 x.1 x.2.1 x.2.2.1 x.2.2.2.1 x.2.2.2.2.1))⟩
theorem ht104_ok:ht104.Ok prog:=ht_ok mixed cxH104_ok rfl func104 cH104_ok (enters_of func104 rfl rfl) ddH104 (by kernel_rfl) rfl rfl ⟨_,rfl⟩ rfl (pre:=[0,1,2,3,4]) rfl (fun x=>by kernel_rfl)

/- 76, lent -/
@[reducible] def pH76:Pat:=Pat.mk [(0,.c (.ptr 0 0)),(1,.c (.hole .str))] [(0,.cells [.mp 1,.mp 2,.mp 3,.mp 4] false),(1,.map .str false tG true),(2,.map .str false (.list .str) false),(3,.map .str false .bool false),(4,.map .str false .bool false)] [.slot 0,.cell 0 0,.cell 0 1,.cell 0 2,.cell 0 3] []
@[reducible] def qH76:Pat:=Pat.mk [(0,.c (.sl0 5 .str))] [(5,.arr .str false),(0,.cells [.mp 1,.mp 2,.mp 3,.mp 4] false),(1,.map .str false tG true),(2,.map .str false (.list .str) false),(3,.map .str false .bool false),(4,.map .str false .bool false)] [.slot 0] []
noncomputable def cxH76 (rec:pH76.T→Option qH76.T):Cx:=(mkCxH [] [ht104,⟨76,pH76,qH76,rec⟩,ht105])
theorem cxH76_ok (rec:pH76.T→Option qH76.T) (h:Ht.Ok prog ⟨76,pH76,qH76,rec⟩):(cxH76 rec).Ok prog:=mkCxH_ok trivial ⟨⟨ht104_ok,rfl⟩,⟨h,rfl⟩,⟨ht105_ok,rfl⟩,trivial⟩
@[reducible] def pH76_0:Pat:=Pat.mk [(0,.c (.ptr 0 0)),(6,.c (.sl0 5 .str)),(17,.c (.slx 6 .str)),(18,hI),(19,hI)] [(0,.cells [.mp 1,.mp 2,.mp 3,.mp 4] false),(5,.arr .str false),(6,.arr .str false),(1,.map .str false tG true),(2,.map .str false (.list .str) false),(3,.map .str false .bool false),(4,.map .str false .bool false)] [.slot 6,.slot 17] []
@[reducible] def xH76_0:Outs:=[(.exit 0,Pat.mk [(6,.c (.sl0 5 .str))] [(5,.arr .str false),(0,.cells [.mp 1,.mp 2,.mp 3,.mp 4] false),(1,.map .str false tG true),(2,.map .str false (.list .str) false),(3,.map .str false .bool false),(4,.map .str false .bool false)] [.slot 6] [])]
noncomputable def bH76_0 (rec:pH76.T→Option qH76.T) (h:Ht.Ok prog ⟨76,pH76,qH76,rec⟩):D prog 32 none 5:=dO [] (pick (kd prog f76) [(0,false)]) 0
noncomputable def gH76_0:Nat×Nat×Nat×Int×Int×List ByteArray×List ByteArray×Tdm×Tdl×Tdb×Tdb×Unit→Tr pH76.T qH76.T ((Nat×Nat×Nat×Int×Int×List ByteArray×List ByteArray×Tdm×Tdl×Tdb×Tdb×Unit) ⊕ ((Nat×List ByteArray×Tdm×Tdl×Tdb×Tdb×Unit))):=fun (nv6,lv17,nv17,v18,v19,b5,b6,m1,m2,m3,m4,_) =>
 .br (decide (v19<v18)) (
 .nb v19 ((nv17:Nat):Int) <|
 .nd (decide ((lv17+(Int.toNat v19))<(b6).length)) <|
 .bd (.rc (((b6).getD (lv17+(Int.toNat v19)) (bs [])),m1,m2,m3,m4,())) fun y1 =>
 .nd (decide ((nv6+((((y1.2.1).drop (0:Nat)).take y1.1)).length)<bigL)) <|
 .ni (v19+(1:Int)) <|
 .ret (.inl ((nv6+((((y1.2.1).drop (0:Nat)).take y1.1)).length),lv17,nv17,v18,(v19+(1:Int)),((((b5).drop (0:Nat)).take nv6)++(((y1.2.1).drop (0:Nat)).take y1.1)),b6,y1.2.2.1,y1.2.2.2.1,y1.2.2.2.2.1,y1.2.2.2.2.2.1,()))) (
 .ret (.inr (nv6,b5,m1,m2,m3,m4,())))
theorem sH76_0 (rec:pH76.T→Option qH76.T) (h:Ht.Ok prog ⟨76,pH76,qH76,rec⟩):∀x,roundE (kzO (pH76_0.T ⊕ xH76_0.T)) (cxH76 rec) ar0 [0,1,2,3,4] pH76_0 xH76_0 (bH76_0 rec h) (fun y=>some (.inl y)) (fun b=>some (.inr b)) x=run rec (gH76_0 x):=fun x=>by kernel_rfl
noncomputable def LH76_0 (rec:pH76.T→Option qH76.T) (h:Ht.Ok prog ⟨76,pH76,qH76,rec⟩):LoopS prog 32 none 5:=mkLoop mixed (cxH76 rec) (cxH76_ok rec h) [0,1,2,3,4] rfl pH76_0 xH76_0 rfl (bH76_0 rec h) (fun x=>run rec (gH76_0 x)) (sH76_0 rec h)
noncomputable def ddH76 (rec:pH76.T→Option qH76.T) (h:Ht.Ok prog ⟨76,pH76,qH76,rec⟩):D prog 32 none 5:=dO [.l (LH76_0 rec h)] (kd prog f76) 0
noncomputable def FH76 (v1:ByteArray) (m1:Tdm) (m2:Tdl) (m3:Tdb) (m4:Tdb):Tr pH76.T qH76.T (Nat×List ByteArray×Tdm×Tdl×Tdb×Tdb×Unit) :=
 .bd (.up (FH104 v1 m1 m2 m3 m4)) fun y0 =>
 .br (((y0.2.1:Nat):Int)==(0:Int)) (
 .ret ((1:Nat),(v1::[]),y0.2.2.2.1,y0.2.2.2.2.1,y0.2.2.2.2.2.1,y0.2.2.2.2.2.2.1,())) (
 .bd (.it gH76_0 ((0:Nat),y0.1,y0.2.1,((y0.2.1:Nat):Int),(0:Int),[],y0.2.2.1,y0.2.2.2.1,y0.2.2.2.2.1,y0.2.2.2.2.2.1,y0.2.2.2.2.2.2.1,())) fun z2 =>
 .bd (.up (FH105 z2.1 z2.2.1)) fun y3 =>
 .ret (z2.1,y3.1,z2.2.2.1,z2.2.2.2.1,z2.2.2.2.2.1,z2.2.2.2.2.2.1,()))
theorem cH76_ok (rec:pH76.T→Option qH76.T) (h:Ht.Ok prog ⟨76,pH76,qH76,rec⟩):trF prog f76=some ⟨32,2,(ddH76 rec h).er,[.t 4],[some (.list .str)]⟩:=by kernel_rfl
theorem ht76_step (rec:pH76.T→Option qH76.T) (h:Ht.Ok prog ⟨76,pH76,qH76,rec⟩):Ht.Ok prog ⟨76,pH76,qH76,(fun x=>run rec (FH76 x.1 x.2.1 x.2.2.1 x.2.2.2.1 x.2.2.2.2.1))⟩:=ht_ok mixed (cxH76_ok rec h) rfl func76 (cH76_ok rec h) (enters_of func76 rfl rfl) (ddH76 rec h) (by kernel_rfl) rfl rfl ⟨_,rfl⟩ rfl (pre:=[0,1,2,3,4]) rfl (fun x=>by kernel_rfl)
noncomputable def FH76fix (v1:ByteArray) (m1:Tdm) (m2:Tdl) (m3:Tdb) (m4:Tdb):Tr0 (Nat×List ByteArray×Tdm×Tdl×Tdb×Tdb×Unit):=.fx (A1:=pH76.T) (B1:=qH76.T) (fun x=>FH76 x.1 x.2.1 x.2.2.1 x.2.2.2.1 x.2.2.2.2.1) (v1,m1,m2,m3,m4,())
noncomputable def ht76:Ht:=⟨76,pH76,qH76,fun x=>run0 (FH76fix x.1 x.2.1 x.2.2.1 x.2.2.2.1 x.2.2.2.2.1)⟩
theorem ht76_ok:ht76.Ok prog:=ht_fix (F:=fun rec x=>run rec (FH76 x.1 x.2.1 x.2.2.1 x.2.2.2.1 x.2.2.2.2.1)) (fun rec h=>ht76_step rec h)

/- 74, lent -/
@[reducible] def pH74:Pat:=Pat.mk [(0,.c (.ptr 0 0)),(1,.c (.hole .str))] [(0,.cells [.mp 1,.mp 2,.mp 3,.mp 4] false),(1,.map .str false tG true),(2,.map .str false (.list .str) false),(3,.map .str false .bool false),(4,.map .str false .bool false)] [.slot 0,.cell 0 0,.cell 0 1,.cell 0 2,.cell 0 3] []
@[reducible] def qH74:Pat:=Pat.mk [(0,.tup [.sl0 5 .str,.hole .bool])] [(5,.arr .str false),(0,.cells [.mp 1,.mp 2,.mp 3,.mp 4] false),(1,.map .str false tG true),(2,.map .str false (.list .str) false),(3,.map .str false .bool false),(4,.map .str false .bool false)] [.part 0 0] []
noncomputable def cxH74:Cx:=(mkCxH [] [ht76])
theorem cxH74_ok:cxH74.Ok prog:=mkCxH_ok trivial ⟨⟨ht76_ok,rfl⟩,trivial⟩
@[reducible] def pH74_0:Pat:=Pat.mk [(0,.c (.ptr 0 0)),(1,.c (.hole .str)),(11,.c (.mp 1))] [(0,.cells [.mp 1,.mp 2,.mp 3,.mp 4] false),(1,.map .str false tG true),(2,.map .str false (.list .str) false),(3,.map .str false .bool false),(4,.map .str false .bool false)] [] []
@[reducible] def xH74_0:Outs:=[(.ret,Pat.mk [(4,.c (.sl0 5 .str)),(5,.c (.hole .bool))] [(5,.arr .str false),(0,.cells [.mp 1,.mp 2,.mp 3,.mp 4] false),(1,.map .str false tG true),(2,.map .str false (.list .str) false),(3,.map .str false .bool false),(4,.map .str false .bool false)] [.slot 4] [])]
noncomputable def bH74_0:D prog 50 none 6:=dO [] (pick (kd prog f74) [(0,false)]) 0
noncomputable def gH74_0:((ByteArray)×(GG))→ByteArray×Tdm×Tdl×Tdb×Tdb×Unit→Tr0 ((ByteArray×Tdm×Tdl×Tdb×Tdb×Unit) ⊕ ((Nat×Bool×List ByteArray×Tdm×Tdl×Tdb×Tdb×Unit))):=fun e (v1,m1,m2,m3,m4,_) =>
 .br (!(mhasL .str m1 v1)) (
 .ret (.inr ((0:Nat),false,[],m1,m2,m3,m4,()))) (
 .br ((mgetL .str ((bs []),(0:Int),(bs []),(bs []),(0:Int)) m1 v1).2.1==(3:Int)) (
 .ret (.inr ((0:Nat),false,[],m1,m2,m3,m4,()))) (
 .br (mgetL .str false m4 v1) (
 .ret (.inr ((0:Nat),false,[],m1,m2,m3,m4,()))) (
 .br ((mgetL .str ((bs []),(0:Int),(bs []),(bs []),(0:Int)) m1 v1).2.1==(1:Int)) (
 .bd (FH76fix v1 m1 m2 m3 m4) fun y0 =>
 .ret (.inr (y0.1,true,y0.2.1,y0.2.2.1,y0.2.2.2.1,y0.2.2.2.2.1,y0.2.2.2.2.2.1,()))) (
 .nd (sameD m1 m1) <|
 .ret (.inl ((mgetL .str ((bs []),(0:Int),(bs []),(bs []),(0:Int)) m1 v1).2.2.1,m1,m2,m3,m4,()))))))
noncomputable def MH74_0:MapS prog 50 none 5:=mkMapR mixed cxH74 cxH74_ok [0,1,2,3,4] rfl pH74_0 xH74_0 rfl ( [.op (some 8) none (.mv (.t 0)),.op (some 9) none (.ex Xop.nchk [.t 8]),.op (some 10) none (.fld 0 [false] (.t 9)),.op (some 11) none (.load false 1 (.t 10))]) 11 12 [13,14] (none) ( .str)  false ( .prod .str (.prod tI (.prod .str (.prod .str tI))))  true 0 rfl 6 rfl (bH74_0) (fun e x=>run0 (gH74_0 e x)) (fun e=>fun x=>by kernel_rfl)
noncomputable def ddH74:D prog 50 none 5:=dO [.m MH74_0] (kd prog f74) 0
noncomputable def FH74 (v1:ByteArray) (m1:Tdm) (m2:Tdl) (m3:Tdb) (m4:Tdb):Tr0 (Nat×Bool×List ByteArray×Tdm×Tdl×Tdb×Tdb×Unit) :=
 .bd (.mp gH74_0 m1 (v1,m1,m2,m3,m4,())) fun z1 =>
 .sm z1 (fun z2 =>
 .ret ((0:Nat),false,[],z2.2.1,z2.2.2.1,z2.2.2.2.1,z2.2.2.2.2.1,())) fun z3 =>
 .ret (z3.1,z3.2.1,z3.2.2.1,z3.2.2.2.1,z3.2.2.2.2.1,z3.2.2.2.2.2.1,z3.2.2.2.2.2.2.1,())
theorem cH74_ok:trF prog f74=some ⟨50,2,ddH74.er,[.t 4,.t 5],[some (.list .str),some .bool]⟩:=by kernel_rfl
noncomputable def ht74:Ht:=⟨74,pH74,qH74,(fun x=>run0 (FH74 x.1 x.2.1 x.2.2.1 x.2.2.2.1 x.2.2.2.2.1))⟩
theorem ht74_ok:ht74.Ok prog:=ht_ok mixed cxH74_ok rfl func74 cH74_ok (enters_of func74 rfl rfl) ddH74 (by kernel_rfl) rfl rfl ⟨_,rfl⟩ rfl (pre:=[0,1,2,3,4]) rfl (fun x=>by kernel_rfl)

/- 103 -/
noncomputable def cx103:Cx:=(mkCxH [] [])
theorem cx103_ok:cx103.Ok prog:=mkCxH_ok trivial trivial
@[reducible] def p103_0:Pat:=Pat.mk [(0,.c (.hole (.list .str))),(1,.c (.hole .str)),(7,hI),(8,hI)] [] [] []
@[reducible] def x103_0:Outs:=[(.ret,Pat.mk [(4,hI)] [] [] []),(.exit 0,Pat.mk [] [] [] [])]
noncomputable def b103_0:D prog 19 none 0:=dO [] (pick (kd prog f103) [(0,false)]) 0
noncomputable def g103_0:List ByteArray×ByteArray×Int×Int×Unit→Tr0 ((List ByteArray×ByteArray×Int×Int×Unit) ⊕ ((Int×Unit) ⊕ ((Unit)))):=fun (v0,v1,v7,v8,_) =>
 .br (decide (v8<v7)) (
 .nb v8 (((v0).length:Nat):Int) <|
 .br (seq v1 ((v0).getD (Int.toNat v8) (bs []))) (
 .ret (.inr <| .inl<|(v8,()))) (
 .ni (v8+(1:Int)) <|
 .ret (.inl (v0,v1,v7,(v8+(1:Int)),())))) (
 .ret (.inr <| .inr<|()))
noncomputable def L103_0:LoopS prog 19 none 0:=mkLoop mixed cx103 cx103_ok [] rfl p103_0 x103_0 rfl (b103_0) (fun x=>run0 (g103_0 x)) (fun x=>by kernel_rfl)
noncomputable def dd103:D prog 19 none 0:=dO [.l L103_0] (kd prog f103) 0
noncomputable def F103 (a0:List ByteArray) (a1:ByteArray):Tr0 (Int×Unit) :=
 .bd (.it g103_0 (a0,a1,(((a0).length:Nat):Int),(0:Int),())) fun z0 =>
 .sm z0 (fun z1 =>
 .ret (z1.1,())) fun z2 =>
 .ret ((-1:Int),())
theorem c103_ok:trF prog f103=some ⟨19,2,dd103.er,[.t 4],[some tI]⟩:=by kernel_rfl
noncomputable def ct103:Ct:=⟨103,[.c (.hole (.list .str)),.c (.hole .str)],hI,fun x=>run0 (F103 x.1 x.2.1)⟩
theorem ct103_ok:ct103.Ok prog:=ct_ok mixed cx103_ok func103 c103_ok (enters_of func103 rfl rfl) dd103 (by kernel_rfl) rfl (fun x=>by kernel_rfl)

/- 75 -/
noncomputable def cx75:Cx:=(mkCxH [ct103] [])
theorem cx75_ok:cx75.Ok prog:=mkCxH_ok ⟨ct103_ok,trivial⟩ trivial
noncomputable def dd75:D prog 9 none 0:=dO [] (kd prog f75) 0
noncomputable def F75 (a0:List ByteArray) (a1:ByteArray):Tr0 (Bool×Unit) :=
 .bd (F103 a0 a1) fun y0 =>
 .ret ((decide ((0:Int)≤y0.1)),())
theorem c75_ok:trF prog f75=some ⟨9,2,dd75.er,[.t 4],[some .bool]⟩:=by kernel_rfl
noncomputable def ct75:Ct:=⟨75,[.c (.hole (.list .str)),.c (.hole .str)],.c (.hole .bool),fun x=>run0 (F75 x.1 x.2.1)⟩
theorem ct75_ok:ct75.Ok prog:=ct_ok mixed cx75_ok func75 c75_ok (enters_of func75 rfl rfl) dd75 (by kernel_rfl) rfl (fun x=>by kernel_rfl)

/- 32, lent -/
@[reducible] def pH32:Pat:=Pat.mk [(0,.c (.ptr 0 0)),(1,.c (.hole .str))] [(0,.cells [.mp 1] false),(1,.map tG true .bool false)] [.slot 0,.cell 0 0] []
@[reducible] def qH32:Pat:=Pat.mk [(0,.tup [.hole tI,.hole tI])] [(0,.cells [.mp 1] false),(1,.map tG true .bool false)] [] []
noncomputable def cxH32j0:Cx:=(mkCxH [ct75] [ht54,ht66,ht74])
theorem cxH32j0_ok:cxH32j0.Ok prog:=mkCxH_ok (cts:=[ct75]) (hts:=[ht54,ht66,ht74]) ⟨ct75_ok,trivial⟩ ⟨⟨ht54_ok,rfl⟩,⟨ht66_ok,rfl⟩,⟨ht74_ok,rfl⟩,trivial⟩
@[reducible] noncomputable def fnH32j1:Go.AM.Fn:=⟨29,2,(dO [] (kd prog f73) 0:D prog 29 none 0).er,[.t 4,.cell 5 true 5,.t 6],[none,some tG,some tI]⟩
noncomputable def cxH32j1:Cx:=inCx prog cxH32j0 73 fnH32j1 (fun _=>dO [] (kd prog f73) 0)
theorem cxH32j1_ok:cxH32j1.Ok prog:=inCx_ok mixed cxH32j0_ok func73 (by kernel_rfl) (enters_of func73 rfl rfl) (fun _=>by kernel_rfl)
noncomputable def cxH32:Cx:=cxH32j1
theorem cxH32_ok:cxH32.Ok prog:=cxH32j1_ok
noncomputable def ddH32:D prog 51 none 2:=dO [] (kd prog f32) 0
noncomputable def FH32 (v1:ByteArray) (m1:List ((GG)×Bool)):Tr0 (Int×Int×(List ((GG)×Bool))×Unit) :=
 .bd (FH54 m1) fun y0 =>
 .br y0.1 (
 .br (!((9:Int)==(0:Int))) (
 .ret ((0:Int),(9:Int),y0.2.1,())) (
 .br ((0:Int)==(3:Int)) (
 .ret ((0:Int),(18:Int),y0.2.1,())) (
 .no))) (
 .bd (FH66 y0.2.1) fun y1 =>
 .br (!(mhasL .str y1.2.1 v1)) (
 .br (!((5:Int)==(0:Int))) (
 .ret ((0:Int),(5:Int),y1.1,())) (
 .br ((0:Int)==(3:Int)) (
 .ret ((0:Int),(18:Int),y1.1,())) (
 .no))) (
 .br (!((0:Int)==(0:Int))) (
 .ret ((0:Int),(0:Int),y1.1,())) (
 .br ((mgetL .str ((bs []),(0:Int),(bs []),(bs []),(0:Int)) y1.2.1 v1).2.1==(3:Int)) (
 .ret ((0:Int),(18:Int),y1.1,())) (
 .br (mgetL .str false y1.2.2.2.2.1 v1) (
 .ret ((2:Int),(0:Int),y1.1,())) (
 .bd (FH74 v1 y1.2.1 y1.2.2.1 y1.2.2.2.1 y1.2.2.2.2.1) fun y2 =>
 .br (!y2.2.1) (
 .ret ((1:Int),(0:Int),y1.1,())) (
 .bd (F75 (((y2.2.2.1).drop (0:Nat)).take y2.1) v1) fun y3 =>
 .br (!y3.1) (
 .ret ((3:Int),(0:Int),y1.1,())) (
 .br (decide ((1:Int)<((y2.1:Nat):Int))) (
 .ret ((5:Int),(0:Int),y1.1,())) (
 .ret ((4:Int),(0:Int),y1.1,())))))))))
theorem cH32_ok:trF prog f32=some ⟨51,2,ddH32.er,[.t 4,.t 5],[some tI,some tI]⟩:=by kernel_rfl
noncomputable def ht32:Ht:=⟨32,pH32,qH32,(fun x=>run0 (FH32 x.1 x.2.1))⟩
theorem ht32_ok:ht32.Ok prog:=ht_ok mixed cxH32_ok rfl func32 cH32_ok (enters_of func32 rfl rfl) ddH32 (by kernel_rfl) rfl rfl ⟨_,rfl⟩ rfl (pre:=[0,1]) rfl (fun x=>by kernel_rfl)

/- 104, lent -/
@[reducible] def pH104_v1:Pat:=Pat.mk [(0,.c .nilp),(1,.c (.hole .str))] [] [] []
@[reducible] def qH104_v1:Pat:=Pat.mk [(0,.c .any)] [] [] []
noncomputable def cxH104_v1:Cx:=(mkCxH [] [])
theorem cxH104_v1_ok:cxH104_v1.Ok prog:=mkCxH_ok trivial trivial
noncomputable def ddH104_v1:D prog 14 none 0:=dO [] (kd prog f104) 0
noncomputable def FH104_v1 (v1:ByteArray):Tr0 (Unit) :=
 .no
theorem cH104_v1_ok:trF prog f104=some ⟨14,2,ddH104_v1.er,[.t 4],[some (.list .str)]⟩:=by kernel_rfl
noncomputable def ht104_v1:Ht:=⟨104,pH104_v1,qH104_v1,(fun x=>run0 (FH104_v1 x.1))⟩
theorem ht104_v1_ok:ht104_v1.Ok prog:=ht_ok mixed cxH104_v1_ok rfl func104 cH104_v1_ok (enters_of func104 rfl rfl) ddH104_v1 (by kernel_rfl) rfl rfl ⟨_,rfl⟩ rfl (pre:=[]) rfl (fun x=>by kernel_rfl)

/- 76, lent -/
@[reducible] def pH76_v1:Pat:=Pat.mk [(0,.c .nilp),(1,.c (.hole .str))] [] [] []
@[reducible] def qH76_v1:Pat:=Pat.mk [(0,.c .any)] [] [] []
noncomputable def cxH76_v1:Cx:=(mkCxH [] [ht104_v1])
theorem cxH76_v1_ok:cxH76_v1.Ok prog:=mkCxH_ok trivial ⟨⟨ht104_v1_ok,rfl⟩,trivial⟩
noncomputable def ddH76_v1:D prog 32 none 0:=dO [.x] (kd prog f76) 0
noncomputable def FH76_v1 (v1:ByteArray):Tr0 (Unit) :=
 .bd (FH104_v1 v1) fun y0 =>
 .no
theorem cH76_v1_ok:trF prog f76=some ⟨32,2,ddH76_v1.er,[.t 4],[some (.list .str)]⟩:=by kernel_rfl
noncomputable def ht76_v1:Ht:=⟨76,pH76_v1,qH76_v1,(fun x=>run0 (FH76_v1 x.1))⟩
theorem ht76_v1_ok:ht76_v1.Ok prog:=ht_ok mixed cxH76_v1_ok rfl func76 cH76_v1_ok (enters_of func76 rfl rfl) ddH76_v1 (by kernel_rfl) rfl rfl ⟨_,rfl⟩ rfl (pre:=[]) rfl (fun x=>by kernel_rfl)

/- 33, lent -/
@[reducible] def pH33:Pat:=Pat.mk [(0,.c (.ptr 0 0)),(1,.c (.hole .str))] [(0,.cells [.mp 1] false),(1,.map tG true .bool false)] [.slot 0,.cell 0 0] []
@[reducible] def qH33:Pat:=Pat.mk [(0,.tup [.sl0 2 .str,.hole tI])] [(2,.arr .str false),(0,.cells [.mp 1] false),(1,.map tG true .bool false)] [.part 0 0] []
noncomputable def cxH33j0:Cx:=(mkCxH [] [ht54,ht76_v1,ht66,ht76])
theorem cxH33j0_ok:cxH33j0.Ok prog:=mkCxH_ok (cts:=[]) (hts:=[ht54,ht76_v1,ht66,ht76]) trivial ⟨⟨ht54_ok,rfl⟩,⟨ht76_v1_ok,rfl⟩,⟨ht66_ok,rfl⟩,⟨ht76_ok,rfl⟩,trivial⟩
@[reducible] noncomputable def fnH33j1:Go.AM.Fn:=⟨29,2,(dO [] (kd prog f73) 0:D prog 29 none 0).er,[.t 4,.cell 5 true 5,.t 6],[none,some tG,some tI]⟩
noncomputable def cxH33j1:Cx:=inCx prog cxH33j0 73 fnH33j1 (fun _=>dO [] (kd prog f73) 0)
theorem cxH33j1_ok:cxH33j1.Ok prog:=inCx_ok mixed cxH33j0_ok func73 (by kernel_rfl) (enters_of func73 rfl rfl) (fun _=>by kernel_rfl)
noncomputable def cxH33:Cx:=cxH33j1
theorem cxH33_ok:cxH33.Ok prog:=cxH33j1_ok
noncomputable def ddH33:D prog 27 none 2:=dO [] (kd prog f33) 0
noncomputable def FH33 (v1:ByteArray) (m1:List ((GG)×Bool)):Tr0 (Nat×Int×List ByteArray×(List ((GG)×Bool))×Unit) :=
 .bd (FH54 m1) fun y0 =>
 .br y0.1 (
 .br (!((9:Int)==(0:Int))) (
 .ret ((0:Nat),(9:Int),[],y0.2.1,())) (
 .br (!((0:Int)==(1:Int))) (
 .ret ((0:Nat),(18:Int),[],y0.2.1,())) (
 .bd (FH76_v1 v1) fun y1 =>
 .no))) (
 .bd (FH66 y0.2.1) fun y2 =>
 .br (!(mhasL .str y2.2.1 v1)) (
 .br (!((5:Int)==(0:Int))) (
 .ret ((0:Nat),(5:Int),[],y2.1,())) (
 .br (!((0:Int)==(1:Int))) (
 .ret ((0:Nat),(18:Int),[],y2.1,())) (
 .bd (FH76_v1 v1) fun y3 =>
 .no))) (
 .br (!((0:Int)==(0:Int))) (
 .ret ((0:Nat),(0:Int),[],y2.1,())) (
 .br (!((mgetL .str ((bs []),(0:Int),(bs []),(bs []),(0:Int)) y2.2.1 v1).2.1==(1:Int))) (
 .ret ((0:Nat),(18:Int),[],y2.1,())) (
 .bd (FH76fix v1 y2.2.1 y2.2.2.1 y2.2.2.2.1 y2.2.2.2.2.1) fun y4 =>
 .ret (y4.1,(0:Int),y4.2.1,y2.1,())))))
theorem cH33_ok:trF prog f33=some ⟨27,2,ddH33.er,[.t 4,.t 5],[some (.list .str),some tI]⟩:=by kernel_rfl
noncomputable def ht33:Ht:=⟨33,pH33,qH33,(fun x=>run0 (FH33 x.1 x.2.1))⟩
theorem ht33_ok:ht33.Ok prog:=ht_ok mixed cxH33_ok rfl func33 cH33_ok (enters_of func33 rfl rfl) ddH33 (by kernel_rfl) rfl rfl ⟨_,rfl⟩ rfl (pre:=[0,1]) rfl (fun x=>by kernel_rfl)

/- 40, lent -/
@[reducible] def pH40:Pat:=Pat.mk [(0,.c (.ptr 0 0)),(1,.c (.hole .str)),(2,hI)] [(0,.cells [.mp 1] false),(1,.map tG true .bool false)] [.slot 0,.cell 0 0] []
@[reducible] def qH40:Pat:=Pat.mk [(0,.c (.hole .bool))] [(0,.cells [.mp 1] false),(1,.map tG true .bool false)] [] []
noncomputable def cxH40:Cx:=(mkCxH [] [ht32])
theorem cxH40_ok:cxH40.Ok prog:=mkCxH_ok trivial ⟨⟨ht32_ok,rfl⟩,trivial⟩
noncomputable def ddH40:D prog 22 none 2:=dO [] (kd prog f40) 0
noncomputable def FH40 (v1:ByteArray) (v2:Int) (m1:List ((GG)×Bool)):Tr0 (Bool×(List ((GG)×Bool))×Unit) :=
 .bd (FH32 v1 m1) fun y0 =>
 .br (y0.2.1==(0:Int)) (
 .ret ((y0.1==v2),y0.2.2.1,())) (
 .ret (false,y0.2.2.1,()))
theorem cH40_ok:trF prog f40=some ⟨22,3,ddH40.er,[.t 6],[some .bool]⟩:=by kernel_rfl
noncomputable def ht40:Ht:=⟨40,pH40,qH40,(fun x=>run0 (FH40 x.1 x.2.1 x.2.2.1))⟩
theorem ht40_ok:ht40.Ok prog:=ht_ok mixed cxH40_ok rfl func40 cH40_ok (enters_of func40 rfl rfl) ddH40 (by kernel_rfl) rfl rfl ⟨_,rfl⟩ rfl (pre:=[0,1]) rfl (fun x=>by kernel_rfl)

/- 100, lent -/
@[reducible] def pH100:Pat:=Pat.mk [(0,.c (.mp 0)),(1,hI)] [(0,.map tI false .unit true)] [.slot 0] []
@[reducible] def qH100:Pat:=Pat.mk [(0,.c .any)] [(0,.map tI false .unit true)] [] []
noncomputable def cxH100:Cx:=(mkCxH [] [])
theorem cxH100_ok:cxH100.Ok prog:=mkCxH_ok trivial trivial
noncomputable def ddH100:D prog 7 none 1:=dO [] (kd prog f100) 0
noncomputable def FH100 (v1:Int) (m0:List (Int×Unit)):Tr0 ((List (Int×Unit))×Unit) :=
 .ret ((msetL (.int .i64) m0 v1 ()),())
theorem cH100_ok:trF prog f100=some ⟨7,2,ddH100.er,[],[]⟩:=by kernel_rfl
noncomputable def ht100:Ht:=⟨100,pH100,qH100,(fun x=>run0 (FH100 x.1 x.2.1))⟩
theorem ht100_ok:ht100.Ok prog:=ht_ok mixed cxH100_ok rfl func100 cH100_ok (enters_of func100 rfl rfl) ddH100 (by kernel_rfl) rfl rfl ⟨_,rfl⟩ rfl (pre:=[0]) rfl (fun x=>by kernel_rfl)

/- 79, lent -/
@[reducible] def pH79:Pat:=Pat.mk [(0,.c (.ptr 0 0))] [(0,.cells [.mp 1,.mp 2,.mp 3,.mp 4] false),(1,.map .str false tG true),(2,.map .str false (.list .str) false),(3,.map .str false .bool false),(4,.map .str false .bool false)] [.slot 0,.cell 0 0,.cell 0 1,.cell 0 2,.cell 0 3] []
@[reducible] def qH79:Pat:=Pat.mk [(0,.fn 106 [] [.ptr 5 0])] [(5,.cells [.ptr 0 0] false),(0,.cells [.mp 1,.mp 2,.mp 3,.mp 4] false),(1,.map .str false tG true),(2,.map .str false (.list .str) false),(3,.map .str false .bool false),(4,.map .str false .bool false)] [.part 0 0] []
noncomputable def cxH79:Cx:=(mkCxH [] [])
theorem cxH79_ok:cxH79.Ok prog:=mkCxH_ok trivial trivial
noncomputable def ddH79:D prog 4 none 5:=dO [] (kd prog f79) 0
noncomputable def FH79 (m1:Tdm) (m2:Tdl) (m3:Tdb) (m4:Tdb):Tr0 (Tdm×Tdl×Tdb×Tdb×Unit) :=
 .ret (m1,m2,m3,m4,())
theorem cH79_ok:trF prog f79=some ⟨4,1,ddH79.er,[.t 2],[none]⟩:=by kernel_rfl
noncomputable def ht79:Ht:=⟨79,pH79,qH79,(fun x=>run0 (FH79 x.1 x.2.1 x.2.2.1 x.2.2.2.1))⟩
theorem ht79_ok:ht79.Ok prog:=ht_ok mixed cxH79_ok rfl func79 cH79_ok (enters_of func79 rfl rfl) ddH79 (by kernel_rfl) rfl rfl ⟨_,rfl⟩ rfl (pre:=[0,1,2,3,4]) rfl (fun x=>by kernel_rfl)

/- 68 -/
noncomputable def cx68:Cx:=(mkCxH [] [])
theorem cx68_ok:cx68.Ok prog:=mkCxH_ok trivial trivial
noncomputable def dd68:D prog 10 none 0:=dO [] (kd prog f68) 0
noncomputable def F68 (a0:GG) (a1:ByteArray):Tr0 (Int×Unit) :=
 .br (!(seq a0.2.2.2.1 a1)) (
 .ret ((0:Int),())) (
 .ret (a0.2.2.2.2,()))
theorem c68_ok:trF prog f68=some ⟨10,2,dd68.er,[.t 3],[some tI]⟩:=by kernel_rfl
noncomputable def ct68:Ct:=⟨68,[.c (.hole tG),.c (.ipc .str)],hI,fun x=>run0 (F68 x.1 x.2.1)⟩
theorem ct68_ok:ct68.Ok prog:=ct_ok mixed cx68_ok func68 c68_ok (enters_of func68 rfl rfl) dd68 (by kernel_rfl) rfl (fun x=>by kernel_rfl)

/- 120, lent -/
@[reducible] def pH120:Pat:=Pat.mk [(0,.c (.mp 0))] [(0,.map tI false .unit true)] [.slot 0] []
@[reducible] def qH120:Pat:=Pat.mk [(0,.fn 132 [] [.ptr 1 0])] [(1,.cells [.mp 0] false),(0,.map tI false .unit true)] [.part 0 0] []
noncomputable def cxH120:Cx:=(mkCxH [] [])
theorem cxH120_ok:cxH120.Ok prog:=mkCxH_ok trivial trivial
noncomputable def ddH120:D prog 4 none 1:=dO [] (kd prog f120) 0
noncomputable def FH120 (m0:List (Int×Unit)):Tr0 ((List (Int×Unit))×Unit) :=
 .ret (m0,())
theorem cH120_ok:trF prog f120=some ⟨4,1,ddH120.er,[.t 2],[none]⟩:=by kernel_rfl
noncomputable def ht120:Ht:=⟨120,pH120,qH120,(fun x=>run0 (FH120 x.1))⟩
theorem ht120_ok:ht120.Ok prog:=ht_ok mixed cxH120_ok rfl func120 cH120_ok (enters_of func120 rfl rfl) ddH120 (by kernel_rfl) rfl rfl ⟨_,rfl⟩ rfl (pre:=[0]) rfl (fun x=>by kernel_rfl)

/- 101, lent -/
@[reducible] def pH101:Pat:=Pat.mk [(0,.c (.mp 0))] [(0,.map tI false .unit true)] [.slot 0] []
@[reducible] def qH101:Pat:=Pat.mk [(0,.fn 132 [] [.ptr 1 0])] [(1,.cells [.mp 0] false),(0,.map tI false .unit true)] [.part 0 0] []
noncomputable def cxH101:Cx:=(mkCxH [] [ht120])
theorem cxH101_ok:cxH101.Ok prog:=mkCxH_ok trivial ⟨⟨ht120_ok,rfl⟩,trivial⟩
noncomputable def ddH101:D prog 5 none 1:=dO [] (kd prog f101) 0
noncomputable def FH101 (m0:List (Int×Unit)):Tr0 ((List (Int×Unit))×Unit) :=
 .bd (FH120 m0) fun y0 =>
 .ret (y0.1,())
theorem cH101_ok:trF prog f101=some ⟨5,1,ddH101.er,[.t 2],[none]⟩:=by kernel_rfl
noncomputable def ht101:Ht:=⟨101,pH101,qH101,(fun x=>run0 (FH101 x.1))⟩
theorem ht101_ok:ht101.Ok prog:=ht_ok mixed cxH101_ok rfl func101 cH101_ok (enters_of func101 rfl rfl) ddH101 (by kernel_rfl) rfl rfl ⟨_,rfl⟩ rfl (pre:=[0]) rfl (fun x=>by kernel_rfl)

/- 122, by hand -/
@[reducible] def pH122:Pat:=Pat.mk [(0,.c (.sl0 0 tI))] [(0,.arr tI false)] [.slot 0] []
@[reducible] def qH122:Pat:=Pat.mk [(0,.c .any)] [(0,.arr tI false)] [] []
noncomputable def FH122 (nv0:Nat) (b0:List Int):Tr0 (List Int×Unit) :=
 .of (srtN (.int .i64) b0 nv0)
noncomputable def ht122:Ht:=⟨122,pH122,qH122,(fun x=>run0 (FH122 x.1 x.2.1))⟩
theorem ht122_ok:ht122.Ok prog:=fun x y h=>srtN_int (ρ:=lay122_ren) lay122 (enters_of func122 rfl rfl) (xs:=x.2.1) (n:=x.1) (y:=y) h

/- 102, lent -/
@[reducible] def pH102:Pat:=Pat.mk [(0,.fn 132 [] [.ptr 0 0])] [(0,.cells [.mp 1] false),(1,.map tI false .unit true)] [.part 0 0,.cell 0 0] []
@[reducible] def qH102:Pat:=Pat.mk [(0,.c (.sl0 2 tI))] [(2,.arr tI false),(0,.cells [.mp 1] false),(1,.map tI false .unit true)] [.slot 0] []
noncomputable def cxH102j0:Cx:=(mkCxH [] [ht122])
theorem cxH102j0_ok:cxH102j0.Ok prog:=mkCxH_ok (cts:=[]) (hts:=[ht122]) trivial ⟨⟨ht122_ok,rfl⟩,trivial⟩
noncomputable def adH102f121f133_0:D prog 13 (some 4) 7:=dO [] (pick (kd prog f133) [(0,false)]) 0
noncomputable def bdH102f121f133_0:D prog 13 (some 4) 7:=dO [] (pick (kd prog f133) [(0,true)]) 0
noncomputable def cxH102f121f133_0i:Cx:=itCx cxH102j0 (fun kz=>rdK kz cxH102j0 ar0 4 7 [7] (adH102f121f133_0) (bdH102f121f133_0))
theorem cxH102f121f133_0i_ok:(cxH102f121f133_0i).Ok prog:=itCx_ok cxH102j0_ok (fun h=>rdK_ok mixed cxH102j0_ok h)
@[reducible] def pH102f121f133_0i_0:Pat:=Pat.mk [(0,.c (.yl 4)),(4,.c (.mp 1))] [(4,.loop .ready none 3 [(2,.c (.ptr 2 0)),(4,.c .nsl),(6,.fn 132 [] [.ptr 0 0])] [7] (.reg [.op (some 5) none (.mv (.t 7))]) (.block 1 (.reg [.op (some 8) none (.load false 1 (.t 2)),.op (some 9) none (.mv (.t 5)),.op (some 10) none (.bslice tI [.t 9]),.op (some 11) none (.append 1 (.t 8) (.t 10)),.op none none (.store 1 (.t 2) (.t 11))])) 13),(1,.map tI false .unit true),(3,.dfr),(2,.cells [.sl0 5 tI] false),(0,.cells [.mp 1] false),(5,.arr tI false)] [.cell 2 0] []
noncomputable def bH102f121f133_0i_0:D prog 14 none 7:=dO [] (pick (kd prog f132) [(0,false)]) 0
noncomputable def gH102f121f133_0i_0:((Int)×(Unit))→(List (Int×Unit))×Nat×List Int×Unit→Tr0 ((List (Int×Unit))×Nat×List Int×Unit):=fun e (m1,nc2_0,b5,_) =>
 .nd (decide ((nc2_0+(((((e.1::[])).drop (0:Nat)).take (1:Nat))).length)<bigL)) <|
 .nd (sameD m1 m1) <|
 .ret (m1,(nc2_0+(((((e.1::[])).drop (0:Nat)).take (1:Nat))).length),((((b5).drop (0:Nat)).take nc2_0)++((((e.1::[])).drop (0:Nat)).take (1:Nat))),())
noncomputable def MH102f121f133_0i_0:MapS prog 14 none 5:=mkMapRA mixed cxH102f121f133_0i cxH102f121f133_0i_ok [0,1,2,3,4] rfl pH102f121f133_0i_0 ( [.op (some 4) none (.load false 1 (.t 1))]) 4 5 [6,7] (some 8) ( .int .i64)  false ( .unit)  true 0 rfl 7 rfl (bH102f121f133_0i_0) (fun e x=>run0 (gH102f121f133_0i_0 e x)) (fun e=>fun x=>by kernel_rfl)
@[reducible] def pH102f121f133_0:Pat:=Pat.mk [(2,.c (.ptr 2 0)),(4,.c .nsl),(6,.fn 132 [] [.ptr 0 0])] [(2,.cells [.nsl] false),(0,.cells [.mp 1] false),(1,.map tI false .unit true)] [.slot 2] []
@[reducible] def xH102f121f133_0:Outs:=[(.normal,Pat.mk [(2,.c (.ptr 2 0))] [(2,.cells [.sl0 3 tI] false),(0,.cells [.mp 1] false),(1,.map tI false .unit true),(3,.arr tI false)] [.slot 2,.cell 2 0] [])]
noncomputable def bH102f121f133_0i:D prog 14 none 5:=dO [.m MH102f121f133_0i_0] (kd prog f132) 0
theorem ciH102f121f133_0:trF prog f132=some ⟨14,2,(bH102f121f133_0i).er,[],[]⟩:=by kernel_rfl
noncomputable def RH102f121f133_0:RangeS prog 13 none 2:=mkRangeI mixed cxH102f121f133_0i cxH102f121f133_0i_ok [0,1] rfl pH102f121f133_0 xH102f121f133_0 ( .t 6) [7] rfl (adH102f121f133_0).er (bdH102f121f133_0).er 132 func132 (ciH102f121f133_0) (enters_of func132 rfl rfl) 5 rfl (bH102f121f133_0i) rfl
@[reducible] noncomputable def fnH102j1:Go.AM.Fn:=⟨13,2,(dO [.r RH102f121f133_0] (kd prog f133) 0:D prog 13 none 2).er,[.t 4],[some tL]⟩
noncomputable def cxH102j1:Cx:=inCxB prog cxH102j0 133 fnH102j1 2 (dO [.r RH102f121f133_0] (kd prog f133) 0)
theorem cxH102j1_ok:cxH102j1.Ok prog:=inCxB_ok mixed cxH102j0_ok func133 (by kernel_rfl) (enters_of func133 rfl rfl) rfl
@[reducible] noncomputable def fnH102j2:Go.AM.Fn:=⟨5,1,(dO [] (kd prog f121) 0:D prog 5 none 0).er,[.t 2],[some tL]⟩
noncomputable def cxH102j2:Cx:=inCx prog cxH102j1 121 fnH102j2 (fun _=>dO [] (kd prog f121) 0)
theorem cxH102j2_ok:cxH102j2.Ok prog:=inCx_ok mixed cxH102j1_ok func121 (by kernel_rfl) (enters_of func121 rfl rfl) (fun _=>by kernel_rfl)
noncomputable def cxH102:Cx:=cxH102j2
theorem cxH102_ok:cxH102.Ok prog:=cxH102j2_ok
noncomputable def ddH102:D prog 9 none 2:=dO [] (kd prog f102) 0
noncomputable def FH102 (m1:List (Int×Unit)):Tr0 (Nat×List Int×(List (Int×Unit))×Unit) :=
 .an m1 fun l0 =>
 .bd (.fm gH102f121f133_0i_0 l0 (m1,(0:Nat),[],())) fun z1 =>
 .bd (FH122 z1.2.1 z1.2.2.1) fun y2 =>
 .ret (z1.2.1,y2.1,z1.1,())
theorem cH102_ok:trF prog f102=some ⟨9,1,ddH102.er,[.t 2],[some tL]⟩:=by kernel_rfl
noncomputable def ht102:Ht:=⟨102,pH102,qH102,(fun x=>run0 (FH102 x.1))⟩
theorem ht102_ok:ht102.Ok prog:=ht_ok mixed cxH102_ok rfl func102 cH102_ok (enters_of func102 rfl rfl) ddH102 (by kernel_rfl) rfl rfl ⟨_,rfl⟩ rfl (pre:=[0,1]) rfl (fun x=>by kernel_rfl)

/- 67, lent -/
@[reducible] def pH67:Pat:=Pat.mk [(0,.c (.ptr 0 0)),(1,.fn 68 [] [.ptr 1 0])] [(0,.cells [.mp 2,.mp 3,.mp 4,.mp 5] false),(1,.cells [.hole .str] false),(2,.map .str false tG true),(3,.map .str false (.list .str) false),(4,.map .str false .bool false),(5,.map .str false .bool false)] [.slot 0,.part 1 0,.cell 0 0,.cell 0 1,.cell 0 2,.cell 0 3] []
@[reducible] def qH67:Pat:=Pat.mk [(0,.c (.sl0 6 tI))] [(6,.arr tI false),(0,.cells [.mp 2,.mp 3,.mp 4,.mp 5] false),(2,.map .str false tG true),(3,.map .str false (.list .str) false),(4,.map .str false .bool false),(5,.map .str false .bool false),(1,.cells [.hole .str] false)] [.slot 0] []
noncomputable def cxH67:Cx:=(mkCxH [ct68] [ht100,ht79,ht95,ht81,ht76,ht101,ht102])
theorem cxH67_ok:cxH67.Ok prog:=mkCxH_ok ⟨ct68_ok,trivial⟩ ⟨⟨ht100_ok,rfl⟩,⟨ht79_ok,rfl⟩,⟨ht95_ok,rfl⟩,⟨ht81_ok,rfl⟩,⟨ht76_ok,rfl⟩,⟨ht101_ok,rfl⟩,⟨ht102_ok,rfl⟩,trivial⟩
noncomputable def adH67_0b_2:D prog 48 (some 26) 29:=dO [] (pick (kd prog f67) [(0,true),(0,false),(0,false)]) 0
noncomputable def bdH67_0b_2:D prog 48 (some 26) 29:=dO [] (pick (kd prog f67) [(0,true),(0,false),(0,true)]) 0
noncomputable def cxH67_0b_2i:Cx:=itCx cxH67 (fun kz=>rdK kz cxH67 ar0 26 29 [37] (adH67_0b_2) (bdH67_0b_2))
theorem cxH67_0b_2i_ok:(cxH67_0b_2i).Ok prog:=itCx_ok cxH67_ok (fun h=>rdK_ok mixed cxH67_ok h)
@[reducible] def pH67_0b_2i_0:Pat:=Pat.mk [(0,.c (.yl 26)),(4,.c (.mp 24))] [(26,.loop .ready none 11 [(2,.c (.ptr 6 0)),(3,.c (.ptr 7 0)),(5,.c (.ptr 8 0)),(8,.c (.ptr 21 0)),(11,.c (.ptr 22 0)),(21,.c (.sl0 20 .str)),(22,hI),(23,hI),(36,.fn 132 [] [.ptr 23 0])] [37] (.reg [.op (some 12) none (.mv (.t 37))]) (.block 5 (.reg [.op (some 38) none (.load false 1 (.t 8)),.op (some 39) none (.mv (.t 12)),.op (some 40) none (.load false 1 (.t 11)),.op (some 41) none (.bin .add (.t 39) (.t 40)),.call (some 42) none (.c (.fn 100 [] [])) [.t 38,.t 41] [none,some tI]])) 48),(24,.map tI false .unit true),(11,.dfr),(6,.cells [.ptr 0 0] false),(0,.cells [.mp 2,.mp 3,.mp 4,.mp 5] false),(2,.map .str false tG true),(3,.map .str false (.list .str) false),(4,.map .str false .bool false),(5,.map .str false .bool false),(7,.cells [.fn 68 .nil (.cons (.ptr 1 0) .nil)] false),(1,.cells [.hole .str] false),(8,.cells [.mp 24] false),(21,.cells [.mp 27] false),(22,.cells [.hole tI] false),(20,.arr .str false),(23,.cells [.mp 24] false),(9,.cells [.ptr 0 0] false),(12,.loop .busy none 11 [(2,.c (.ptr 6 0)),(3,.c (.ptr 7 0)),(4,.c .nsl),(5,.c (.ptr 8 0)),(17,.fn 106 [] [.ptr 9 0])] [18,19] (.reg [.op (some 7) none (.mv (.t 19))]) (.block 1 (.seq (.reg [.op (some 20) none (.ex (Xop.mkmap tI false .unit true) []),.op (some 8) none (.alloc [.nilm]),.op none none (.store 1 (.t 8) (.t 20))]) (.seq (.seq (.reg [.op (some 21) none (.mv (.t 7)),.op (some 22) none (.len (.t 21)),.op (some 23) none (.mv (.c (.int .i64 (Int.ofNat 0))))]) (.block 2 (.loop (.seq (.reg [.op (some 24) none (.bin .lss (.t 23) (.t 22))]) (.seq (.cond (.t 24) .skip (.exit 2)) (.seq (.block 3 (.seq (.reg [.op (some 25) none (.idx 1 (.t 21) (.t 23)),.op (some 26) none (.load false 1 (.t 25)),.op (some 10) none (.mv (.t 26))]) (.seq (.draw [[],[],[1],[1,2],[1,2,3],[],[1,2,3,4,5],[0,1,2,3,4,5,6],[],[0,1,2,3,4,5,6,7,8]] [.op (some 27) none (.load false 1 (.t 3)),.op (some 28) none (.load false 1 (.t 2)),.op (some 29) none (.ex Xop.nchk [.t 28]),.op (some 30) none (.fld 0 [false] (.t 29)),.op (some 31) none (.load false 1 (.t 30)),.op (some 32) none (.mv (.t 10)),.op (some 33) none (.ex (Xop.mget .str false tG true false) [.t 31,.t 32]),.call (some 34) none (.t 27) [.t 33] [some tG],.op (some 11) none (.alloc [.int .i64 (Int.ofNat 0)]),.op none none (.store 1 (.t 11) (.t 34))]) (.seq (.reg [.op (some 35) none (.load false 1 (.t 5)),.call (some 36) none (.c (.fn 101 [] [])) [.t 35] [none]]) (.block 4 (.rangeF (.t 36) [37] (.reg [.op (some 12) none (.mv (.t 37))]) (.block 5 (.reg [.op (some 38) none (.load false 1 (.t 8)),.op (some 39) none (.mv (.t 12)),.op (some 40) none (.load false 1 (.t 11)),.op (some 41) none (.bin .add (.t 39) (.t 40)),.call (some 42) none (.c (.fn 100 [] [])) [.t 38,.t 41] [none,some tI]])))))))) (.reg [.op (some 43) none (.bin .add (.t 23) (.c (.int .i64 (Int.ofNat 1)))),.op (some 23) none (.mv (.t 43))]))))))) (.reg [.op (some 44) none (.load false 1 (.t 8)),.op none none (.store 1 (.t 5) (.t 44))])))) 48),(13,.arr .str false),(27,.map tI false .unit true)] [.cell 21 0] []
noncomputable def bH67_0b_2i_0:D prog 14 none 29:=dO [] (pick (kd prog f132) [(0,false)]) 0
noncomputable def gH67_0b_2i_0:((Int)×(Unit))→Nat×Int×Int×(List (Int×Unit))×Tdm×Tdl×Tdb×Tdb×ByteArray×Int×List ByteArray×List ByteArray×(List (Int×Unit))×Unit→Tr0 (Nat×Int×Int×(List (Int×Unit))×Tdm×Tdl×Tdb×Tdb×ByteArray×Int×List ByteArray×List ByteArray×(List (Int×Unit))×Unit):=fun e (nw21,w22,w23,m24,m2,m3,m4,m5,c1_0,c22_0,b20,b13,m27,_) =>
 .ni (e.1+c22_0) <|
 .bd (FH100 (e.1+c22_0) m27) fun y7 =>
 .nd (sameD m24 m24) <|
 .ret (nw21,w22,w23,m24,m2,m3,m4,m5,c1_0,c22_0,b20,b13,y7.1,())
noncomputable def MH67_0b_2i_0:MapS prog 14 none 27:=mkMapR0 mixed cxH67_0b_2i cxH67_0b_2i_ok [0,1,2,3,4,5,6,7,8,9,10,11,12,13,14,15,16,17,18,19,20,21,22,23,24,25,26] rfl pH67_0b_2i_0 ( [.op (some 4) none (.load false 1 (.t 1))]) 4 5 [6,7] (some 8) ( .int .i64)  false ( .unit)  true 0 rfl 29 rfl (bH67_0b_2i_0) (fun e x=>run0 (gH67_0b_2i_0 e x)) (fun e=>fun x=>by kernel_rfl)
@[reducible] def pH67_0b_2:Pat:=Pat.mk [(2,.c (.ptr 6 0)),(3,.c (.ptr 7 0)),(5,.c (.ptr 8 0)),(8,.c (.ptr 21 0)),(11,.c (.ptr 22 0)),(21,.c (.sl0 20 .str)),(22,hI),(23,hI),(36,.fn 132 [] [.ptr 23 0])] [(6,.cells [.ptr 0 0] false),(7,.cells [.fn 68 .nil (.cons (.ptr 1 0) .nil)] false),(8,.cells [.mp 24] false),(21,.cells [.mp 25] false),(22,.cells [.hole tI] false),(20,.arr .str false),(23,.cells [.mp 24] false),(0,.cells [.mp 2,.mp 3,.mp 4,.mp 5] false),(2,.map .str false tG true),(3,.map .str false (.list .str) false),(4,.map .str false .bool false),(5,.map .str false .bool false),(1,.cells [.hole .str] false),(9,.cells [.ptr 0 0] false),(11,.dfr),(12,.loop .busy none 11 [(2,.c (.ptr 6 0)),(3,.c (.ptr 7 0)),(4,.c .nsl),(5,.c (.ptr 8 0)),(17,.fn 106 [] [.ptr 9 0])] [18,19] (.reg [.op (some 7) none (.mv (.t 19))]) (.block 1 (.seq (.reg [.op (some 20) none (.ex (Xop.mkmap tI false .unit true) []),.op (some 8) none (.alloc [.nilm]),.op none none (.store 1 (.t 8) (.t 20))]) (.seq (.seq (.reg [.op (some 21) none (.mv (.t 7)),.op (some 22) none (.len (.t 21)),.op (some 23) none (.mv (.c (.int .i64 (Int.ofNat 0))))]) (.block 2 (.loop (.seq (.reg [.op (some 24) none (.bin .lss (.t 23) (.t 22))]) (.seq (.cond (.t 24) .skip (.exit 2)) (.seq (.block 3 (.seq (.reg [.op (some 25) none (.idx 1 (.t 21) (.t 23)),.op (some 26) none (.load false 1 (.t 25)),.op (some 10) none (.mv (.t 26))]) (.seq (.draw [[],[],[1],[1,2],[1,2,3],[],[1,2,3,4,5],[0,1,2,3,4,5,6],[],[0,1,2,3,4,5,6,7,8]] [.op (some 27) none (.load false 1 (.t 3)),.op (some 28) none (.load false 1 (.t 2)),.op (some 29) none (.ex Xop.nchk [.t 28]),.op (some 30) none (.fld 0 [false] (.t 29)),.op (some 31) none (.load false 1 (.t 30)),.op (some 32) none (.mv (.t 10)),.op (some 33) none (.ex (Xop.mget .str false tG true false) [.t 31,.t 32]),.call (some 34) none (.t 27) [.t 33] [some tG],.op (some 11) none (.alloc [.int .i64 (Int.ofNat 0)]),.op none none (.store 1 (.t 11) (.t 34))]) (.seq (.reg [.op (some 35) none (.load false 1 (.t 5)),.call (some 36) none (.c (.fn 101 [] [])) [.t 35] [none]]) (.block 4 (.rangeF (.t 36) [37] (.reg [.op (some 12) none (.mv (.t 37))]) (.block 5 (.reg [.op (some 38) none (.load false 1 (.t 8)),.op (some 39) none (.mv (.t 12)),.op (some 40) none (.load false 1 (.t 11)),.op (some 41) none (.bin .add (.t 39) (.t 40)),.call (some 42) none (.c (.fn 100 [] [])) [.t 38,.t 41] [none,some tI]])))))))) (.reg [.op (some 43) none (.bin .add (.t 23) (.c (.int .i64 (Int.ofNat 1)))),.op (some 23) none (.mv (.t 43))]))))))) (.reg [.op (some 44) none (.load false 1 (.t 8)),.op none none (.store 1 (.t 5) (.t 44))])))) 48),(13,.arr .str false),(24,.map tI false .unit true),(25,.map tI false .unit true)] [.slot 8,.slot 11,.part 36 0,.cell 8 0,.cell 21 0] []
@[reducible] def xH67_0b_2:Outs:=[(.normal,Pat.mk [(2,.c (.ptr 6 0)),(3,.c (.ptr 7 0)),(5,.c (.ptr 8 0)),(8,.c (.ptr 21 0)),(21,.c (.sl0 20 .str)),(22,hI),(23,hI)] [(6,.cells [.ptr 0 0] false),(7,.cells [.fn 68 .nil (.cons (.ptr 1 0) .nil)] false),(8,.cells [.mp 22] false),(21,.cells [.mp 23] false),(20,.arr .str false),(0,.cells [.mp 2,.mp 3,.mp 4,.mp 5] false),(2,.map .str false tG true),(3,.map .str false (.list .str) false),(4,.map .str false .bool false),(5,.map .str false .bool false),(1,.cells [.hole .str] false),(9,.cells [.ptr 0 0] false),(11,.dfr),(12,.loop .busy none 11 [(2,.c (.ptr 6 0)),(3,.c (.ptr 7 0)),(4,.c .nsl),(5,.c (.ptr 8 0)),(17,.fn 106 [] [.ptr 9 0])] [18,19] (.reg [.op (some 7) none (.mv (.t 19))]) (.block 1 (.seq (.reg [.op (some 20) none (.ex (Xop.mkmap tI false .unit true) []),.op (some 8) none (.alloc [.nilm]),.op none none (.store 1 (.t 8) (.t 20))]) (.seq (.seq (.reg [.op (some 21) none (.mv (.t 7)),.op (some 22) none (.len (.t 21)),.op (some 23) none (.mv (.c (.int .i64 (Int.ofNat 0))))]) (.block 2 (.loop (.seq (.reg [.op (some 24) none (.bin .lss (.t 23) (.t 22))]) (.seq (.cond (.t 24) .skip (.exit 2)) (.seq (.block 3 (.seq (.reg [.op (some 25) none (.idx 1 (.t 21) (.t 23)),.op (some 26) none (.load false 1 (.t 25)),.op (some 10) none (.mv (.t 26))]) (.seq (.draw [[],[],[1],[1,2],[1,2,3],[],[1,2,3,4,5],[0,1,2,3,4,5,6],[],[0,1,2,3,4,5,6,7,8]] [.op (some 27) none (.load false 1 (.t 3)),.op (some 28) none (.load false 1 (.t 2)),.op (some 29) none (.ex Xop.nchk [.t 28]),.op (some 30) none (.fld 0 [false] (.t 29)),.op (some 31) none (.load false 1 (.t 30)),.op (some 32) none (.mv (.t 10)),.op (some 33) none (.ex (Xop.mget .str false tG true false) [.t 31,.t 32]),.call (some 34) none (.t 27) [.t 33] [some tG],.op (some 11) none (.alloc [.int .i64 (Int.ofNat 0)]),.op none none (.store 1 (.t 11) (.t 34))]) (.seq (.reg [.op (some 35) none (.load false 1 (.t 5)),.call (some 36) none (.c (.fn 101 [] [])) [.t 35] [none]]) (.block 4 (.rangeF (.t 36) [37] (.reg [.op (some 12) none (.mv (.t 37))]) (.block 5 (.reg [.op (some 38) none (.load false 1 (.t 8)),.op (some 39) none (.mv (.t 12)),.op (some 40) none (.load false 1 (.t 11)),.op (some 41) none (.bin .add (.t 39) (.t 40)),.call (some 42) none (.c (.fn 100 [] [])) [.t 38,.t 41] [none,some tI]])))))))) (.reg [.op (some 43) none (.bin .add (.t 23) (.c (.int .i64 (Int.ofNat 1)))),.op (some 23) none (.mv (.t 43))]))))))) (.reg [.op (some 44) none (.load false 1 (.t 8)),.op none none (.store 1 (.t 5) (.t 44))])))) 48),(13,.arr .str false),(22,.map tI false .unit true),(23,.map tI false .unit true)] [.slot 8,.cell 8 0,.cell 21 0] [])]
noncomputable def bH67_0b_2i:D prog 14 none 27:=dO [.m MH67_0b_2i_0] (kd prog f132) 0
theorem ciH67_0b_2:trF prog f132=some ⟨14,2,(bH67_0b_2i).er,[],[]⟩:=by kernel_rfl
noncomputable def gH67_0b_2:Nat×Int×Int×Int×List ByteArray×Tdm×Tdl×Tdb×Tdb×ByteArray×List ByteArray×(List (Int×Unit))×(List (Int×Unit))×Unit→Tr0 ((Nat×Int×Int×List ByteArray×Tdm×Tdl×Tdb×Tdb×ByteArray×List ByteArray×(List (Int×Unit))×(List (Int×Unit))×Unit)):=fun (nv21,v22,v23,c22_0,b20,m2,m3,m4,m5,c1_0,b13,m24,m25,_) =>
 .bd (.mq gH67_0b_2i_0 m24 (nv21,v22,v23,m24,m2,m3,m4,m5,c1_0,c22_0,b20,b13,m25,())) fun z8 =>
 .ret ((nv21,v22,v23,z8.2.2.2.2.2.2.2.2.2.2.1,z8.2.2.2.2.1,z8.2.2.2.2.2.1,z8.2.2.2.2.2.2.1,z8.2.2.2.2.2.2.2.1,z8.2.2.2.2.2.2.2.2.1,z8.2.2.2.2.2.2.2.2.2.2.2.1,z8.2.2.2.1,z8.2.2.2.2.2.2.2.2.2.2.2.2.1,()))
noncomputable def RH67_0b_2:RangeS prog 48 (some 12) 21:=mkRange mixed cxH67_0b_2i cxH67_0b_2i_ok [0,1,2,3,4,5,6,7,8,9,10,11,12,13,14,15,16,17,18,19,20] rfl pH67_0b_2 xH67_0b_2 ( .t 36) [37] rfl (adH67_0b_2).er (bdH67_0b_2).er 132 func132 (ciH67_0b_2) (enters_of func132 rfl rfl) 27 rfl (bH67_0b_2i) rfl (fun x=>run0 (gH67_0b_2 x)) (fun x=>by kernel_rfl)
@[reducible] def pH67_0b_1:Pat:=Pat.mk [(2,.c (.ptr 6 0)),(3,.c (.ptr 7 0)),(5,.c (.ptr 8 0)),(8,.c (.ptr 21 0)),(21,.c (.sl0 20 .str)),(22,hI),(23,hI)] [(6,.cells [.ptr 0 0] false),(7,.cells [.fn 68 .nil (.cons (.ptr 1 0) .nil)] false),(8,.cells [.mp 22] false),(21,.cells [.mp 23] false),(20,.arr .str false),(0,.cells [.mp 2,.mp 3,.mp 4,.mp 5] false),(2,.map .str false tG true),(3,.map .str false (.list .str) false),(4,.map .str false .bool false),(5,.map .str false .bool false),(1,.cells [.hole .str] false),(9,.cells [.ptr 0 0] false),(11,.dfr),(12,.loop .busy none 11 [(2,.c (.ptr 6 0)),(3,.c (.ptr 7 0)),(4,.c .nsl),(5,.c (.ptr 8 0)),(17,.fn 106 [] [.ptr 9 0])] [18,19] (.reg [.op (some 7) none (.mv (.t 19))]) (.block 1 (.seq (.reg [.op (some 20) none (.ex (Xop.mkmap tI false .unit true) []),.op (some 8) none (.alloc [.nilm]),.op none none (.store 1 (.t 8) (.t 20))]) (.seq (.seq (.reg [.op (some 21) none (.mv (.t 7)),.op (some 22) none (.len (.t 21)),.op (some 23) none (.mv (.c (.int .i64 (Int.ofNat 0))))]) (.block 2 (.loop (.seq (.reg [.op (some 24) none (.bin .lss (.t 23) (.t 22))]) (.seq (.cond (.t 24) .skip (.exit 2)) (.seq (.block 3 (.seq (.reg [.op (some 25) none (.idx 1 (.t 21) (.t 23)),.op (some 26) none (.load false 1 (.t 25)),.op (some 10) none (.mv (.t 26))]) (.seq (.draw [[],[],[1],[1,2],[1,2,3],[],[1,2,3,4,5],[0,1,2,3,4,5,6],[],[0,1,2,3,4,5,6,7,8]] [.op (some 27) none (.load false 1 (.t 3)),.op (some 28) none (.load false 1 (.t 2)),.op (some 29) none (.ex Xop.nchk [.t 28]),.op (some 30) none (.fld 0 [false] (.t 29)),.op (some 31) none (.load false 1 (.t 30)),.op (some 32) none (.mv (.t 10)),.op (some 33) none (.ex (Xop.mget .str false tG true false) [.t 31,.t 32]),.call (some 34) none (.t 27) [.t 33] [some tG],.op (some 11) none (.alloc [.int .i64 (Int.ofNat 0)]),.op none none (.store 1 (.t 11) (.t 34))]) (.seq (.reg [.op (some 35) none (.load false 1 (.t 5)),.call (some 36) none (.c (.fn 101 [] [])) [.t 35] [none]]) (.block 4 (.rangeF (.t 36) [37] (.reg [.op (some 12) none (.mv (.t 37))]) (.block 5 (.reg [.op (some 38) none (.load false 1 (.t 8)),.op (some 39) none (.mv (.t 12)),.op (some 40) none (.load false 1 (.t 11)),.op (some 41) none (.bin .add (.t 39) (.t 40)),.call (some 42) none (.c (.fn 100 [] [])) [.t 38,.t 41] [none,some tI]])))))))) (.reg [.op (some 43) none (.bin .add (.t 23) (.c (.int .i64 (Int.ofNat 1)))),.op (some 23) none (.mv (.t 43))]))))))) (.reg [.op (some 44) none (.load false 1 (.t 8)),.op none none (.store 1 (.t 5) (.t 44))])))) 48),(13,.arr .str false),(22,.map tI false .unit true),(23,.map tI false .unit true)] [.slot 8,.cell 8 0,.cell 21 0] []
@[reducible] def xH67_0b_1:Outs:=[(.exit 2,Pat.mk [(5,.c (.ptr 8 0)),(8,.c (.ptr 21 0))] [(8,.cells [.mp 22] false),(21,.cells [.mp 23] false),(0,.cells [.mp 2,.mp 3,.mp 4,.mp 5] false),(2,.map .str false tG true),(3,.map .str false (.list .str) false),(4,.map .str false .bool false),(5,.map .str false .bool false),(1,.cells [.hole .str] false),(6,.cells [.ptr 0 0] false),(7,.cells [.fn 68 .nil (.cons (.ptr 1 0) .nil)] false),(9,.cells [.ptr 0 0] false),(11,.dfr),(12,.loop .busy none 11 [(2,.c (.ptr 6 0)),(3,.c (.ptr 7 0)),(4,.c .nsl),(5,.c (.ptr 8 0)),(17,.fn 106 [] [.ptr 9 0])] [18,19] (.reg [.op (some 7) none (.mv (.t 19))]) (.block 1 (.seq (.reg [.op (some 20) none (.ex (Xop.mkmap tI false .unit true) []),.op (some 8) none (.alloc [.nilm]),.op none none (.store 1 (.t 8) (.t 20))]) (.seq (.seq (.reg [.op (some 21) none (.mv (.t 7)),.op (some 22) none (.len (.t 21)),.op (some 23) none (.mv (.c (.int .i64 (Int.ofNat 0))))]) (.block 2 (.loop (.seq (.reg [.op (some 24) none (.bin .lss (.t 23) (.t 22))]) (.seq (.cond (.t 24) .skip (.exit 2)) (.seq (.block 3 (.seq (.reg [.op (some 25) none (.idx 1 (.t 21) (.t 23)),.op (some 26) none (.load false 1 (.t 25)),.op (some 10) none (.mv (.t 26))]) (.seq (.draw [[],[],[1],[1,2],[1,2,3],[],[1,2,3,4,5],[0,1,2,3,4,5,6],[],[0,1,2,3,4,5,6,7,8]] [.op (some 27) none (.load false 1 (.t 3)),.op (some 28) none (.load false 1 (.t 2)),.op (some 29) none (.ex Xop.nchk [.t 28]),.op (some 30) none (.fld 0 [false] (.t 29)),.op (some 31) none (.load false 1 (.t 30)),.op (some 32) none (.mv (.t 10)),.op (some 33) none (.ex (Xop.mget .str false tG true false) [.t 31,.t 32]),.call (some 34) none (.t 27) [.t 33] [some tG],.op (some 11) none (.alloc [.int .i64 (Int.ofNat 0)]),.op none none (.store 1 (.t 11) (.t 34))]) (.seq (.reg [.op (some 35) none (.load false 1 (.t 5)),.call (some 36) none (.c (.fn 101 [] [])) [.t 35] [none]]) (.block 4 (.rangeF (.t 36) [37] (.reg [.op (some 12) none (.mv (.t 37))]) (.block 5 (.reg [.op (some 38) none (.load false 1 (.t 8)),.op (some 39) none (.mv (.t 12)),.op (some 40) none (.load false 1 (.t 11)),.op (some 41) none (.bin .add (.t 39) (.t 40)),.call (some 42) none (.c (.fn 100 [] [])) [.t 38,.t 41] [none,some tI]])))))))) (.reg [.op (some 43) none (.bin .add (.t 23) (.c (.int .i64 (Int.ofNat 1)))),.op (some 23) none (.mv (.t 43))]))))))) (.reg [.op (some 44) none (.load false 1 (.t 8)),.op none none (.store 1 (.t 5) (.t 44))])))) 48),(13,.arr .str false),(20,.arr .str false),(22,.map tI false .unit true),(23,.map tI false .unit true)] [.slot 8,.cell 8 0,.cell 21 0] [])]
noncomputable def bH67_0b_1:D prog 48 (some 12) 21:=dO [.r RH67_0b_2] (pick (kd prog f67) [(0,true),(0,false)]) 0
noncomputable def gH67_0b_1:Nat×Int×Int×List ByteArray×Tdm×Tdl×Tdb×Tdb×ByteArray×List ByteArray×(List (Int×Unit))×(List (Int×Unit))×Unit→Tr0 ((Nat×Int×Int×List ByteArray×Tdm×Tdl×Tdb×Tdb×ByteArray×List ByteArray×(List (Int×Unit))×(List (Int×Unit))×Unit) ⊕ ((Tdm×Tdl×Tdb×Tdb×ByteArray×List ByteArray×List ByteArray×(List (Int×Unit))×(List (Int×Unit))×Unit))):=fun (nv21,v22,v23,b20,m2,m3,m4,m5,c1_0,b13,m22,m23,_) =>
 .br (decide (v23<v22)) (
 .nb v23 ((nv21:Nat):Int) <|
 .nd (decide (((0:Nat)+(Int.toNat v23))<(b20).length)) <|
 .bd (F68 ((mgetL .str ((bs []),(0:Int),(bs []),(bs []),(0:Int)) m2 ((b20).getD ((0:Nat)+(Int.toNat v23)) (bs []))).1,(mgetL .str ((bs []),(0:Int),(bs []),(bs []),(0:Int)) m2 ((b20).getD ((0:Nat)+(Int.toNat v23)) (bs []))).2.1,(mgetL .str ((bs []),(0:Int),(bs []),(bs []),(0:Int)) m2 ((b20).getD ((0:Nat)+(Int.toNat v23)) (bs []))).2.2.1,(mgetL .str ((bs []),(0:Int),(bs []),(bs []),(0:Int)) m2 ((b20).getD ((0:Nat)+(Int.toNat v23)) (bs []))).2.2.2.1,(mgetL .str ((bs []),(0:Int),(bs []),(bs []),(0:Int)) m2 ((b20).getD ((0:Nat)+(Int.toNat v23)) (bs []))).2.2.2.2) c1_0) fun y5 =>
 .bd (FH101 m22) fun y6 =>
 .bd (gH67_0b_2 (nv21,v22,v23,y5.1,b20,m2,m3,m4,m5,c1_0,b13,y6.1,m23,())) fun z9 =>
 .ni (z9.2.2.1+(1:Int)) <|
 .ret (.inl (z9.1,z9.2.1,(z9.2.2.1+(1:Int)),z9.2.2.2.1,z9.2.2.2.2.1,z9.2.2.2.2.2.1,z9.2.2.2.2.2.2.1,z9.2.2.2.2.2.2.2.1,z9.2.2.2.2.2.2.2.2.1,z9.2.2.2.2.2.2.2.2.2.1,z9.2.2.2.2.2.2.2.2.2.2.1,z9.2.2.2.2.2.2.2.2.2.2.2.1,()))) (
 .ret (.inr (m2,m3,m4,m5,c1_0,b13,b20,m22,m23,())))
noncomputable def LH67_0b_1:LoopS prog 48 (some 12) 21:=mkLoop mixed cxH67 cxH67_ok [0,1,2,3,4,5,6,7,8,9,10,11,12,13,14,15,16,17,18,19,20] rfl pH67_0b_1 xH67_0b_1 rfl (bH67_0b_1) (fun x=>run0 (gH67_0b_1 x)) (fun x=>by kernel_rfl)
noncomputable def adH67_0:D prog 48 (some 12) 21:=dO [] (pick (kd prog f67) [(0,false)]) 0
noncomputable def bdH67_0:D prog 48 (some 12) 21:=dO [.l LH67_0b_1] (pick (kd prog f67) [(0,true)]) 0
noncomputable def cxH67_0i:Cx:=itCx cxH67 (fun kz=>rdK kz cxH67 ar0 12 21 [18,19] (adH67_0) (bdH67_0))
theorem cxH67_0i_ok:(cxH67_0i).Ok prog:=itCx_ok cxH67_ok (fun h=>rdK_ok mixed cxH67_ok h)
@[reducible] def pH67_0i_0:Pat:=Pat.mk [(0,.c (.yl 12)),(1,.c (.ptr 9 0)),(10,.c (.sl0 13 .str)),(11,hI),(12,hI)] [(12,.loop .ready none 11 [(2,.c (.ptr 6 0)),(3,.c (.ptr 7 0)),(4,.c .nsl),(5,.c (.ptr 8 0)),(17,.fn 106 [] [.ptr 9 0])] [18,19] (.reg [.op (some 7) none (.mv (.t 19))]) (.block 1 (.seq (.reg [.op (some 20) none (.ex (Xop.mkmap tI false .unit true) []),.op (some 8) none (.alloc [.nilm]),.op none none (.store 1 (.t 8) (.t 20))]) (.seq (.seq (.reg [.op (some 21) none (.mv (.t 7)),.op (some 22) none (.len (.t 21)),.op (some 23) none (.mv (.c (.int .i64 (Int.ofNat 0))))]) (.block 2 (.loop (.seq (.reg [.op (some 24) none (.bin .lss (.t 23) (.t 22))]) (.seq (.cond (.t 24) .skip (.exit 2)) (.seq (.block 3 (.seq (.reg [.op (some 25) none (.idx 1 (.t 21) (.t 23)),.op (some 26) none (.load false 1 (.t 25)),.op (some 10) none (.mv (.t 26))]) (.seq (.draw [[],[],[1],[1,2],[1,2,3],[],[1,2,3,4,5],[0,1,2,3,4,5,6],[],[0,1,2,3,4,5,6,7,8]] [.op (some 27) none (.load false 1 (.t 3)),.op (some 28) none (.load false 1 (.t 2)),.op (some 29) none (.ex Xop.nchk [.t 28]),.op (some 30) none (.fld 0 [false] (.t 29)),.op (some 31) none (.load false 1 (.t 30)),.op (some 32) none (.mv (.t 10)),.op (some 33) none (.ex (Xop.mget .str false tG true false) [.t 31,.t 32]),.call (some 34) none (.t 27) [.t 33] [some tG],.op (some 11) none (.alloc [.int .i64 (Int.ofNat 0)]),.op none none (.store 1 (.t 11) (.t 34))]) (.seq (.reg [.op (some 35) none (.load false 1 (.t 5)),.call (some 36) none (.c (.fn 101 [] [])) [.t 35] [none]]) (.block 4 (.rangeF (.t 36) [37] (.reg [.op (some 12) none (.mv (.t 37))]) (.block 5 (.reg [.op (some 38) none (.load false 1 (.t 8)),.op (some 39) none (.mv (.t 12)),.op (some 40) none (.load false 1 (.t 11)),.op (some 41) none (.bin .add (.t 39) (.t 40)),.call (some 42) none (.c (.fn 100 [] [])) [.t 38,.t 41] [none,some tI]])))))))) (.reg [.op (some 43) none (.bin .add (.t 23) (.c (.int .i64 (Int.ofNat 1)))),.op (some 23) none (.mv (.t 43))]))))))) (.reg [.op (some 44) none (.load false 1 (.t 8)),.op none none (.store 1 (.t 5) (.t 44))])))) 48),(9,.cells [.ptr 0 0] false),(13,.arr .str false),(11,.dfr),(6,.cells [.ptr 0 0] false),(0,.cells [.mp 2,.mp 3,.mp 4,.mp 5] false),(2,.map .str false tG true),(3,.map .str false (.list .str) false),(4,.map .str false .bool false),(5,.map .str false .bool false),(7,.cells [.fn 68 .nil (.cons (.ptr 1 0) .nil)] false),(1,.cells [.hole .str] false),(8,.cells [.mp 14] false),(14,.map tI false .unit true)] [.slot 10,.cell 8 0] []
@[reducible] def xH67_0i_0:Outs:=[(.exit 0,Pat.mk [] [(0,.cells [.mp 2,.mp 3,.mp 4,.mp 5] false),(2,.map .str false tG true),(3,.map .str false (.list .str) false),(4,.map .str false .bool false),(5,.map .str false .bool false),(1,.cells [.hole .str] false),(6,.cells [.ptr 0 0] false),(7,.cells [.fn 68 .nil (.cons (.ptr 1 0) .nil)] false),(8,.cells [.mp 13] false),(9,.cells [.ptr 0 0] false),(11,.dfr),(12,.loop .ready none 11 [(2,.c (.ptr 6 0)),(3,.c (.ptr 7 0)),(4,.c .nsl),(5,.c (.ptr 8 0)),(17,.fn 106 [] [.ptr 9 0])] [18,19] (.reg [.op (some 7) none (.mv (.t 19))]) (.block 1 (.seq (.reg [.op (some 20) none (.ex (Xop.mkmap tI false .unit true) []),.op (some 8) none (.alloc [.nilm]),.op none none (.store 1 (.t 8) (.t 20))]) (.seq (.seq (.reg [.op (some 21) none (.mv (.t 7)),.op (some 22) none (.len (.t 21)),.op (some 23) none (.mv (.c (.int .i64 (Int.ofNat 0))))]) (.block 2 (.loop (.seq (.reg [.op (some 24) none (.bin .lss (.t 23) (.t 22))]) (.seq (.cond (.t 24) .skip (.exit 2)) (.seq (.block 3 (.seq (.reg [.op (some 25) none (.idx 1 (.t 21) (.t 23)),.op (some 26) none (.load false 1 (.t 25)),.op (some 10) none (.mv (.t 26))]) (.seq (.draw [[],[],[1],[1,2],[1,2,3],[],[1,2,3,4,5],[0,1,2,3,4,5,6],[],[0,1,2,3,4,5,6,7,8]] [.op (some 27) none (.load false 1 (.t 3)),.op (some 28) none (.load false 1 (.t 2)),.op (some 29) none (.ex Xop.nchk [.t 28]),.op (some 30) none (.fld 0 [false] (.t 29)),.op (some 31) none (.load false 1 (.t 30)),.op (some 32) none (.mv (.t 10)),.op (some 33) none (.ex (Xop.mget .str false tG true false) [.t 31,.t 32]),.call (some 34) none (.t 27) [.t 33] [some tG],.op (some 11) none (.alloc [.int .i64 (Int.ofNat 0)]),.op none none (.store 1 (.t 11) (.t 34))]) (.seq (.reg [.op (some 35) none (.load false 1 (.t 5)),.call (some 36) none (.c (.fn 101 [] [])) [.t 35] [none]]) (.block 4 (.rangeF (.t 36) [37] (.reg [.op (some 12) none (.mv (.t 37))]) (.block 5 (.reg [.op (some 38) none (.load false 1 (.t 8)),.op (some 39) none (.mv (.t 12)),.op (some 40) none (.load false 1 (.t 11)),.op (some 41) none (.bin .add (.t 39) (.t 40)),.call (some 42) none (.c (.fn 100 [] [])) [.t 38,.t 41] [none,some tI]])))))))) (.reg [.op (some 43) none (.bin .add (.t 23) (.c (.int .i64 (Int.ofNat 1)))),.op (some 23) none (.mv (.t 43))]))))))) (.reg [.op (some 44) none (.load false 1 (.t 8)),.op none none (.store 1 (.t 5) (.t 44))])))) 48),(13,.map tI false .unit true)] [.cell 8 0] [])]
noncomputable def bH67_0i_0:D prog 34 none 13:=dO [] (pick (kd prog f106) [(0,false)]) 0
noncomputable def gH67_0i_0:Nat×Int×Int×List ByteArray×Tdm×Tdl×Tdb×Tdb×ByteArray×(List (Int×Unit))×Unit→Tr0 ((Nat×Int×Int×List ByteArray×Tdm×Tdl×Tdb×Tdb×ByteArray×(List (Int×Unit))×Unit) ⊕ ((Tdm×Tdl×Tdb×Tdb×ByteArray×(List (Int×Unit))×Unit))):=fun (nv10,v11,v12,b13,m2,m3,m4,m5,c1_0,m14,_) =>
 .br (decide (v12<v11)) (
 .nb v12 ((nv10:Nat):Int) <|
 .nd (decide (((0:Nat)+(Int.toNat v12))<(b13).length)) <|
 .br ((mgetL .str ((bs []),(0:Int),(bs []),(bs []),(0:Int)) m2 ((b13).getD ((0:Nat)+(Int.toNat v12)) (bs []))).2.1==(1:Int)) (
 .bd (FH76fix ((b13).getD ((0:Nat)+(Int.toNat v12)) (bs [])) m2 m3 m4 m5) fun y4 =>
 .bd (.it gH67_0b_1 (y4.1,((y4.1:Nat):Int),(0:Int),y4.2.1,y4.2.2.1,y4.2.2.2.1,y4.2.2.2.2.1,y4.2.2.2.2.2.1,c1_0,b13,m14,[],())) fun z10 =>
 .ni (v12+(1:Int)) <|
 .ret (.inl (nv10,v11,(v12+(1:Int)),z10.2.2.2.2.2.1,z10.1,z10.2.1,z10.2.2.1,z10.2.2.2.1,z10.2.2.2.2.1,z10.2.2.2.2.2.2.2.2.1,()))) (
 .ni (v12+(1:Int)) <|
 .ret (.inl (nv10,v11,(v12+(1:Int)),b13,m2,m3,m4,m5,c1_0,m14,())))) (
 .ret (.inr (m2,m3,m4,m5,c1_0,m14,())))
noncomputable def LH67_0i_0:LoopS prog 34 none 13:=mkLoop mixed cxH67_0i cxH67_0i_ok [0,1,2,3,4,5,6,7,8,9,10,11,12] rfl pH67_0i_0 xH67_0i_0 rfl (bH67_0i_0) (fun x=>run0 (gH67_0i_0 x)) (fun x=>by kernel_rfl)
@[reducible] def pH67_0:Pat:=Pat.mk [(2,.c (.ptr 6 0)),(3,.c (.ptr 7 0)),(4,.c .nsl),(5,.c (.ptr 8 0)),(17,.fn 106 [] [.ptr 9 0])] [(6,.cells [.ptr 0 0] false),(7,.cells [.fn 68 .nil (.cons (.ptr 1 0) .nil)] false),(8,.cells [.mp 10] false),(9,.cells [.ptr 0 0] false),(0,.cells [.mp 2,.mp 3,.mp 4,.mp 5] false),(2,.map .str false tG true),(3,.map .str false (.list .str) false),(4,.map .str false .bool false),(5,.map .str false .bool false),(1,.cells [.hole .str] false),(10,.map tI false .unit true)] [.slot 2,.slot 3,.slot 5,.part 17 0,.cell 8 0] []
@[reducible] def xH67_0:Outs:=[(.normal,Pat.mk [(5,.c (.ptr 6 0))] [(6,.cells [.mp 7] false),(0,.cells [.mp 2,.mp 3,.mp 4,.mp 5] false),(2,.map .str false tG true),(3,.map .str false (.list .str) false),(4,.map .str false .bool false),(5,.map .str false .bool false),(1,.cells [.hole .str] false),(7,.map tI false .unit true)] [.slot 5,.cell 6 0] [])]
noncomputable def bH67_0i:D prog 34 none 13:=dO [.l LH67_0i_0] (kd prog f106) 0
theorem ciH67_0:trF prog f106=some ⟨34,2,(bH67_0i).er,[],[]⟩:=by kernel_rfl
noncomputable def gH67_0:Tdm×Tdl×Tdb×Tdb×ByteArray×(List (Int×Unit))×Unit→Tr0 ((Tdm×Tdl×Tdb×Tdb×ByteArray×(List (Int×Unit))×Unit)):=fun (m2,m3,m4,m5,c1_0,m10,_) =>
 .bd (FH95 m2) fun y2 =>
 .bd (FH81 y2.1) fun y3 =>
 .bd (.it gH67_0i_0 (y3.1,((y3.1:Nat):Int),(0:Int),y3.2.1,y3.2.2.1,m3,m4,m5,c1_0,m10,())) fun z11 =>
 .ret ((z11.1,z11.2.1,z11.2.2.1,z11.2.2.2.1,z11.2.2.2.2.1,z11.2.2.2.2.2.1,()))
noncomputable def RH67_0:RangeS prog 48 none 6:=mkRange mixed cxH67_0i cxH67_0i_ok [0,1,2,3,4,5] rfl pH67_0 xH67_0 ( .t 17) [18,19] rfl (adH67_0).er (bdH67_0).er 106 func106 (ciH67_0) (enters_of func106 rfl rfl) 13 rfl (bH67_0i) rfl (fun x=>run0 (gH67_0 x)) (fun x=>by kernel_rfl)
noncomputable def ddH67:D prog 48 none 6:=dO [.r RH67_0] (kd prog f67) 0
noncomputable def FH67 (c1_0:ByteArray) (m2:Tdm) (m3:Tdl) (m4:Tdb) (m5:Tdb):Tr0 (Nat×List Int×Tdm×Tdl×Tdb×Tdb×ByteArray×Unit) :=
 .bd (FH100 (0:Int) []) fun y0 =>
 .bd (FH79 m2 m3 m4 m5) fun y1 =>
 .bd (gH67_0 (y1.1,y1.2.1,y1.2.2.1,y1.2.2.2.1,c1_0,y0.1,())) fun z12 =>
 .bd (FH101 z12.2.2.2.2.2.1) fun y13 =>
 .bd (FH102 y13.1) fun y14 =>
 .ret (y14.1,y14.2.1,z12.1,z12.2.1,z12.2.2.1,z12.2.2.2.1,z12.2.2.2.2.1,())
theorem cH67_ok:trF prog f67=some ⟨48,2,ddH67.er,[.t 4],[some tL]⟩:=by kernel_rfl
noncomputable def ht67:Ht:=⟨67,pH67,qH67,(fun x=>run0 (FH67 x.1 x.2.1 x.2.2.1 x.2.2.2.1 x.2.2.2.2.1))⟩
theorem ht67_ok:ht67.Ok prog:=ht_ok mixed cxH67_ok rfl func67 cH67_ok (enters_of func67 rfl rfl) ddH67 (by kernel_rfl) rfl rfl ⟨_,rfl⟩ rfl (pre:=[0,1,2,3,4,5]) rfl (fun x=>by kernel_rfl)

/- 23, lent -/
@[reducible] def pH23:Pat:=Pat.mk [(0,.c (.ptr 0 0)),(1,.c (.hole .str))] [(0,.cells [.mp 1] false),(1,.map tG true .bool false)] [.slot 0,.cell 0 0] []
@[reducible] def qH23:Pat:=Pat.mk [(0,.tup [.sl0 2 tI,.hole tI])] [(2,.arr tI false),(0,.cells [.mp 1] false),(1,.map tG true .bool false)] [.part 0 0] []
noncomputable def cxH23:Cx:=(mkCxH [ct65] [ht54,ht66,ht67])
theorem cxH23_ok:cxH23.Ok prog:=mkCxH_ok ⟨ct65_ok,trivial⟩ ⟨⟨ht54_ok,rfl⟩,⟨ht66_ok,rfl⟩,⟨ht67_ok,rfl⟩,trivial⟩
noncomputable def ddH23:D prog 15 none 2:=dO [] (kd prog f23) 0
noncomputable def FH23 (v1:ByteArray) (m1:List ((GG)×Bool)):Tr0 (Nat×Int×List Int×(List ((GG)×Bool))×Unit) :=
 .bd (FH54 m1) fun y0 =>
 .br y0.1 (
 .ret ((0:Nat),(9:Int),[],y0.2.1,())) (
 .bd (F65 v1) fun y1 =>
 .br (!y1.1) (
 .ret ((0:Nat),(8:Int),[],y0.2.1,())) (
 .bd (FH66 y0.2.1) fun y2 =>
 .bd (FH67 v1 y2.2.1 y2.2.2.1 y2.2.2.2.1 y2.2.2.2.2.1) fun y3 =>
 .ret (y3.1,(0:Int),y3.2.1,y2.1,())))
theorem cH23_ok:trF prog f23=some ⟨15,2,ddH23.er,[.t 4,.t 5],[some tL,some tI]⟩:=by kernel_rfl
noncomputable def ht23:Ht:=⟨23,pH23,qH23,(fun x=>run0 (FH23 x.1 x.2.1))⟩
theorem ht23_ok:ht23.Ok prog:=ht_ok mixed cxH23_ok rfl func23 cH23_ok (enters_of func23 rfl rfl) ddH23 (by kernel_rfl) rfl rfl ⟨_,rfl⟩ rfl (pre:=[0,1]) rfl (fun x=>by kernel_rfl)

/- 78 -/
noncomputable def cx78:Cx:=(mkCxH [] [])
theorem cx78_ok:cx78.Ok prog:=mkCxH_ok trivial trivial
noncomputable def dd78:D prog 5 none 0:=dO [] (kd prog f78) 0
noncomputable def F78 (a0:GG):Tr0 (Int×Unit) :=
 .ret (a0.2.2.2.2,())
theorem c78_ok:trF prog f78=some ⟨5,1,dd78.er,[.t 2],[some tI]⟩:=by kernel_rfl
noncomputable def ct78:Ct:=⟨78,[.c (.hole tG)],hI,fun x=>run0 (F78 x.1)⟩
theorem ct78_ok:ct78.Ok prog:=ct_ok mixed cx78_ok func78 c78_ok (enters_of func78 rfl rfl) dd78 (by kernel_rfl) rfl (fun x=>by kernel_rfl)

/- 67, lent -/
@[reducible] def pH67_v1:Pat:=Pat.mk [(0,.c (.ptr 0 0)),(1,.c (.fn0 78))] [(0,.cells [.mp 1,.mp 2,.mp 3,.mp 4] false),(1,.map .str false tG true),(2,.map .str false (.list .str) false),(3,.map .str false .bool false),(4,.map .str false .bool false)] [.slot 0,.cell 0 0,.cell 0 1,.cell 0 2,.cell 0 3] []
@[reducible] def qH67_v1:Pat:=Pat.mk [(0,.c (.sl0 5 tI))] [(5,.arr tI false),(0,.cells [.mp 1,.mp 2,.mp 3,.mp 4] false),(1,.map .str false tG true),(2,.map .str false (.list .str) false),(3,.map .str false .bool false),(4,.map .str false .bool false)] [.slot 0] []
noncomputable def cxH67_v1:Cx:=(mkCxH [ct78] [ht100,ht79,ht95,ht81,ht76,ht101,ht102])
theorem cxH67_v1_ok:cxH67_v1.Ok prog:=mkCxH_ok ⟨ct78_ok,trivial⟩ ⟨⟨ht100_ok,rfl⟩,⟨ht79_ok,rfl⟩,⟨ht95_ok,rfl⟩,⟨ht81_ok,rfl⟩,⟨ht76_ok,rfl⟩,⟨ht101_ok,rfl⟩,⟨ht102_ok,rfl⟩,trivial⟩
noncomputable def adH67_v1_0b_2:D prog 48 (some 25) 28:=dO [] (pick (kd prog f67) [(0,true),(0,false),(0,false)]) 0
noncomputable def bdH67_v1_0b_2:D prog 48 (some 25) 28:=dO [] (pick (kd prog f67) [(0,true),(0,false),(0,true)]) 0
noncomputable def cxH67_v1_0b_2i:Cx:=itCx cxH67_v1 (fun kz=>rdK kz cxH67_v1 ar0 25 28 [37] (adH67_v1_0b_2) (bdH67_v1_0b_2))
theorem cxH67_v1_0b_2i_ok:(cxH67_v1_0b_2i).Ok prog:=itCx_ok cxH67_v1_ok (fun h=>rdK_ok mixed cxH67_v1_ok h)
@[reducible] def pH67_v1_0b_2i_0:Pat:=Pat.mk [(0,.c (.yl 25)),(4,.c (.mp 23))] [(25,.loop .ready none 10 [(2,.c (.ptr 5 0)),(3,.c (.ptr 6 0)),(5,.c (.ptr 7 0)),(8,.c (.ptr 20 0)),(11,.c (.ptr 21 0)),(21,.c (.sl0 19 .str)),(22,hI),(23,hI),(36,.fn 132 [] [.ptr 22 0])] [37] (.reg [.op (some 12) none (.mv (.t 37))]) (.block 5 (.reg [.op (some 38) none (.load false 1 (.t 8)),.op (some 39) none (.mv (.t 12)),.op (some 40) none (.load false 1 (.t 11)),.op (some 41) none (.bin .add (.t 39) (.t 40)),.call (some 42) none (.c (.fn 100 [] [])) [.t 38,.t 41] [none,some tI]])) 48),(23,.map tI false .unit true),(10,.dfr),(5,.cells [.ptr 0 0] false),(0,.cells [.mp 1,.mp 2,.mp 3,.mp 4] false),(1,.map .str false tG true),(2,.map .str false (.list .str) false),(3,.map .str false .bool false),(4,.map .str false .bool false),(6,.cells [.fn0 78] false),(7,.cells [.mp 23] false),(20,.cells [.mp 26] false),(21,.cells [.hole tI] false),(19,.arr .str false),(22,.cells [.mp 23] false),(8,.cells [.ptr 0 0] false),(11,.loop .busy none 10 [(2,.c (.ptr 5 0)),(3,.c (.ptr 6 0)),(4,.c .nsl),(5,.c (.ptr 7 0)),(17,.fn 106 [] [.ptr 8 0])] [18,19] (.reg [.op (some 7) none (.mv (.t 19))]) (.block 1 (.seq (.reg [.op (some 20) none (.ex (Xop.mkmap tI false .unit true) []),.op (some 8) none (.alloc [.nilm]),.op none none (.store 1 (.t 8) (.t 20))]) (.seq (.seq (.reg [.op (some 21) none (.mv (.t 7)),.op (some 22) none (.len (.t 21)),.op (some 23) none (.mv (.c (.int .i64 (Int.ofNat 0))))]) (.block 2 (.loop (.seq (.reg [.op (some 24) none (.bin .lss (.t 23) (.t 22))]) (.seq (.cond (.t 24) .skip (.exit 2)) (.seq (.block 3 (.seq (.reg [.op (some 25) none (.idx 1 (.t 21) (.t 23)),.op (some 26) none (.load false 1 (.t 25)),.op (some 10) none (.mv (.t 26))]) (.seq (.draw [[],[],[1],[1,2],[1,2,3],[],[1,2,3,4,5],[0,1,2,3,4,5,6],[],[0,1,2,3,4,5,6,7,8]] [.op (some 27) none (.load false 1 (.t 3)),.op (some 28) none (.load false 1 (.t 2)),.op (some 29) none (.ex Xop.nchk [.t 28]),.op (some 30) none (.fld 0 [false] (.t 29)),.op (some 31) none (.load false 1 (.t 30)),.op (some 32) none (.mv (.t 10)),.op (some 33) none (.ex (Xop.mget .str false tG true false) [.t 31,.t 32]),.call (some 34) none (.t 27) [.t 33] [some tG],.op (some 11) none (.alloc [.int .i64 (Int.ofNat 0)]),.op none none (.store 1 (.t 11) (.t 34))]) (.seq (.reg [.op (some 35) none (.load false 1 (.t 5)),.call (some 36) none (.c (.fn 101 [] [])) [.t 35] [none]]) (.block 4 (.rangeF (.t 36) [37] (.reg [.op (some 12) none (.mv (.t 37))]) (.block 5 (.reg [.op (some 38) none (.load false 1 (.t 8)),.op (some 39) none (.mv (.t 12)),.op (some 40) none (.load false 1 (.t 11)),.op (some 41) none (.bin .add (.t 39) (.t 40)),.call (some 42) none (.c (.fn 100 [] [])) [.t 38,.t 41] [none,some tI]])))))))) (.reg [.op (some 43) none (.bin .add (.t 23) (.c (.int .i64 (Int.ofNat 1)))),.op (some 23) none (.mv (.t 43))]))))))) (.reg [.op (some 44) none (.load false 1 (.t 8)),.op none none (.store 1 (.t 5) (.t 44))])))) 48),(12,.arr .str false),(26,.map tI false .unit true)] [.cell 20 0] []
noncomputable def bH67_v1_0b_2i_0:D prog 14 none 28:=dO [] (pick (kd prog f132) [(0,false)]) 0
noncomputable def gH67_v1_0b_2i_0:((Int)×(Unit))→Nat×Int×Int×(List (Int×Unit))×Tdm×Tdl×Tdb×Tdb×Int×List ByteArray×List ByteArray×(List (Int×Unit))×Unit→Tr0 (Nat×Int×Int×(List (Int×Unit))×Tdm×Tdl×Tdb×Tdb×Int×List ByteArray×List ByteArray×(List (Int×Unit))×Unit):=fun e (nw21,w22,w23,m23,m1,m2,m3,m4,c21_0,b19,b12,m26,_) =>
 .ni (e.1+c21_0) <|
 .bd (FH100 (e.1+c21_0) m26) fun y7 =>
 .nd (sameD m23 m23) <|
 .ret (nw21,w22,w23,m23,m1,m2,m3,m4,c21_0,b19,b12,y7.1,())
noncomputable def MH67_v1_0b_2i_0:MapS prog 14 none 26:=mkMapR0 mixed cxH67_v1_0b_2i cxH67_v1_0b_2i_ok [0,1,2,3,4,5,6,7,8,9,10,11,12,13,14,15,16,17,18,19,20,21,22,23,24,25] rfl pH67_v1_0b_2i_0 ( [.op (some 4) none (.load false 1 (.t 1))]) 4 5 [6,7] (some 8) ( .int .i64)  false ( .unit)  true 0 rfl 28 rfl (bH67_v1_0b_2i_0) (fun e x=>run0 (gH67_v1_0b_2i_0 e x)) (fun e=>fun x=>by kernel_rfl)
@[reducible] def pH67_v1_0b_2:Pat:=Pat.mk [(2,.c (.ptr 5 0)),(3,.c (.ptr 6 0)),(5,.c (.ptr 7 0)),(8,.c (.ptr 20 0)),(11,.c (.ptr 21 0)),(21,.c (.sl0 19 .str)),(22,hI),(23,hI),(36,.fn 132 [] [.ptr 22 0])] [(5,.cells [.ptr 0 0] false),(6,.cells [.fn0 78] false),(7,.cells [.mp 23] false),(20,.cells [.mp 24] false),(21,.cells [.hole tI] false),(19,.arr .str false),(22,.cells [.mp 23] false),(0,.cells [.mp 1,.mp 2,.mp 3,.mp 4] false),(1,.map .str false tG true),(2,.map .str false (.list .str) false),(3,.map .str false .bool false),(4,.map .str false .bool false),(8,.cells [.ptr 0 0] false),(10,.dfr),(11,.loop .busy none 10 [(2,.c (.ptr 5 0)),(3,.c (.ptr 6 0)),(4,.c .nsl),(5,.c (.ptr 7 0)),(17,.fn 106 [] [.ptr 8 0])] [18,19] (.reg [.op (some 7) none (.mv (.t 19))]) (.block 1 (.seq (.reg [.op (some 20) none (.ex (Xop.mkmap tI false .unit true) []),.op (some 8) none (.alloc [.nilm]),.op none none (.store 1 (.t 8) (.t 20))]) (.seq (.seq (.reg [.op (some 21) none (.mv (.t 7)),.op (some 22) none (.len (.t 21)),.op (some 23) none (.mv (.c (.int .i64 (Int.ofNat 0))))]) (.block 2 (.loop (.seq (.reg [.op (some 24) none (.bin .lss (.t 23) (.t 22))]) (.seq (.cond (.t 24) .skip (.exit 2)) (.seq (.block 3 (.seq (.reg [.op (some 25) none (.idx 1 (.t 21) (.t 23)),.op (some 26) none (.load false 1 (.t 25)),.op (some 10) none (.mv (.t 26))]) (.seq (.draw [[],[],[1],[1,2],[1,2,3],[],[1,2,3,4,5],[0,1,2,3,4,5,6],[],[0,1,2,3,4,5,6,7,8]] [.op (some 27) none (.load false 1 (.t 3)),.op (some 28) none (.load false 1 (.t 2)),.op (some 29) none (.ex Xop.nchk [.t 28]),.op (some 30) none (.fld 0 [false] (.t 29)),.op (some 31) none (.load false 1 (.t 30)),.op (some 32) none (.mv (.t 10)),.op (some 33) none (.ex (Xop.mget .str false tG true false) [.t 31,.t 32]),.call (some 34) none (.t 27) [.t 33] [some tG],.op (some 11) none (.alloc [.int .i64 (Int.ofNat 0)]),.op none none (.store 1 (.t 11) (.t 34))]) (.seq (.reg [.op (some 35) none (.load false 1 (.t 5)),.call (some 36) none (.c (.fn 101 [] [])) [.t 35] [none]]) (.block 4 (.rangeF (.t 36) [37] (.reg [.op (some 12) none (.mv (.t 37))]) (.block 5 (.reg [.op (some 38) none (.load false 1 (.t 8)),.op (some 39) none (.mv (.t 12)),.op (some 40) none (.load false 1 (.t 11)),.op (some 41) none (.bin .add (.t 39) (.t 40)),.call (some 42) none (.c (.fn 100 [] [])) [.t 38,.t 41] [none,some tI]])))))))) (.reg [.op (some 43) none (.bin .add (.t 23) (.c (.int .i64 (Int.ofNat 1)))),.op (some 23) none (.mv (.t 43))]))))))) (.reg [.op (some 44) none (.load false 1 (.t 8)),.op none none (.store 1 (.t 5) (.t 44))])))) 48),(12,.arr .str false),(23,.map tI false .unit true),(24,.map tI false .unit true)] [.slot 8,.slot 11,.part 36 0,.cell 7 0,.cell 20 0] []
@[reducible] def xH67_v1_0b_2:Outs:=[(.normal,Pat.mk [(2,.c (.ptr 5 0)),(3,.c (.ptr 6 0)),(5,.c (.ptr 7 0)),(8,.c (.ptr 20 0)),(21,.c (.sl0 19 .str)),(22,hI),(23,hI)] [(5,.cells [.ptr 0 0] false),(6,.cells [.fn0 78] false),(7,.cells [.mp 21] false),(20,.cells [.mp 22] false),(19,.arr .str false),(0,.cells [.mp 1,.mp 2,.mp 3,.mp 4] false),(1,.map .str false tG true),(2,.map .str false (.list .str) false),(3,.map .str false .bool false),(4,.map .str false .bool false),(8,.cells [.ptr 0 0] false),(10,.dfr),(11,.loop .busy none 10 [(2,.c (.ptr 5 0)),(3,.c (.ptr 6 0)),(4,.c .nsl),(5,.c (.ptr 7 0)),(17,.fn 106 [] [.ptr 8 0])] [18,19] (.reg [.op (some 7) none (.mv (.t 19))]) (.block 1 (.seq (.reg [.op (some 20) none (.ex (Xop.mkmap tI false .unit true) []),.op (some 8) none (.alloc [.nilm]),.op none none (.store 1 (.t 8) (.t 20))]) (.seq (.seq (.reg [.op (some 21) none (.mv (.t 7)),.op (some 22) none (.len (.t 21)),.op (some 23) none (.mv (.c (.int .i64 (Int.ofNat 0))))]) (.block 2 (.loop (.seq (.reg [.op (some 24) none (.bin .lss (.t 23) (.t 22))]) (.seq (.cond (.t 24) .skip (.exit 2)) (.seq (.block 3 (.seq (.reg [.op (some 25) none (.idx 1 (.t 21) (.t 23)),.op (some 26) none (.load false 1 (.t 25)),.op (some 10) none (.mv (.t 26))]) (.seq (.draw [[],[],[1],[1,2],[1,2,3],[],[1,2,3,4,5],[0,1,2,3,4,5,6],[],[0,1,2,3,4,5,6,7,8]] [.op (some 27) none (.load false 1 (.t 3)),.op (some 28) none (.load false 1 (.t 2)),.op (some 29) none (.ex Xop.nchk [.t 28]),.op (some 30) none (.fld 0 [false] (.t 29)),.op (some 31) none (.load false 1 (.t 30)),.op (some 32) none (.mv (.t 10)),.op (some 33) none (.ex (Xop.mget .str false tG true false) [.t 31,.t 32]),.call (some 34) none (.t 27) [.t 33] [some tG],.op (some 11) none (.alloc [.int .i64 (Int.ofNat 0)]),.op none none (.store 1 (.t 11) (.t 34))]) (.seq (.reg [.op (some 35) none (.load false 1 (.t 5)),.call (some 36) none (.c (.fn 101 [] [])) [.t 35] [none]]) (.block 4 (.rangeF (.t 36) [37] (.reg [.op (some 12) none (.mv (.t 37))]) (.block 5 (.reg [.op (some 38) none (.load false 1 (.t 8)),.op (some 39) none (.mv (.t 12)),.op (some 40) none (.load false 1 (.t 11)),.op (some 41) none (.bin .add (.t 39) (.t 40)),.call (some 42) none (.c (.fn 100 [] [])) [.t 38,.t 41] [none,some tI]])))))))) (.reg [.op (some 43) none (.bin .add (.t 23) (.c (.int .i64 (Int.ofNat 1)))),.op (some 23) none (.mv (.t 43))]))))))) (.reg [.op (some 44) none (.load false 1 (.t 8)),.op none none (.store 1 (.t 5) (.t 44))])))) 48),(12,.arr .str false),(21,.map tI false .unit true),(22,.map tI false .unit true)] [.slot 8,.cell 7 0,.cell 20 0] [])]
noncomputable def bH67_v1_0b_2i:D prog 14 none 26:=dO [.m MH67_v1_0b_2i_0] (kd prog f132) 0
theorem ciH67_v1_0b_2:trF prog f132=some ⟨14,2,(bH67_v1_0b_2i).er,[],[]⟩:=by kernel_rfl
noncomputable def gH67_v1_0b_2:Nat×Int×Int×Int×List ByteArray×Tdm×Tdl×Tdb×Tdb×List ByteArray×(List (Int×Unit))×(List (Int×Unit))×Unit→Tr0 ((Nat×Int×Int×List ByteArray×Tdm×Tdl×Tdb×Tdb×List ByteArray×(List (Int×Unit))×(List (Int×Unit))×Unit)):=fun (nv21,v22,v23,c21_0,b19,m1,m2,m3,m4,b12,m23,m24,_) =>
 .bd (.mq gH67_v1_0b_2i_0 m23 (nv21,v22,v23,m23,m1,m2,m3,m4,c21_0,b19,b12,m24,())) fun z8 =>
 .ret ((nv21,v22,v23,z8.2.2.2.2.2.2.2.2.2.1,z8.2.2.2.2.1,z8.2.2.2.2.2.1,z8.2.2.2.2.2.2.1,z8.2.2.2.2.2.2.2.1,z8.2.2.2.2.2.2.2.2.2.2.1,z8.2.2.2.1,z8.2.2.2.2.2.2.2.2.2.2.2.1,()))
noncomputable def RH67_v1_0b_2:RangeS prog 48 (some 11) 20:=mkRange mixed cxH67_v1_0b_2i cxH67_v1_0b_2i_ok [0,1,2,3,4,5,6,7,8,9,10,11,12,13,14,15,16,17,18,19] rfl pH67_v1_0b_2 xH67_v1_0b_2 ( .t 36) [37] rfl (adH67_v1_0b_2).er (bdH67_v1_0b_2).er 132 func132 (ciH67_v1_0b_2) (enters_of func132 rfl rfl) 26 rfl (bH67_v1_0b_2i) rfl (fun x=>run0 (gH67_v1_0b_2 x)) (fun x=>by kernel_rfl)
@[reducible] def pH67_v1_0b_1:Pat:=Pat.mk [(2,.c (.ptr 5 0)),(3,.c (.ptr 6 0)),(5,.c (.ptr 7 0)),(8,.c (.ptr 20 0)),(21,.c (.sl0 19 .str)),(22,hI),(23,hI)] [(5,.cells [.ptr 0 0] false),(6,.cells [.fn0 78] false),(7,.cells [.mp 21] false),(20,.cells [.mp 22] false),(19,.arr .str false),(0,.cells [.mp 1,.mp 2,.mp 3,.mp 4] false),(1,.map .str false tG true),(2,.map .str false (.list .str) false),(3,.map .str false .bool false),(4,.map .str false .bool false),(8,.cells [.ptr 0 0] false),(10,.dfr),(11,.loop .busy none 10 [(2,.c (.ptr 5 0)),(3,.c (.ptr 6 0)),(4,.c .nsl),(5,.c (.ptr 7 0)),(17,.fn 106 [] [.ptr 8 0])] [18,19] (.reg [.op (some 7) none (.mv (.t 19))]) (.block 1 (.seq (.reg [.op (some 20) none (.ex (Xop.mkmap tI false .unit true) []),.op (some 8) none (.alloc [.nilm]),.op none none (.store 1 (.t 8) (.t 20))]) (.seq (.seq (.reg [.op (some 21) none (.mv (.t 7)),.op (some 22) none (.len (.t 21)),.op (some 23) none (.mv (.c (.int .i64 (Int.ofNat 0))))]) (.block 2 (.loop (.seq (.reg [.op (some 24) none (.bin .lss (.t 23) (.t 22))]) (.seq (.cond (.t 24) .skip (.exit 2)) (.seq (.block 3 (.seq (.reg [.op (some 25) none (.idx 1 (.t 21) (.t 23)),.op (some 26) none (.load false 1 (.t 25)),.op (some 10) none (.mv (.t 26))]) (.seq (.draw [[],[],[1],[1,2],[1,2,3],[],[1,2,3,4,5],[0,1,2,3,4,5,6],[],[0,1,2,3,4,5,6,7,8]] [.op (some 27) none (.load false 1 (.t 3)),.op (some 28) none (.load false 1 (.t 2)),.op (some 29) none (.ex Xop.nchk [.t 28]),.op (some 30) none (.fld 0 [false] (.t 29)),.op (some 31) none (.load false 1 (.t 30)),.op (some 32) none (.mv (.t 10)),.op (some 33) none (.ex (Xop.mget .str false tG true false) [.t 31,.t 32]),.call (some 34) none (.t 27) [.t 33] [some tG],.op (some 11) none (.alloc [.int .i64 (Int.ofNat 0)]),.op none none (.store 1 (.t 11) (.t 34))]) (.seq (.reg [.op (some 35) none (.load false 1 (.t 5)),.call (some 36) none (.c (.fn 101 [] [])) [.t 35] [none]]) (.block 4 (.rangeF (.t 36) [37] (.reg [.op (some 12) none (.mv (.t 37))]) (.block 5 (.reg [.op (some 38) none (.load false 1 (.t 8)),.op (some 39) none (.mv (.t 12)),.op (some 40) none (.load false 1 (.t 11)),.op (some 41) none (.bin .add (.t 39) (.t 40)),.call (some 42) none (.c (.fn 100 [] [])) [.t 38,.t 41] [none,some tI]])))))))) (.reg [.op (some 43) none (.bin .add (.t 23) (.c (.int .i64 (Int.ofNat 1)))),.op (some 23) none (.mv (.t 43))]))))))) (.reg [.op (some 44) none (.load false 1 (.t 8)),.op none none (.store 1 (.t 5) (.t 44))])))) 48),(12,.arr .str false),(21,.map tI false .unit true),(22,.map tI false .unit true)] [.slot 8,.cell 7 0,.cell 20 0] []
@[reducible] def xH67_v1_0b_1:Outs:=[(.exit 2,Pat.mk [(5,.c (.ptr 7 0)),(8,.c (.ptr 20 0))] [(7,.cells [.mp 21] false),(20,.cells [.mp 22] false),(0,.cells [.mp 1,.mp 2,.mp 3,.mp 4] false),(1,.map .str false tG true),(2,.map .str false (.list .str) false),(3,.map .str false .bool false),(4,.map .str false .bool false),(5,.cells [.ptr 0 0] false),(6,.cells [.fn0 78] false),(8,.cells [.ptr 0 0] false),(10,.dfr),(11,.loop .busy none 10 [(2,.c (.ptr 5 0)),(3,.c (.ptr 6 0)),(4,.c .nsl),(5,.c (.ptr 7 0)),(17,.fn 106 [] [.ptr 8 0])] [18,19] (.reg [.op (some 7) none (.mv (.t 19))]) (.block 1 (.seq (.reg [.op (some 20) none (.ex (Xop.mkmap tI false .unit true) []),.op (some 8) none (.alloc [.nilm]),.op none none (.store 1 (.t 8) (.t 20))]) (.seq (.seq (.reg [.op (some 21) none (.mv (.t 7)),.op (some 22) none (.len (.t 21)),.op (some 23) none (.mv (.c (.int .i64 (Int.ofNat 0))))]) (.block 2 (.loop (.seq (.reg [.op (some 24) none (.bin .lss (.t 23) (.t 22))]) (.seq (.cond (.t 24) .skip (.exit 2)) (.seq (.block 3 (.seq (.reg [.op (some 25) none (.idx 1 (.t 21) (.t 23)),.op (some 26) none (.load false 1 (.t 25)),.op (some 10) none (.mv (.t 26))]) (.seq (.draw [[],[],[1],[1,2],[1,2,3],[],[1,2,3,4,5],[0,1,2,3,4,5,6],[],[0,1,2,3,4,5,6,7,8]] [.op (some 27) none (.load false 1 (.t 3)),.op (some 28) none (.load false 1 (.t 2)),.op (some 29) none (.ex Xop.nchk [.t 28]),.op (some 30) none (.fld 0 [false] (.t 29)),.op (some 31) none (.load false 1 (.t 30)),.op (some 32) none (.mv (.t 10)),.op (some 33) none (.ex (Xop.mget .str false tG true false) [.t 31,.t 32]),.call (some 34) none (.t 27) [.t 33] [some tG],.op (some 11) none (.alloc [.int .i64 (Int.ofNat 0)]),.op none none (.store 1 (.t 11) (.t 34))]) (.seq (.reg [.op (some 35) none (.load false 1 (.t 5)),.call (some 36) none (.c (.fn 101 [] [])) [.t 35] [none]]) (.block 4 (.rangeF (.t 36) [37] (.reg [.op (some 12) none (.mv (.t 37))]) (.block 5 (.reg [.op (some 38) none (.load false 1 (.t 8)),.op (some 39) none (.mv (.t 12)),.op (some 40) none (.load false 1 (.t 11)),.op (some 41) none (.bin .add (.t 39) (.t 40)),.call (some 42) none (.c (.fn 100 [] [])) [.t 38,.t 41] [none,some tI]])))))))) (.reg [.op (some 43) none (.bin .add (.t 23) (.c (.int .i64 (Int.ofNat 1)))),.op (some 23) none (.mv (.t 43))]))))))) (.reg [.op (some 44) none (.load false 1 (.t 8)),.op none none (.store 1 (.t 5) (.t 44))])))) 48),(12,.arr .str false),(19,.arr .str false),(21,.map tI false .unit true),(22,.map tI false .unit true)] [.slot 8,.cell 7 0,.cell 20 0] [])]
noncomputable def bH67_v1_0b_1:D prog 48 (some 11) 20:=dO [.r RH67_v1_0b_2] (pick (kd prog f67) [(0,true),(0,false)]) 0
noncomputable def gH67_v1_0b_1:Nat×Int×Int×List ByteArray×Tdm×Tdl×Tdb×Tdb×List ByteArray×(List (Int×Unit))×(List (Int×Unit))×Unit→Tr0 ((Nat×Int×Int×List ByteArray×Tdm×Tdl×Tdb×Tdb×List ByteArray×(List (Int×Unit))×(List (Int×Unit))×Unit) ⊕ ((Tdm×Tdl×Tdb×Tdb×List ByteArray×List ByteArray×(List (Int×Unit))×(List (Int×Unit))×Unit))):=fun (nv21,v22,v23,b19,m1,m2,m3,m4,b12,m21,m22,_) =>
 .br (decide (v23<v22)) (
 .nb v23 ((nv21:Nat):Int) <|
 .nd (decide (((0:Nat)+(Int.toNat v23))<(b19).length)) <|
 .bd (F78 ((mgetL .str ((bs []),(0:Int),(bs []),(bs []),(0:Int)) m1 ((b19).getD ((0:Nat)+(Int.toNat v23)) (bs []))).1,(mgetL .str ((bs []),(0:Int),(bs []),(bs []),(0:Int)) m1 ((b19).getD ((0:Nat)+(Int.toNat v23)) (bs []))).2.1,(mgetL .str ((bs []),(0:Int),(bs []),(bs []),(0:Int)) m1 ((b19).getD ((0:Nat)+(Int.toNat v23)) (bs []))).2.2.1,(mgetL .str ((bs []),(0:Int),(bs []),(bs []),(0:Int)) m1 ((b19).getD ((0:Nat)+(Int.toNat v23)) (bs []))).2.2.2.1,(mgetL .str ((bs []),(0:Int),(bs []),(bs []),(0:Int)) m1 ((b19).getD ((0:Nat)+(Int.toNat v23)) (bs []))).2.2.2.2)) fun y5 =>
 .bd (FH101 m21) fun y6 =>
 .bd (gH67_v1_0b_2 (nv21,v22,v23,y5.1,b19,m1,m2,m3,m4,b12,y6.1,m22,())) fun z9 =>
 .ni (z9.2.2.1+(1:Int)) <|
 .ret (.inl (z9.1,z9.2.1,(z9.2.2.1+(1:Int)),z9.2.2.2.1,z9.2.2.2.2.1,z9.2.2.2.2.2.1,z9.2.2.2.2.2.2.1,z9.2.2.2.2.2.2.2.1,z9.2.2.2.2.2.2.2.2.1,z9.2.2.2.2.2.2.2.2.2.1,z9.2.2.2.2.2.2.2.2.2.2.1,()))) (
 .ret (.inr (m1,m2,m3,m4,b12,b19,m21,m22,())))
noncomputable def LH67_v1_0b_1:LoopS prog 48 (some 11) 20:=mkLoop mixed cxH67_v1 cxH67_v1_ok [0,1,2,3,4,5,6,7,8,9,10,11,12,13,14,15,16,17,18,19] rfl pH67_v1_0b_1 xH67_v1_0b_1 rfl (bH67_v1_0b_1) (fun x=>run0 (gH67_v1_0b_1 x)) (fun x=>by kernel_rfl)
noncomputable def adH67_v1_0:D prog 48 (some 11) 20:=dO [] (pick (kd prog f67) [(0,false)]) 0
noncomputable def bdH67_v1_0:D prog 48 (some 11) 20:=dO [.l LH67_v1_0b_1] (pick (kd prog f67) [(0,true)]) 0
noncomputable def cxH67_v1_0i:Cx:=itCx cxH67_v1 (fun kz=>rdK kz cxH67_v1 ar0 11 20 [18,19] (adH67_v1_0) (bdH67_v1_0))
theorem cxH67_v1_0i_ok:(cxH67_v1_0i).Ok prog:=itCx_ok cxH67_v1_ok (fun h=>rdK_ok mixed cxH67_v1_ok h)
@[reducible] def pH67_v1_0i_0:Pat:=Pat.mk [(0,.c (.yl 11)),(1,.c (.ptr 8 0)),(10,.c (.sl0 12 .str)),(11,hI),(12,hI)] [(11,.loop .ready none 10 [(2,.c (.ptr 5 0)),(3,.c (.ptr 6 0)),(4,.c .nsl),(5,.c (.ptr 7 0)),(17,.fn 106 [] [.ptr 8 0])] [18,19] (.reg [.op (some 7) none (.mv (.t 19))]) (.block 1 (.seq (.reg [.op (some 20) none (.ex (Xop.mkmap tI false .unit true) []),.op (some 8) none (.alloc [.nilm]),.op none none (.store 1 (.t 8) (.t 20))]) (.seq (.seq (.reg [.op (some 21) none (.mv (.t 7)),.op (some 22) none (.len (.t 21)),.op (some 23) none (.mv (.c (.int .i64 (Int.ofNat 0))))]) (.block 2 (.loop (.seq (.reg [.op (some 24) none (.bin .lss (.t 23) (.t 22))]) (.seq (.cond (.t 24) .skip (.exit 2)) (.seq (.block 3 (.seq (.reg [.op (some 25) none (.idx 1 (.t 21) (.t 23)),.op (some 26) none (.load false 1 (.t 25)),.op (some 10) none (.mv (.t 26))]) (.seq (.draw [[],[],[1],[1,2],[1,2,3],[],[1,2,3,4,5],[0,1,2,3,4,5,6],[],[0,1,2,3,4,5,6,7,8]] [.op (some 27) none (.load false 1 (.t 3)),.op (some 28) none (.load false 1 (.t 2)),.op (some 29) none (.ex Xop.nchk [.t 28]),.op (some 30) none (.fld 0 [false] (.t 29)),.op (some 31) none (.load false 1 (.t 30)),.op (some 32) none (.mv (.t 10)),.op (some 33) none (.ex (Xop.mget .str false tG true false) [.t 31,.t 32]),.call (some 34) none (.t 27) [.t 33] [some tG],.op (some 11) none (.alloc [.int .i64 (Int.ofNat 0)]),.op none none (.store 1 (.t 11) (.t 34))]) (.seq (.reg [.op (some 35) none (.load false 1 (.t 5)),.call (some 36) none (.c (.fn 101 [] [])) [.t 35] [none]]) (.block 4 (.rangeF (.t 36) [37] (.reg [.op (some 12) none (.mv (.t 37))]) (.block 5 (.reg [.op (some 38) none (.load false 1 (.t 8)),.op (some 39) none (.mv (.t 12)),.op (some 40) none (.load false 1 (.t 11)),.op (some 41) none (.bin .add (.t 39) (.t 40)),.call (some 42) none (.c (.fn 100 [] [])) [.t 38,.t 41] [none,some tI]])))))))) (.reg [.op (some 43) none (.bin .add (.t 23) (.c (.int .i64 (Int.ofNat 1)))),.op (some 23) none (.mv (.t 43))]))))))) (.reg [.op (some 44) none (.load false 1 (.t 8)),.op none none (.store 1 (.t 5) (.t 44))])))) 48),(8,.cells [.ptr 0 0] false),(12,.arr .str false),(10,.dfr),(5,.cells [.ptr 0 0] false),(0,.cells [.mp 1,.mp 2,.mp 3,.mp 4] false),(1,.map .str false tG true),(2,.map .str false (.list .str) false),(3,.map .str false .bool false),(4,.map .str false .bool false),(6,.cells [.fn0 78] false),(7,.cells [.mp 13] false),(13,.map tI false .unit true)] [.slot 10,.cell 7 0] []
@[reducible] def xH67_v1_0i_0:Outs:=[(.exit 0,Pat.mk [] [(0,.cells [.mp 1,.mp 2,.mp 3,.mp 4] false),(1,.map .str false tG true),(2,.map .str false (.list .str) false),(3,.map .str false .bool false),(4,.map .str false .bool false),(5,.cells [.ptr 0 0] false),(6,.cells [.fn0 78] false),(7,.cells [.mp 12] false),(8,.cells [.ptr 0 0] false),(10,.dfr),(11,.loop .ready none 10 [(2,.c (.ptr 5 0)),(3,.c (.ptr 6 0)),(4,.c .nsl),(5,.c (.ptr 7 0)),(17,.fn 106 [] [.ptr 8 0])] [18,19] (.reg [.op (some 7) none (.mv (.t 19))]) (.block 1 (.seq (.reg [.op (some 20) none (.ex (Xop.mkmap tI false .unit true) []),.op (some 8) none (.alloc [.nilm]),.op none none (.store 1 (.t 8) (.t 20))]) (.seq (.seq (.reg [.op (some 21) none (.mv (.t 7)),.op (some 22) none (.len (.t 21)),.op (some 23) none (.mv (.c (.int .i64 (Int.ofNat 0))))]) (.block 2 (.loop (.seq (.reg [.op (some 24) none (.bin .lss (.t 23) (.t 22))]) (.seq (.cond (.t 24) .skip (.exit 2)) (.seq (.block 3 (.seq (.reg [.op (some 25) none (.idx 1 (.t 21) (.t 23)),.op (some 26) none (.load false 1 (.t 25)),.op (some 10) none (.mv (.t 26))]) (.seq (.draw [[],[],[1],[1,2],[1,2,3],[],[1,2,3,4,5],[0,1,2,3,4,5,6],[],[0,1,2,3,4,5,6,7,8]] [.op (some 27) none (.load false 1 (.t 3)),.op (some 28) none (.load false 1 (.t 2)),.op (some 29) none (.ex Xop.nchk [.t 28]),.op (some 30) none (.fld 0 [false] (.t 29)),.op (some 31) none (.load false 1 (.t 30)),.op (some 32) none (.mv (.t 10)),.op (some 33) none (.ex (Xop.mget .str false tG true false) [.t 31,.t 32]),.call (some 34) none (.t 27) [.t 33] [some tG],.op (some 11) none (.alloc [.int .i64 (Int.ofNat 0)]),.op none none (.store 1 (.t 11) (.t 34))]) (.seq (.reg [.op (some 35) none (.load false 1 (.t 5)),.call (some 36) none (.c (.fn 101 [] [])) [.t 35] [none]]) (.block 4 (.rangeF (.t 36) [37] (.reg [.op (some 12) none (.mv (.t 37))]) (.block 5 (.reg [.op (some 38) none (.load false 1 (.t 8)),.op (some 39) none (.mv (.t 12)),.op (some 40) none (.load false 1 (.t 11)),.op (some 41) none (.bin .add (.t 39) (.t 40)),.call (some 42) none (.c (.fn 100 [] [])) [.t 38,.t 41] [none,some tI]])))))))) (.reg [.op (some 43) none (.bin .add (.t 23) (.c (.int .i64 (Int.ofNat 1)))),.op (some 23) none (.mv (.t 43))]))))))) (.reg [.op (some 44) none (.load false 1 (.t 8)),.op none none (.store 1 (.t 5) (.t 44))])))) 48),(12,.map tI false .unit true)] [.cell 7 0] [])]
noncomputable def bH67_v1_0i_0:D prog 34 none 12:=dO [] (pick (kd prog f106) [(0,false)]) 0
noncomputable def gH67_v1_0i_0:Nat×Int×Int×List ByteArray×Tdm×Tdl×Tdb×Tdb×(List (Int×Unit))×Unit→Tr0 ((Nat×Int×Int×List ByteArray×Tdm×Tdl×Tdb×Tdb×(List (Int×Unit))×Unit) ⊕ ((Tdm×Tdl×Tdb×Tdb×(List (Int×Unit))×Unit))):=fun (nv10,v11,v12,b12,m1,m2,m3,m4,m13,_) =>
 .br (decide (v12<v11)) (
 .nb v12 ((nv10:Nat):Int) <|
 .nd (decide (((0:Nat)+(Int.toNat v12))<(b12).length)) <|
 .br ((mgetL .str ((bs []),(0:Int),(bs []),(bs []),(0:Int)) m1 ((b12).getD ((0:Nat)+(Int.toNat v12)) (bs []))).2.1==(1:Int)) (
 .bd (FH76fix ((b12).getD ((0:Nat)+(Int.toNat v12)) (bs [])) m1 m2 m3 m4) fun y4 =>
 .bd (.it gH67_v1_0b_1 (y4.1,((y4.1:Nat):Int),(0:Int),y4.2.1,y4.2.2.1,y4.2.2.2.1,y4.2.2.2.2.1,y4.2.2.2.2.2.1,b12,m13,[],())) fun z10 =>
 .ni (v12+(1:Int)) <|
 .ret (.inl (nv10,v11,(v12+(1:Int)),z10.2.2.2.2.1,z10.1,z10.2.1,z10.2.2.1,z10.2.2.2.1,z10.2.2.2.2.2.2.2.1,()))) (
 .ni (v12+(1:Int)) <|
 .ret (.inl (nv10,v11,(v12+(1:Int)),b12,m1,m2,m3,m4,m13,())))) (
 .ret (.inr (m1,m2,m3,m4,m13,())))
noncomputable def LH67_v1_0i_0:LoopS prog 34 none 12:=mkLoop mixed cxH67_v1_0i cxH67_v1_0i_ok [0,1,2,3,4,5,6,7,8,9,10,11] rfl pH67_v1_0i_0 xH67_v1_0i_0 rfl (bH67_v1_0i_0) (fun x=>run0 (gH67_v1_0i_0 x)) (fun x=>by kernel_rfl)
@[reducible] def pH67_v1_0:Pat:=Pat.mk [(2,.c (.ptr 5 0)),(3,.c (.ptr 6 0)),(4,.c .nsl),(5,.c (.ptr 7 0)),(17,.fn 106 [] [.ptr 8 0])] [(5,.cells [.ptr 0 0] false),(6,.cells [.fn0 78] false),(7,.cells [.mp 9] false),(8,.cells [.ptr 0 0] false),(0,.cells [.mp 1,.mp 2,.mp 3,.mp 4] false),(1,.map .str false tG true),(2,.map .str false (.list .str) false),(3,.map .str false .bool false),(4,.map .str false .bool false),(9,.map tI false .unit true)] [.slot 2,.slot 3,.slot 5,.part 17 0,.cell 7 0] []
@[reducible] def xH67_v1_0:Outs:=[(.normal,Pat.mk [(5,.c (.ptr 5 0))] [(5,.cells [.mp 6] false),(0,.cells [.mp 1,.mp 2,.mp 3,.mp 4] false),(1,.map .str false tG true),(2,.map .str false (.list .str) false),(3,.map .str false .bool false),(4,.map .str false .bool false),(6,.map tI false .unit true)] [.slot 5,.cell 5 0] [])]
noncomputable def bH67_v1_0i:D prog 34 none 12:=dO [.l LH67_v1_0i_0] (kd prog f106) 0
theorem ciH67_v1_0:trF prog f106=some ⟨34,2,(bH67_v1_0i).er,[],[]⟩:=by kernel_rfl
noncomputable def gH67_v1_0:Tdm×Tdl×Tdb×Tdb×(List (Int×Unit))×Unit→Tr0 ((Tdm×Tdl×Tdb×Tdb×(List (Int×Unit))×Unit)):=fun (m1,m2,m3,m4,m9,_) =>
 .bd (FH95 m1) fun y2 =>
 .bd (FH81 y2.1) fun y3 =>
 .bd (.it gH67_v1_0i_0 (y3.1,((y3.1:Nat):Int),(0:Int),y3.2.1,y3.2.2.1,m2,m3,m4,m9,())) fun z11 =>
 .ret ((z11.1,z11.2.1,z11.2.2.1,z11.2.2.2.1,z11.2.2.2.2.1,()))
noncomputable def RH67_v1_0:RangeS prog 48 none 5:=mkRange mixed cxH67_v1_0i cxH67_v1_0i_ok [0,1,2,3,4] rfl pH67_v1_0 xH67_v1_0 ( .t 17) [18,19] rfl (adH67_v1_0).er (bdH67_v1_0).er 106 func106 (ciH67_v1_0) (enters_of func106 rfl rfl) 12 rfl (bH67_v1_0i) rfl (fun x=>run0 (gH67_v1_0 x)) (fun x=>by kernel_rfl)
noncomputable def ddH67_v1:D prog 48 none 5:=dO [.r RH67_v1_0] (kd prog f67) 0
noncomputable def FH67_v1 (m1:Tdm) (m2:Tdl) (m3:Tdb) (m4:Tdb):Tr0 (Nat×List Int×Tdm×Tdl×Tdb×Tdb×Unit) :=
 .bd (FH100 (0:Int) []) fun y0 =>
 .bd (FH79 m1 m2 m3 m4) fun y1 =>
 .bd (gH67_v1_0 (y1.1,y1.2.1,y1.2.2.1,y1.2.2.2.1,y0.1,())) fun z12 =>
 .bd (FH101 z12.2.2.2.2.1) fun y13 =>
 .bd (FH102 y13.1) fun y14 =>
 .ret (y14.1,y14.2.1,z12.1,z12.2.1,z12.2.2.1,z12.2.2.2.1,())
theorem cH67_v1_ok:trF prog f67=some ⟨48,2,ddH67_v1.er,[.t 4],[some tL]⟩:=by kernel_rfl
noncomputable def ht67_v1:Ht:=⟨67,pH67_v1,qH67_v1,(fun x=>run0 (FH67_v1 x.1 x.2.1 x.2.2.1 x.2.2.2.1))⟩
theorem ht67_v1_ok:ht67_v1.Ok prog:=ht_ok mixed cxH67_v1_ok rfl func67 cH67_v1_ok (enters_of func67 rfl rfl) ddH67_v1 (by kernel_rfl) rfl rfl ⟨_,rfl⟩ rfl (pre:=[0,1,2,3,4]) rfl (fun x=>by kernel_rfl)

/- 72 -/
noncomputable def cx72:Cx:=(mkCxH [] [])
theorem cx72_ok:cx72.Ok prog:=mkCxH_ok trivial trivial
noncomputable def dd72:D prog 13 none 0:=dO [] (kd prog f72) 0
noncomputable def F72 (a0:List Int):Tr0 ((Int×Int)×Unit) :=
 .nb (0:Int) (((a0).length:Nat):Int) <|
 .ni ((((a0).length:Nat):Int) - (1:Int)) <|
 .nb ((((a0).length:Nat):Int) - (1:Int)) (((a0).length:Nat):Int) <|
 .ret ((((a0).getD (Int.toNat (0:Int)) (0:Int)),((a0).getD (Int.toNat ((((a0).length:Nat):Int) - (1:Int))) (0:Int))),())
theorem c72_ok:trF prog f72=some ⟨13,1,dd72.er,[.cell 2 true 2],[some (.prod tI tI)]⟩:=by kernel_rfl
noncomputable def ct72:Ct:=⟨72,[hL],.c (.hole (.prod tI tI)),fun x=>run0 (F72 x.1)⟩
theorem ct72_ok:ct72.Ok prog:=ct_ok mixed cx72_ok func72 c72_ok (enters_of func72 rfl rfl) dd72 (by kernel_rfl) rfl (fun x=>by kernel_rfl)

/- 37, lent -/
@[reducible] def pH37:Pat:=Pat.mk [(0,.c (.ptr 0 0))] [(0,.cells [.mp 1] false),(1,.map tG true .bool false)] [.slot 0,.cell 0 0] []
@[reducible] def qH37:Pat:=Pat.mk [(0,.tup [.hole (.prod tI tI),.hole tI])] [(0,.cells [.mp 1] false),(1,.map tG true .bool false)] [] []
noncomputable def cxH37:Cx:=(mkCxH [ct72] [ht54,ht66,ht67_v1])
theorem cxH37_ok:cxH37.Ok prog:=mkCxH_ok ⟨ct72_ok,trivial⟩ ⟨⟨ht54_ok,rfl⟩,⟨ht66_ok,rfl⟩,⟨ht67_v1_ok,rfl⟩,trivial⟩
noncomputable def ddH37:D prog 11 none 2:=dO [] (kd prog f37) 0
noncomputable def FH37 (m1:List ((GG)×Bool)):Tr0 ((Int×Int)×Int×(List ((GG)×Bool))×Unit) :=
 .bd (FH54 m1) fun y0 =>
 .br y0.1 (
 .ret (((0:Int),(0:Int)),(9:Int),y0.2.1,())) (
 .bd (FH66 y0.2.1) fun y1 =>
 .bd (FH67_v1 y1.2.1 y1.2.2.1 y1.2.2.2.1 y1.2.2.2.2.1) fun y2 =>
 .bd (F72 (((y2.2.1).drop (0:Nat)).take y2.1)) fun y3 =>
 .ret ((y3.1.1,y3.1.2),(0:Int),y1.1,()))
theorem cH37_ok:trF prog f37=some ⟨11,1,ddH37.er,[.cell 2 true 2,.t 3],[some (.prod tI tI),some tI]⟩:=by kernel_rfl
noncomputable def ht37:Ht:=⟨37,pH37,qH37,(fun x=>run0 (FH37 x.1))⟩
theorem ht37_ok:ht37.Ok prog:=ht_ok mixed cxH37_ok rfl func37 cH37_ok (enters_of func37 rfl rfl) ddH37 (by kernel_rfl) rfl rfl ⟨_,rfl⟩ rfl (pre:=[0,1]) rfl (fun x=>by kernel_rfl)

/- 25, lent -/
@[reducible] def pH25:Pat:=Pat.mk [(0,.c (.ptr 0 0)),(1,.c (.hole .str))] [(0,.cells [.mp 1] false),(1,.map tG true .bool false)] [.slot 0,.cell 0 0] []
@[reducible] def qH25:Pat:=Pat.mk [(0,.tup [.hole (.prod tI tI),.hole tI])] [(0,.cells [.mp 1] false),(1,.map tG true .bool false)] [] []
noncomputable def cxH25:Cx:=(mkCxH [ct72] [ht23])
theorem cxH25_ok:cxH25.Ok prog:=mkCxH_ok ⟨ct72_ok,trivial⟩ ⟨⟨ht23_ok,rfl⟩,trivial⟩
noncomputable def ddH25:D prog 20 none 2:=dO [] (kd prog f25) 0
noncomputable def FH25 (v1:ByteArray) (m1:List ((GG)×Bool)):Tr0 ((Int×Int)×Int×(List ((GG)×Bool))×Unit) :=
 .bd (FH23 v1 m1) fun y0 =>
 .br (!(y0.2.1==(0:Int))) (
 .ret (((0:Int),(0:Int)),y0.2.1,y0.2.2.2.1,())) (
 .bd (F72 (((y0.2.2.1).drop (0:Nat)).take y0.1)) fun y1 =>
 .ret ((y1.1.1,y1.1.2),(0:Int),y0.2.2.2.1,()))
theorem cH25_ok:trF prog f25=some ⟨20,2,ddH25.er,[.cell 4 true 2,.t 5],[some (.prod tI tI),some tI]⟩:=by kernel_rfl
noncomputable def ht25:Ht:=⟨25,pH25,qH25,(fun x=>run0 (FH25 x.1 x.2.1))⟩
theorem ht25_ok:ht25.Ok prog:=ht_ok mixed cxH25_ok rfl func25 cH25_ok (enters_of func25 rfl rfl) ddH25 (by kernel_rfl) rfl rfl ⟨_,rfl⟩ rfl (pre:=[0,1]) rfl (fun x=>by kernel_rfl)

/- 36 -/
noncomputable def cx36:Cx:=(mkCxH [] [])
theorem cx36_ok:cx36.Ok prog:=mkCxH_ok trivial trivial
@[reducible] def p36_0:Pat:=Pat.mk [(0,.c (.hole (.list .str))),(1,.c (.hole (.list .str))),(5,hI)] [] [] []
@[reducible] def x36_0:Outs:=[(.ret,Pat.mk [(4,.c (.tf false))] [] [] []),(.exit 0,Pat.mk [] [] [] [])]
noncomputable def b36_0:D prog 26 none 0:=dO [] (pick (kd prog f36) [(0,false)]) 0
noncomputable def g36_0:List ByteArray×List ByteArray×Int×Unit→Tr0 ((List ByteArray×List ByteArray×Int×Unit) ⊕ ((Unit) ⊕ ((Unit)))):=fun (v0,v1,v5,_) =>
 .br (decide (v5<(((v0).length:Nat):Int))) (
 .nb v5 (((v0).length:Nat):Int) <|
 .nb v5 (((v1).length:Nat):Int) <|
 .br (!(seq ((v0).getD (Int.toNat v5) (bs [])) ((v1).getD (Int.toNat v5) (bs [])))) (
 .ret (.inr <| .inl<|())) (
 .ni (v5+(1:Int)) <|
 .ret (.inl (v0,v1,(v5+(1:Int)),())))) (
 .ret (.inr <| .inr<|()))
noncomputable def L36_0:LoopS prog 26 none 0:=mkLoop mixed cx36 cx36_ok [] rfl p36_0 x36_0 rfl (b36_0) (fun x=>run0 (g36_0 x)) (fun x=>by kernel_rfl)
noncomputable def dd36:D prog 26 none 0:=dO [.l L36_0] (kd prog f36) 0
noncomputable def F36 (a0:List ByteArray) (a1:List ByteArray):Tr0 (Bool×Unit) :=
 .br (!((((a0).length:Nat):Int)==(((a1).length:Nat):Int))) (
 .ret (false,())) (
 .bd (.it g36_0 (a0,a1,(0:Int),())) fun z0 =>
 .sm z0 (fun z1 =>
 .ret (false,())) fun z2 =>
 .ret (true,()))
theorem c36_ok:trF prog f36=some ⟨26,2,dd36.er,[.t 4],[some .bool]⟩:=by kernel_rfl
noncomputable def ct36:Ct:=⟨36,[.c (.hole (.list .str)),.c (.hole (.list .str))],.c (.hole .bool),fun x=>run0 (F36 x.1 x.2.1)⟩
theorem ct36_ok:ct36.Ok prog:=ct_ok mixed cx36_ok func36 c36_ok (enters_of func36 rfl rfl) dd36 (by kernel_rfl) rfl (fun x=>by kernel_rfl)

/- 27 -/
noncomputable def cx27:Cx:=(mkCxH [] [])
theorem cx27_ok:cx27.Ok prog:=mkCxH_ok trivial trivial
@[reducible] def p27_0:Pat:=Pat.mk [(0,hL),(1,hL),(5,hI)] [] [] []
@[reducible] def x27_0:Outs:=[(.ret,Pat.mk [(4,.c (.tf false))] [] [] []),(.exit 0,Pat.mk [] [] [] [])]
noncomputable def b27_0:D prog 26 none 0:=dO [] (pick (kd prog f27) [(0,false)]) 0
noncomputable def g27_0:List Int×List Int×Int×Unit→Tr0 ((List Int×List Int×Int×Unit) ⊕ ((Unit) ⊕ ((Unit)))):=fun (v0,v1,v5,_) =>
 .br (decide (v5<(((v0).length:Nat):Int))) (
 .nb v5 (((v0).length:Nat):Int) <|
 .nb v5 (((v1).length:Nat):Int) <|
 .br (!(((v0).getD (Int.toNat v5) (0:Int))==((v1).getD (Int.toNat v5) (0:Int)))) (
 .ret (.inr <| .inl<|())) (
 .ni (v5+(1:Int)) <|
 .ret (.inl (v0,v1,(v5+(1:Int)),())))) (
 .ret (.inr <| .inr<|()))
noncomputable def L27_0:LoopS prog 26 none 0:=mkLoop mixed cx27 cx27_ok [] rfl p27_0 x27_0 rfl (b27_0) (fun x=>run0 (g27_0 x)) (fun x=>by kernel_rfl)
noncomputable def dd27:D prog 26 none 0:=dO [.l L27_0] (kd prog f27) 0
noncomputable def F27 (a0:List Int) (a1:List Int):Tr0 (Bool×Unit) :=
 .br (!((((a0).length:Nat):Int)==(((a1).length:Nat):Int))) (
 .ret (false,())) (
 .bd (.it g27_0 (a0,a1,(0:Int),())) fun z0 =>
 .sm z0 (fun z1 =>
 .ret (false,())) fun z2 =>
 .ret (true,()))
theorem c27_ok:trF prog f27=some ⟨26,2,dd27.er,[.t 4],[some .bool]⟩:=by kernel_rfl
noncomputable def ct27:Ct:=⟨27,[hL,hL],.c (.hole .bool),fun x=>run0 (F27 x.1 x.2.1)⟩
theorem ct27_ok:ct27.Ok prog:=ct_ok mixed cx27_ok func27 c27_ok (enters_of func27 rfl rfl) dd27 (by kernel_rfl) rfl (fun x=>by kernel_rfl)

/- 80, lent -/
@[reducible] def pH80:Pat:=Pat.mk [(0,.c (.mp 0)),(1,.c (.hole .str))] [(0,.map .str false .unit true)] [.slot 0] []
@[reducible] def qH80:Pat:=Pat.mk [(0,.c .any)] [(0,.map .str false .unit true)] [] []
noncomputable def cxH80:Cx:=(mkCxH [] [])
theorem cxH80_ok:cxH80.Ok prog:=mkCxH_ok trivial trivial
noncomputable def ddH80:D prog 7 none 1:=dO [] (kd prog f80) 0
noncomputable def FH80 (v1:ByteArray) (m0:List (ByteArray×Unit)):Tr0 ((List (ByteArray×Unit))×Unit) :=
 .ret ((msetL .str m0 v1 ()),())
theorem cH80_ok:trF prog f80=some ⟨7,2,ddH80.er,[],[]⟩:=by kernel_rfl
noncomputable def ht80:Ht:=⟨80,pH80,qH80,(fun x=>run0 (FH80 x.1 x.2.1))⟩
theorem ht80_ok:ht80.Ok prog:=ht_ok mixed cxH80_ok rfl func80 cH80_ok (enters_of func80 rfl rfl) ddH80 (by kernel_rfl) rfl rfl ⟨_,rfl⟩ rfl (pre:=[0]) rfl (fun x=>by kernel_rfl)

/- 108, lent -/
@[reducible] def pH108:Pat:=Pat.mk [(0,.c (.mp 0))] [(0,.map .str false .unit true)] [.slot 0] []
@[reducible] def qH108:Pat:=Pat.mk [(0,.fn 127 [] [.ptr 1 0])] [(1,.cells [.mp 0] false),(0,.map .str false .unit true)] [.part 0 0] []
noncomputable def cxH108:Cx:=(mkCxH [] [])
theorem cxH108_ok:cxH108.Ok prog:=mkCxH_ok trivial trivial
noncomputable def ddH108:D prog 4 none 1:=dO [] (kd prog f108) 0
noncomputable def FH108 (m0:List (ByteArray×Unit)):Tr0 ((List (ByteArray×Unit))×Unit) :=
 .ret (m0,())
theorem cH108_ok:trF prog f108=some ⟨4,1,ddH108.er,[.t 2],[none]⟩:=by kernel_rfl
noncomputable def ht108:Ht:=⟨108,pH108,qH108,(fun x=>run0 (FH108 x.1))⟩
theorem ht108_ok:ht108.Ok prog:=ht_ok mixed cxH108_ok rfl func108 cH108_ok (enters_of func108 rfl rfl) ddH108 (by kernel_rfl) rfl rfl ⟨_,rfl⟩ rfl (pre:=[0]) rfl (fun x=>by kernel_rfl)

/- 82, lent -/
@[reducible] def pH82:Pat:=Pat.mk [(0,.c (.mp 0))] [(0,.map .str false .unit true)] [.slot 0] []
@[reducible] def qH82:Pat:=Pat.mk [(0,.fn 127 [] [.ptr 1 0])] [(1,.cells [.mp 0] false),(0,.map .str false .unit true)] [.part 0 0] []
noncomputable def cxH82:Cx:=(mkCxH [] [ht108])
theorem cxH82_ok:cxH82.Ok prog:=mkCxH_ok trivial ⟨⟨ht108_ok,rfl⟩,trivial⟩
noncomputable def ddH82:D prog 5 none 1:=dO [] (kd prog f82) 0
noncomputable def FH82 (m0:List (ByteArray×Unit)):Tr0 ((List (ByteArray×Unit))×Unit) :=
 .bd (FH108 m0) fun y0 =>
 .ret (y0.1,())
theorem cH82_ok:trF prog f82=some ⟨5,1,ddH82.er,[.t 2],[none]⟩:=by kernel_rfl
noncomputable def ht82:Ht:=⟨82,pH82,qH82,(fun x=>run0 (FH82 x.1))⟩
theorem ht82_ok:ht82.Ok prog:=ht_ok mixed cxH82_ok rfl func82 cH82_ok (enters_of func82 rfl rfl) ddH82 (by kernel_rfl) rfl rfl ⟨_,rfl⟩ rfl (pre:=[0]) rfl (fun x=>by kernel_rfl)

/- 81, lent -/
@[reducible] def pH81_v1:Pat:=Pat.mk [(0,.fn 127 [] [.ptr 0 0])] [(0,.cells [.mp 1] false),(1,.map .str false .unit true)] [.part 0 0,.cell 0 0] []
@[reducible] def qH81_v1:Pat:=Pat.mk [(0,.c (.sl0 2 .str))] [(2,.arr .str false),(0,.cells [.mp 1] false),(1,.map .str false .unit true)] [.slot 0] []
noncomputable def cxH81_v1j0:Cx:=(mkCxH [] [ht105])
theorem cxH81_v1j0_ok:cxH81_v1j0.Ok prog:=mkCxH_ok (cts:=[]) (hts:=[ht105]) trivial ⟨⟨ht105_ok,rfl⟩,trivial⟩
noncomputable def adH81_v1f107f126_0:D prog 13 (some 4) 7:=dO [] (pick (kd prog f126) [(0,false)]) 0
noncomputable def bdH81_v1f107f126_0:D prog 13 (some 4) 7:=dO [] (pick (kd prog f126) [(0,true)]) 0
noncomputable def cxH81_v1f107f126_0i:Cx:=itCx cxH81_v1j0 (fun kz=>rdK kz cxH81_v1j0 ar0 4 7 [7] (adH81_v1f107f126_0) (bdH81_v1f107f126_0))
theorem cxH81_v1f107f126_0i_ok:(cxH81_v1f107f126_0i).Ok prog:=itCx_ok cxH81_v1j0_ok (fun h=>rdK_ok mixed cxH81_v1j0_ok h)
@[reducible] def pH81_v1f107f126_0i_0:Pat:=Pat.mk [(0,.c (.yl 4)),(4,.c (.mp 1))] [(4,.loop .ready none 3 [(2,.c (.ptr 2 0)),(4,.c .nsl),(6,.fn 127 [] [.ptr 0 0])] [7] (.reg [.op (some 5) none (.mv (.t 7))]) (.block 1 (.reg [.op (some 8) none (.load false 1 (.t 2)),.op (some 9) none (.mv (.t 5)),.op (some 10) none (.bslice .str [.t 9]),.op (some 11) none (.append 1 (.t 8) (.t 10)),.op none none (.store 1 (.t 2) (.t 11))])) 13),(1,.map .str false .unit true),(3,.dfr),(2,.cells [.sl0 5 .str] false),(0,.cells [.mp 1] false),(5,.arr .str false)] [.cell 2 0] []
noncomputable def bH81_v1f107f126_0i_0:D prog 14 none 7:=dO [] (pick (kd prog f127) [(0,false)]) 0
noncomputable def gH81_v1f107f126_0i_0:((ByteArray)×(Unit))→(List (ByteArray×Unit))×Nat×List ByteArray×Unit→Tr0 ((List (ByteArray×Unit))×Nat×List ByteArray×Unit):=fun e (m1,nc2_0,b5,_) =>
 .nd (decide ((nc2_0+(((((e.1::[])).drop (0:Nat)).take (1:Nat))).length)<bigL)) <|
 .nd (sameD m1 m1) <|
 .ret (m1,(nc2_0+(((((e.1::[])).drop (0:Nat)).take (1:Nat))).length),((((b5).drop (0:Nat)).take nc2_0)++((((e.1::[])).drop (0:Nat)).take (1:Nat))),())
noncomputable def MH81_v1f107f126_0i_0:MapS prog 14 none 5:=mkMapRA mixed cxH81_v1f107f126_0i cxH81_v1f107f126_0i_ok [0,1,2,3,4] rfl pH81_v1f107f126_0i_0 ( [.op (some 4) none (.load false 1 (.t 1))]) 4 5 [6,7] (some 8) ( .str)  false ( .unit)  true 0 rfl 7 rfl (bH81_v1f107f126_0i_0) (fun e x=>run0 (gH81_v1f107f126_0i_0 e x)) (fun e=>fun x=>by kernel_rfl)
@[reducible] def pH81_v1f107f126_0:Pat:=Pat.mk [(2,.c (.ptr 2 0)),(4,.c .nsl),(6,.fn 127 [] [.ptr 0 0])] [(2,.cells [.nsl] false),(0,.cells [.mp 1] false),(1,.map .str false .unit true)] [.slot 2] []
@[reducible] def xH81_v1f107f126_0:Outs:=[(.normal,Pat.mk [(2,.c (.ptr 2 0))] [(2,.cells [.sl0 3 .str] false),(0,.cells [.mp 1] false),(1,.map .str false .unit true),(3,.arr .str false)] [.slot 2,.cell 2 0] [])]
noncomputable def bH81_v1f107f126_0i:D prog 14 none 5:=dO [.m MH81_v1f107f126_0i_0] (kd prog f127) 0
theorem ciH81_v1f107f126_0:trF prog f127=some ⟨14,2,(bH81_v1f107f126_0i).er,[],[]⟩:=by kernel_rfl
noncomputable def RH81_v1f107f126_0:RangeS prog 13 none 2:=mkRangeI mixed cxH81_v1f107f126_0i cxH81_v1f107f126_0i_ok [0,1] rfl pH81_v1f107f126_0 xH81_v1f107f126_0 ( .t 6) [7] rfl (adH81_v1f107f126_0).er (bdH81_v1f107f126_0).er 127 func127 (ciH81_v1f107f126_0) (enters_of func127 rfl rfl) 5 rfl (bH81_v1f107f126_0i) rfl
@[reducible] noncomputable def fnH81_v1j1:Go.AM.Fn:=⟨13,2,(dO [.r RH81_v1f107f126_0] (kd prog f126) 0:D prog 13 none 2).er,[.t 4],[some (.list .str)]⟩
noncomputable def cxH81_v1j1:Cx:=inCxB prog cxH81_v1j0 126 fnH81_v1j1 2 (dO [.r RH81_v1f107f126_0] (kd prog f126) 0)
theorem cxH81_v1j1_ok:cxH81_v1j1.Ok prog:=inCxB_ok mixed cxH81_v1j0_ok func126 (by kernel_rfl) (enters_of func126 rfl rfl) rfl
@[reducible] noncomputable def fnH81_v1j2:Go.AM.Fn:=⟨5,1,(dO [] (kd prog f107) 0:D prog 5 none 0).er,[.t 2],[some (.list .str)]⟩
noncomputable def cxH81_v1j2:Cx:=inCx prog cxH81_v1j1 107 fnH81_v1j2 (fun _=>dO [] (kd prog f107) 0)
theorem cxH81_v1j2_ok:cxH81_v1j2.Ok prog:=inCx_ok mixed cxH81_v1j1_ok func107 (by kernel_rfl) (enters_of func107 rfl rfl) (fun _=>by kernel_rfl)
noncomputable def cxH81_v1:Cx:=cxH81_v1j2
theorem cxH81_v1_ok:cxH81_v1.Ok prog:=cxH81_v1j2_ok
noncomputable def ddH81_v1:D prog 9 none 2:=dO [] (kd prog f81) 0
noncomputable def FH81_v1 (m1:List (ByteArray×Unit)):Tr0 (Nat×List ByteArray×(List (ByteArray×Unit))×Unit) :=
 .an m1 fun l0 =>
 .bd (.fm gH81_v1f107f126_0i_0 l0 (m1,(0:Nat),[],())) fun z1 =>
 .bd (FH105 z1.2.1 z1.2.2.1) fun y2 =>
 .ret (z1.2.1,y2.1,z1.1,())
theorem cH81_v1_ok:trF prog f81=some ⟨9,1,ddH81_v1.er,[.t 2],[some (.list .str)]⟩:=by kernel_rfl
noncomputable def ht81_v1:Ht:=⟨81,pH81_v1,qH81_v1,(fun x=>run0 (FH81_v1 x.1))⟩
theorem ht81_v1_ok:ht81_v1.Ok prog:=ht_ok mixed cxH81_v1_ok rfl func81 cH81_v1_ok (enters_of func81 rfl rfl) ddH81_v1 (by kernel_rfl) rfl rfl ⟨_,rfl⟩ rfl (pre:=[0,1]) rfl (fun x=>by kernel_rfl)

/- 45, lent -/
@[reducible] def pH45:Pat:=Pat.mk [(0,.c (.ptr 0 0))] [(0,.cells [.mp 1] false),(1,.map tG true .bool false)] [.slot 0,.cell 0 0] []
@[reducible] def qH45:Pat:=Pat.mk [(0,.c (.sl0 2 .str))] [(2,.arr .str false),(0,.cells [.mp 1] false),(1,.map tG true .bool false)] [.slot 0] []
noncomputable def cxH45:Cx:=(mkCxH [] [ht54,ht66,ht79,ht95,ht81,ht76,ht80,ht82,ht81_v1])
theorem cxH45_ok:cxH45.Ok prog:=mkCxH_ok trivial ⟨⟨ht54_ok,rfl⟩,⟨ht66_ok,rfl⟩,⟨ht79_ok,rfl⟩,⟨ht95_ok,rfl⟩,⟨ht81_ok,rfl⟩,⟨ht76_ok,rfl⟩,⟨ht80_ok,rfl⟩,⟨ht82_ok,rfl⟩,⟨ht81_v1_ok,rfl⟩,trivial⟩
@[reducible] def pH45_0b_1:Pat:=Pat.mk [(3,.c (.ptr 2 0)),(4,.c (.ptr 3 0)),(18,.c (.sl0 20 .str)),(19,hI),(20,hI)] [(2,.cells [.ptr 5 0] false),(3,.cells [.mp 21] false),(20,.arr .str false),(5,.cells [.mp 7,.mp 8,.mp 9,.mp 10] false),(7,.map .str false tG true),(8,.map .str false (.list .str) false),(9,.map .str false .bool false),(10,.map .str false .bool false),(0,.cells [.mp 1] false),(1,.map tG true .bool false),(4,.cells [.ptr 5 0] false),(11,.dfr),(12,.loop .busy none 11 [(2,.c .nsl),(3,.c (.ptr 2 0)),(4,.c (.ptr 3 0)),(15,.fn 106 [] [.ptr 4 0])] [16,17] (.reg [.op (some 6) none (.mv (.t 17))]) (.block 1 (.seq (.reg [.op (some 18) none (.mv (.t 6)),.op (some 19) none (.len (.t 18)),.op (some 20) none (.mv (.c (.int .i64 (Int.ofNat 0))))]) (.block 2 (.loop (.seq (.reg [.op (some 21) none (.bin .lss (.t 20) (.t 19))]) (.seq (.cond (.t 21) .skip (.exit 2)) (.seq (.block 3 (.seq (.reg [.op (some 22) none (.idx 1 (.t 18) (.t 20)),.op (some 23) none (.load false 1 (.t 22)),.op (some 8) none (.mv (.t 23))]) (.seq (.draw [[],[],[1],[1,2],[1,2,3],[],[1,2,3,4,5],[1,2,3,4,5,6],[0,1,2,3,4,5,6,7]] [.op (some 24) none (.load false 1 (.t 4)),.op (some 25) none (.load false 1 (.t 3)),.op (some 26) none (.ex Xop.nchk [.t 25]),.op (some 27) none (.fld 0 [false] (.t 26)),.op (some 28) none (.load false 1 (.t 27)),.op (some 29) none (.mv (.t 8)),.op (some 30) none (.ex (Xop.mget .str false tG true false) [.t 28,.t 29]),.op (some 31) none (.field false 3 1 (.t 30))]) (.reg [.call (some 32) none (.c (.fn 80 [] [])) [.t 24,.t 31] [none,some .str]])))) (.reg [.op (some 33) none (.bin .add (.t 20) (.c (.int .i64 (Int.ofNat 1)))),.op (some 20) none (.mv (.t 33))])))))))) 37),(13,.arr .str false),(21,.map .str false .unit true)] [.cell 3 0] []
@[reducible] def xH45_0b_1:Outs:=[(.exit 2,Pat.mk [] [(0,.cells [.mp 1] false),(1,.map tG true .bool false),(2,.cells [.ptr 5 0] false),(5,.cells [.mp 7,.mp 8,.mp 9,.mp 10] false),(7,.map .str false tG true),(8,.map .str false (.list .str) false),(9,.map .str false .bool false),(10,.map .str false .bool false),(3,.cells [.mp 21] false),(4,.cells [.ptr 5 0] false),(11,.dfr),(12,.loop .busy none 11 [(2,.c .nsl),(3,.c (.ptr 2 0)),(4,.c (.ptr 3 0)),(15,.fn 106 [] [.ptr 4 0])] [16,17] (.reg [.op (some 6) none (.mv (.t 17))]) (.block 1 (.seq (.reg [.op (some 18) none (.mv (.t 6)),.op (some 19) none (.len (.t 18)),.op (some 20) none (.mv (.c (.int .i64 (Int.ofNat 0))))]) (.block 2 (.loop (.seq (.reg [.op (some 21) none (.bin .lss (.t 20) (.t 19))]) (.seq (.cond (.t 21) .skip (.exit 2)) (.seq (.block 3 (.seq (.reg [.op (some 22) none (.idx 1 (.t 18) (.t 20)),.op (some 23) none (.load false 1 (.t 22)),.op (some 8) none (.mv (.t 23))]) (.seq (.draw [[],[],[1],[1,2],[1,2,3],[],[1,2,3,4,5],[1,2,3,4,5,6],[0,1,2,3,4,5,6,7]] [.op (some 24) none (.load false 1 (.t 4)),.op (some 25) none (.load false 1 (.t 3)),.op (some 26) none (.ex Xop.nchk [.t 25]),.op (some 27) none (.fld 0 [false] (.t 26)),.op (some 28) none (.load false 1 (.t 27)),.op (some 29) none (.mv (.t 8)),.op (some 30) none (.ex (Xop.mget .str false tG true false) [.t 28,.t 29]),.op (some 31) none (.field false 3 1 (.t 30))]) (.reg [.call (some 32) none (.c (.fn 80 [] [])) [.t 24,.t 31] [none,some .str]])))) (.reg [.op (some 33) none (.bin .add (.t 20) (.c (.int .i64 (Int.ofNat 1)))),.op (some 20) none (.mv (.t 33))])))))))) 37),(13,.arr .str false),(20,.arr .str false),(21,.map .str false .unit true)] [.cell 3 0] [])]
noncomputable def bH45_0b_1:D prog 37 (some 12) 21:=dO [] (pick (kd prog f45) [(0,true),(0,false)]) 0
noncomputable def gH45_0b_1:Nat×Int×Int×List ByteArray×Tdm×Tdl×Tdb×Tdb×(List ((GG)×Bool))×List ByteArray×(List (ByteArray×Unit))×Unit→Tr0 ((Nat×Int×Int×List ByteArray×Tdm×Tdl×Tdb×Tdb×(List ((GG)×Bool))×List ByteArray×(List (ByteArray×Unit))×Unit) ⊕ (((List ((GG)×Bool))×Tdm×Tdl×Tdb×Tdb×List ByteArray×List ByteArray×(List (ByteArray×Unit))×Unit))):=fun (nv18,v19,v20,b20,m7,m8,m9,m10,m1,b13,m21,_) =>
 .br (decide (v20<v19)) (
 .nb v20 ((nv18:Nat):Int) <|
 .nd (decide (((0:Nat)+(Int.toNat v20))<(b20).length)) <|
 .bd (FH80 (mgetL .str ((bs []),(0:Int),(bs []),(bs []),(0:Int)) m7 ((b20).getD ((0:Nat)+(Int.toNat v20)) (bs []))).2.2.2.1 m21) fun y6 =>
 .ni (v20+(1:Int)) <|
 .ret (.inl (nv18,v19,(v20+(1:Int)),b20,m7,m8,m9,m10,m1,b13,y6.1,()))) (
 .ret (.inr (m1,m7,m8,m9,m10,b13,b20,m21,())))
noncomputable def LH45_0b_1:LoopS prog 37 (some 12) 21:=mkLoop mixed cxH45 cxH45_ok [0,1,2,3,4,5,6,7,8,9,10,11,12,13,14,15,16,17,18,19,20] rfl pH45_0b_1 xH45_0b_1 rfl (bH45_0b_1) (fun x=>run0 (gH45_0b_1 x)) (fun x=>by kernel_rfl)
noncomputable def adH45_0:D prog 37 (some 12) 21:=dO [] (pick (kd prog f45) [(0,false)]) 0
noncomputable def bdH45_0:D prog 37 (some 12) 21:=dO [.l LH45_0b_1] (pick (kd prog f45) [(0,true)]) 0
noncomputable def cxH45_0i:Cx:=itCx cxH45 (fun kz=>rdK kz cxH45 ar0 12 21 [16,17] (adH45_0) (bdH45_0))
theorem cxH45_0i_ok:(cxH45_0i).Ok prog:=itCx_ok cxH45_ok (fun h=>rdK_ok mixed cxH45_ok h)
@[reducible] def pH45_0i_0:Pat:=Pat.mk [(0,.c (.yl 12)),(1,.c (.ptr 4 0)),(10,.c (.sl0 13 .str)),(11,hI),(12,hI)] [(12,.loop .ready none 11 [(2,.c .nsl),(3,.c (.ptr 2 0)),(4,.c (.ptr 3 0)),(15,.fn 106 [] [.ptr 4 0])] [16,17] (.reg [.op (some 6) none (.mv (.t 17))]) (.block 1 (.seq (.reg [.op (some 18) none (.mv (.t 6)),.op (some 19) none (.len (.t 18)),.op (some 20) none (.mv (.c (.int .i64 (Int.ofNat 0))))]) (.block 2 (.loop (.seq (.reg [.op (some 21) none (.bin .lss (.t 20) (.t 19))]) (.seq (.cond (.t 21) .skip (.exit 2)) (.seq (.block 3 (.seq (.reg [.op (some 22) none (.idx 1 (.t 18) (.t 20)),.op (some 23) none (.load false 1 (.t 22)),.op (some 8) none (.mv (.t 23))]) (.seq (.draw [[],[],[1],[1,2],[1,2,3],[],[1,2,3,4,5],[1,2,3,4,5,6],[0,1,2,3,4,5,6,7]] [.op (some 24) none (.load false 1 (.t 4)),.op (some 25) none (.load false 1 (.t 3)),.op (some 26) none (.ex Xop.nchk [.t 25]),.op (some 27) none (.fld 0 [false] (.t 26)),.op (some 28) none (.load false 1 (.t 27)),.op (some 29) none (.mv (.t 8)),.op (some 30) none (.ex (Xop.mget .str false tG true false) [.t 28,.t 29]),.op (some 31) none (.field false 3 1 (.t 30))]) (.reg [.call (some 32) none (.c (.fn 80 [] [])) [.t 24,.t 31] [none,some .str]])))) (.reg [.op (some 33) none (.bin .add (.t 20) (.c (.int .i64 (Int.ofNat 1)))),.op (some 20) none (.mv (.t 33))])))))))) 37),(4,.cells [.ptr 5 0] false),(13,.arr .str false),(11,.dfr),(2,.cells [.ptr 5 0] false),(5,.cells [.mp 7,.mp 8,.mp 9,.mp 10] false),(7,.map .str false tG true),(8,.map .str false (.list .str) false),(9,.map .str false .bool false),(10,.map .str false .bool false),(3,.cells [.mp 14] false),(0,.cells [.mp 1] false),(1,.map tG true .bool false),(14,.map .str false .unit true)] [.slot 10,.cell 3 0] []
@[reducible] def xH45_0i_0:Outs:=[(.exit 0,Pat.mk [] [(0,.cells [.mp 1] false),(1,.map tG true .bool false),(2,.cells [.ptr 5 0] false),(5,.cells [.mp 7,.mp 8,.mp 9,.mp 10] false),(7,.map .str false tG true),(8,.map .str false (.list .str) false),(9,.map .str false .bool false),(10,.map .str false .bool false),(3,.cells [.mp 13] false),(4,.cells [.ptr 5 0] false),(11,.dfr),(12,.loop .ready none 11 [(2,.c .nsl),(3,.c (.ptr 2 0)),(4,.c (.ptr 3 0)),(15,.fn 106 [] [.ptr 4 0])] [16,17] (.reg [.op (some 6) none (.mv (.t 17))]) (.block 1 (.seq (.reg [.op (some 18) none (.mv (.t 6)),.op (some 19) none (.len (.t 18)),.op (some 20) none (.mv (.c (.int .i64 (Int.ofNat 0))))]) (.block 2 (.loop (.seq (.reg [.op (some 21) none (.bin .lss (.t 20) (.t 19))]) (.seq (.cond (.t 21) .skip (.exit 2)) (.seq (.block 3 (.seq (.reg [.op (some 22) none (.idx 1 (.t 18) (.t 20)),.op (some 23) none (.load false 1 (.t 22)),.op (some 8) none (.mv (.t 23))]) (.seq (.draw [[],[],[1],[1,2],[1,2,3],[],[1,2,3,4,5],[1,2,3,4,5,6],[0,1,2,3,4,5,6,7]] [.op (some 24) none (.load false 1 (.t 4)),.op (some 25) none (.load false 1 (.t 3)),.op (some 26) none (.ex Xop.nchk [.t 25]),.op (some 27) none (.fld 0 [false] (.t 26)),.op (some 28) none (.load false 1 (.t 27)),.op (some 29) none (.mv (.t 8)),.op (some 30) none (.ex (Xop.mget .str false tG true false) [.t 28,.t 29]),.op (some 31) none (.field false 3 1 (.t 30))]) (.reg [.call (some 32) none (.c (.fn 80 [] [])) [.t 24,.t 31] [none,some .str]])))) (.reg [.op (some 33) none (.bin .add (.t 20) (.c (.int .i64 (Int.ofNat 1)))),.op (some 20) none (.mv (.t 33))])))))))) 37),(13,.map .str false .unit true)] [.cell 3 0] [])]
noncomputable def bH45_0i_0:D prog 34 none 13:=dO [] (pick (kd prog f106) [(0,false)]) 0
noncomputable def gH45_0i_0:Nat×Int×Int×List ByteArray×Tdm×Tdl×Tdb×Tdb×(List ((GG)×Bool))×(List (ByteArray×Unit))×Unit→Tr0 ((Nat×Int×Int×List ByteArray×Tdm×Tdl×Tdb×Tdb×(List ((GG)×Bool))×(List (ByteArray×Unit))×Unit) ⊕ (((List ((GG)×Bool))×Tdm×Tdl×Tdb×Tdb×(List (ByteArray×Unit))×Unit))):=fun (nv10,v11,v12,b13,m7,m8,m9,m10,m1,m14,_) =>
 .br (decide (v12<v11)) (
 .nb v12 ((nv10:Nat):Int) <|
 .nd (decide (((0:Nat)+(Int.toNat v12))<(b13).length)) <|
 .br ((mgetL .str ((bs []),(0:Int),(bs []),(bs []),(0:Int)) m7 ((b13).getD ((0:Nat)+(Int.toNat v12)) (bs []))).2.1==(1:Int)) (
 .bd (FH76fix ((b13).getD ((0:Nat)+(Int.toNat v12)) (bs [])) m7 m8 m9 m10) fun y5 =>
 .bd (.it gH45_0b_1 (y5.1,((y5.1:Nat):Int),(0:Int),y5.2.1,y5.2.2.1,y5.2.2.2.1,y5.2.2.2.2.1,y5.2.2.2.2.2.1,m1,b13,m14,())) fun z7 =>
 .ni (v12+(1:Int)) <|
 .ret (.inl (nv10,v11,(v12+(1:Int)),z7.2.2.2.2.2.1,z7.2.1,z7.2.2.1,z7.2.2.2.1,z7.2.2.2.2.1,z7.1,z7.2.2.2.2.2.2.2.1,()))) (
 .ni (v12+(1:Int)) <|
 .ret (.inl (nv10,v11,(v12+(1:Int)),b13,m7,m8,m9,m10,m1,m14,())))) (
 .ret (.inr (m1,m7,m8,m9,m10,m14,())))
noncomputable def LH45_0i_0:LoopS prog 34 none 13:=mkLoop mixed cxH45_0i cxH45_0i_ok [0,1,2,3,4,5,6,7,8,9,10,11,12] rfl pH45_0i_0 xH45_0i_0 rfl (bH45_0i_0) (fun x=>run0 (gH45_0i_0 x)) (fun x=>by kernel_rfl)
@[reducible] def pH45_0:Pat:=Pat.mk [(2,.c .nsl),(3,.c (.ptr 2 0)),(4,.c (.ptr 3 0)),(15,.fn 106 [] [.ptr 4 0])] [(2,.cells [.ptr 5 0] false),(3,.cells [.mp 6] false),(4,.cells [.ptr 5 0] false),(0,.cells [.mp 1] false),(1,.map tG true .bool false),(5,.cells [.mp 7,.mp 8,.mp 9,.mp 10] false),(6,.map .str false .unit true),(7,.map .str false tG true),(8,.map .str false (.list .str) false),(9,.map .str false .bool false),(10,.map .str false .bool false)] [.slot 3,.slot 4,.part 15 0,.cell 2 0,.cell 3 0,.cell 5 0,.cell 5 1,.cell 5 2,.cell 5 3] []
@[reducible] def xH45_0:Outs:=[(.normal,Pat.mk [(4,.c (.ptr 2 0))] [(2,.cells [.mp 3] false),(0,.cells [.mp 1] false),(1,.map tG true .bool false),(3,.map .str false .unit true)] [.slot 4,.cell 2 0] [])]
noncomputable def bH45_0i:D prog 34 none 13:=dO [.l LH45_0i_0] (kd prog f106) 0
theorem ciH45_0:trF prog f106=some ⟨34,2,(bH45_0i).er,[],[]⟩:=by kernel_rfl
noncomputable def gH45_0:(List ((GG)×Bool))×(List (ByteArray×Unit))×Tdm×Tdl×Tdb×Tdb×Unit→Tr0 (((List ((GG)×Bool))×(List (ByteArray×Unit))×Unit)):=fun (m1,m6,m7,m8,m9,m10,_) =>
 .bd (FH95 m7) fun y3 =>
 .bd (FH81 y3.1) fun y4 =>
 .bd (.it gH45_0i_0 (y4.1,((y4.1:Nat):Int),(0:Int),y4.2.1,y4.2.2.1,m8,m9,m10,m1,m6,())) fun z8 =>
 .ret ((z8.1,z8.2.2.2.2.2.1,()))
noncomputable def RH45_0:RangeS prog 37 none 2:=mkRange mixed cxH45_0i cxH45_0i_ok [0,1] rfl pH45_0 xH45_0 ( .t 15) [16,17] rfl (adH45_0).er (bdH45_0).er 106 func106 (ciH45_0) (enters_of func106 rfl rfl) 13 rfl (bH45_0i) rfl (fun x=>run0 (gH45_0 x)) (fun x=>by kernel_rfl)
noncomputable def ddH45:D prog 37 none 2:=dO [.r RH45_0] (kd prog f45) 0
noncomputable def FH45 (m1:List ((GG)×Bool)):Tr0 (Nat×List ByteArray×(List ((GG)×Bool))×Unit) :=
 .bd (FH54 m1) fun y0 =>
 .br y0.1 (
 .ret ((0:Nat),[],y0.2.1,())) (
 .bd (FH66 y0.2.1) fun y1 =>
 .bd (FH79 y1.2.1 y1.2.2.1 y1.2.2.2.1 y1.2.2.2.2.1) fun y2 =>
 .bd (gH45_0 (y1.1,[],y2.1,y2.2.1,y2.2.2.1,y2.2.2.2.1,())) fun z9 =>
 .bd (FH82 z9.2.1) fun y10 =>
 .bd (FH81_v1 y10.1) fun y11 =>
 .ret (y11.1,y11.2.1,z9.1,()))
theorem cH45_ok:trF prog f45=some ⟨37,1,ddH45.er,[.t 2],[some (.list .str)]⟩:=by kernel_rfl
noncomputable def ht45:Ht:=⟨45,pH45,qH45,(fun x=>run0 (FH45 x.1))⟩
theorem ht45_ok:ht45.Ok prog:=ht_ok mixed cxH45_ok rfl func45 cH45_ok (enters_of func45 rfl rfl) ddH45 (by kernel_rfl) rfl rfl ⟨_,rfl⟩ rfl (pre:=[0,1]) rfl (fun x=>by kernel_rfl)

/- 17 -/
noncomputable def cx17:Cx:=(mkCxH [ct46,ct36,ct27] [ht29,ht33,ht23,ht37,ht25,ht45,ht40,ht47])
theorem cx17_ok:cx17.Ok prog:=mkCxH_ok ⟨ct46_ok,ct36_ok,ct27_ok,trivial⟩ ⟨⟨ht29_ok,rfl⟩,⟨ht33_ok,rfl⟩,⟨ht23_ok,rfl⟩,⟨ht37_ok,rfl⟩,⟨ht25_ok,rfl⟩,⟨ht45_ok,rfl⟩,⟨ht40_ok,rfl⟩,⟨ht47_ok,rfl⟩,trivial⟩
noncomputable def dd17:D prog 130 none 0:=dO [] (kd prog f17) 0
noncomputable def F17:Tr0 (Bool×Unit) :=
 .bd (F46) fun y0 =>
 .nd (decide ((0:Int)≤(0:Int))) <|
 .nd (decide ((0:Int)≤(6:Int))) <|
 .nd (decide ((6:Int)≤(((y0.1).length:Nat):Int))) <|
 .bd (FH29 (((y0.1).drop (Int.toNat (0:Int))).take ((Int.toNat (6:Int)) - (Int.toNat (0:Int))))) fun y1 =>
 .bd (F46) fun y2 =>
 .nd (decide ((0:Int)≤(0:Int))) <|
 .nd (decide ((0:Int)≤(7:Int))) <|
 .nd (decide ((7:Int)≤(((y2.1).length:Nat):Int))) <|
 .bd (FH29 (((y2.1).drop (Int.toNat (0:Int))).take ((Int.toNat (7:Int)) - (Int.toNat (0:Int))))) fun y3 =>
 .bd (F46) fun y4 =>
 .bd (FH29 y4.1) fun y5 =>
 .bd (FH33 (bs [116,49]) y1.1) fun y6 =>
 .bd (FH23 (bs [97,110,97]) y6.2.2.2.1) fun y7 =>
 .bd (FH23 (bs [97,110,97]) y3.1) fun y8 =>
 .bd (FH37 y7.2.2.2.1) fun y9 =>
 .bd (FH25 (bs [99,121]) y5.1) fun y10 =>
 .br (y6.2.1==(0:Int)) (
 .br (y7.2.1==(0:Int)) (
 .br (y8.2.1==(0:Int)) (
 .br (y9.2.1==(0:Int)) (
 .br (y10.2.1==(0:Int)) (
 .bd (F36 (((y6.2.2.1).drop (0:Nat)).take y6.1) (((((bs [99,50])::((bs [99,51])::[]))).drop (0:Nat)).take (2:Nat))) fun y11 =>
 .br y11.1 (
 .bd (F27 (((y7.2.2.1).drop (0:Nat)).take y7.1) (((((0:Int)::((41:Int)::[]))).drop (0:Nat)).take (2:Nat))) fun y12 =>
 .br y12.1 (
 .bd (F27 (((y8.2.2.1).drop (0:Nat)).take y8.1) (((((41:Int)::[])).drop (0:Nat)).take (1:Nat))) fun y13 =>
 .br y13.1 (
 .br ((y9.1.1==(65:Int))&&((y9.1.2==(66:Int))&&true)) (
 .br ((y10.1.1==(0:Int))&&((y10.1.2==(40:Int))&&true)) (
 .bd (FH45 y9.2.2.1) fun y14 =>
 .bd (F36 (((y14.2.1).drop (0:Nat)).take y14.1) (((((bs [97,110,97])::((bs [98,101,110])::((bs [99,121])::[])))).drop (0:Nat)).take (3:Nat))) fun y15 =>
 .br y15.1 (
 .bd (FH40 (bs [116,49]) (3:Int) y14.2.2.1) fun y16 =>
 .br y16.1 (
 .bd (FH40 (bs [116,50]) (4:Int) y16.2.1) fun y17 =>
 .br y17.1 (
 .bd (FH40 (bs [99,51]) (5:Int) y17.2.1) fun y18 =>
 .br y18.1 (
 .bd (FH40 (bs [119,49]) (1:Int) y18.2.1) fun y19 =>
 .br y19.1 (
 .bd (FH40 (bs [99,50]) (2:Int) y8.2.2.2.1) fun y20 =>
 .br y20.1 (
 .bd (FH40 (bs [99,51]) (4:Int) y20.2.1) fun y21 =>
 .br y21.1 (
 .bd (FH40 (bs [99,50]) (5:Int) y10.2.2.1) fun y22 =>
 .br y22.1 (
 .bd (FH47 y22.2.1) fun y23 =>
 .ret ((((y23.1:Nat):Int)==(8:Int)),())) (
 .ret (false,()))) (
 .ret (false,()))) (
 .ret (false,()))) (
 .ret (false,()))) (
 .ret (false,()))) (
 .ret (false,()))) (
 .ret (false,()))) (
 .ret (false,()))) (
 .ret (false,()))) (
 .ret (false,()))) (
 .ret (false,()))) (
 .ret (false,()))) (
 .ret (false,()))) (
 .ret (false,()))) (
 .ret (false,()))) (
 .ret (false,()))) (
 .ret (false,()))) (
 .ret (false,()))
theorem c17_ok:trF prog f17=some ⟨130,0,dd17.er,[.t 0],[some .bool]⟩:=by kernel_rfl
noncomputable def ct17:Ct:=⟨17,[],.c (.hole .bool),fun x=>run0 (F17)⟩
theorem ct17_ok:ct17.Ok prog:=ct_ok mixed cx17_ok func17 c17_ok (enters_of func17 rfl rfl) dd17 (by kernel_rfl) rfl (fun x=>by kernel_rfl)

/- 43 -/
noncomputable def cx43:Cx:=(mkCxH [] [])
theorem cx43_ok:cx43.Ok prog:=mkCxH_ok trivial trivial
noncomputable def dd43:D prog 11 none 0:=dO [] (kd prog f43) 0
noncomputable def F43 (a0:Int) (a1:Int):Tr0 (ByteArray×Unit) :=
 .nd (rng .u8 a1) <|
 .nd (rng .u8 (a0+a1)) <|
 .ret ((txtL (((((a0+a1)::[])).drop (0:Nat)).take (1:Nat))),())
theorem c43_ok:trF prog f43=some ⟨11,2,dd43.er,[.t 4],[some .str]⟩:=by kernel_rfl
noncomputable def ct43:Ct:=⟨43,[.c (.hole (.int .u8)),hI],.c (.hole .str),fun x=>run0 (F43 x.1 x.2.1)⟩
theorem ct43_ok:ct43.Ok prog:=ct_ok mixed cx43_ok func43 c43_ok (enters_of func43 rfl rfl) dd43 (by kernel_rfl) rfl (fun x=>by kernel_rfl)

/- 44 -/
noncomputable def cx44:Cx:=(mkCxH [ct43] [])
theorem cx44_ok:cx44.Ok prog:=mkCxH_ok ⟨ct43_ok,trivial⟩ trivial
noncomputable def dd44:D prog 52 none 0:=dO [] (kd prog f44) 0
noncomputable def F44 (a0:Int×Int×Int×Int):Tr0 ((GG)×Unit) :=
 .nd (decide ((0:Nat)<((a0.1::(a0.2.1::(a0.2.2.1::(a0.2.2.2::[]))))).length)) <|
 .ni (((a0.1::(a0.2.1::(a0.2.2.1::(a0.2.2.2::[]))))).getD (0:Nat) (0:Int)) <|
 .nd (!((8:Int)==(0:Int))) <|
 .nd (decide ((1:Nat)<((a0.1::(a0.2.1::(a0.2.2.1::(a0.2.2.2::[]))))).length)) <|
 .ni (((a0.1::(a0.2.1::(a0.2.2.1::(a0.2.2.2::[]))))).getD (1:Nat) (0:Int)) <|
 .nd (!((8:Int)==(0:Int))) <|
 .br ((Int.tmod (((a0.1::(a0.2.1::(a0.2.2.1::(a0.2.2.2::[]))))).getD (0:Nat) (0:Int)) (8:Int))==(Int.tmod (((a0.1::(a0.2.1::(a0.2.2.1::(a0.2.2.2::[]))))).getD (1:Nat) (0:Int)) (8:Int))) (
 .ni ((Int.tmod (((a0.1::(a0.2.1::(a0.2.2.1::(a0.2.2.2::[]))))).getD (1:Nat) (0:Int)) (8:Int))+(1:Int)) <|
 .nd (!((8:Int)==(0:Int))) <|
 .bd (F43 (97:Int) (Int.tmod (((a0.1::(a0.2.1::(a0.2.2.1::(a0.2.2.2::[]))))).getD (0:Nat) (0:Int)) (8:Int))) fun y0 =>
 .bd (F43 (97:Int) (Int.tmod ((Int.tmod (((a0.1::(a0.2.1::(a0.2.2.1::(a0.2.2.2::[]))))).getD (1:Nat) (0:Int)) (8:Int))+(1:Int)) (8:Int))) fun y1 =>
 .nd (decide ((2:Nat)<((a0.1::(a0.2.1::(a0.2.2.1::(a0.2.2.2::[]))))).length)) <|
 .ni (((a0.1::(a0.2.1::(a0.2.2.1::(a0.2.2.2::[]))))).getD (2:Nat) (0:Int)) <|
 .nd (!((3:Int)==(0:Int))) <|
 .bd (F43 (120:Int) (Int.tmod (((a0.1::(a0.2.1::(a0.2.2.1::(a0.2.2.2::[]))))).getD (2:Nat) (0:Int)) (3:Int))) fun y2 =>
 .nd (decide ((2:Nat)<((a0.1::(a0.2.1::(a0.2.2.1::(a0.2.2.2::[]))))).length)) <|
 .ni (((a0.1::(a0.2.1::(a0.2.2.1::(a0.2.2.2::[]))))).getD (2:Nat) (0:Int)) <|
 .nd (!((3:Int)==(0:Int))) <|
 .ni (Int.tdiv (((a0.1::(a0.2.1::(a0.2.2.1::(a0.2.2.2::[]))))).getD (2:Nat) (0:Int)) (3:Int)) <|
 .nd (!((12:Int)==(0:Int))) <|
 .ni ((Int.tmod (Int.tdiv (((a0.1::(a0.2.1::(a0.2.2.1::(a0.2.2.2::[]))))).getD (2:Nat) (0:Int)) (3:Int)) (12:Int)) - (3:Int)) <|
 .nd (decide ((3:Nat)<((a0.1::(a0.2.1::(a0.2.2.1::(a0.2.2.2::[]))))).length)) <|
 .ni (((a0.1::(a0.2.1::(a0.2.2.1::(a0.2.2.2::[]))))).getD (3:Nat) (0:Int)) <|
 .nd (!((8:Int)==(0:Int))) <|
 .br ((Int.tmod (((a0.1::(a0.2.1::(a0.2.2.1::(a0.2.2.2::[]))))).getD (3:Nat) (0:Int)) (8:Int))==(0:Int)) (
 .ret ((y0.1,(1:Int),(bs []),y2.1,((Int.tmod (Int.tdiv (((a0.1::(a0.2.1::(a0.2.2.1::(a0.2.2.2::[]))))).getD (2:Nat) (0:Int)) (3:Int)) (12:Int)) - (3:Int))),())) (
 .br ((Int.tmod (((a0.1::(a0.2.1::(a0.2.2.1::(a0.2.2.2::[]))))).getD (3:Nat) (0:Int)) (8:Int))==(1:Int)) (
 .ret ((y0.1,(1:Int),(bs []),y2.1,((Int.tmod (Int.tdiv (((a0.1::(a0.2.1::(a0.2.2.1::(a0.2.2.2::[]))))).getD (2:Nat) (0:Int)) (3:Int)) (12:Int)) - (3:Int))),())) (
 .br ((Int.tmod (((a0.1::(a0.2.1::(a0.2.2.1::(a0.2.2.2::[]))))).getD (3:Nat) (0:Int)) (8:Int))==(2:Int)) (
 .ret ((y0.1,(1:Int),(bs []),y2.1,((Int.tmod (Int.tdiv (((a0.1::(a0.2.1::(a0.2.2.1::(a0.2.2.2::[]))))).getD (2:Nat) (0:Int)) (3:Int)) (12:Int)) - (3:Int))),())) (
 .br ((Int.tmod (((a0.1::(a0.2.1::(a0.2.2.1::(a0.2.2.2::[]))))).getD (3:Nat) (0:Int)) (8:Int))==(3:Int)) (
 .ret ((y0.1,(3:Int),y1.1,(bs []),(0:Int)),())) (
 .ret ((y0.1,(2:Int),y1.1,y2.1,((Int.tmod (Int.tdiv (((a0.1::(a0.2.1::(a0.2.2.1::(a0.2.2.2::[]))))).getD (2:Nat) (0:Int)) (3:Int)) (12:Int)) - (3:Int))),())))))) (
 .bd (F43 (97:Int) (Int.tmod (((a0.1::(a0.2.1::(a0.2.2.1::(a0.2.2.2::[]))))).getD (0:Nat) (0:Int)) (8:Int))) fun y3 =>
 .bd (F43 (97:Int) (Int.tmod (((a0.1::(a0.2.1::(a0.2.2.1::(a0.2.2.2::[]))))).getD (1:Nat) (0:Int)) (8:Int))) fun y4 =>
 .nd (decide ((2:Nat)<((a0.1::(a0.2.1::(a0.2.2.1::(a0.2.2.2::[]))))).length)) <|
 .ni (((a0.1::(a0.2.1::(a0.2.2.1::(a0.2.2.2::[]))))).getD (2:Nat) (0:Int)) <|
 .nd (!((3:Int)==(0:Int))) <|
 .bd (F43 (120:Int) (Int.tmod (((a0.1::(a0.2.1::(a0.2.2.1::(a0.2.2.2::[]))))).getD (2:Nat) (0:Int)) (3:Int))) fun y5 =>
 .nd (decide ((2:Nat)<((a0.1::(a0.2.1::(a0.2.2.1::(a0.2.2.2::[]))))).length)) <|
 .ni (((a0.1::(a0.2.1::(a0.2.2.1::(a0.2.2.2::[]))))).getD (2:Nat) (0:Int)) <|
 .nd (!((3:Int)==(0:Int))) <|
 .ni (Int.tdiv (((a0.1::(a0.2.1::(a0.2.2.1::(a0.2.2.2::[]))))).getD (2:Nat) (0:Int)) (3:Int)) <|
 .nd (!((12:Int)==(0:Int))) <|
 .ni ((Int.tmod (Int.tdiv (((a0.1::(a0.2.1::(a0.2.2.1::(a0.2.2.2::[]))))).getD (2:Nat) (0:Int)) (3:Int)) (12:Int)) - (3:Int)) <|
 .nd (decide ((3:Nat)<((a0.1::(a0.2.1::(a0.2.2.1::(a0.2.2.2::[]))))).length)) <|
 .ni (((a0.1::(a0.2.1::(a0.2.2.1::(a0.2.2.2::[]))))).getD (3:Nat) (0:Int)) <|
 .nd (!((8:Int)==(0:Int))) <|
 .br ((Int.tmod (((a0.1::(a0.2.1::(a0.2.2.1::(a0.2.2.2::[]))))).getD (3:Nat) (0:Int)) (8:Int))==(0:Int)) (
 .ret ((y3.1,(1:Int),(bs []),y5.1,((Int.tmod (Int.tdiv (((a0.1::(a0.2.1::(a0.2.2.1::(a0.2.2.2::[]))))).getD (2:Nat) (0:Int)) (3:Int)) (12:Int)) - (3:Int))),())) (
 .br ((Int.tmod (((a0.1::(a0.2.1::(a0.2.2.1::(a0.2.2.2::[]))))).getD (3:Nat) (0:Int)) (8:Int))==(1:Int)) (
 .ret ((y3.1,(1:Int),(bs []),y5.1,((Int.tmod (Int.tdiv (((a0.1::(a0.2.1::(a0.2.2.1::(a0.2.2.2::[]))))).getD (2:Nat) (0:Int)) (3:Int)) (12:Int)) - (3:Int))),())) (
 .br ((Int.tmod (((a0.1::(a0.2.1::(a0.2.2.1::(a0.2.2.2::[]))))).getD (3:Nat) (0:Int)) (8:Int))==(2:Int)) (
 .ret ((y3.1,(1:Int),(bs []),y5.1,((Int.tmod (Int.tdiv (((a0.1::(a0.2.1::(a0.2.2.1::(a0.2.2.2::[]))))).getD (2:Nat) (0:Int)) (3:Int)) (12:Int)) - (3:Int))),())) (
 .br ((Int.tmod (((a0.1::(a0.2.1::(a0.2.2.1::(a0.2.2.2::[]))))).getD (3:Nat) (0:Int)) (8:Int))==(3:Int)) (
 .ret ((y3.1,(3:Int),y4.1,(bs []),(0:Int)),())) (
 .ret ((y3.1,(2:Int),y4.1,y5.1,((Int.tmod (Int.tdiv (((a0.1::(a0.2.1::(a0.2.2.1::(a0.2.2.2::[]))))).getD (2:Nat) (0:Int)) (3:Int)) (12:Int)) - (3:Int))),()))))))
theorem c44_ok:trF prog f44=some ⟨52,1,dd44.er,[.cell 2 true 5],[some tG]⟩:=by kernel_rfl
noncomputable def ct44:Ct:=⟨44,[.c (.hole (.prod (.int .u8) (.prod (.int .u8) (.prod (.int .u8) (.int .u8)))))],.c (.hole tG),fun x=>run0 (F44 x.1)⟩
theorem ct44_ok:ct44.Ok prog:=ct_ok mixed cx44_ok func44 c44_ok (enters_of func44 rfl rfl) dd44 (by kernel_rfl) rfl (fun x=>by kernel_rfl)

/- 28 -/
noncomputable def cx28:Cx:=(mkCxH [ct44] [])
theorem cx28_ok:cx28.Ok prog:=mkCxH_ok ⟨ct44_ok,trivial⟩ trivial
@[reducible] def p28_0:Pat:=Pat.mk [(0,.c (.hole (.list (.prod (.int .u8) (.prod (.int .u8) (.prod (.int .u8) (.int .u8))))))),(3,.c (.sl0 0 tG)),(4,hI)] [(0,.arr tG false)] [.slot 3] []
@[reducible] def x28_0:Outs:=[(.exit 0,Pat.mk [(3,.c (.sl0 0 tG))] [(0,.arr tG false)] [.slot 3] [])]
noncomputable def b28_0:D prog 24 none 0:=dO [] (pick (kd prog f28) [(0,false)]) 0
noncomputable def g28_0:(List (Int×Int×Int×Int))×Nat×Int×(List (GG))×Unit→Tr0 (((List (Int×Int×Int×Int))×Nat×Int×(List (GG))×Unit) ⊕ ((Nat×(List (GG))×Unit))):=fun (v0,nv3,v4,b0,_) =>
 .br (decide (v4<(((v0).length:Nat):Int))) (
 .br (decide (v4<(10:Int))) (
 .nb v4 (((v0).length:Nat):Int) <|
 .bd (F44 (((v0).getD (Int.toNat v4) ((0:Int),(0:Int),(0:Int),(0:Int))).1,((v0).getD (Int.toNat v4) ((0:Int),(0:Int),(0:Int),(0:Int))).2.1,((v0).getD (Int.toNat v4) ((0:Int),(0:Int),(0:Int),(0:Int))).2.2.1,((v0).getD (Int.toNat v4) ((0:Int),(0:Int),(0:Int),(0:Int))).2.2.2)) fun y0 =>
 .nd (decide ((nv3+((((((y0.1.1,y0.1.2.1,y0.1.2.2.1,y0.1.2.2.2.1,y0.1.2.2.2.2)::[])).drop (0:Nat)).take (1:Nat))).length)<bigL)) <|
 .ni (v4+(1:Int)) <|
 .ret (.inl (v0,(nv3+((((((y0.1.1,y0.1.2.1,y0.1.2.2.1,y0.1.2.2.2.1,y0.1.2.2.2.2)::[])).drop (0:Nat)).take (1:Nat))).length),(v4+(1:Int)),((((b0).drop (0:Nat)).take nv3)++(((((y0.1.1,y0.1.2.1,y0.1.2.2.1,y0.1.2.2.2.1,y0.1.2.2.2.2)::[])).drop (0:Nat)).take (1:Nat))),()))) (
 .ret (.inr (nv3,b0,())))) (
 .ret (.inr (nv3,b0,())))
noncomputable def L28_0:LoopS prog 24 none 0:=mkLoop mixed cx28 cx28_ok [] rfl p28_0 x28_0 rfl (b28_0) (fun x=>run0 (g28_0 x)) (fun x=>by kernel_rfl)
noncomputable def dd28:D prog 24 none 0:=dO [.l L28_0] (kd prog f28) 0
noncomputable def F28 (a0:List (Int×Int×Int×Int)):Tr0 ((List (GG))×Unit) :=
 .bd (.it g28_0 (a0,(0:Nat),(0:Int),[],())) fun z1 =>
 .ret ((((z1.2.1).drop (0:Nat)).take z1.1),())
theorem c28_ok:trF prog f28=some ⟨24,1,dd28.er,[.t 2],[some (.list tG)]⟩:=by kernel_rfl
noncomputable def ct28:Ct:=⟨28,[.c (.hole (.list (.prod (.int .u8) (.prod (.int .u8) (.prod (.int .u8) (.int .u8))))))],.c (.hole (.list tG)),fun x=>run0 (F28 x.1)⟩
theorem ct28_ok:ct28.Ok prog:=ct_ok mixed cx28_ok func28 c28_ok (enters_of func28 rfl rfl) dd28 (by kernel_rfl) rfl (fun x=>by kernel_rfl)

/- 31 -/
noncomputable def cx31:Cx:=(mkCxH [] [])
theorem cx31_ok:cx31.Ok prog:=mkCxH_ok trivial trivial
noncomputable def dd31:D prog 2 none 0:=dO [] (kd prog f31) 0
noncomputable def F31:Tr0 (List ByteArray×Unit) :=
 .ret ((((((bs [97])::((bs [98])::((bs [99])::((bs [100])::((bs [101])::((bs [102])::((bs [103])::((bs [104])::[]))))))))).drop (0:Nat)).take (8:Nat)),())
theorem c31_ok:trF prog f31=some ⟨2,0,dd31.er,[.t 0],[some (.list .str)]⟩:=by kernel_rfl
noncomputable def ct31:Ct:=⟨31,[],.c (.hole (.list .str)),fun x=>run0 (F31)⟩
theorem ct31_ok:ct31.Ok prog:=ct_ok mixed cx31_ok func31 c31_ok (enters_of func31 rfl rfl) dd31 (by kernel_rfl) rfl (fun x=>by kernel_rfl)

/- 30 -/
noncomputable def cx30:Cx:=(mkCxH [ct31] [])
theorem cx30_ok:cx30.Ok prog:=mkCxH_ok ⟨ct31_ok,trivial⟩ trivial
@[reducible] def p30_1:Pat:=Pat.mk [(0,.c (.hole (.list tG))),(3,.c (.sl0 0 tG)),(5,.c (.hole .str)),(6,.c (.ptr 1 0)),(9,.c (.hole (.list .str))),(10,hI),(11,hI),(15,.c (.hole (.list tG))),(16,hI),(17,hI)] [(0,.arr tG false),(1,.cells [.hole .str,.hole tI,.hole .str,.hole .str,.hole tI] false)] [.slot 3,.slot 6] []
@[reducible] def x30_1:Outs:=[(.exit 2,Pat.mk [(0,.c (.hole (.list tG))),(3,.c (.sl0 0 tG)),(6,.c (.ptr 1 0)),(9,.c (.hole (.list .str))),(10,hI),(11,hI)] [(0,.arr tG false),(1,.cells [.hole .str,.hole tI,.hole .str,.hole .str,.hole tI] false)] [.slot 3,.slot 6] [])]
noncomputable def b30_1:D prog 90 none 0:=dO [] (pick (kd prog f30) [(0,false),(0,false)]) 0
noncomputable def g30_1:(List (GG))×Nat×ByteArray×List ByteArray×Int×Int×(List (GG))×Int×Int×(List (GG))×ByteArray×Int×ByteArray×ByteArray×Int×Unit→Tr0 (((List (GG))×Nat×ByteArray×List ByteArray×Int×Int×(List (GG))×Int×Int×(List (GG))×ByteArray×Int×ByteArray×ByteArray×Int×Unit) ⊕ (((List (GG))×Nat×List ByteArray×Int×Int×(List (GG))×ByteArray×Int×ByteArray×ByteArray×Int×Unit))):=fun (v0,nv3,v5,v9,v10,v11,v15,v16,v17,b0,c1_0,c1_1,c1_2,c1_3,c1_4,_) =>
 .br (decide (v17<v16)) (
 .nb v17 (((v15).length:Nat):Int) <|
 .br (seq ((v15).getD (Int.toNat v17) ((bs []),(0:Int),(bs []),(bs []),(0:Int))).1 v5) (
 .br (c1_1==(0:Int)) (
 .ni (v17+(1:Int)) <|
 .ret (.inl (v0,nv3,v5,v9,v10,v11,v15,v16,(v17+(1:Int)),b0,((v15).getD (Int.toNat v17) ((bs []),(0:Int),(bs []),(bs []),(0:Int))).1,((v15).getD (Int.toNat v17) ((bs []),(0:Int),(bs []),(bs []),(0:Int))).2.1,((v15).getD (Int.toNat v17) ((bs []),(0:Int),(bs []),(bs []),(0:Int))).2.2.1,((v15).getD (Int.toNat v17) ((bs []),(0:Int),(bs []),(bs []),(0:Int))).2.2.2.1,((v15).getD (Int.toNat v17) ((bs []),(0:Int),(bs []),(bs []),(0:Int))).2.2.2.2,()))) (
 .br (decide (((v15).getD (Int.toNat v17) ((bs []),(0:Int),(bs []),(bs []),(0:Int))).2.1<c1_1)) (
 .ni (v17+(1:Int)) <|
 .ret (.inl (v0,nv3,v5,v9,v10,v11,v15,v16,(v17+(1:Int)),b0,((v15).getD (Int.toNat v17) ((bs []),(0:Int),(bs []),(bs []),(0:Int))).1,((v15).getD (Int.toNat v17) ((bs []),(0:Int),(bs []),(bs []),(0:Int))).2.1,((v15).getD (Int.toNat v17) ((bs []),(0:Int),(bs []),(bs []),(0:Int))).2.2.1,((v15).getD (Int.toNat v17) ((bs []),(0:Int),(bs []),(bs []),(0:Int))).2.2.2.1,((v15).getD (Int.toNat v17) ((bs []),(0:Int),(bs []),(bs []),(0:Int))).2.2.2.2,()))) (
 .br (((v15).getD (Int.toNat v17) ((bs []),(0:Int),(bs []),(bs []),(0:Int))).2.1==c1_1) (
 .br (slt ((v15).getD (Int.toNat v17) ((bs []),(0:Int),(bs []),(bs []),(0:Int))).2.2.1 c1_2) (
 .ni (v17+(1:Int)) <|
 .ret (.inl (v0,nv3,v5,v9,v10,v11,v15,v16,(v17+(1:Int)),b0,((v15).getD (Int.toNat v17) ((bs []),(0:Int),(bs []),(bs []),(0:Int))).1,((v15).getD (Int.toNat v17) ((bs []),(0:Int),(bs []),(bs []),(0:Int))).2.1,((v15).getD (Int.toNat v17) ((bs []),(0:Int),(bs []),(bs []),(0:Int))).2.2.1,((v15).getD (Int.toNat v17) ((bs []),(0:Int),(bs []),(bs []),(0:Int))).2.2.2.1,((v15).getD (Int.toNat v17) ((bs []),(0:Int),(bs []),(bs []),(0:Int))).2.2.2.2,()))) (
 .br (seq ((v15).getD (Int.toNat v17) ((bs []),(0:Int),(bs []),(bs []),(0:Int))).2.2.1 c1_2) (
 .br (slt ((v15).getD (Int.toNat v17) ((bs []),(0:Int),(bs []),(bs []),(0:Int))).2.2.2.1 c1_3) (
 .ni (v17+(1:Int)) <|
 .ret (.inl (v0,nv3,v5,v9,v10,v11,v15,v16,(v17+(1:Int)),b0,((v15).getD (Int.toNat v17) ((bs []),(0:Int),(bs []),(bs []),(0:Int))).1,((v15).getD (Int.toNat v17) ((bs []),(0:Int),(bs []),(bs []),(0:Int))).2.1,((v15).getD (Int.toNat v17) ((bs []),(0:Int),(bs []),(bs []),(0:Int))).2.2.1,((v15).getD (Int.toNat v17) ((bs []),(0:Int),(bs []),(bs []),(0:Int))).2.2.2.1,((v15).getD (Int.toNat v17) ((bs []),(0:Int),(bs []),(bs []),(0:Int))).2.2.2.2,()))) (
 .br (seq ((v15).getD (Int.toNat v17) ((bs []),(0:Int),(bs []),(bs []),(0:Int))).2.2.2.1 c1_3) (
 .br (decide (((v15).getD (Int.toNat v17) ((bs []),(0:Int),(bs []),(bs []),(0:Int))).2.2.2.2<c1_4)) (
 .ni (v17+(1:Int)) <|
 .ret (.inl (v0,nv3,v5,v9,v10,v11,v15,v16,(v17+(1:Int)),b0,((v15).getD (Int.toNat v17) ((bs []),(0:Int),(bs []),(bs []),(0:Int))).1,((v15).getD (Int.toNat v17) ((bs []),(0:Int),(bs []),(bs []),(0:Int))).2.1,((v15).getD (Int.toNat v17) ((bs []),(0:Int),(bs []),(bs []),(0:Int))).2.2.1,((v15).getD (Int.toNat v17) ((bs []),(0:Int),(bs []),(bs []),(0:Int))).2.2.2.1,((v15).getD (Int.toNat v17) ((bs []),(0:Int),(bs []),(bs []),(0:Int))).2.2.2.2,()))) (
 .ni (v17+(1:Int)) <|
 .ret (.inl (v0,nv3,v5,v9,v10,v11,v15,v16,(v17+(1:Int)),b0,c1_0,c1_1,c1_2,c1_3,c1_4,())))) (
 .ni (v17+(1:Int)) <|
 .ret (.inl (v0,nv3,v5,v9,v10,v11,v15,v16,(v17+(1:Int)),b0,c1_0,c1_1,c1_2,c1_3,c1_4,()))))) (
 .ni (v17+(1:Int)) <|
 .ret (.inl (v0,nv3,v5,v9,v10,v11,v15,v16,(v17+(1:Int)),b0,c1_0,c1_1,c1_2,c1_3,c1_4,()))))) (
 .ni (v17+(1:Int)) <|
 .ret (.inl (v0,nv3,v5,v9,v10,v11,v15,v16,(v17+(1:Int)),b0,c1_0,c1_1,c1_2,c1_3,c1_4,())))))) (
 .ni (v17+(1:Int)) <|
 .ret (.inl (v0,nv3,v5,v9,v10,v11,v15,v16,(v17+(1:Int)),b0,c1_0,c1_1,c1_2,c1_3,c1_4,())))) (
 .ret (.inr (v0,nv3,v9,v10,v11,b0,c1_0,c1_1,c1_2,c1_3,c1_4,())))
noncomputable def L30_1:LoopS prog 90 none 0:=mkLoop mixed cx30 cx30_ok [] rfl p30_1 x30_1 rfl (b30_1) (fun x=>run0 (g30_1 x)) (fun x=>by kernel_rfl)
@[reducible] def p30_0:Pat:=Pat.mk [(0,.c (.hole (.list tG))),(3,.c (.sl0 0 tG)),(9,.c (.hole (.list .str))),(10,hI),(11,hI)] [(0,.arr tG false)] [.slot 3] []
@[reducible] def x30_0:Outs:=[(.exit 0,Pat.mk [(3,.c (.sl0 0 tG))] [(0,.arr tG false)] [.slot 3] [])]
noncomputable def b30_0:D prog 90 none 0:=dO [.l L30_1] (pick (kd prog f30) [(0,false)]) 0
noncomputable def g30_0:(List (GG))×Nat×List ByteArray×Int×Int×(List (GG))×Unit→Tr0 (((List (GG))×Nat×List ByteArray×Int×Int×(List (GG))×Unit) ⊕ ((Nat×(List (GG))×Unit))):=fun (v0,nv3,v9,v10,v11,b0,_) =>
 .br (decide (v11<v10)) (
 .nb v11 (((v9).length:Nat):Int) <|
 .bd (.it g30_1 (v0,nv3,((v9).getD (Int.toNat v11) (bs [])),v9,v10,v11,v0,(((v0).length:Nat):Int),(0:Int),b0,(bs []),(0:Int),(bs []),(bs []),(0:Int),())) fun z1 =>
 .br (decide ((0:Int)<z1.2.2.2.2.2.2.2.1)) (
 .nd (decide ((z1.2.1+((((((z1.2.2.2.2.2.2.1,z1.2.2.2.2.2.2.2.1,z1.2.2.2.2.2.2.2.2.1,z1.2.2.2.2.2.2.2.2.2.1,z1.2.2.2.2.2.2.2.2.2.2.1)::[])).drop (0:Nat)).take (1:Nat))).length)<bigL)) <|
 .ni (z1.2.2.2.2.1+(1:Int)) <|
 .ret (.inl (z1.1,(z1.2.1+((((((z1.2.2.2.2.2.2.1,z1.2.2.2.2.2.2.2.1,z1.2.2.2.2.2.2.2.2.1,z1.2.2.2.2.2.2.2.2.2.1,z1.2.2.2.2.2.2.2.2.2.2.1)::[])).drop (0:Nat)).take (1:Nat))).length),z1.2.2.1,z1.2.2.2.1,(z1.2.2.2.2.1+(1:Int)),((((z1.2.2.2.2.2.1).drop (0:Nat)).take z1.2.1)++(((((z1.2.2.2.2.2.2.1,z1.2.2.2.2.2.2.2.1,z1.2.2.2.2.2.2.2.2.1,z1.2.2.2.2.2.2.2.2.2.1,z1.2.2.2.2.2.2.2.2.2.2.1)::[])).drop (0:Nat)).take (1:Nat))),()))) (
 .ni (z1.2.2.2.2.1+(1:Int)) <|
 .ret (.inl (z1.1,z1.2.1,z1.2.2.1,z1.2.2.2.1,(z1.2.2.2.2.1+(1:Int)),z1.2.2.2.2.2.1,())))) (
 .ret (.inr (nv3,b0,())))
noncomputable def L30_0:LoopS prog 90 none 0:=mkLoop mixed cx30 cx30_ok [] rfl p30_0 x30_0 rfl (b30_0) (fun x=>run0 (g30_0 x)) (fun x=>by kernel_rfl)
noncomputable def dd30:D prog 90 none 0:=dO [.l L30_0] (kd prog f30) 0
noncomputable def F30 (a0:List (GG)):Tr0 ((List (GG))×Unit) :=
 .bd (F31) fun y0 =>
 .bd (.it g30_0 (a0,(0:Nat),y0.1,(((y0.1).length:Nat):Int),(0:Int),[],())) fun z2 =>
 .ret ((((z2.2.1).drop (0:Nat)).take z2.1),())
theorem c30_ok:trF prog f30=some ⟨90,1,dd30.er,[.t 2],[some (.list tG)]⟩:=by kernel_rfl
noncomputable def ct30:Ct:=⟨30,[.c (.hole (.list tG))],.c (.hole (.list tG)),fun x=>run0 (F30 x.1)⟩
theorem ct30_ok:ct30.Ok prog:=ct_ok mixed cx30_ok func30 c30_ok (enters_of func30 rfl rfl) dd30 (by kernel_rfl) rfl (fun x=>by kernel_rfl)

end Go.Proofs.Tryz

