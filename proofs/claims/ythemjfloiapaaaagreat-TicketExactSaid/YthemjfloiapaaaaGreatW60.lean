/- Functions of the program as functions of data, part 1; printed by a program of mine. -/
import Derived.Test.YthemjfloiapaaaaGreatP6
import Derived.Test.YthemjfloiapaaaaGreatProg
set_option linter.unusedSectionVars false
set_option linter.unusedVariables false
set_option linter.unusedSimpArgs false
open Go.AM
namespace Go.Proofs.Tryz
set_option maxRecDepth 100000
set_option synthInstance.maxSize 4000
set_option synthInstance.maxHeartbeats 400000
set_option synthInstance.maxSize 4000
set_option synthInstance.maxHeartbeats 400000
theorem mixed : prog.follows .mixedOrders = true := by kernel_rfl
@[reducible] def tG : Ty := .prod .str (.prod tI (.prod .str (.prod .str tI)))
abbrev GG := ByteArray × Int × ByteArray × ByteArray × Int
abbrev Tbk := List (GG × Bool)
abbrev aT := List (ByteArray × Bool)
abbrev cM := List (ByteArray × List ByteArray)
abbrev cH := List (ByteArray × GG)
abbrev Tlg := List GG
@[reducible] def oo (n : Nat) (i : I) : eM := .op (some n) none i
@[reducible] def om (n k : Nat) : eM := .op (some n) none (.mv (.t k))
@[reducible] def ol (n k : Nat) : eM := .op (some n) none (.load false 1 (.t k))
@[reducible] def og (n k : Nat) (b : Bool) (i : I) : eM := .op (some n) (some (k, b)) i
@[reducible] def ki (n : Nat) : O := .c (.int .i64 (Int.ofNat n))
@[reducible] def hzI : SP := .c (.hole (.int .i64))
@[reducible] def hzL : SP := .c (.hole (.list (.int .i64)))
@[reducible] def hzM : SP := .c (.hole (.list (.list (.int .i64))))

/- 130 -/
noncomputable def abz:Cx:=(aL [] [])
theorem NS:abz.Ok prog:=ax trivial trivial
noncomputable def Vm:D prog 6 none 0:=dO [] (kd prog f130) 0
noncomputable def F130 (a0:ByteArray):bQ (Bool×Unit) :=
 .ret ((!(seq a0 a0)),())
theorem RI:cL prog f130=some ⟨6,1,Vm.er,[.t 2],[some .bool]⟩:=by kernel_rfl
noncomputable def Vn:Ct:=⟨130,[.c (.hole .str)],.c (.hole .bool),fun x=>ak (F130 x.1)⟩
theorem NT:Vn.Ok prog:=cK mixed NS func130 RI (enters_of func130 rfl rfl) Vm (by kernel_rfl) rfl (fun x=>by kernel_rfl)

/- 113 -/
noncomputable def abA:Cx:=(aL [Vn] [])
theorem NU:abA.Ok prog:=ax ⟨NT,trivial⟩ trivial
noncomputable def Vo:D prog 20 none 0:=dO [] (kd prog f113) 0
noncomputable def F113 (a0:ByteArray) (a1:ByteArray):bQ (Int×Unit) :=
 .bd (F130 a0) fun y0 =>
 .bd (F130 a1) fun y1 =>
 .br y0.1 (
 .br y1.1 (
 .ret ((0:Int),())) (
 .ret ((-1:Int),()))) (
 .br y1.1 (
 .ret ((1:Int),())) (
 .br (slt a0 a1) (
 .ret ((-1:Int),())) (
 .br (!(FC (slt a0 a1) true (seq a0 a1))) (
 .ret ((1:Int),())) (
 .ret ((0:Int),())))))
theorem RJ:cL prog f113=some ⟨20,2,Vo.er,[.t 4],[some tI]⟩:=by kernel_rfl
noncomputable def Vp:Ct:=⟨113,[.c (.hole .str),.c (.hole .str)],hI,fun x=>ak (F113 x.1 x.2.1)⟩
theorem NV:Vp.Ok prog:=cK mixed NU func113 RJ (enters_of func113 rfl rfl) Vo (by kernel_rfl) rfl (fun x=>by kernel_rfl)

/- 131 -/
noncomputable def abB:Cx:=(aL [] [])
theorem NW:abB.Ok prog:=ax trivial trivial
noncomputable def Vq:D prog 6 none 0:=dO [] (kd prog f131) 0
noncomputable def F131 (a0:Int):bQ (Bool×Unit) :=
 .ret ((!(a0==a0)),())
theorem RK:cL prog f131=some ⟨6,1,Vq.er,[.t 2],[some .bool]⟩:=by kernel_rfl
noncomputable def Vr:Ct:=⟨131,[hI],.c (.hole .bool),fun x=>ak (F131 x.1)⟩
theorem NX:Vr.Ok prog:=cK mixed NW func131 RK (enters_of func131 rfl rfl) Vq (by kernel_rfl) rfl (fun x=>by kernel_rfl)

/- 114 -/
noncomputable def abC:Cx:=(aL [Vr] [])
theorem NY:abC.Ok prog:=ax ⟨NX,trivial⟩ trivial
noncomputable def Vs:D prog 20 none 0:=dO [] (kd prog f114) 0
noncomputable def F114 (a0:Int) (a1:Int):bQ (Int×Unit) :=
 .bd (F131 a0) fun y0 =>
 .bd (F131 a1) fun y1 =>
 .br y0.1 (
 .br y1.1 (
 .ret ((0:Int),())) (
 .ret ((-1:Int),()))) (
 .br y1.1 (
 .ret ((1:Int),())) (
 .br (decide (a0<a1)) (
 .ret ((-1:Int),())) (
 .br (decide (a1<a0)) (
 .ret ((1:Int),())) (
 .ret ((0:Int),())))))
theorem RL:cL prog f114=some ⟨20,2,Vs.er,[.t 4],[some tI]⟩:=by kernel_rfl
noncomputable def Vt:Ct:=⟨114,[hI,hI],hI,fun x=>ak (F114 x.1 x.2.1)⟩
theorem NZ:Vt.Ok prog:=cK mixed NY func114 RL (enters_of func114 rfl rfl) Vs (by kernel_rfl) rfl (fun x=>by kernel_rfl)

/- 112 -/
noncomputable def Vu:Cx:=(aL [] [])
theorem Ei:Vu.Ok prog:=ax trivial trivial
@[reducible] def XR:az:=az.mk [(3,hI),(6,hL),(7,hI),(8,hI)] [] [] []
@[reducible] def XS:aW:=[(.ret,az.mk [(2,hI)] [] [] []),(.exit 0,az.mk [(3,hI)] [] [] [])]
noncomputable def XT:D prog 18 none 0:=dO [] (pick (kd prog f112) [(0,false)]) 0
noncomputable def g112_0:Int×List Int×Int×Int×Unit→bQ ((Int×List Int×Int×Int×Unit) ⊕ ((Int×Unit) ⊕ ((Int×Unit)))):=fun (v3,v6,v7,v8,_) =>
 .br (decide (v8<v7)) (
 .nb v8 (((v6).length:Nat):Int) <|
 .br (!(((v6).getD (Int.toNat v8) (0:Int))==v3)) (
 .ret (.inr <| .inl<|(((v6).getD (Int.toNat v8) (0:Int)),()))) (
 .ni (v8+(1:Int)) <|
 .ret (.inl (v3,v6,v7,(v8+(1:Int)),())))) (
 .ret (.inr <| .inr<|(v3,())))
noncomputable def XU:bS prog 18 none 0:=bE mixed Vu Ei [] rfl XR XS rfl (XT) (fun x=>ak (g112_0 x)) (fun x=>by kernel_rfl)
noncomputable def Vv:D prog 18 none 0:=dO [.l XU] (kd prog f112) 0
noncomputable def F112 (a0:List Int):bQ (Int×Unit) :=
 .bd (.it g112_0 ((0:Int),a0,(((a0).length:Nat):Int),(0:Int),())) fun z0 =>
 .sm z0 (fun z1 =>
 .ret (z1.1,())) fun z2 =>
 .ret (z2.1,())
theorem RM:cL prog f112=some ⟨18,1,Vv.er,[.t 2],[some tI]⟩:=by kernel_rfl
noncomputable def Vw:Ct:=⟨112,[hL],hI,fun x=>ak (F112 x.1)⟩
theorem N4:Vw.Ok prog:=cK mixed Ei func112 RM (enters_of func112 rfl rfl) Vv (by kernel_rfl) rfl (fun x=>by kernel_rfl)

/- 85 -/
noncomputable def cx85:Cx:=(aL [Vp,Vt,Vw] [])
theorem RN:cx85.Ok prog:=ax ⟨NV,NZ,N4,trivial⟩ trivial
noncomputable def dd85:D prog 35 none 0:=dO [] (kd prog f85) 0
noncomputable def F85 (a0:GG) (a1:GG):bQ (Int×Unit) :=
 .br ((seq a0.1 a1.1)&&((a0.2.1==a1.2.1)&&((seq a0.2.2.1 a1.2.2.1)&&((seq a0.2.2.2.1 a1.2.2.2.1)&&((a0.2.2.2.2==a1.2.2.2.2)&&true))))) (
 .ret ((0:Int),())) (
 .bd (F113 a0.1 a1.1) fun y0 =>
 .bd (F114 a0.2.1 a1.2.1) fun y1 =>
 .bd (F113 a0.2.2.1 a1.2.2.1) fun y2 =>
 .bd (F113 a0.2.2.2.1 a1.2.2.2.1) fun y3 =>
 .bd (F114 a0.2.2.2.2 a1.2.2.2.2) fun y4 =>
 .bd (F112 ((((y0.1::(y1.1::(y2.1::(y3.1::(y4.1::[])))))).drop (0:Nat)).take (5:Nat))) fun y5 =>
 .ret (y5.1,()))
theorem XV:cL prog f85=some ⟨35,2,dd85.er,[.t 4],[some tI]⟩:=by kernel_rfl
noncomputable def ct85:Ct:=⟨85,[.c (.hole tG),.c (.hole tG)],hI,fun x=>ak (F85 x.1 x.2.1)⟩
theorem RO:ct85.Ok prog:=cK mixed RN func85 XV (enters_of func85 rfl rfl) dd85 (by kernel_rfl) rfl (fun x=>by kernel_rfl)

/- 50 -/
noncomputable def cx50:Cx:=(aL [] [])
theorem RP:cx50.Ok prog:=ax trivial trivial
noncomputable def dd50:D prog 11 none 0:=dO [] (kd prog f50) 0
noncomputable def F50 (a0:ByteArray) (a1:ByteArray) (a2:Int):bQ ((GG)×Unit) :=
 .ret ((a0,(1:Int),(bs []),a1,a2),())
theorem XW:cL prog f50=some ⟨11,3,dd50.er,[.cell 6 true 5],[some tG]⟩:=by kernel_rfl
noncomputable def ct50:Ct:=⟨50,[.c (.hole .str),.c (.hole .str),hI],.c (.hole tG),fun x=>ak (F50 x.1 x.2.1 x.2.2.1)⟩
theorem RQ:ct50.Ok prog:=cK mixed RP func50 XW (enters_of func50 rfl rfl) dd50 (by kernel_rfl) rfl (fun x=>by kernel_rfl)

/- 42 -/
noncomputable def cx42:Cx:=(aL [] [])
theorem RR:cx42.Ok prog:=ax trivial trivial
noncomputable def dd42:D prog 14 none 0:=dO [] (kd prog f42) 0
noncomputable def F42 (a0:ByteArray) (a1:ByteArray) (a2:ByteArray) (a3:Int):bQ ((GG)×Unit) :=
 .ret ((a0,(2:Int),a1,a2,a3),())
theorem XX:cL prog f42=some ⟨14,4,dd42.er,[.cell 8 true 5],[some tG]⟩:=by kernel_rfl
noncomputable def ct42:Ct:=⟨42,[.c (.hole .str),.c (.hole .str),.c (.hole .str),hI],.c (.hole tG),fun x=>ak (F42 x.1 x.2.1 x.2.2.1 x.2.2.2.1)⟩
theorem RT:ct42.Ok prog:=cK mixed RR func42 XX (enters_of func42 rfl rfl) dd42 (by kernel_rfl) rfl (fun x=>by kernel_rfl)

/- 39 -/
noncomputable def cx39:Cx:=(aL [] [])
theorem RU:cx39.Ok prog:=ax trivial trivial
noncomputable def dd39:D prog 8 none 0:=dO [] (kd prog f39) 0
noncomputable def F39 (a0:ByteArray) (a1:ByteArray):bQ ((GG)×Unit) :=
 .ret ((a0,(3:Int),a1,(bs []),(0:Int)),())
theorem XY:cL prog f39=some ⟨8,2,dd39.er,[.cell 4 true 5],[some tG]⟩:=by kernel_rfl
noncomputable def ct39:Ct:=⟨39,[.c (.hole .str),.c (.hole .str)],.c (.hole tG),fun x=>ak (F39 x.1 x.2.1)⟩
theorem RW:ct39.Ok prog:=cK mixed RU func39 XY (enters_of func39 rfl rfl) dd39 (by kernel_rfl) rfl (fun x=>by kernel_rfl)

/- 46 -/
noncomputable def cx46:Cx:=(aL [ct50,ct42,ct39] [])
theorem RX:cx46.Ok prog:=ax ⟨RQ,RT,RW,trivial⟩ trivial
noncomputable def dd46:D prog 10 none 0:=dO [] (kd prog f46) 0
noncomputable def F46:bQ ((List (GG))×Unit) :=
 .bd (F50 (bs [116,49]) (bs [97,110,97]) (40:Int)) fun y0 =>
 .bd (F50 (bs [116,50]) (bs [98,101,110]) (25:Int)) fun y1 =>
 .bd (F42 (bs [99,49]) (bs [116,49]) (bs [97,110,97]) (42:Int)) fun y2 =>
 .bd (F42 (bs [99,50]) (bs [116,49]) (bs [99,121]) (40:Int)) fun y3 =>
 .bd (F42 (bs [99,51]) (bs [99,49]) (bs [97,110,97]) (41:Int)) fun y4 =>
 .bd (F42 (bs [119,49]) (bs [120,57]) (bs [98,101,110]) (5:Int)) fun y5 =>
 .bd (F39 (bs [114,49]) (bs [99,49])) fun y6 =>
 .bd (F39 (bs [114,50]) (bs [99,50])) fun y7 =>
 .ret ((((((y0.1.1,y0.1.2.1,y0.1.2.2.1,y0.1.2.2.2.1,y0.1.2.2.2.2)::((y1.1.1,y1.1.2.1,y1.1.2.2.1,y1.1.2.2.2.1,y1.1.2.2.2.2)::((y2.1.1,y2.1.2.1,y2.1.2.2.1,y2.1.2.2.2.1,y2.1.2.2.2.2)::((y3.1.1,y3.1.2.1,y3.1.2.2.1,y3.1.2.2.2.1,y3.1.2.2.2.2)::((y4.1.1,y4.1.2.1,y4.1.2.2.1,y4.1.2.2.2.1,y4.1.2.2.2.2)::((y5.1.1,y5.1.2.1,y5.1.2.2.1,y5.1.2.2.2.1,y5.1.2.2.2.2)::((y6.1.1,y6.1.2.1,y6.1.2.2.1,y6.1.2.2.2.1,y6.1.2.2.2.2)::((y7.1.1,y7.1.2.1,y7.1.2.2.1,y7.1.2.2.2.1,y7.1.2.2.2.2)::[]))))))))).drop (0:Nat)).take (8:Nat)),())
theorem XZ:cL prog f46=some ⟨10,0,dd46.er,[.t 0],[some (.list tG)]⟩:=by kernel_rfl
noncomputable def ct46:Ct:=⟨46,[],.c (.hole (.list tG)),fun x=>ak (F46)⟩
theorem RY:ct46.Ok prog:=cK mixed RX func46 XZ (enters_of func46 rfl rfl) dd46 (by kernel_rfl) rfl (fun x=>by kernel_rfl)

/- 18, lent -/
@[reducible] def pH18:az:=az.mk [] [] [] []
@[reducible] def qH18:az:=az.mk [(0,.c (.ptr 0 0))] [(0,.cells [.mp 1] false),(1,.map tG true .bool false)] [.slot 0,.cell 0 0] []
noncomputable def abM:Cx:=(aL [] [])
theorem N5:abM.Ok prog:=ax trivial trivial
noncomputable def Vx:D prog 4 none 0:=dO [] (kd prog f18) 0
noncomputable def FH18:bQ ((List ((GG)×Bool))×Unit) :=
 .ret ([],())
theorem RZ:cL prog f18=some ⟨4,0,Vx.er,[.t 0],[none]⟩:=by kernel_rfl
noncomputable def ht18:Ht:=⟨18,pH18,qH18,(fun x=>ak (FH18))⟩
theorem R1:ht18.Ok prog:=bP mixed N5 rfl func18 RZ (enters_of func18 rfl rfl) Vx (by kernel_rfl) rfl rfl ⟨_,rfl⟩ rfl (pre:=[]) rfl (fun x=>by kernel_rfl)

/- 54, lent -/
@[reducible] def pH54:az:=az.mk [(0,.c (.ptr 0 0))] [(0,.cells [.mp 1] false),(1,.map tG true .bool false)] [.slot 0,.cell 0 0] []
@[reducible] def qH54:az:=az.mk [(0,.c (.hole .bool))] [(0,.cells [.mp 1] false),(1,.map tG true .bool false)] [] []
noncomputable def abO:Cx:=(aL [] [])
theorem N6:abO.Ok prog:=ax trivial trivial
noncomputable def Vy:D prog 12 none 2:=dO [] (kd prog f54) 0
noncomputable def FH54 (m1:List ((GG)×Bool)):bQ (Bool×(List ((GG)×Bool))×Unit) :=
 .ret (false,m1,())
theorem R2:cL prog f54=some ⟨12,1,Vy.er,[.t 2],[some .bool]⟩:=by kernel_rfl
noncomputable def zu:Ht:=⟨54,pH54,qH54,(fun x=>ak (FH54 x.1))⟩
theorem nj:zu.Ok prog:=bP mixed N6 rfl func54 R2 (enters_of func54 rfl rfl) Vy (by kernel_rfl) rfl rfl ⟨_,rfl⟩ rfl (pre:=[0,1]) rfl (fun x=>by kernel_rfl)

/- 65 -/
noncomputable def cx65:Cx:=(aL [] [])
theorem IE:cx65.Ok prog:=ax trivial trivial
@[reducible] def abQ:az:=az.mk [(0,.c (.hole .str)),(6,.c (.hole (.list (.int .u8)))),(7,hI),(8,hI)] [] [] []
@[reducible] def abR:aW:=[(.ret,az.mk [(2,.c (.tf false))] [] [] []),(.exit 0,az.mk [(0,.c (.hole .str))] [] [] [])]
noncomputable def abS:D prog 40 none 0:=dO [] (pick (kd prog f65) [(0,false)]) 0
noncomputable def g65_0:ByteArray×List Int×Int×Int×Unit→bQ ((ByteArray×List Int×Int×Int×Unit) ⊕ ((Unit) ⊕ ((ByteArray×Unit)))):=fun (v0,v6,v7,v8,_) =>
 .br (decide (v8<v7)) (
 .nb v8 (((v6).length:Nat):Int) <|
 .br (decide (((v6).getD (Int.toNat v8) (0:Int))<(97:Int))) (
 .br (v8==(0:Int)) (
 .ret (.inr <| .inl<|())) (
 .br (decide (((v6).getD (Int.toNat v8) (0:Int))<(48:Int))) (
 .ret (.inr <| .inl<|())) (
 .br (decide ((57:Int)<((v6).getD (Int.toNat v8) (0:Int)))) (
 .ret (.inr <| .inl<|())) (
 .ni (v8+(1:Int)) <|
 .ret (.inl (v0,v6,v7,(v8+(1:Int)),())))))) (
 .br (decide ((122:Int)<((v6).getD (Int.toNat v8) (0:Int)))) (
 .br (v8==(0:Int)) (
 .ret (.inr <| .inl<|())) (
 .br (decide (((v6).getD (Int.toNat v8) (0:Int))<(48:Int))) (
 .ret (.inr <| .inl<|())) (
 .br (decide ((57:Int)<((v6).getD (Int.toNat v8) (0:Int)))) (
 .ret (.inr <| .inl<|())) (
 .ni (v8+(1:Int)) <|
 .ret (.inl (v0,v6,v7,(v8+(1:Int)),())))))) (
 .ni (v8+(1:Int)) <|
 .ret (.inl (v0,v6,v7,(v8+(1:Int)),()))))) (
 .ret (.inr <| .inr<|(v0,())))
noncomputable def abT:bS prog 40 none 0:=bE mixed cx65 IE [] rfl abQ abR rfl (abS) (fun x=>ak (g65_0 x)) (fun x=>by kernel_rfl)
noncomputable def dd65:D prog 40 none 0:=dO [.l abT] (kd prog f65) 0
noncomputable def F65 (a0:ByteArray):bQ (Bool×Unit) :=
 .bd (.it g65_0 (a0,(eX a0),((((eX a0)).length:Nat):Int),(0:Int),())) fun z0 =>
 .sm z0 (fun z1 =>
 .ret (false,())) fun z2 =>
 .br (decide ((0:Int)<((z2.1.size:Nat):Int))) (
 .ret ((decide (((z2.1.size:Nat):Int)≤(10:Int))),())) (
 .ret (false,()))
theorem X0:cL prog f65=some ⟨40,1,dd65.er,[.t 2],[some .bool]⟩:=by kernel_rfl
noncomputable def N7:Ct:=⟨65,[.c (.hole .str)],.c (.hole .bool),fun x=>ak (F65 x.1)⟩
theorem vC:N7.Ok prog:=cK mixed IE func65 X0 (enters_of func65 rfl rfl) dd65 (by kernel_rfl) rfl (fun x=>by kernel_rfl)

/- 87 -/
noncomputable def cx87:Cx:=(aL [N7] [])
theorem R3:cx87.Ok prog:=ax ⟨vC,trivial⟩ trivial
noncomputable def dd87:D prog 27 none 0:=dO [] (kd prog f87) 0
noncomputable def F87 (a0:GG):bQ (Int×Unit) :=
 .br (a0.2.1==(1:Int)) (
 .br (!(seq a0.2.2.1 (bs []))) (
 .ret ((22:Int),())) (
 .br (a0.2.1==(1:Int)) (
 .ret ((0:Int),())) (
 .bd (F65 a0.2.2.1) fun y0 =>
 .br (!y0.1) (
 .ret ((8:Int),())) (
 .br (seq a0.2.2.1 a0.1) (
 .ret ((22:Int),())) (
 .ret ((0:Int),())))))) (
 .br (a0.2.1==(1:Int)) (
 .ret ((0:Int),())) (
 .bd (F65 a0.2.2.1) fun y1 =>
 .br (!y1.1) (
 .ret ((8:Int),())) (
 .br (seq a0.2.2.1 a0.1) (
 .ret ((22:Int),())) (
 .ret ((0:Int),())))))
theorem X1:cL prog f87=some ⟨27,1,dd87.er,[.t 2],[some tI]⟩:=by kernel_rfl
noncomputable def ct87:Ct:=⟨87,[.c (.hole tG)],hI,fun x=>ak (F87 x.1)⟩
theorem R4:ct87.Ok prog:=cK mixed R3 func87 X1 (enters_of func87 rfl rfl) dd87 (by kernel_rfl) rfl (fun x=>by kernel_rfl)

/- 88 -/
noncomputable def cx88:Cx:=(aL [N7] [])
theorem R5:cx88.Ok prog:=ax ⟨vC,trivial⟩ trivial
noncomputable def dd88:D prog 35 none 0:=dO [] (kd prog f88) 0
noncomputable def F88 (a0:GG):bQ (Int×Unit) :=
 .br (a0.2.1==(3:Int)) (
 .br (!(seq a0.2.2.2.1 (bs []))) (
 .ret ((22:Int),())) (
 .br (!(a0.2.2.2.2==(0:Int))) (
 .ret ((22:Int),())) (
 .br (a0.2.1==(3:Int)) (
 .ret ((0:Int),())) (
 .bd (F65 a0.2.2.2.1) fun y0 =>
 .br (!y0.1) (
 .ret ((8:Int),())) (
 .br (decide (a0.2.2.2.2<(-1000:Int))) (
 .ret ((2:Int),())) (
 .br (decide ((1000:Int)<a0.2.2.2.2)) (
 .ret ((2:Int),())) (
 .ret ((0:Int),())))))))) (
 .br (a0.2.1==(3:Int)) (
 .ret ((0:Int),())) (
 .bd (F65 a0.2.2.2.1) fun y1 =>
 .br (!y1.1) (
 .ret ((8:Int),())) (
 .br (decide (a0.2.2.2.2<(-1000:Int))) (
 .ret ((2:Int),())) (
 .br (decide ((1000:Int)<a0.2.2.2.2)) (
 .ret ((2:Int),())) (
 .ret ((0:Int),()))))))
theorem X2:cL prog f88=some ⟨35,1,dd88.er,[.t 2],[some tI]⟩:=by kernel_rfl
noncomputable def ct88:Ct:=⟨88,[.c (.hole tG)],hI,fun x=>ak (F88 x.1)⟩
theorem R6:ct88.Ok prog:=cK mixed R5 func88 X2 (enters_of func88 rfl rfl) dd88 (by kernel_rfl) rfl (fun x=>by kernel_rfl)

/- 86 -/
noncomputable def cx86:Cx:=(aL [] [])
theorem IF:cx86.Ok prog:=ax trivial trivial
@[reducible] def ab0:az:=az.mk [(3,hI),(6,hL),(7,hI),(8,hI)] [] [] []
@[reducible] def ab1:aW:=[(.ret,az.mk [(2,hI)] [] [] []),(.exit 0,az.mk [(3,hI)] [] [] [])]
noncomputable def ab2:D prog 18 none 0:=dO [] (pick (kd prog f86) [(0,false)]) 0
noncomputable def g86_0:Int×List Int×Int×Int×Unit→bQ ((Int×List Int×Int×Int×Unit) ⊕ ((Int×Unit) ⊕ ((Int×Unit)))):=fun (v3,v6,v7,v8,_) =>
 .br (decide (v8<v7)) (
 .nb v8 (((v6).length:Nat):Int) <|
 .br (!(((v6).getD (Int.toNat v8) (0:Int))==v3)) (
 .ret (.inr <| .inl<|(((v6).getD (Int.toNat v8) (0:Int)),()))) (
 .ni (v8+(1:Int)) <|
 .ret (.inl (v3,v6,v7,(v8+(1:Int)),())))) (
 .ret (.inr <| .inr<|(v3,())))
noncomputable def ab3:bS prog 18 none 0:=bE mixed cx86 IF [] rfl ab0 ab1 rfl (ab2) (fun x=>ak (g86_0 x)) (fun x=>by kernel_rfl)
noncomputable def dd86:D prog 18 none 0:=dO [.l ab3] (kd prog f86) 0
noncomputable def F86 (a0:List Int):bQ (Int×Unit) :=
 .bd (.it g86_0 ((0:Int),a0,(((a0).length:Nat):Int),(0:Int),())) fun z0 =>
 .sm z0 (fun z1 =>
 .ret (z1.1,())) fun z2 =>
 .ret (z2.1,())
theorem X3:cL prog f86=some ⟨18,1,dd86.er,[.t 2],[some tI]⟩:=by kernel_rfl
noncomputable def ct86:Ct:=⟨86,[hL],hI,fun x=>ak (F86 x.1)⟩
theorem R7:ct86.Ok prog:=cK mixed IF func86 X3 (enters_of func86 rfl rfl) dd86 (by kernel_rfl) rfl (fun x=>by kernel_rfl)

/- 55 -/
noncomputable def cx55:Cx:=(aL [N7,ct87,ct88,ct86] [])
theorem R8:cx55.Ok prog:=ax ⟨vC,R4,R6,R7,trivial⟩ trivial
noncomputable def dd55:D prog 23 none 0:=dO [] (kd prog f55) 0
noncomputable def F55 (a0:GG):bQ (Int×Unit) :=
 .br (decide (a0.2.1<(1:Int))) (
 .ret ((18:Int),())) (
 .br (decide ((3:Int)<a0.2.1)) (
 .ret ((18:Int),())) (
 .bd (F65 a0.1) fun y0 =>
 .br (!y0.1) (
 .ret ((8:Int),())) (
 .bd (F87 (a0.1,a0.2.1,a0.2.2.1,a0.2.2.2.1,a0.2.2.2.2)) fun y1 =>
 .bd (F88 (a0.1,a0.2.1,a0.2.2.1,a0.2.2.2.1,a0.2.2.2.2)) fun y2 =>
 .bd (F86 ((((y1.1::(y2.1::[]))).drop (0:Nat)).take (2:Nat))) fun y3 =>
 .ret (y3.1,()))))
theorem X4:cL prog f55=some ⟨23,1,dd55.er,[.t 2],[some tI]⟩:=by kernel_rfl
noncomputable def ct55:Ct:=⟨55,[.c (.hole tG)],hI,fun x=>ak (F55 x.1)⟩
theorem R9:ct55.Ok prog:=cK mixed R8 func55 X4 (enters_of func55 rfl rfl) dd55 (by kernel_rfl) rfl (fun x=>by kernel_rfl)

/- 89, by hand -/
@[reducible] def pH89:az:=az.mk [(0,.c (.mp 0))] [(0,.map tG true .bool false)] [.slot 0] []
@[reducible] def qH89:az:=az.mk [(0,.c (.mp 1))] [(1,.map tG true .bool false),(0,.map tG true .bool false)] [.slot 0] []
noncomputable def FH89 (m0:List ((GG)×Bool)):bQ ((List ((GG)×Bool))×(List ((GG)×Bool))×Unit) :=
 .ret (m0,m0,())
noncomputable def ht89:Ht:=⟨89,pH89,qH89,(fun x=>ak (FH89 x.1))⟩
theorem Sa:ht89.Ok prog:=fun x y h=>by
  have h':some (x.1,x.1,())=some y:=h
  cases h'
  exact Ea (ρ:=AE) aby (enters_of func89 rfl rfl)

/- 193, lent -/
@[reducible] def ab9:az:=az.mk [(0,.c (.hole tG))] [] [] []
@[reducible] def acd:az:=az.mk [(0,.c (.b7 0 tG))] [(0,.arr tG false)] [.slot 0] []
noncomputable def X5:Cx:=(aL [] [])
theorem Ku:X5.Ok prog:=ax trivial trivial
noncomputable def N8:D prog 5 none 0:=dO [] (kd prog f193) 0
noncomputable def FH193 (v0:GG):bQ (Nat×(List (GG))×Unit) :=
 .ret ((1:Nat),((v0.1,v0.2.1,v0.2.2.1,v0.2.2.2.1,v0.2.2.2.2)::[]),())
theorem N9:cL prog f193=some ⟨5,1,N8.er,[.t 2],[some (.list tG)]⟩:=by kernel_rfl
noncomputable def Vz:Ht:=⟨193,ab9,acd,(fun x=>ak (FH193 x.1))⟩
theorem Oa:Vz.Ok prog:=bP mixed Ku rfl func193 N9 (enters_of func193 rfl rfl) N8 (by kernel_rfl) rfl rfl ⟨_,rfl⟩ rfl (pre:=[]) rfl (fun x=>by kernel_rfl)

/- 56, lent -/
@[reducible] def pH56:az:=az.mk [(0,.c (.ptr 0 0)),(1,.c (.Gr 33 true (.cons (.hole .str) (.cons (.hole tI) (.cons (.hole .str) (.cons (.hole .str) (.cons (.hole tI) .nil)))))))] [(0,.cells [.mp 1] false),(1,.map tG true .bool false)] [.slot 0,.cell 0 0] []
@[reducible] def qH56:az:=az.mk [(0,hI)] [(0,.cells [.mp 2] false),(2,.map tG true .bool false)] [.cell 0 0] []
noncomputable def VA:Cx:=(aL [] [ht89,Vz])
theorem Ej:VA.Ok prog:=ax trivial ⟨⟨Sa,rfl⟩,⟨Oa,rfl⟩,trivial⟩
@[reducible] def X6:az:=az.mk [(0,.c (.ptr 0 0)),(5,.c (.mp 2)),(14,.c (.b7 3 tG)),(15,hI),(16,hI)] [(0,.cells [.mp 1] false),(2,.map tG true .bool false),(3,.arr tG false),(1,.map tG true .bool false)] [.slot 5,.slot 14] []
@[reducible] def X7:aW:=[(.exit 0,az.mk [(0,.c (.ptr 0 0)),(5,.c (.mp 2))] [(0,.cells [.mp 1] false),(2,.map tG true .bool false),(1,.map tG true .bool false)] [.slot 5] [])]
noncomputable def X8:D prog 30 none 2:=dO [] (pick (kd prog f56) [(0,false)]) 0
noncomputable def gH56_0:Nat×Int×Int×(List ((GG)×Bool))×(List (GG))×(List ((GG)×Bool))×Unit→bQ ((Nat×Int×Int×(List ((GG)×Bool))×(List (GG))×(List ((GG)×Bool))×Unit) ⊕ (((List ((GG)×Bool))×(List ((GG)×Bool))×Unit))):=fun (nv14,aJ,yR,m2,b3,m1,_) =>
 .br (decide (yR<aJ)) (
 .nb yR ((nv14:Nat):Int) <|
 .nd (decide (((0:Nat)+(Int.toNat yR))<(b3).length)) <|
 .ni (yR+(1:Int)) <|
 .ret (.inl (nv14,aJ,(yR+(1:Int)),(aZ (.prod .str (.prod (.int .i64) (.prod .str (.prod .str (.int .i64))))) m2 (((b3).getD ((0:Nat)+(Int.toNat yR)) ((bs []),(0:Int),(bs []),(bs []),(0:Int))).1,((b3).getD ((0:Nat)+(Int.toNat yR)) ((bs []),(0:Int),(bs []),(bs []),(0:Int))).2.1,((b3).getD ((0:Nat)+(Int.toNat yR)) ((bs []),(0:Int),(bs []),(bs []),(0:Int))).2.2.1,((b3).getD ((0:Nat)+(Int.toNat yR)) ((bs []),(0:Int),(bs []),(bs []),(0:Int))).2.2.2.1,((b3).getD ((0:Nat)+(Int.toNat yR)) ((bs []),(0:Int),(bs []),(bs []),(0:Int))).2.2.2.2) true),b3,m1,()))) (
 .ret (.inr (m2,m1,())))
noncomputable def X9:bS prog 30 none 2:=bE mixed VA Ej [0,1] rfl X6 X7 rfl (X8) (fun x=>ak (gH56_0 x)) (fun x=>by kernel_rfl)
noncomputable def VB:D prog 30 none 2:=dO [.l X9] (kd prog f56) 0
noncomputable def FH56 (v1c0:ByteArray) (v1c1:Int) (v1c2:ByteArray) (v1c3:ByteArray) (v1c4:Int) (m1:List ((GG)×Bool)):bQ (Int×(List ((GG)×Bool))×Unit) :=
 .bd (FH89 m1) fun y0 =>
 .bd (FH193 (v1c0,v1c1,v1c2,v1c3,v1c4)) fun y1 =>
 .bd (.it gH56_0 (y1.1,((y1.1:Nat):Int),(0:Int),y0.1,y1.2.1,y0.2.1,())) fun z2 =>
 .br (decide ((60:Int)<(((z2.1).length:Nat):Int))) (
 .ret ((15:Int),z2.2.1,())) (
 .ret ((0:Int),z2.1,()))
theorem Sb:cL prog f56=some ⟨30,2,VB.er,[.t 4],[some tI]⟩:=by kernel_rfl
noncomputable def ht56:Ht:=⟨56,pH56,qH56,(fun x=>ak (FH56 x.1 x.2.1 x.2.2.1 x.2.2.2.1 x.2.2.2.2.1 x.2.2.2.2.2.1))⟩
theorem Sc:ht56.Ok prog:=bP mixed Ej rfl func56 Sb (enters_of func56 rfl rfl) VB (by kernel_rfl) rfl rfl ⟨_,rfl⟩ rfl (pre:=[0,1]) rfl (fun x=>by kernel_rfl)

/- 20, lent -/
@[reducible] def pH20:az:=az.mk [(0,.c (.ptr 0 0)),(1,.c (.hole tG))] [(0,.cells [.mp 1] false),(1,.map tG true .bool false)] [.slot 0,.cell 0 0] []
@[reducible] def qH20:az:=az.mk [(0,hI)] [(0,.cells [.mp 2] false),(2,.map tG true .bool false)] [.cell 0 0] []
noncomputable def acg:Cx:=(aL [ct55] [zu,ht56])
theorem Ob:acg.Ok prog:=ax ⟨R9,trivial⟩ ⟨⟨nj,rfl⟩,⟨Sc,rfl⟩,trivial⟩
noncomputable def VC:D prog 17 none 2:=dO [] (kd prog f20) 0
noncomputable def FH20 (v1:GG) (m1:List ((GG)×Bool)):bQ (Int×(List ((GG)×Bool))×Unit) :=
 .bd (FH54 m1) fun y0 =>
 .br y0.1 (
 .ret ((9:Int),y0.2.1,())) (
 .bd (F55 (v1.1,v1.2.1,v1.2.2.1,v1.2.2.2.1,v1.2.2.2.2)) fun y1 =>
 .br (!(y1.1==(0:Int))) (
 .ret (y1.1,y0.2.1,())) (
 .bd (FH56 v1.1 v1.2.1 v1.2.2.1 v1.2.2.2.1 v1.2.2.2.2 y0.2.1) fun y2 =>
 .ret (y2.1,y2.2.1,())))
theorem Sd:cL prog f20=some ⟨17,2,VC.er,[.t 4],[some tI]⟩:=by kernel_rfl
noncomputable def ht20:Ht:=⟨20,pH20,qH20,(fun x=>ak (FH20 x.1 x.2.1))⟩
theorem Se:ht20.Ok prog:=bP mixed Ob rfl func20 Sd (enters_of func20 rfl rfl) VC (by kernel_rfl) rfl rfl ⟨_,rfl⟩ rfl (pre:=[0,1]) rfl (fun x=>by kernel_rfl)

/- 29, lent -/
@[reducible] def pH29:az:=az.mk [(0,.c (.hole (.list tG)))] [] [] []
@[reducible] def qH29:az:=az.mk [(0,.c (.ptr 0 0))] [(0,.cells [.mp 1] false),(1,.map tG true .bool false)] [.slot 0,.cell 0 0] []
noncomputable def VD:Cx:=(aL [] [ht18,ht20])
theorem Ek:VD.Ok prog:=ax trivial ⟨⟨R1,rfl⟩,⟨Se,rfl⟩,trivial⟩
@[reducible] def Yc:az:=az.mk [(0,.c (.hole (.list tG))),(3,.c (.ptr 0 0)),(4,hI)] [(0,.cells [.mp 1] false),(1,.map tG true .bool false)] [.slot 3,.cell 0 0] []
@[reducible] def Yd:aW:=[(.exit 0,az.mk [(3,.c (.ptr 0 0))] [(0,.cells [.mp 1] false),(1,.map tG true .bool false)] [.slot 3,.cell 0 0] [])]
noncomputable def Ye:D prog 19 none 0:=dO [] (pick (kd prog f29) [(0,false)]) 0
noncomputable def gH29_0:(List (GG))×Int×(List ((GG)×Bool))×Unit→bQ (((List (GG))×Int×(List ((GG)×Bool))×Unit) ⊕ (((List ((GG)×Bool))×Unit))):=fun (v0,v4,m1,_) =>
 .br (decide (v4<(((v0).length:Nat):Int))) (
 .nb v4 (((v0).length:Nat):Int) <|
 .bd (FH20 (((v0).getD (Int.toNat v4) ((bs []),(0:Int),(bs []),(bs []),(0:Int))).1,((v0).getD (Int.toNat v4) ((bs []),(0:Int),(bs []),(bs []),(0:Int))).2.1,((v0).getD (Int.toNat v4) ((bs []),(0:Int),(bs []),(bs []),(0:Int))).2.2.1,((v0).getD (Int.toNat v4) ((bs []),(0:Int),(bs []),(bs []),(0:Int))).2.2.2.1,((v0).getD (Int.toNat v4) ((bs []),(0:Int),(bs []),(bs []),(0:Int))).2.2.2.2) m1) fun y1 =>
 .ni (v4+(1:Int)) <|
 .ret (.inl (v0,(v4+(1:Int)),y1.2.1,()))) (
 .ret (.inr (m1,())))
noncomputable def Yf:bS prog 19 none 0:=bE mixed VD Ek [] rfl Yc Yd rfl (Ye) (fun x=>ak (gH29_0 x)) (fun x=>by kernel_rfl)
noncomputable def VE:D prog 19 none 0:=dO [.l Yf] (kd prog f29) 0
noncomputable def FH29 (v0:List (GG)):bQ ((List ((GG)×Bool))×Unit) :=
 .bd (FH18) fun y0 =>
 .bd (.it gH29_0 (v0,(0:Int),y0.1,())) fun z2 =>
 .ret (z2.1,())
theorem Sf:cL prog f29=some ⟨19,1,VE.er,[.t 2],[none]⟩:=by kernel_rfl
noncomputable def Yg:Ht:=⟨29,pH29,qH29,(fun x=>ak (FH29 x.1))⟩
theorem IG:Yg.Ok prog:=bP mixed Ek rfl func29 Sf (enters_of func29 rfl rfl) VE (by kernel_rfl) rfl rfl ⟨_,rfl⟩ rfl (pre:=[]) rfl (fun x=>by kernel_rfl)

/- 84, lent -/
@[reducible] def pH84:az:=az.mk [(0,.c (.mp 0))] [(0,.map tG true .bool false)] [.slot 0] []
@[reducible] def qH84:az:=az.mk [(0,.fn 111 [] [.ptr 1 0])] [(1,.cells [.mp 0] false),(0,.map tG true .bool false)] [.part 0 0] []
noncomputable def aci:Cx:=(aL [] [])
theorem Oc:aci.Ok prog:=ax trivial trivial
noncomputable def VF:D prog 4 none 1:=dO [] (kd prog f84) 0
noncomputable def FH84 (m0:List ((GG)×Bool)):bQ ((List ((GG)×Bool))×Unit) :=
 .ret (m0,())
theorem Sg:cL prog f84=some ⟨4,1,VF.er,[.t 2],[none]⟩:=by kernel_rfl
noncomputable def ht84:Ht:=⟨84,pH84,qH84,(fun x=>ak (FH84 x.1))⟩
theorem Si:ht84.Ok prog:=bP mixed Oc rfl func84 Sg (enters_of func84 rfl rfl) VF (by kernel_rfl) rfl rfl ⟨_,rfl⟩ rfl (pre:=[0]) rfl (fun x=>by kernel_rfl)

/- 110, by hand -/
@[reducible] def ack:az:=az.mk [(0,.c (.b7 0 tG)),(1,.c (.fn0 85))] [(0,.arr tG false)] [.slot 0] []
@[reducible] def acm:az:=az.mk [(0,.c .any)] [(0,.arr tG false)] [] []
noncomputable def FH110 (mb:Nat) (b0:List (GG)):bQ ((List (GG))×Unit) :=
 .of (uR (.prod .str (.prod (.int .i64) (.prod .str (.prod .str (.int .i64))))) b0 mb)
noncomputable def Od:Ht:=⟨110,ack,acm,(fun x=>ak (FH110 x.1 x.2.1))⟩
theorem vD (a b:ByteArray):(seq a b=true)↔a=b:=by
  unfold seq
  rw [beq_iff_eq,Go.ByteArray.toList_eq,Go.ByteArray.toList_eq]
  obtain ⟨a⟩:=a;obtain ⟨b⟩:=b
  simp
def nE (a b:ByteArray):Int:=if slt a b=true then -1 else if a=b then 0 else 1
def qb (a b:Int):Int:=if a<b then -1 else if b<a then 1 else 0
def pO : List Int → Int
 |[]=>0
 |a::r=>if a=0 then pO r else a
theorem acn (a:ByteArray):ak (F130 a)=some (false,()):=by
  have:seq a a=true:=(vD a a).2 rfl
  simp [F130,aa,this]
theorem aco (a:Int):ak (F131 a)=some (false,()):=by simp [F131,aa]
theorem acp (a b:ByteArray):ak (F113 a b)=some (nE a b,()):=by
  simp only [F113,aA,av,aa,acn,aP,Eh,kq,nE]
  cases h:slt a b
  · by_cases he : a = b
    · subst he;simp [(vD a a).2 rfl]
    · have : seq a b = false := by rw [← Bool.not_eq_true]; exact fun h => he ((vD a b).1 h)
      simp [this,he]
  · simp
theorem acq (a b:Int):ak (F114 a b)=some (qb a b,()):=by
  simp only [F114,aA,av,aa,aco,aP,Eh,aX,qb]
  repeat' split
  all_goals rfl
theorem acr (l:List Int) (hl:l.length≤1000):ak (F112 l)=some (pO l,()):=by
  simp only [F112,aA,bw,aa]
  refine bind_eq (aK l (fun k (_:Unit)=>((0:Int),l,((l.length:Nat):Int),(k:Int),())) (fun _ r=>if pO r=0 then .inr (0,()) else .inl (pO r,())) (fun _ _=>True) ?_ ?_ (s:=()) trivial) ?_
  · rintro pre x post _ hx -
    have hlen:l.length=pre.length+(post.length+1):=by rw [hx];simp
    have hd:l.getD pre.length 0=x:=by rw [hx];exact aR rfl
    have i1:ew (pre.length:Int) ((l.length:Nat):Int)=true:=bF (by omega) (by omega)
    have r1:eN .i64 ((pre.length:Int)+1)=true:=aH (by omega) (by omega)
    simp only [g112_0,av,aU,aN,aY,aa,Int.toNat_natCast,hd,i1,r1,ah,aX,b8,bJ]
    rw [if_pos (by omega)]
    by_cases h:x=0
    · left
      refine ⟨(),?_,trivial,by simp [pO,h]⟩
      rw [if_pos h];rfl
    · right
      rw [if_neg h]
      have:pO (x::post)=x:=by simp [pO,h]
      rw [this,if_neg h]
  · rintro _ _
    simp only [g112_0,av,aX,aa]
    rw [if_neg (by omega)]
    simp [pO]
  · by_cases h : pO l = 0
    · rw [if_pos h,h];rfl
    · rw [if_neg h];rfl
@[reducible] def Oe:Ty:=.prod .str (.prod tI (.prod .str (.prod .str tI)))
def xS (a b:Oe.den):Int:=pO [nE a.1 b.1,qb a.2.1 b.2.1,nE a.2.2.1 b.2.2.1,nE a.2.2.2.1 b.2.2.2.1,qb a.2.2.2.2 b.2.2.2.2]
theorem vE {a b:ByteArray}:nE a b=0↔a=b:=by
  unfold nE
  split
  · rename_i h
    constructor
    · intro h';omega
    · rintro rfl
      have:fR .str a a=true:=h
      rw [Iz (t:=.str) rfl] at this;cases this
  · split<;>simp_all
theorem B9 {a b:Int}:qb a b=0↔a=b:=by
  unfold qb
  repeat' split
  all_goals omega
theorem Sj {a b:ByteArray}:nE a b<0↔fR .str a b=true:=by
  unfold nE
  split
  · rename_i h;simp only [fR];exact ⟨fun _=>h,fun _=>by omega⟩
  · rename_i h
    constructor
    · intro h';split at h'<;>omega
    · intro h';exact absurd h' h
theorem Sk {a b:Int}:qb a b<0↔fR tI a b=true:=by
  have e:fR tI a b=decide (a<b):=rfl
  rw [e,decide_eq_true_eq]
  unfold qb
  repeat' split
  all_goals omega
theorem Yh {c:Int} {r:List Int}:pO (c::r)<0↔c<0∨(c=0∧pO r<0):=by
  simp only [pO]
  split<;>omega
theorem Sl (a b:Oe.den):decide (xS a b<0)=fR Oe a b:=by
  have hS:∀x y:ByteArray,dI .str x y=true↔x=y:=fun x y=>⟨fun h=>bH h,fun h=>by subst h;exact kj (t:=.str) x rfl⟩
  have hI:∀x y:Int,dI tI x y=true↔x=y:=fun x y=>⟨fun h=>bH (t:=tI) h,fun h=>by subst h;exact kj (t:=tI) x rfl⟩
  rw [Bool.eq_iff_iff,decide_eq_true_eq]
  show _↔(fR .str a.1 b.1||(dI .str a.1 b.1&&(fR tI a.2.1 b.2.1||(dI tI a.2.1 b.2.1&&(fR .str a.2.2.1 b.2.2.1||(dI .str a.2.2.1 b.2.2.1&&(fR .str a.2.2.2.1 b.2.2.2.1||(dI .str a.2.2.2.1 b.2.2.2.1&&fR tI a.2.2.2.2 b.2.2.2.2))))))))=true
  have e:pO []<0↔False:=by simp [pO]
  unfold xS
  simp only [Yh,e,and_false,or_false,vE,B9,Sj,Sk,Bool.or_eq_true,Bool.and_eq_true,hS,hI]
theorem wq85 (a b:Oe.den):ak (F85 a b)=some (xS a b,()):=by
  have hq:∀x y:ByteArray,(x.toList=y.toList)↔x=y:=fun x y=>by rw [←vD];unfold seq;rw [beq_iff_eq]
  simp only [F85,av,aA,aa,acp,acq,aP,kq]
  split
  · rename_i h
    simp only [Bool.and_eq_true,beq_iff_eq,and_true,hq] at h
    obtain ⟨h1,h2,h3,h4,h5⟩:=h
    have:xS a b=0:=by
      unfold xS
      simp only [pO,vE.2 h1,B9.2 h2,vE.2 h3,vE.2 h4,B9.2 h5,if_true]
    rw [this]
  · exact bind_eq (acr [nE a.1 b.1,qb a.2.1 b.2.1,nE a.2.2.1 b.2.2.1,nE a.2.2.2.1 b.2.2.2.1,qb a.2.2.2.2 b.2.2.2.2] (by simp)) rfl
theorem Of:Od.Ok prog:=fun x y h =>
  RD (ρ := xR) XQ (enters_of func110 rfl rfl) (g := 85) (t := Oe) (ks := [.s, .i, .s, .s, .i]) rfl (by decide) (fun w => isAgg33 w) (fun w => sizeOf33 w) xS
    (fun a b=>RO (a,b,()) (xS a b,()) (wq85 a b)) Sl (xs:=x.2.1) (n:=x.1) (y:=y) h

/- 83, lent -/
@[reducible] def pH83:az:=az.mk [(0,.fn 111 [] [.ptr 0 0]),(1,.c (.fn0 85))] [(0,.cells [.mp 1] false),(1,.map tG true .bool false)] [.part 0 0,.cell 0 0] []
@[reducible] def qH83:az:=az.mk [(0,.c (.b7 2 tG))] [(2,.arr tG false),(0,.cells [.mp 1] false),(1,.map tG true .bool false)] [.slot 0] []
noncomputable def vF:Cx:=(aL [] [Od])
theorem qA:vF.Ok prog:=ax (vr:=[]) (hts:=[Od]) trivial ⟨⟨Of,rfl⟩,trivial⟩
noncomputable def nF:D prog 13 (some 4) 8:=dO [] (pick (kd prog f128) [(0,false)]) 0
noncomputable def nG:D prog 13 (some 4) 8:=dO [] (pick (kd prog f128) [(0,true)]) 0
noncomputable def iC:Cx:=zo vF (fun kz=>Nn kz vF ek 4 8 [7] (nF) (nG))
theorem jC:(iC).Ok prog:=jJ qA (fun h=>mY mixed qA h)
@[reducible] def rW:az:=az.mk [(0,.c (.yl 4)),(4,.c (.mp 1))] [(4,.loop .ready none 3 [(2,.c (.ptr 2 0)),(4,.c .bW),(6,.fn 111 [] [.ptr 0 0])] [7] (.aS [.op (some 5) none (.alloc [.str (ByteArray.mk (Array.mk [])),.int .i64 (Int.ofNat 0),.str (ByteArray.mk (Array.mk [])),.str (ByteArray.mk (Array.mk [])),.int .i64 (Int.ofNat 0)]),.op none none (.store 5 (.t 5) (.t 7))]) (.block 1 (.aS [.op (some 8) none (.load false 1 (.t 2)),.op (some 9) none (.load true 5 (.t 5)),.op (some 10) none (.dR tG [.t 9]),.op (some 11) none (.append 5 (.t 8) (.t 10)),.op none none (.store 1 (.t 2) (.t 11))])) 13),(1,.map tG true .bool false),(3,.gX),(2,.cells [.b7 5 tG] false),(0,.cells [.mp 1] false),(5,.arr tG false)] [.cell 2 0] []
noncomputable def rX:D prog 14 none 7:=dO [] (pick (kd prog f111) [(0,false)]) 0
noncomputable def gH83f109f128_0i_0:(((GG))×(Bool))→(List ((GG)×Bool))×Nat×(List (GG))×Unit→bQ ((List ((GG)×Bool))×Nat×(List (GG))×Unit):=fun e (m1,kr,b5,_) =>
 .nd (decide ((kr+((((((e.1.1,e.1.2.1,e.1.2.2.1,e.1.2.2.2.1,e.1.2.2.2.2)::[])).drop (0:Nat)).take (1:Nat))).length)<cg)) <|
 .nd (jB m1 m1) <|
 .ret (m1,(kr+((((((e.1.1,e.1.2.1,e.1.2.2.1,e.1.2.2.2.1,e.1.2.2.2.2)::[])).drop (0:Nat)).take (1:Nat))).length),((((b5).drop (0:Nat)).take kr)++(((((e.1.1,e.1.2.1,e.1.2.2.1,e.1.2.2.2.1,e.1.2.2.2.2)::[])).drop (0:Nat)).take (1:Nat))),())
noncomputable def rY:rG prog 14 none 5:=vz mixed iC jC [0,1,2,3,4] rfl rW ( [.op (some 4) none (.load false 1 (.t 1))]) 4 5 [6,7] (some 8) ( .prod .str (.prod tI (.prod .str (.prod .str tI))))  true ( .bool)  false 0 rfl 7 rfl (rX) (fun e x=>ak (gH83f109f128_0i_0 e x)) (fun e=>fun x=>by kernel_rfl)
@[reducible] def xU:az:=az.mk [(2,.c (.ptr 2 0)),(4,.c .bW),(6,.fn 111 [] [.ptr 0 0])] [(2,.cells [.bW] false),(0,.cells [.mp 1] false),(1,.map tG true .bool false)] [.slot 2] []
@[reducible] def xV:aW:=[(.normal,az.mk [(2,.c (.ptr 2 0))] [(2,.cells [.b7 3 tG] false),(0,.cells [.mp 1] false),(1,.map tG true .bool false),(3,.arr tG false)] [.slot 2,.cell 2 0] [])]
noncomputable def nH:D prog 14 none 5:=dO [.m rY] (kd prog f111) 0
theorem uS:cL prog f111=some ⟨14,2,(nH).er,[],[]⟩:=by kernel_rfl
noncomputable def oG:gm prog 13 none 2:=rS mixed iC jC [0,1] rfl xU xV ( .t 6) [7] rfl (nF).er (nG).er 111 func111 (uS) (enters_of func111 rfl rfl) 5 rfl (nH) rfl
@[reducible] noncomputable def Sm:Go.AM.Fn:=⟨13,2,(dO [.r oG] (kd prog f128) 0:D prog 13 none 2).er,[.t 4],[some (.list tG)]⟩
noncomputable def II:Cx:=Az prog vF 128 Sm 2 (dO [.r oG] (kd prog f128) 0)
theorem GA:II.Ok prog:=rR mixed qA func128 (by kernel_rfl) (enters_of func128 rfl rfl) rfl
@[reducible] noncomputable def Sn:Go.AM.Fn:=⟨5,1,(dO [] (kd prog f109) 0:D prog 5 none 0).er,[.t 2],[some (.list tG)]⟩
noncomputable def IJ:Cx:=D6 prog II 109 Sn (fun _=>dO [] (kd prog f109) 0)
theorem GB:IJ.Ok prog:=pF mixed GA func109 (by kernel_rfl) (enters_of func109 rfl rfl) (fun _=>by kernel_rfl)
noncomputable def acs:Cx:=IJ
theorem Og:acs.Ok prog:=GB
noncomputable def VG:D prog 12 none 2:=dO [] (kd prog f83) 0
noncomputable def FH83 (m1:List ((GG)×Bool)):bQ (Nat×(List (GG))×(List ((GG)×Bool))×Unit) :=
 .an m1 fun l0 =>
 .bd (.fm gH83f109f128_0i_0 l0 (m1,(0:Nat),[],())) fun z1 =>
 .bd (FH110 z1.2.1 z1.2.2.1) fun y2 =>
 .ret (z1.2.1,y2.1,z1.1,())
theorem Sq:cL prog f83=some ⟨12,2,VG.er,[.t 4],[some (.list tG)]⟩:=by kernel_rfl
noncomputable def ht83:Ht:=⟨83,pH83,qH83,(fun x=>ak (FH83 x.1))⟩
theorem Sr:ht83.Ok prog:=bP mixed Og rfl func83 Sq (enters_of func83 rfl rfl) VG (by kernel_rfl) rfl rfl ⟨_,rfl⟩ rfl (pre:=[0,1]) rfl (fun x=>by kernel_rfl)

/- 47, lent -/
@[reducible] def pH47:az:=az.mk [(0,.c (.ptr 0 0))] [(0,.cells [.mp 1] false),(1,.map tG true .bool false)] [.slot 0,.cell 0 0] []
@[reducible] def qH47:az:=az.mk [(0,.c (.b7 2 tG))] [(2,.arr tG false),(0,.cells [.mp 1] false),(1,.map tG true .bool false)] [.slot 0] []
noncomputable def acv:Cx:=(aL [] [zu,ht84,ht83])
theorem Oh:acv.Ok prog:=ax trivial ⟨⟨nj,rfl⟩,⟨Si,rfl⟩,⟨Sr,rfl⟩,trivial⟩
noncomputable def VH:D prog 11 none 2:=dO [] (kd prog f47) 0
noncomputable def FH47 (m1:List ((GG)×Bool)):bQ (Nat×(List (GG))×(List ((GG)×Bool))×Unit) :=
 .bd (FH54 m1) fun y0 =>
 .br y0.1 (
 .ret ((0:Nat),[],y0.2.1,())) (
 .bd (FH84 y0.2.1) fun y1 =>
 .bd (FH83 y1.1) fun y2 =>
 .ret (y2.1,y2.2.1,y2.2.2.1,()))
theorem Su:cL prog f47=some ⟨11,1,VH.er,[.t 2],[some (.list tG)]⟩:=by kernel_rfl
noncomputable def Yi:Ht:=⟨47,pH47,qH47,(fun x=>ak (FH47 x.1))⟩
theorem IK:Yi.Ok prog:=bP mixed Oh rfl func47 Su (enters_of func47 rfl rfl) VH (by kernel_rfl) rfl rfl ⟨_,rfl⟩ rfl (pre:=[0,1]) rfl (fun x=>by kernel_rfl)

/- 95, lent -/
@[reducible] def pH95:az:=az.mk [(0,.c (.mp 0))] [(0,.map .str false tG true)] [.slot 0] []
@[reducible] def qH95:az:=az.mk [(0,.fn 118 [] [.ptr 1 0])] [(1,.cells [.mp 0] false),(0,.map .str false tG true)] [.part 0 0] []
noncomputable def acw:Cx:=(aL [] [])
theorem Oi:acw.Ok prog:=ax trivial trivial
noncomputable def VI:D prog 4 none 1:=dO [] (kd prog f95) 0
noncomputable def FH95 (m0:cH):bQ (cH×Unit) :=
 .ret (m0,())
theorem Sv:cL prog f95=some ⟨4,1,VI.er,[.t 2],[none]⟩:=by kernel_rfl
noncomputable def Oj:Ht:=⟨95,pH95,qH95,(fun x=>ak (FH95 x.1))⟩
theorem vG:Oj.Ok prog:=bP mixed Oi rfl func95 Sv (enters_of func95 rfl rfl) VI (by kernel_rfl) rfl rfl ⟨_,rfl⟩ rfl (pre:=[0]) rfl (fun x=>by kernel_rfl)

/- 105, by hand -/
@[reducible] def acy:az:=az.mk [(0,.c (.b7 0 .str))] [(0,.arr .str false)] [.slot 0] []
@[reducible] def acz:az:=az.mk [(0,.c .any)] [(0,.arr .str false)] [] []
noncomputable def FH105 (mb:Nat) (b0:List ByteArray):bQ (List ByteArray×Unit) :=
 .of (uR .str b0 mb)
noncomputable def AF:Ht:=⟨105,acy,acz,(fun x=>ak (FH105 x.1 x.2.1))⟩
theorem xW:AF.Ok prog:=fun x y h=>NC (ρ:=xP) XO (enters_of func105 rfl rfl) (xs:=x.2.1) (n:=x.1) (y:=y) h

/- 81, lent -/
@[reducible] def pH81:az:=az.mk [(0,.fn 118 [] [.ptr 0 0])] [(0,.cells [.mp 1] false),(1,.map .str false tG true)] [.part 0 0,.cell 0 0] []
@[reducible] def qH81:az:=az.mk [(0,.c (.b7 2 .str))] [(2,.arr .str false),(0,.cells [.mp 1] false),(1,.map .str false tG true)] [.slot 0] []
noncomputable def vH:Cx:=(aL [] [AF])
theorem qB:vH.Ok prog:=ax (vr:=[]) (hts:=[AF]) trivial ⟨⟨xW,rfl⟩,trivial⟩
noncomputable def nI:D prog 13 (some 4) 7:=dO [] (pick (kd prog f126) [(0,false)]) 0
noncomputable def nJ:D prog 13 (some 4) 7:=dO [] (pick (kd prog f126) [(0,true)]) 0
noncomputable def iD:Cx:=zo vH (fun kz=>Nn kz vH ek 4 7 [7] (nI) (nJ))
theorem jD:(iD).Ok prog:=jJ qB (fun h=>mY mixed qB h)
@[reducible] def rZ:az:=az.mk [(0,.c (.yl 4)),(4,.c (.mp 1))] [(4,.loop .ready none 3 [(2,.c (.ptr 2 0)),(4,.c .bW),(6,.fn 118 [] [.ptr 0 0])] [7] (.aS [.op (some 5) none (.mv (.t 7))]) (.block 1 (.aS [.op (some 8) none (.load false 1 (.t 2)),.op (some 9) none (.mv (.t 5)),.op (some 10) none (.dR .str [.t 9]),.op (some 11) none (.append 1 (.t 8) (.t 10)),.op none none (.store 1 (.t 2) (.t 11))])) 13),(1,.map .str false tG true),(3,.gX),(2,.cells [.b7 5 .str] false),(0,.cells [.mp 1] false),(5,.arr .str false)] [.cell 2 0] []
noncomputable def r8:D prog 14 none 7:=dO [] (pick (kd prog f118) [(0,false)]) 0
noncomputable def gH81f107f126_0i_0:((ByteArray)×(GG))→cH×Nat×List ByteArray×Unit→bQ (cH×Nat×List ByteArray×Unit):=fun e (m1,kr,b5,_) =>
 .nd (decide ((kr+(((((e.1::[])).drop (0:Nat)).take (1:Nat))).length)<cg)) <|
 .nd (jB m1 m1) <|
 .ret (m1,(kr+(((((e.1::[])).drop (0:Nat)).take (1:Nat))).length),((((b5).drop (0:Nat)).take kr)++((((e.1::[])).drop (0:Nat)).take (1:Nat))),())
noncomputable def r9:rG prog 14 none 5:=vz mixed iD jD [0,1,2,3,4] rfl rZ ( [.op (some 4) none (.load false 1 (.t 1))]) 4 5 [6,7] (some 8) ( .str)  false ( .prod .str (.prod tI (.prod .str (.prod .str tI))))  true 0 rfl 7 rfl (r8) (fun e x=>ak (gH81f107f126_0i_0 e x)) (fun e=>fun x=>by kernel_rfl)
@[reducible] def xX:az:=az.mk [(2,.c (.ptr 2 0)),(4,.c .bW),(6,.fn 118 [] [.ptr 0 0])] [(2,.cells [.bW] false),(0,.cells [.mp 1] false),(1,.map .str false tG true)] [.slot 2] []
@[reducible] def xY:aW:=[(.normal,az.mk [(2,.c (.ptr 2 0))] [(2,.cells [.b7 3 .str] false),(0,.cells [.mp 1] false),(1,.map .str false tG true),(3,.arr .str false)] [.slot 2,.cell 2 0] [])]
noncomputable def nK:D prog 14 none 5:=dO [.m r9] (kd prog f118) 0
theorem uT:cL prog f118=some ⟨14,2,(nK).er,[],[]⟩:=by kernel_rfl
noncomputable def oH:gm prog 13 none 2:=rS mixed iD jD [0,1] rfl xX xY ( .t 6) [7] rfl (nI).er (nJ).er 118 func118 (uT) (enters_of func118 rfl rfl) 5 rfl (nK) rfl
@[reducible] noncomputable def Sw:Go.AM.Fn:=⟨13,2,(dO [.r oH] (kd prog f126) 0:D prog 13 none 2).er,[.t 4],[some (.list .str)]⟩
noncomputable def IL:Cx:=Az prog vH 126 Sw 2 (dO [.r oH] (kd prog f126) 0)
theorem GC:IL.Ok prog:=rR mixed qB func126 (by kernel_rfl) (enters_of func126 rfl rfl) rfl
@[reducible] noncomputable def Sx:Go.AM.Fn:=⟨5,1,(dO [] (kd prog f107) 0:D prog 5 none 0).er,[.t 2],[some (.list .str)]⟩
noncomputable def IM:Cx:=D6 prog IL 107 Sx (fun _=>dO [] (kd prog f107) 0)
theorem GD:IM.Ok prog:=pF mixed GC func107 (by kernel_rfl) (enters_of func107 rfl rfl) (fun _=>by kernel_rfl)
noncomputable def acA:Cx:=IM
theorem Ol:acA.Ok prog:=GD
noncomputable def VJ:D prog 9 none 2:=dO [] (kd prog f81) 0
noncomputable def FH81 (m1:cH):bQ (Nat×List ByteArray×cH×Unit) :=
 .an m1 fun l0 =>
 .bd (.fm gH81f107f126_0i_0 l0 (m1,(0:Nat),[],())) fun z1 =>
 .bd (FH105 z1.2.1 z1.2.2.1) fun y2 =>
 .ret (z1.2.1,y2.1,z1.1,())
theorem Sy:cL prog f81=some ⟨9,1,VJ.er,[.t 2],[some (.list .str)]⟩:=by kernel_rfl
noncomputable def Om:Ht:=⟨81,pH81,qH81,(fun x=>ak (FH81 x.1))⟩
theorem vI:Om.Ok prog:=bP mixed Ol rfl func81 Sy (enters_of func81 rfl rfl) VJ (by kernel_rfl) rfl rfl ⟨_,rfl⟩ rfl (pre:=[0,1]) rfl (fun x=>by kernel_rfl)

/- 98, lent -/
@[reducible] def pH98:az:=az.mk [(0,.c (.hole (.list .str)))] [] [] []
@[reducible] def qH98:az:=az.mk [(0,.c (.b7 0 .str))] [(0,.arr .str false)] [.slot 0] []
noncomputable def acB:Cx:=(aL [] [])
theorem On:acB.Ok prog:=ax trivial trivial
noncomputable def VK:D prog 8 none 0:=dO [] (kd prog f98) 0
noncomputable def FH98 (v0:List ByteArray):bQ (Nat×List ByteArray×Unit) :=
 .br ((((v0).length:Nat):Int)==(0:Int)) (
 .am inferInstance (
 .ret ((0:Nat),[],())) (
 .nd (decide (((0:Nat)+(v0).length)<cg)) <|
 .ret (((0:Nat)+(v0).length),(((([]).drop (0:Nat)).take (0:Nat))++v0),()))) (
 .nd (decide (((0:Nat)+(v0).length)<cg)) <|
 .ret (((0:Nat)+(v0).length),(((([]).drop (0:Nat)).take (0:Nat))++v0),()))
theorem Sz:cL prog f98=some ⟨8,1,VK.er,[.t 2],[some (.list .str)]⟩:=by kernel_rfl
noncomputable def Yj:Ht:=⟨98,pH98,qH98,(fun x=>ak (FH98 x.1))⟩
theorem IP:Yj.Ok prog:=bP mixed On rfl func98 Sz (enters_of func98 rfl rfl) VK (by kernel_rfl) rfl rfl ⟨_,rfl⟩ rfl (pre:=[]) rfl (fun x=>by kernel_rfl)

/- 99, lent -/
@[reducible] def pH99:az:=az.mk [(0,.c (.hole .str)),(1,.c (.ptr 0 0))] [(0,.cells [.ptr 1 0] false),(1,.cells [.mp 2,.mp 3,.mp 4,.mp 5] false),(2,.map .str false tG true),(3,.map .str false (.list .str) false),(4,.map .str false .bool false),(5,.map .str false .bool false)] [.slot 1,.cell 0 0,.cell 1 0,.cell 1 1,.cell 1 2,.cell 1 3] []
@[reducible] def qH99:az:=az.mk [(0,.c (.hole .bool))] [(0,.cells [.ptr 1 0] false),(1,.cells [.mp 2,.mp 3,.mp 4,.mp 5] false),(2,.map .str false tG true),(3,.map .str false (.list .str) false),(4,.map .str false .bool false),(5,.map .str false .bool false)] [] []
noncomputable def acC:Cx:=(aL [] [])
theorem Oo:acC.Ok prog:=ax trivial trivial
noncomputable def VL:D prog 11 none 6:=dO [] (kd prog f99) 0
noncomputable def FH99 (v0:ByteArray) (m2:cH) (m3:cM) (m4:aT) (m5:aT):bQ (Bool×cH×cM×aT×aT×Unit) :=
 .ret ((!(ay .str false m4 v0)),m2,m3,m4,m5,())
theorem SA:cL prog f99=some ⟨11,2,VL.er,[.t 3],[some .bool]⟩:=by kernel_rfl
noncomputable def Yk:Ht:=⟨99,pH99,qH99,(fun x=>ak (FH99 x.1 x.2.1 x.2.2.1 x.2.2.2.1 x.2.2.2.2.1))⟩
theorem IQ:Yk.Ok prog:=bP mixed Oo rfl func99 SA (enters_of func99 rfl rfl) VL (by kernel_rfl) rfl rfl ⟨_,rfl⟩ rfl (pre:=[0,1,2,3,4,5]) rfl (fun x=>by kernel_rfl)

/- 119, lent -/
@[reducible] def acD:az:=az.mk [(0,.c (.b7 0 .str)),(1,.fn 99 [] [.ptr 1 0])] [(0,.arr .str false),(1,.cells [.ptr 2 0] false),(2,.cells [.mp 3,.mp 4,.mp 5,.mp 6] false),(3,.map .str false tG true),(4,.map .str false (.list .str) false),(5,.map .str false .bool false),(6,.map .str false .bool false)] [.slot 0,.part 1 0,.cell 1 0,.cell 2 0,.cell 2 1,.cell 2 2,.cell 2 3] []
@[reducible] def acE:az:=az.mk [(0,hI)] [(1,.cells [.ptr 2 0] false),(2,.cells [.mp 3,.mp 4,.mp 5,.mp 6] false),(3,.map .str false tG true),(4,.map .str false (.list .str) false),(5,.map .str false .bool false),(6,.map .str false .bool false),(0,.arr .str false)] [] []
noncomputable def Oq:Cx:=(aL [] [Yk])
theorem AG:Oq.Ok prog:=ax trivial ⟨⟨IQ,rfl⟩,trivial⟩
@[reducible] def SB:az:=az.mk [(0,.c (.b7 0 .str)),(1,.fn 99 [] [.ptr 1 0]),(7,hI),(8,hI)] [(0,.arr .str false),(1,.cells [.ptr 2 0] false),(2,.cells [.mp 3,.mp 4,.mp 5,.mp 6] false),(3,.map .str false tG true),(4,.map .str false (.list .str) false),(5,.map .str false .bool false),(6,.map .str false .bool false)] [] []
@[reducible] def SC:aW:=[(.ret,az.mk [(4,hI)] [(1,.cells [.ptr 2 0] false),(2,.cells [.mp 3,.mp 4,.mp 5,.mp 6] false),(3,.map .str false tG true),(4,.map .str false (.list .str) false),(5,.map .str false .bool false),(6,.map .str false .bool false),(0,.arr .str false)] [] []),(.exit 0,az.mk [] [(1,.cells [.ptr 2 0] false),(2,.cells [.mp 3,.mp 4,.mp 5,.mp 6] false),(3,.map .str false tG true),(4,.map .str false (.list .str) false),(5,.map .str false .bool false),(6,.map .str false .bool false),(0,.arr .str false)] [] [])]
noncomputable def SD:D prog 19 none 7:=dO [] (pick (kd prog f119) [(0,false)]) 0
noncomputable def gH119_0:Nat×Int×Int×List ByteArray×cH×cM×aT×aT×Unit→bQ ((Nat×Int×Int×List ByteArray×cH×cM×aT×aT×Unit) ⊕ ((Int×cH×cM×aT×aT×List ByteArray×Unit) ⊕ ((cH×cM×aT×aT×List ByteArray×Unit)))):=fun (mb,v7,v8,b0,m3,m4,m5,m6,_) =>
 .br (decide (v8<v7)) (
 .nb v8 ((mb:Nat):Int) <|
 .nd (decide (((0:Nat)+(Int.toNat v8))<(b0).length)) <|
 .bd (FH99 ((b0).getD ((0:Nat)+(Int.toNat v8)) (bs [])) m3 m4 m5 m6) fun y0 =>
 .br y0.1 (
 .ret (.inr <| .inl<|(v8,y0.2.1,y0.2.2.1,y0.2.2.2.1,y0.2.2.2.2.1,b0,()))) (
 .ni (v8+(1:Int)) <|
 .ret (.inl (mb,v7,(v8+(1:Int)),b0,y0.2.1,y0.2.2.1,y0.2.2.2.1,y0.2.2.2.2.1,())))) (
 .ret (.inr <| .inr<|(m3,m4,m5,m6,b0,())))
noncomputable def SE:bS prog 19 none 7:=bE mixed Oq AG [0,1,2,3,4,5,6] rfl SB SC rfl (SD) (fun x=>ak (gH119_0 x)) (fun x=>by kernel_rfl)
noncomputable def Ot:D prog 19 none 7:=dO [.l SE] (kd prog f119) 0
noncomputable def FH119 (mb:Nat) (b0:List ByteArray) (m3:cH) (m4:cM) (m5:aT) (m6:aT):bQ (Int×cH×cM×aT×aT×List ByteArray×Unit) :=
 .bd (.it gH119_0 (mb,((mb:Nat):Int),(0:Int),b0,m3,m4,m5,m6,())) fun z1 =>
 .sm z1 (fun z2 =>
 .ret (z2.1,z2.2.1,z2.2.2.1,z2.2.2.2.1,z2.2.2.2.2.1,z2.2.2.2.2.2.1,())) fun z3 =>
 .ret ((-1:Int),z3.1,z3.2.1,z3.2.2.1,z3.2.2.2.1,z3.2.2.2.2.1,())
theorem Ou:cL prog f119=some ⟨19,2,Ot.er,[.t 4],[some tI]⟩:=by kernel_rfl
noncomputable def VM:Ht:=⟨119,acD,acE,(fun x=>ak (FH119 x.1 x.2.1 x.2.2.1 x.2.2.2.1 x.2.2.2.2.1 x.2.2.2.2.2.1))⟩
theorem Ov:VM.Ok prog:=bP mixed AG rfl func119 Ou (enters_of func119 rfl rfl) Ot (by kernel_rfl) rfl rfl ⟨_,rfl⟩ rfl (pre:=[0,1,2,3,4,5,6]) rfl (fun x=>by kernel_rfl)

/- 97, lent -/
@[reducible] def pH97:az:=az.mk [(0,.c (.b7 0 .str)),(1,.fn 99 [] [.ptr 1 0])] [(0,.arr .str false),(1,.cells [.ptr 2 0] false),(2,.cells [.mp 3,.mp 4,.mp 5,.mp 6] false),(3,.map .str false tG true),(4,.map .str false (.list .str) false),(5,.map .str false .bool false),(6,.map .str false .bool false)] [.slot 0,.part 1 0,.cell 1 0,.cell 2 0,.cell 2 1,.cell 2 2,.cell 2 3] []
@[reducible] def qH97:az:=az.mk [(0,.c (.Qi 0 .str))] [(0,.arr .str false),(1,.cells [.ptr 2 0] false),(2,.cells [.mp 3,.mp 4,.mp 5,.mp 6] false),(3,.map .str false tG true),(4,.map .str false (.list .str) false),(5,.map .str false .bool false),(6,.map .str false .bool false)] [] []
noncomputable def VN:Cx:=(aL [] [VM,Yk])
theorem El:VN.Ok prog:=ax trivial ⟨⟨Ov,rfl⟩,⟨IQ,rfl⟩,trivial⟩
@[reducible] def Yl:az:=az.mk [(0,.c (.b7 0 .str)),(1,.fn 99 [] [.ptr 1 0]),(5,hI),(6,hI)] [(0,.arr .str false),(1,.cells [.ptr 2 0] false),(2,.cells [.mp 3,.mp 4,.mp 5,.mp 6] false),(3,.map .str false tG true),(4,.map .str false (.list .str) false),(5,.map .str false .bool false),(6,.map .str false .bool false)] [] []
@[reducible] def Ym:aW:=[(.exit 0,az.mk [(0,.c (.b7 0 .str)),(5,hI)] [(0,.arr .str false),(1,.cells [.ptr 2 0] false),(2,.cells [.mp 3,.mp 4,.mp 5,.mp 6] false),(3,.map .str false tG true),(4,.map .str false (.list .str) false),(5,.map .str false .bool false),(6,.map .str false .bool false)] [] [])]
noncomputable def Yn:D prog 42 none 7:=dO [] (pick (kd prog f97) [(0,false)]) 0
noncomputable def gH97_0:Nat×Int×Int×List ByteArray×cH×cM×aT×aT×Unit→bQ ((Nat×Int×Int×List ByteArray×cH×cM×aT×aT×Unit) ⊕ ((Nat×Int×List ByteArray×cH×cM×aT×aT×Unit))):=fun (mb,v5,v6,b0,m3,m4,m5,m6,_) =>
 .br (decide (v6<((mb:Nat):Int))) (
 .nb v6 ((mb:Nat):Int) <|
 .nd (decide (((0:Nat)+(Int.toNat v6))<(b0).length)) <|
 .bd (FH99 ((b0).getD ((0:Nat)+(Int.toNat v6)) (bs [])) m3 m4 m5 m6) fun y1 =>
 .br (!y1.1) (
 .nb v5 ((mb:Nat):Int) <|
 .nd (decide (((0:Nat)+(Int.toNat v5))<(b0).length)) <|
 .ni (v5+(1:Int)) <|
 .ni (v6+(1:Int)) <|
 .ret (.inl (mb,(v5+(1:Int)),(v6+(1:Int)),((b0).set ((0:Nat)+(Int.toNat v5)) ((b0).getD ((0:Nat)+(Int.toNat v6)) (bs []))),y1.2.1,y1.2.2.1,y1.2.2.2.1,y1.2.2.2.2.1,()))) (
 .ni (v6+(1:Int)) <|
 .ret (.inl (mb,v5,(v6+(1:Int)),b0,y1.2.1,y1.2.2.1,y1.2.2.2.1,y1.2.2.2.2.1,())))) (
 .ret (.inr (mb,v5,b0,m3,m4,m5,m6,())))
noncomputable def Yo:bS prog 42 none 7:=bE mixed VN El [0,1,2,3,4,5,6] rfl Yl Ym rfl (Yn) (fun x=>ak (gH97_0 x)) (fun x=>by kernel_rfl)
noncomputable def VO:D prog 42 none 7:=dO [.l Yo] (kd prog f97) 0
noncomputable def FH97 (mb:Nat) (b0:List ByteArray) (m3:cH) (m4:cM) (m5:aT) (m6:aT):bQ (Nat×Nat×List ByteArray×cH×cM×aT×aT×Unit) :=
 .bd (FH119 mb b0 m3 m4 m5 m6) fun y0 =>
 .br (y0.1==(-1:Int)) (
 .ret ((0:Nat),mb,y0.2.2.2.2.2.1,y0.2.1,y0.2.2.1,y0.2.2.2.1,y0.2.2.2.2.1,())) (
 .ni (y0.1+(1:Int)) <|
 .bd (.it gH97_0 (mb,y0.1,(y0.1+(1:Int)),y0.2.2.2.2.2.1,y0.2.1,y0.2.2.1,y0.2.2.2.1,y0.2.2.2.2.1,())) fun z2 =>
 .nd (decide ((0:Int)≤z2.2.1)) <|
 .nd (decide (z2.2.1≤((z2.1:Nat):Int))) <|
 .nd (decide (((z2.1:Nat):Int)≤((z2.1:Nat):Int))) <|
 .nd (decide ((0:Int)≤(0:Int))) <|
 .nd (decide ((0:Int)≤z2.2.1)) <|
 .nd (decide (z2.2.1≤((z2.1:Nat):Int))) <|
 .ret (((0:Nat)+(Int.toNat (0:Int))),((Int.toNat z2.2.1) - (Int.toNat (0:Int))),(AZ (bs []) z2.2.2.1 ((0:Nat)+(Int.toNat z2.2.1)) ((Int.toNat ((z2.1:Nat):Int)) - (Int.toNat z2.2.1))),z2.2.2.2.1,z2.2.2.2.2.1,z2.2.2.2.2.2.1,z2.2.2.2.2.2.2.1,()))
theorem SF:cL prog f97=some ⟨42,2,VO.er,[.t 4],[some (.list .str)]⟩:=by kernel_rfl
noncomputable def ht97:Ht:=⟨97,pH97,qH97,(fun x=>ak (FH97 x.1 x.2.1 x.2.2.1 x.2.2.2.1 x.2.2.2.2.1 x.2.2.2.2.2.1))⟩
theorem SG:ht97.Ok prog:=bP mixed El rfl func97 SF (enters_of func97 rfl rfl) VO (by kernel_rfl) rfl rfl ⟨_,rfl⟩ rfl (pre:=[0,1,2,3,4,5,6]) rfl (fun x=>by kernel_rfl)

/- 96, lent -/
@[reducible] def ku:az:=az.mk [(0,.c (.hole .str)),(1,.c (.ptr 0 0)),(2,.c (.ptr 1 0))] [(0,.cells [.ptr 2 0] false),(1,.cells [.fn 96 .nil (.cons (.ptr 0 0) (.cons (.ptr 1 0) .nil))] false),(2,.cells [.mp 3,.mp 4,.mp 5,.mp 6] false),(3,.map .str false tG true),(4,.map .str false (.list .str) false),(5,.map .str false .bool false),(6,.map .str false .bool false)] [.slot 1,.slot 2,.cell 0 0,.cell 2 0,.cell 2 1,.cell 2 2,.cell 2 3] []
@[reducible] def kA:az:=az.mk [(0,.c .any)] [(0,.cells [.ptr 2 0] false),(2,.cells [.mp 3,.mp 4,.mp 5,.mp 6] false),(3,.map .str false tG true),(4,.map .str false (.list .str) false),(5,.map .str false .bool false),(6,.map .str false .bool false),(1,.cells [.fn 96 .nil (.cons (.ptr 0 0) (.cons (.ptr 1 0) .nil))] false)] [] []
noncomputable def Ow (rec:ku.T→Option kA.T):Cx:=(aL [] [⟨96,ku,kA,rec⟩])
theorem Em (rec:ku.T→Option kA.T) (h:Ht.Ok prog ⟨96,ku,kA,rec⟩):(Ow rec).Ok prog:=ax trivial ⟨⟨h,rfl⟩,trivial⟩
@[reducible] def GF:az:=az.mk [(2,.c (.ptr 1 0)),(22,.c (.hole (.list .str))),(23,hI),(24,hI)] [(1,.cells [.fn 96 .nil (.cons (.ptr 0 0) (.cons (.ptr 1 0) .nil))] false),(0,.cells [.ptr 2 0] false),(2,.cells [.mp 3,.mp 4,.mp 5,.mp 6] false),(3,.map .str false tG true),(4,.map .str false (.list .str) false),(5,.map .str false .bool false),(6,.map .str false .bool false)] [] []
@[reducible] def GH:aW:=[(.exit 0,az.mk [] [(0,.cells [.ptr 2 0] false),(2,.cells [.mp 3,.mp 4,.mp 5,.mp 6] false),(3,.map .str false tG true),(4,.map .str false (.list .str) false),(5,.map .str false .bool false),(6,.map .str false .bool false),(1,.cells [.fn 96 .nil (.cons (.ptr 0 0) (.cons (.ptr 1 0) .nil))] false)] [] [])]
noncomputable def Ox (rec:ku.T→Option kA.T) (h:Ht.Ok prog ⟨96,ku,kA,rec⟩):D prog 32 none 7:=dO [] (pick (kd prog f96) [(0,false)]) 0
noncomputable def gH96_0:List ByteArray×Int×Int×cH×cM×aT×aT×Unit→Tr ku.T kA.T ((List ByteArray×Int×Int×cH×cM×aT×aT×Unit) ⊕ ((cH×cM×aT×aT×Unit))):=fun (v22,v23,v24,m3,m4,m5,m6,_) =>
 .br (decide (v24<v23)) (
 .nb v24 (((v22).length:Nat):Int) <|
 .bd (.rc (((v22).getD (Int.toNat v24) (bs [])),m3,m4,m5,m6,())) fun y0 =>
 .ni (v24+(1:Int)) <|
 .ret (.inl (v22,v23,(v24+(1:Int)),y0.1,y0.2.1,y0.2.2.1,y0.2.2.2.1,()))) (
 .ret (.inr (m3,m4,m5,m6,())))
theorem Yp (rec:ku.T→Option kA.T) (h:Ht.Ok prog ⟨96,ku,kA,rec⟩):∀x,BQ (jf (GF.T ⊕ GH.T)) (Ow rec) ek [0,1,2,3,4,5,6] GF GH (Ox rec h) (fun y=>some (.inl y)) (fun b=>some (.inr b)) x=run rec (gH96_0 x):=fun x=>by kernel_rfl
noncomputable def Yq (rec:ku.T→Option kA.T) (h:Ht.Ok prog ⟨96,ku,kA,rec⟩):bS prog 32 none 7:=bE mixed (Ow rec) (Em rec h) [0,1,2,3,4,5,6] rfl GF GH rfl (Ox rec h) (fun x=>run rec (gH96_0 x)) (Yp rec h)
noncomputable def VP (rec:ku.T→Option kA.T) (h:Ht.Ok prog ⟨96,ku,kA,rec⟩):D prog 32 none 7:=dO [.l (Yq rec h)] (kd prog f96) 0
noncomputable def FH96 (v0:ByteArray) (m3:cH) (m4:cM) (m5:aT) (m6:aT):Tr ku.T kA.T (cH×cM×aT×aT×Unit) :=
 .br (ay .str false m6 v0) (
 .ret (m3,m4,m5,m6,())) (
 .bd (.it gH96_0 ((ay .str [] m4 v0),((((ay .str [] m4 v0)).length:Nat):Int),(0:Int),m3,m4,m5,(aZ .str m6 v0 true),())) fun z1 =>
 .ret (z1.1,z1.2.1,z1.2.2.1,z1.2.2.2.1,()))
theorem SH (rec:ku.T→Option kA.T) (h:Ht.Ok prog ⟨96,ku,kA,rec⟩):cL prog f96=some ⟨32,3,(VP rec h).er,[],[]⟩:=by kernel_rfl
theorem Kv (rec:ku.T→Option kA.T) (h:Ht.Ok prog ⟨96,ku,kA,rec⟩):Ht.Ok prog ⟨96,ku,kA,(fun x=>run rec (FH96 x.1 x.2.1 x.2.2.1 x.2.2.2.1 x.2.2.2.2.1))⟩:=bP mixed (Em rec h) rfl func96 (SH rec h) (enters_of func96 rfl rfl) (VP rec h) (by kernel_rfl) rfl rfl ⟨_,rfl⟩ rfl (pre:=[0,1,2,3,4,5,6]) rfl (fun x=>by kernel_rfl)
noncomputable def FH96fix (v0:ByteArray) (m3:cH) (m4:cM) (m5:aT) (m6:aT):bQ (cH×cM×aT×aT×Unit):=.fx (A1:=ku.T) (B1:=kA.T) (fun x=>FH96 x.1 x.2.1 x.2.2.1 x.2.2.2.1 x.2.2.2.2.1) (v0,m3,m4,m5,m6,())
noncomputable def ht96:Ht:=⟨96,ku,kA,fun x=>ak (FH96fix x.1 x.2.1 x.2.2.1 x.2.2.2.1 x.2.2.2.2.1)⟩
theorem SJ:ht96.Ok prog:=Nv (F:=fun rec x=>run rec (FH96 x.1 x.2.1 x.2.2.1 x.2.2.2.1 x.2.2.2.2.1)) (fun rec h=>Kv rec h)

/- 66, lent -/
@[reducible] def pH66:az:=az.mk [(0,.c (.ptr 0 0))] [(0,.cells [.mp 1] false),(1,.map tG true .bool false)] [.slot 0,.cell 0 0] []
@[reducible] def qH66:az:=az.mk [(0,.c (.ptr 2 0))] [(2,.cells [.mp 3,.mp 4,.mp 5,.mp 6] false),(0,.cells [.mp 1] false),(1,.map tG true .bool false),(3,.map .str false tG true),(4,.map .str false (.list .str) false),(5,.map .str false .bool false),(6,.map .str false .bool false)] [.slot 0,.cell 2 0,.cell 2 1,.cell 2 2,.cell 2 3] []
noncomputable def IU:Cx:=(aL [] [Yi,Oj,Om,Yj,ht97,ht96])
theorem sg:IU.Ok prog:=ax trivial ⟨⟨IK,rfl⟩,⟨vG,rfl⟩,⟨vI,rfl⟩,⟨IP,rfl⟩,⟨SG,rfl⟩,⟨SJ,rfl⟩,trivial⟩
@[reducible] def Yr:az:=az.mk [(3,.c (.ptr 2 0)),(26,.c (.b7 3 tG)),(27,hI),(28,hI)] [(2,.cells [.ptr 4 0] false),(3,.arr tG false),(0,.cells [.mp 1] false),(1,.map tG true .bool false),(4,.cells [.mp 5,.mp 6,.mp 7,.mp 8] false),(5,.map .str false tG true),(6,.map .str false (.list .str) false),(7,.map .str false .bool false),(8,.map .str false .bool false)] [.slot 3,.slot 26,.cell 2 0,.cell 4 0,.cell 4 1,.cell 4 2,.cell 4 3] []
@[reducible] def Ys:aW:=[(.exit 0,az.mk [(3,.c (.ptr 2 0))] [(2,.cells [.ptr 3 0] false),(0,.cells [.mp 1] false),(1,.map tG true .bool false),(3,.cells [.mp 4,.mp 5,.mp 6,.mp 7] false),(4,.map .str false tG true),(5,.map .str false (.list .str) false),(6,.map .str false .bool false),(7,.map .str false .bool false)] [.slot 3,.cell 2 0,.cell 3 0,.cell 3 1,.cell 3 2,.cell 3 3] [])]
noncomputable def Yt:D prog 148 none 2:=dO [] (pick (kd prog f66) [(0,false)]) 0
noncomputable def gH66_0:Nat×Int×Int×(List (GG))×(List ((GG)×Bool))×cH×cM×aT×aT×Unit→bQ ((Nat×Int×Int×(List (GG))×(List ((GG)×Bool))×cH×cM×aT×aT×Unit) ⊕ (((List ((GG)×Bool))×cH×cM×aT×aT×Unit))):=fun (Yu,v27,v28,b3,m1,m5,m6,m7,m8,_) =>
 .br (decide (v28<v27)) (
 .nb v28 ((Yu:Nat):Int) <|
 .nd (decide (((0:Nat)+(Int.toNat v28))<(b3).length)) <|
 .br (!(aM .str m5 ((b3).getD ((0:Nat)+(Int.toNat v28)) ((bs []),(0:Int),(bs []),(bs []),(0:Int))).1)) (
 .ni (v28+(1:Int)) <|
 .ret (.inl (Yu,v27,(v28+(1:Int)),b3,m1,(aZ .str m5 ((b3).getD ((0:Nat)+(Int.toNat v28)) ((bs []),(0:Int),(bs []),(bs []),(0:Int))).1 (((b3).getD ((0:Nat)+(Int.toNat v28)) ((bs []),(0:Int),(bs []),(bs []),(0:Int))).1,((b3).getD ((0:Nat)+(Int.toNat v28)) ((bs []),(0:Int),(bs []),(bs []),(0:Int))).2.1,((b3).getD ((0:Nat)+(Int.toNat v28)) ((bs []),(0:Int),(bs []),(bs []),(0:Int))).2.2.1,((b3).getD ((0:Nat)+(Int.toNat v28)) ((bs []),(0:Int),(bs []),(bs []),(0:Int))).2.2.2.1,((b3).getD ((0:Nat)+(Int.toNat v28)) ((bs []),(0:Int),(bs []),(bs []),(0:Int))).2.2.2.2)),m6,m7,m8,()))) (
 .ni (v28+(1:Int)) <|
 .ret (.inl (Yu,v27,(v28+(1:Int)),b3,m1,m5,m6,m7,m8,())))) (
 .ret (.inr (m1,m5,m6,m7,m8,())))
noncomputable def Yv:bS prog 148 none 2:=bE mixed IU sg [0,1] rfl Yr Ys rfl (Yt) (fun x=>ak (gH66_0 x)) (fun x=>by kernel_rfl)
@[reducible] def qC:az:=az.mk [(3,.c (.ptr 2 0)),(57,.c (.b7 3 .str)),(58,hI),(59,hI)] [(2,.cells [.ptr 4 0] false),(3,.arr .str false),(0,.cells [.mp 1] false),(1,.map tG true .bool false),(4,.cells [.mp 5,.mp 6,.mp 7,.mp 8] false),(5,.map .str false tG true),(6,.map .str false (.list .str) false),(7,.map .str false .bool false),(8,.map .str false .bool false)] [.slot 3,.slot 57,.cell 2 0,.cell 4 0,.cell 4 1,.cell 4 2,.cell 4 3] []
@[reducible] def tQ:aW:=[(.exit 2,az.mk [(3,.c (.ptr 2 0))] [(2,.cells [.ptr 3 0] false),(0,.cells [.mp 1] false),(1,.map tG true .bool false),(3,.cells [.mp 4,.mp 5,.mp 6,.mp 7] false),(4,.map .str false tG true),(5,.map .str false (.list .str) false),(6,.map .str false .bool false),(7,.map .str false .bool false)] [.slot 3,.cell 2 0,.cell 3 0,.cell 3 1,.cell 3 2,.cell 3 3] [])]
noncomputable def Yw:D prog 148 none 2:=dO [] (pick (kd prog f66) [(1,false)]) 0
noncomputable def gH66_1:Nat×Int×Int×List ByteArray×(List ((GG)×Bool))×cH×cM×aT×aT×Unit→bQ ((Nat×Int×Int×List ByteArray×(List ((GG)×Bool))×cH×cM×aT×aT×Unit) ⊕ (((List ((GG)×Bool))×cH×cM×aT×aT×Unit))):=fun (dL,v58,v59,b3,m1,m5,m6,m7,m8,_) =>
 .br (decide (v59<v58)) (
 .nb v59 ((dL:Nat):Int) <|
 .nd (decide (((0:Nat)+(Int.toNat v59))<(b3).length)) <|
 .br ((ay .str ((bs []),(0:Int),(bs []),(bs []),(0:Int)) m5 ((b3).getD ((0:Nat)+(Int.toNat v59)) (bs []))).2.1==(3:Int)) (
 .ni (v59+(1:Int)) <|
 .ret (.inl (dL,v58,(v59+(1:Int)),b3,m1,m5,m6,(aZ .str m7 (ay .str ((bs []),(0:Int),(bs []),(bs []),(0:Int)) m5 ((b3).getD ((0:Nat)+(Int.toNat v59)) (bs []))).2.2.1 true),m8,()))) (
 .br ((ay .str ((bs []),(0:Int),(bs []),(bs []),(0:Int)) m5 ((b3).getD ((0:Nat)+(Int.toNat v59)) (bs []))).2.1==(2:Int)) (
 .nd (decide (((ay .str [] m6 (ay .str ((bs []),(0:Int),(bs []),(bs []),(0:Int)) m5 ((b3).getD ((0:Nat)+(Int.toNat v59)) (bs []))).2.2.1)).length+1<cg)) <|
 .ni (v59+(1:Int)) <|
 .ret (.inl (dL,v58,(v59+(1:Int)),b3,m1,m5,(aZ .str m6 (ay .str ((bs []),(0:Int),(bs []),(bs []),(0:Int)) m5 ((b3).getD ((0:Nat)+(Int.toNat v59)) (bs []))).2.2.1 ((ay .str [] m6 (ay .str ((bs []),(0:Int),(bs []),(bs []),(0:Int)) m5 ((b3).getD ((0:Nat)+(Int.toNat v59)) (bs []))).2.2.1)++(((b3).getD ((0:Nat)+(Int.toNat v59)) (bs []))::[]))),m7,m8,()))) (
 .ni (v59+(1:Int)) <|
 .ret (.inl (dL,v58,(v59+(1:Int)),b3,m1,m5,m6,m7,m8,()))))) (
 .ret (.inr (m1,m5,m6,m7,m8,())))
/-! The loop in which lists grow that lie in a map, by hand. -/
@[reducible] def tR:Ty:=.prod .str (.prod tI (.prod .str (.prod .str tI)))
def gq (b3:List ByteArray) (m1:List (tR.den×Bool)) (m5:List (ByteArray×tR.den)) (m7 m8:aT):ai :=
 [(2,.cells [.ptr 4 0] false),(3,.arr .str b3 false),(0,.cells [.mp 1] false),(1,.map tR true .bool false m1),(4,.cells [.mp 5,.mp 6,.mp 7,.mp 8] false),(5,.map .str false tR true m5),(7,.map .str false .bool false m7),(8,.map .str false .bool false m8)]
def xZ (dL:Nat) (v58 v59:Int):Env:=[(3,.ptr 2 0),(57,.sl 3 .str 0 dL),(58,.int .i64 v58),(59,.int .i64 v59)]
def I66 (x:qC.T):St:=⟨xZ x.1 x.2.1 x.2.2.1,⟨9,gq x.2.2.2.1 x.2.2.2.2.1 x.2.2.2.2.2.1 x.2.2.2.2.2.2.2.1 x.2.2.2.2.2.2.2.2.1⟩,[]⟩
def GI:C:=.aS [.op (some 97) none (.bin .add (.t 59) (.c (.int .i64 (Int.ofNat 1)))),.op (some 59) none (.mv (.t 97))]
def Yx : C := .draw [[], [0], [0, 1], [0, 1, 2], [], [4], [0, 1, 2, 3, 4, 5]]
 [.op (some 73) none (.load false 1 (.t 3)),.op (some 74) none (.ex .iN [.t 73]),.op (some 75) none (.mG 2 [true,true,false] (.t 74)),.op (some 76) none (.load false 1 (.t 75)),.op (some 77) none (.mG 2 [true,true,false] (.t 10)),.op (some 78) none (.load false 1 (.t 77)),
 .op none none (.ex (.ig .str false .bool false) [.t 76,.t 78,.c (.tf true)])]
def in66 : C := .block 4 (.seq (.aS [.op (some 72) none (.bin .eql (.t 70) (.c (.int .i64 (Int.ofNat 3)))), .op (some 71) none (.mv (.t 72))])
 (.cond (.t 71) Yx (.seq (.aS [.op (some 80) none (.bin .eql (.t 70) (.c (.int .i64 (Int.ofNat 2)))),.op (some 79) none (.mv (.t 80))]) (.cond (.t 79) (.draw nh Ed) .skip))))
def VQ : C := .seq (.block 3 (.seq (.aS [.op (some 61) none (.idx 1 (.t 57) (.t 59)), .op (some 62) none (.load false 1 (.t 61)), .op (some 9) none (.mv (.t 62))])
 (.seq (.aS [.op (some 63) none (.load false 1 (.t 3)),.op (some 64) none (.ex .iN [.t 63]),.op (some 65) none (.mG 0 [false] (.t 64)),.op (some 66) none (.load false 1 (.t 65)),.op (some 67) none (.mv (.t 9)),
 .op (some 68) none (.ex (.fZ .str false tR true false) [.t 66,.t 67]),.op (some 10) none (.alloc [.str ⟨⟨[]⟩⟩,.int .i64 (Int.ofNat 0),.str ⟨⟨[]⟩⟩,.str ⟨⟨[]⟩⟩,.int .i64 (Int.ofNat 0)]),.op none none (.store 5 (.t 10) (.t 68))])
 (.seq (.aS [.op (some 69) none (.mG 1 [true,false] (.t 10)),.op (some 70) none (.load false 1 (.t 69))]) in66)))) GI
def c66:C:=.seq (.aS [.op (some 60) none (.bin .lss (.t 59) (.t 58))]) (.seq (.cond (.t 60) .skip (.exit 2)) VQ)
theorem acI {dL : Nat} {v58 v59 : Int} {b3 : List ByteArray} {m1 : List (tR.den × Bool)} {m5 : List (ByteArray × tR.den)} {m7 m8 : aT} {env : Env} {nx : Nat} {bl : ai}
    (h3:get 3 env = .ptr 2 0) (h57:get 57 env = .sl 3 .str 0 dL) (h58:get 58 env = .int .i64 v58) (h59:get 59 env = .int .i64 v59) (hb:∀p∈gq b3 m1 m5 m7 m8,au p.1 bl=some p.2) :
    jl 2 (List.range 9) ⟨env,⟨nx,bl⟩,[]⟩ ⟨xZ dL v58 v59,⟨9,gq b3 m1 m5 m7 m8⟩,[]⟩:=by
  refine Kt (by omega) rfl rfl rfl (fun p hp=>?_) (fun p hp=>?_)
  · simp only [xZ, List.mem_cons, List.not_mem_nil, or_false] at hp
    rcases hp with rfl|rfl|rfl|rfl
    · rw [h3];exact .ptr 2 2 0 rfl
    · rw [h57];exact .sl 3 3 .str 0 dL rfl
    · rw [h58];exact .int _ _
    · rw [h59];exact .int _ _
  · have hg := hb p hp
    simp only [gq,List.mem_cons,List.not_mem_nil,or_false] at hp
    rcases hp with rfl|rfl|rfl|rfl|rfl|rfl|rfl|rfl
    · exact ⟨by omega,2,rfl,_,hg,.cons (.ptr 4 4 0 rfl) .nil⟩
    · exact ⟨by omega,3,rfl,.inl hg⟩
    · exact ⟨by omega,0,rfl,_,hg,.cons (.mp 1 1 rfl) .nil⟩
    · exact ⟨by omega,1,rfl,hg⟩
    · exact ⟨by omega,4,rfl,_,hg,.cons (.mp 5 5 rfl) (.cons (.mp 6 6 rfl) (.cons (.mp 7 7 rfl) (.cons (.mp 8 8 rfl) .nil)))⟩
    · exact ⟨by omega,5,rfl,hg⟩
    · exact ⟨by omega,7,rfl,hg⟩
    · exact ⟨by omega,8,rfl,hg⟩
def P66:qC.T ⊕ tQ.T→Ex→St→cM→Prop:=GRnd 6 2 I66 (fun x=>x.2.2.2.2.2.2.1) (tQ.st 2) (fun b=>b.2.2.1)
theorem Oy {dL : Nat} {v58 v59 : Int} {b3 : List ByteArray} {m1 : List (tR.den × Bool)} {m5 : List (ByteArray × tR.den)} {m6 : cM} {m7 m8 : aT} {env : Env} {nx : Nat} {bl : ai} (u : Unit) (hi : eN .i64 (v59 + 1) = true)
    (h3:get 3 env = .ptr 2 0) (h57:get 57 env = .sl 3 .str 0 dL) (h58:get 58 env = .int .i64 v58) (h59:get 59 env = .int .i64 v59) (hb:∀p∈gq b3 m1 m5 m7 m8,au p.1 bl=some p.2) :
    gC prog 148 none 6 GI ⟨env,⟨nx,bl⟩,[]⟩ m6 (P66 (.inl (dL,v58,v59+1,b3,m1,m5,m6,m7,m8,u))):=by
  refine Ef (env':=(59,.int .i64 (v59+1))::(97,.int .i64 (v59+1))::env) (Fw:=nx) (bI:=bl) (ms':=[]) mixed (fun _=>rfl) (fun base=>?_) ⟨rfl,rfl,List.range 9,rfl,acI h3 h57 h58 rfl hb⟩
  refine Eq.trans (b:=need (eN .i64 (v59+1)) (some (Ex.normal,(59,.int .i64 (v59+1))::(97,.int .i64 (v59+1))::env,nx,bl,[]))) ?_ (by rw [c8 hi])
  have h1:UY ek (.bin .add (.t 59) (.c (.int .i64 (Int.ofNat 1)))) env bl nx=some ([eN .i64 (v59+1)],.int .i64 (v59+1),[]):=by
    show (match (O.t 59).ev env,(O.c (V.int .i64 (Int.ofNat 1))).ev env with
      | .int k a,.int k' b=>_
      | .str a,.str b=>_
      |_,_=>_)=_
    rw [show (O.t 59).ev env = .int .i64 v59 from h59]
    rfl
  show (match UY ek (.bin .add (.t 59) (.c (.int .i64 (Int.ofNat 1)))) env bl nx with
    |some (ob,v,u)=>_
    |none=>_)=_
  rw [h1]
  rfl
def IV (dL:Nat) (v58 v59:Int):Env:=(60,.tf true)::(60,.bool (decide (v59<v58)))::xZ dL v58 v59
def sj (dL:Nat) (v58 v59:Int) (id:ByteArray) (m:tR.den):Env :=
 (70,.int .i64 m.2.1)::(69,.ptr 9 1)::(10,.ptr 9 0)::(68,.agg [.str m.1,.int .i64 m.2.1,.str m.2.2.1,.str m.2.2.2.1,.int .i64 m.2.2.2.2])::(67,.str id)::(66,.mp 5)::(65,.ptr 4 0)::(64,.ptr 4 0)::(63,.ptr 4 0) ::
 (9,.str id)::(62,.str id)::(61,.ep 3 .str (0+Int.toNat v59) [])::IV dL v58 v59
/-- Up to the switch. -/
theorem yb {dL : Nat} {v58 v59 : Int} {b3 : List ByteArray} {m1 : List (tR.den × Bool)} {m5 : List (ByteArray × tR.den)} {m6 : cM} {m7 m8 : aT} {Q R : Ex → St → cM → Prop}
    (iU:ew v59 (dL:Int)=true) (eL:decide (0+Int.toNat v59<b3.length)=true) {id:ByteArray} {m:tR.den} (hid:id=b3.getD (0+Int.toNat v59) (bs [])) (hm:m=ay .str (bs [],(0:Int),bs [],bs [],(0:Int)) m5 id)
    (hin:gC prog 148 none 6 in66 ⟨sj dL v58 v59 id m,⟨10,(9,.cells [.str m.1,.int .i64 m.2.1,.str m.2.2.1,.str m.2.2.2.1,.int .i64 m.2.2.2.2] false)::gq b3 m1 m5 m7 m8⟩,[]⟩ m6 fun e S' es'=>e = .normal∧R .normal S' es')
    (h18:∀S' es',R .normal S' es'→gC prog 148 none 6 GI S' es' Q):gC prog 148 none 6 VQ ⟨IV dL v58 v59,⟨9,gq b3 m1 m5 m7 m8⟩,[]⟩ m6 Q:=by
  subst hm;subst hid
  refine IB (Q1:=fun e S' es'=>e = .normal∧R .normal S' es') (fun _ _ h=>by cases h) (vB (Q1:=fun e S' es'=>e = .normal∧R .normal S' es') ?_ (fun _ _ h=>h) (fun i _ _ h=>by cases h.1) (fun _ _ h=>by cases h.1)) (fun S' es' hq=>h18 _ _ hq.2) (fun i S' es' hq=>by cases hq.1) (fun S' es' hq=>by cases hq.1)
  generalize hE3:((9,V.str (b3.getD (0+Int.toNat v59) (bs [])))::(62,V.str (b3.getD (0+Int.toNat v59) (bs [])))::(61,V.ep 3 .str (0+Int.toNat v59) [])::IV dL v58 v59:Env)=e3
  refine fM (env':=e3) (Fw:=9) (bI:=gq b3 m1 m5 m7 m8) (ms':=[]) mixed (fun base=>Eq.trans (b:=need (ew v59 (dL:Int)) (need (decide (0+Int.toNat v59<b3.length)) (some (Ex.normal,e3,9,gq b3 m1 m5 m7 m8,[])))) (by subst hE3;kernel_rfl) (by rw [c8 iU,c8 eL])) ?_
  subst hE3
  refine fM (Fw := 10) (ms' := []) (bI := (9, .cells [.str (ay .str (bs [], (0 : Int), bs [], bs [], (0 : Int)) m5 (b3.getD (0 + Int.toNat v59) (bs []))).1, .int .i64 (ay .str (bs [], (0 : Int), bs [], bs [], (0 : Int)) m5 (b3.getD (0 + Int.toNat v59) (bs []))).2.1, .str (ay .str (bs [], (0 : Int), bs [], bs [], (0 : Int)) m5 (b3.getD (0 + Int.toNat v59) (bs []))).2.2.1, .str (ay .str (bs [], (0 : Int), bs [], bs [], (0 : Int)) m5 (b3.getD (0 + Int.toNat v59) (bs []))).2.2.2.1, .int .i64 (ay .str (bs [], (0 : Int), bs [], bs [], (0 : Int)) m5 (b3.getD (0 + Int.toNat v59) (bs []))).2.2.2.2] false) :: gq b3 m1 m5 m7 m8)
    (env':=(sj dL v58 v59 (b3.getD (0+Int.toNat v59) (bs [])) (ay .str (bs [],(0:Int),bs [],bs [],(0:Int)) m5 (b3.getD (0+Int.toNat v59) (bs [])))).drop 2) mixed (fun base=>by kernel_rfl) ?_
  exact fM (Fw:=10) (ms':=[]) mixed (fun base=>by kernel_rfl) hin
theorem Yy:∀(x:qC.T) (r:qC.T ⊕ tQ.T),ak (gH66_1 x)=some r→gC prog 148 none 6 c66 (I66 x) x.2.2.2.2.2.2.1 (P66 r):=by
  rintro ⟨dL,v58,v59,b3,m1,m5,m6,m7,m8,u⟩ r hr
  have hr:vp (decide (v59<v58)) _ _=some r:=hr
  rcases iz hr with ⟨hlt,hr⟩|⟨hlt,hr⟩
  · obtain ⟨iU, hr⟩ := de hr
    obtain ⟨eL,hr⟩:=de hr
    refine fM (env':=(60,.bool (decide (v59<v58)))::xZ dL v58 v59) (Fw:=9) (bI:=gq b3 m1 m5 m7 m8) (ms':=[]) mixed (fun base=>by kernel_rfl) ?_
    refine IB (Q1:=fun e S' es'=>e = .normal∧S'=⟨IV dL v58 v59,⟨9,gq b3 m1 m5 m7 m8⟩,[]⟩∧es'=m6) (fun _ _ h=>by cases h) (qz (t:=true) (by show V.bool _=_;rw [hlt]) (Ef mixed (fun _=>rfl) (fun base=>by kernel_rfl) ⟨rfl,rfl,rfl⟩)) (fun S' es' hq=>?_) (fun i S' es' hq=>by cases hq.1) (fun S' es' hq=>by cases hq.1)
    obtain ⟨-,rfl,rfl⟩:=hq
    obtain ⟨id,hid⟩:∃id,id=b3.getD (0+Int.toNat v59) (bs []):=⟨_,rfl⟩
    obtain ⟨m,hm⟩:∃m,m=ay .str (bs [],(0:Int),bs [],bs [],(0:Int)) m5 id:=⟨_,rfl⟩
    rw [←hid,←hm] at hr
    have hr:vp (m.2.1==3) _ _=some r:=hr
    rcases iz hr with ⟨h3,hr⟩|⟨h3,hr⟩
    · obtain ⟨hi, hr⟩ := de hr
      cases hr
      refine yb (R:=fun _ S' Ft=>Ft=es'∧S'=⟨(78,.str m.2.2.1)::(77,.ptr 9 2)::(76,.mp 7)::(75,.ptr 4 2)::(74,.ptr 4 0)::(73,.ptr 4 0)::(71,.tf true)::(71,.bool (m.2.1==3))::(72,.bool (m.2.1==3))::sj dL v58 v59 id m,⟨17,(7,.map .str false .bool false (aZ .str m7 m.2.2.1 true))::(9,.cells [.str m.1,.int .i64 m.2.1,.str m.2.2.1,.str m.2.2.2.1,.int .i64 m.2.2.2.2] false)::bt 7 (gq b3 m1 m5 m7 m8)⟩,[]⟩) iU eL hid hm ?_ ?_
      · refine vB (Q1 := fun e S' Ft => e = .normal ∧ (Ft = es' ∧ S' = _)) ?_ (fun _ _ h => h) (fun i _ _ h => by cases h.1) (fun _ _ h => by cases h.1)
        refine fM (env':=(71,.bool (m.2.1==3))::(72,.bool (m.2.1==3))::sj dL v58 v59 id m) (Fw:=10) (ms':=[]) (bI:=(9,.cells [.str m.1,.int .i64 m.2.1,.str m.2.2.1,.str m.2.2.2.1,.int .i64 m.2.2.2.2] false)::gq b3 m1 m5 m7 m8) mixed (fun base=>by kernel_rfl) ?_
        refine qz (t:=true) (by show V.bool _=_;rw [h3]) ?_
        exact Ef mixed (fun _=>rfl) (fun base=>by kernel_rfl) ⟨rfl,rfl,rfl⟩
      · rintro S' Ft ⟨rfl, rfl⟩
        refine Oy u hi rfl rfl rfl rfl fun p hp=>?_
        simp only [gq,List.mem_cons,List.not_mem_nil,or_false] at hp
        rcases hp with rfl|rfl|rfl|rfl|rfl|rfl|rfl|rfl<;>rfl
    · have hr : vp (m.2.1 == 2) _ _ = some r := hr
      rcases iz hr with ⟨h2,hr⟩|⟨h2,hr⟩
      · obtain ⟨lH, hr⟩ := de hr
        obtain ⟨hi,hr⟩:=de hr
        cases hr
        refine yb (R:=fun _ S' Ft=>Ft=aZ .str es' m.2.2.1 (ay .str [] es' m.2.2.1++[id])∧S'=⟨xZ dL v58 v59,⟨28,gq b3 m1 m5 m7 m8⟩,[]⟩) iU eL hid hm ?_ ?_
        · refine vB (Q1 := fun e S' Ft => e = .normal ∧ (Ft = _ ∧ S' = _)) ?_ (fun _ _ h => h) (fun i _ _ h => by cases h.1) (fun _ _ h => by cases h.1)
          refine fM (env':=(71,.bool (m.2.1==3))::(72,.bool (m.2.1==3))::sj dL v58 v59 id m) (Fw:=10) (ms':=[]) (bI:=(9,.cells [.str m.1,.int .i64 m.2.1,.str m.2.2.1,.str m.2.2.2.1,.int .i64 m.2.2.2.2] false)::gq b3 m1 m5 m7 m8) mixed (fun base=>by kernel_rfl) ?_
          refine qz (t:=false) (by show V.bool _=_;rw [h3]) ?_
          refine fM (env':=(79,.bool (m.2.1==2))::(80,.bool (m.2.1==2))::(71,.tf false)::(71,.bool (m.2.1==3))::(72,.bool (m.2.1==3))::sj dL v58 v59 id m) (Fw:=10) (ms':=[]) (bI:=(9,.cells [.str m.1,.int .i64 m.2.1,.str m.2.2.1,.str m.2.2.2.1,.int .i64 m.2.2.2.2] false)::gq b3 m1 m5 m7 m8) mixed (fun base=>by kernel_rfl) ?_
          refine qz (t:=true) (by show V.bool _=_;rw [h2]) ?_
          refine NJ (NO (c2:=2) (c4:=4) (c9:=9) (k:=m.2.2.1) (x:=id) (env':=xZ dL v58 v59) (bI:=gq b3 m1 m5 m7 m8) mixed rfl rfl rfl rfl rfl rfl (of_decide_eq_true lH) (fun i B hB=>?_) (fun t=>?_)) fun e S' Ft hq=>⟨hq.1,hq.2.2,hq.2.1⟩
          · have hm := dn hB
            simp only [gq,List.mem_cons,List.not_mem_nil,or_false,Prod.mk.injEq] at hm
            rcases hm with ⟨rfl,rfl⟩|⟨rfl,rfl⟩|⟨rfl,rfl⟩|⟨rfl,rfl⟩|⟨rfl,rfl⟩|⟨rfl,rfl⟩|⟨rfl,rfl⟩|⟨rfl,rfl⟩<;>rfl
          · by_cases ht : t = 3 ∨ t = 57 ∨ t = 58 ∨ t = 59
            · rcases ht with rfl|rfl|rfl|rfl<;>exact .inr ⟨rfl,by omega⟩
            · refine .inl (get_none ?_)
              simp only [xZ,List.map_cons,List.map_nil,List.mem_cons,List.not_mem_nil,or_false]
              omega
        · rintro S' Ft ⟨rfl, rfl⟩
          refine Oy u hi rfl rfl rfl rfl fun p hp=>?_
          simp only [gq,List.mem_cons,List.not_mem_nil,or_false] at hp
          rcases hp with rfl|rfl|rfl|rfl|rfl|rfl|rfl|rfl<;>rfl
      · obtain ⟨hi, hr⟩ := de hr
        cases hr
        refine yb (R:=fun _ S' Ft=>Ft=es'∧S'=⟨(79,.tf false)::(79,.bool (m.2.1==2))::(80,.bool (m.2.1==2))::(71,.tf false)::(71,.bool (m.2.1==3))::(72,.bool (m.2.1==3))::sj dL v58 v59 id m,⟨10,(9,.cells [.str m.1,.int .i64 m.2.1,.str m.2.2.1,.str m.2.2.2.1,.int .i64 m.2.2.2.2] false)::gq b3 m1 m5 m7 m8⟩,[]⟩) iU eL hid hm ?_ ?_
        · refine vB (Q1 := fun e S' Ft => e = .normal ∧ (Ft = es' ∧ S' = _)) ?_ (fun _ _ h => h) (fun i _ _ h => by cases h.1) (fun _ _ h => by cases h.1)
          refine fM (env':=(71,.bool (m.2.1==3))::(72,.bool (m.2.1==3))::sj dL v58 v59 id m) (Fw:=10) (ms':=[]) (bI:=(9,.cells [.str m.1,.int .i64 m.2.1,.str m.2.2.1,.str m.2.2.2.1,.int .i64 m.2.2.2.2] false)::gq b3 m1 m5 m7 m8) mixed (fun base=>by kernel_rfl) ?_
          refine qz (t:=false) (by show V.bool _=_;rw [h3]) ?_
          refine fM (env':=(79,.bool (m.2.1==2))::(80,.bool (m.2.1==2))::(71,.tf false)::(71,.bool (m.2.1==3))::(72,.bool (m.2.1==3))::sj dL v58 v59 id m) (Fw:=10) (ms':=[]) (bI:=(9,.cells [.str m.1,.int .i64 m.2.1,.str m.2.2.1,.str m.2.2.2.1,.int .i64 m.2.2.2.2] false)::gq b3 m1 m5 m7 m8) mixed (fun base=>by kernel_rfl) ?_
          refine qz (t:=false) (by show V.bool _=_;rw [h2]) ?_
          exact Ef mixed (fun _=>rfl) (fun base=>by kernel_rfl) ⟨rfl,rfl,rfl⟩
        · rintro S' Ft ⟨rfl, rfl⟩
          refine Oy u hi rfl rfl rfl rfl fun p hp=>?_
          simp only [gq,List.mem_cons,List.not_mem_nil,or_false] at hp
          rcases hp with rfl|rfl|rfl|rfl|rfl|rfl|rfl|rfl<;>rfl
  · cases hr
    refine fM (env':=(60,.bool (decide (v59<v58)))::xZ dL v58 v59) (Fw:=9) (bI:=gq b3 m1 m5 m7 m8) (ms':=[]) mixed (fun base=>by kernel_rfl) ?_
    refine IB (Q1:=fun e S' es'=>e = .exit 2∧S'=⟨(60,.tf false)::(60,.bool (decide (v59<v58)))::xZ dL v58 v59,⟨9,gq b3 m1 m5 m7 m8⟩,[]⟩∧es'=m6) (fun _ _ h=>by cases h) (qz (t:=false) (by show V.bool _=_;rw [hlt]) ?_) (fun S' es' hq=>by cases hq.1) (fun i S' es' hq=>?_) (fun S' es' hq=>by cases hq.1)
    · exact Ef mixed (fun _=>rfl) (fun base=>by kernel_rfl) ⟨rfl,rfl,rfl⟩
    · obtain ⟨h1, rfl, rfl⟩ := hq
      cases h1
      refine ⟨by simp,rfl,by show 6<9;omega,rfl,?_⟩
      obtain ⟨b',π,h1,h2,h3⟩:=aW.dG (base:=2) (xs:=tQ) (e:=.exit 2) (k:=fun x=>some x) (r:=(m1,m5,es',m7,m8,u)) (env:=(60,.tf false)::(60,.bool (decide (v59<v58)))::xZ dL v58 v59) (nx:=9) (bl:=(6,.map .str false (.list .str) false es')::bt 6 (gq b3 m1 m5 m7 m8)) (ms:=[]) (by kernel_rfl)
      cases h1
      exact ⟨π,h3⟩
noncomputable def Yz:bS prog 148 none 2 where
  c:=(Yw).er
  run kz env nx bl ms K:=qC.rd kz.no [0,1] 2 env nx bl ms fun x=>kz.nd x.2.2.2.2.2.2.1.isEmpty (kz.bd (iter (fun x=>ak (gH66_1 x)) x) fun b=>tQ.go kz 2 b K)
  ok:=by
    intro X env nx bl ms K r h Q hQ
    obtain ⟨x,π,h1,h2⟩:=az.dG (base:=2) (show az.rd none (List.range 2) 2 qC _ _ _ _ _=some r from h)
    obtain ⟨hemp,h1⟩:=de h1
    obtain ⟨b,h3,h4⟩:=pn h1
    have h5:=aW.Am h4
    intro body hbody Y ι μ a w ho hb hR
    have qN:=h2.rep hb hR
    obtain ⟨dL,v58,v59,b3,m1,m5,m6,m7,m8,u⟩:=x
    have hm:m6=[]:=List.isEmpty_iff.1 hemp
    subst hm
    have qM:∀id B,au id (gq b3 m1 m5 m7 m8)=some B→au id (qC.st 2 (dL,v58,v59,b3,m1,m5,[],m7,m8,u)).H.bl=some B∧id≠6:=by
      intro id B hB
      have hm:=dn hB
      simp only [gq,List.mem_cons,List.not_mem_nil,or_false,Prod.mk.injEq] at hm
      rcases hm with ⟨rfl,rfl⟩|⟨rfl,rfl⟩|⟨rfl,rfl⟩|⟨rfl,rfl⟩|⟨rfl,rfl⟩|⟨rfl,rfl⟩|⟨rfl,rfl⟩|⟨rfl,rfl⟩<;>exact ⟨rfl,by omega⟩
    obtain ⟨hI,hG⟩:=RH (gi:=6) (bI:=gq b3 m1 m5 m7 m8) qN.inv rfl qM
    exact XN (I:=I66) (ES:=fun x=>x.2.2.2.2.2.2.1) (X:=tQ.st 2) (nb:=fun b=>b.2.2.1) (c:=c66) Yy h3 (hQ _ _ _ _ _ h5) (by rw [hbody];kernel_rfl) ho hb ⟨qN.env,qN.sz,hI,qN.ms⟩ hG
@[reducible] def Kw:az:=az.mk [(3,.c (.ptr 2 0)),(11,.c (.ptr 3 0)),(16,.c (.Qi 10 .str)),(102,.c (.mp 5)),(103,.c (.ptr 9 0)),(121,.c (.ptr 11 1)),(122,hI),(123,.c (.hole .bool)),(132,.c (.hole (.list .str))),(133,hI),(134,hI)] [(2,.cells [.ptr 4 0] false),(3,.cells [.fn 96 .nil (.cons (.ptr 2 0) (.cons (.ptr 3 0) .nil))] false),(10,.arr .str false),(5,.map .str false (.list .str) false),(11,.cells [.hole .str,.hole tI,.hole .str,.hole .str,.hole tI] false),(4,.cells [.mp 6,.mp 5,.mp 7,.mp 8] false),(6,.map .str false tG true),(7,.map .str false .bool false),(8,.map .str false .bool false),(0,.cells [.mp 1] false),(1,.map tG true .bool false)] [.slot 16,.slot 121] []
@[reducible] def Kx:aW:=[(.exit 7,az.mk [(3,.c (.ptr 2 0)),(11,.c (.ptr 3 0)),(102,.c (.mp 5)),(103,.c (.ptr 9 0)),(121,.c (.ptr 10 1)),(122,hI),(123,.c (.hole .bool))] [(2,.cells [.ptr 4 0] false),(3,.cells [.fn 96 .nil (.cons (.ptr 2 0) (.cons (.ptr 3 0) .nil))] false),(5,.map .str false (.list .str) false),(10,.cells [.hole .str,.hole tI,.hole .str,.hole .str,.hole tI] false),(4,.cells [.mp 6,.mp 5,.mp 7,.mp 8] false),(6,.map .str false tG true),(7,.map .str false .bool false),(8,.map .str false .bool false),(0,.cells [.mp 1] false),(1,.map tG true .bool false)] [.slot 121] [])]
noncomputable def Ky:D prog 148 none 10:=dO [] (pick (kd prog f66) [(2,false),(0,false)]) 0
noncomputable def gH66_2b_3:Nat×Nat×Int×Bool×List ByteArray×Int×Int×List ByteArray×cM×ByteArray×Int×ByteArray×ByteArray×Int×cH×aT×aT×(List ((GG)×Bool))×Unit→bQ ((Nat×Nat×Int×Bool×List ByteArray×Int×Int×List ByteArray×cM×ByteArray×Int×ByteArray×ByteArray×Int×cH×aT×aT×(List ((GG)×Bool))×Unit) ⊕ ((Int×Bool×cM×ByteArray×Int×ByteArray×ByteArray×Int×cH×aT×aT×(List ((GG)×Bool))×Unit))):=fun (SK,YA,uU,kR,Oz,YB,Eo,Qm,m5,OA,OB,OC,OD,OE,m6,m7,m8,m1,_) =>
 .br (decide (Eo<YB)) (
 .nb Eo (((Oz).length:Nat):Int) <|
 .nb (0:Int) ((YA:Nat):Int) <|
 .nd (decide ((SK+(Int.toNat (0:Int)))<(Qm).length)) <|
 .br (!(seq ((Oz).getD (Int.toNat Eo) (bs [])) ((Qm).getD (SK+(Int.toNat (0:Int))) (bs [])))) (
 .bd (FH96fix ((Oz).getD (Int.toNat Eo) (bs [])) m6 m5 m7 m8) fun y7 =>
 .ni (Eo+(1:Int)) <|
 .ret (.inl (SK,YA,uU,kR,Oz,YB,(Eo+(1:Int)),Qm,y7.2.1,OA,OB,OC,OD,OE,y7.1,y7.2.2.1,y7.2.2.2.1,m1,()))) (
 .ni (Eo+(1:Int)) <|
 .ret (.inl (SK,YA,uU,kR,Oz,YB,(Eo+(1:Int)),Qm,m5,OA,OB,OC,OD,OE,m6,m7,m8,m1,())))) (
 .ret (.inr (uU,kR,m5,OA,OB,OC,OD,OE,m6,m7,m8,m1,())))
noncomputable def KA:bS prog 148 none 10:=bE mixed IU sg [0,1,2,3,4,5,6,7,8,9] rfl Kw Kx rfl (Ky) (fun x=>ak (gH66_2b_3 x)) (fun x=>by kernel_rfl)
@[reducible] def YC:az:=az.mk [(3,.c (.ptr 2 0)),(11,.c (.ptr 3 0)),(102,.c (.mp 5))] [(2,.cells [.ptr 4 0] false),(3,.cells [.fn 96 .nil (.cons (.ptr 2 0) (.cons (.ptr 3 0) .nil))] false),(4,.cells [.mp 6,.mp 5,.mp 7,.mp 8] false),(5,.map .str false (.list .str) false),(0,.cells [.mp 1] false),(1,.map tG true .bool false),(6,.map .str false tG true),(7,.map .str false .bool false),(8,.map .str false .bool false)] [.slot 3,.slot 11,.cell 2 0,.cell 4 1,.cell 4 0,.cell 4 2,.cell 4 3] []
noncomputable def YD:D prog 148 none 10:=dO [.l KA] (pick (kd prog f66) [(2,false)]) 0
noncomputable def gH66_2:((ByteArray)×(List ByteArray))→cM×(List ((GG)×Bool))×cH×aT×aT×Unit→bQ (cM×(List ((GG)×Bool))×cH×aT×aT×Unit):=fun e (m5,m1,m6,m7,m8,_) =>
 .br (!(aM .str m6 e.1)) (
 .nd (jB m5 m5) <|
 .ret (m5,m1,m6,m7,m8,())) (
 .br ((ay .str ((bs []),(0:Int),(bs []),(bs []),(0:Int)) m6 e.1).2.1==(3:Int)) (
 .nd (jB m5 m5) <|
 .ret (m5,m1,m6,m7,m8,())) (
 .bd (FH98 e.2) fun y5 =>
 .bd (FH97 y5.1 y5.2.1 m6 m5 m7 m8) fun y6 =>
 .br (!(((y6.2.1:Nat):Int)==(1:Int))) (
 .nd (jB y6.2.2.2.2.1 m5) <|
 .ret (y6.2.2.2.2.1,m1,y6.2.2.2.1,y6.2.2.2.2.2.1,y6.2.2.2.2.2.2.1,())) (
 .bd (.it gH66_2b_3 (y6.1,y6.2.1,(ay .str ((bs []),(0:Int),(bs []),(bs []),(0:Int)) m6 e.1).2.1,((ay .str ((bs []),(0:Int),(bs []),(bs []),(0:Int)) m6 e.1).2.1==(3:Int)),e.2,(((e.2).length:Nat):Int),(0:Int),y6.2.2.1,y6.2.2.2.2.1,(ay .str ((bs []),(0:Int),(bs []),(bs []),(0:Int)) m6 e.1).1,(ay .str ((bs []),(0:Int),(bs []),(bs []),(0:Int)) m6 e.1).2.1,(ay .str ((bs []),(0:Int),(bs []),(bs []),(0:Int)) m6 e.1).2.2.1,(ay .str ((bs []),(0:Int),(bs []),(bs []),(0:Int)) m6 e.1).2.2.2.1,(ay .str ((bs []),(0:Int),(bs []),(bs []),(0:Int)) m6 e.1).2.2.2.2,y6.2.2.2.1,y6.2.2.2.2.2.1,y6.2.2.2.2.2.2.1,m1,())) fun z8 =>
 .nd (jB z8.2.2.1 m5) <|
 .ret (z8.2.2.1,z8.2.2.2.2.2.2.2.2.2.2.2.1,z8.2.2.2.2.2.2.2.2.1,z8.2.2.2.2.2.2.2.2.2.1,z8.2.2.2.2.2.2.2.2.2.2.1,()))))
noncomputable def YE:rG prog 148 none 2:=B5 mixed IU sg [0,1] rfl YC ( [.op (some 99) none (.load false 1 (.t 3)),.op (some 100) none (.ex gw.iN [.t 99]),.op (some 101) none (.mG 1 [true,false] (.t 100)),.op (some 102) none (.load false 1 (.t 101))]) 102 103 [104,105] (some 106) ( .str)  false ( .list .str)  false 5 rfl 10 rfl (YD) (fun e x=>ak (gH66_2 e x)) (fun e=>fun x=>by kernel_rfl)
noncomputable def VR:D prog 148 none 2:=dO [.l Yv,.l Yz,.m YE] (kd prog f66) 0
noncomputable def FH66 (m1:List ((GG)×Bool)):bQ ((List ((GG)×Bool))×cH×cM×aT×aT×Unit) :=
 .bd (FH47 m1) fun y0 =>
 .bd (.it gH66_0 (y0.1,((y0.1:Nat):Int),(0:Int),y0.2.1,y0.2.2.1,[],[],[],[],())) fun z1 =>
 .bd (FH95 z1.2.1) fun y2 =>
 .bd (FH81 y2.1) fun y3 =>
 .nd (z1.2.2.1).isEmpty <|
 .bd (.it gH66_1 (y3.1,((y3.1:Nat):Int),(0:Int),y3.2.1,z1.1,y3.2.2.1,z1.2.2.1,z1.2.2.2.1,z1.2.2.2.2.1,())) fun z4 =>
 .bd (.mq gH66_2 z4.2.2.1 (z4.2.2.1,z4.1,z4.2.1,z4.2.2.2.1,z4.2.2.2.2.1,())) fun z9 =>
 .ret (z9.2.1,z9.2.2.1,z9.1,z9.2.2.2.1,z9.2.2.2.2.1,())
theorem SM:cL prog f66=some ⟨148,1,VR.er,[.t 2],[none]⟩:=by kernel_rfl
noncomputable def Ep:Ht:=⟨66,pH66,qH66,(fun x=>ak (FH66 x.1))⟩
theorem sk:Ep.Ok prog:=bP mixed sg rfl func66 SM (enters_of func66 rfl rfl) VR (by kernel_rfl) rfl rfl ⟨_,rfl⟩ rfl (pre:=[0,1]) rfl (fun x=>by kernel_rfl)

/- 123, lent -/
@[reducible] def acJ:az:=az.mk [(0,.c (.hole .str)),(1,.c (.ptr 0 0))] [(0,.cells [.ptr 1 0] false),(1,.cells [.mp 2,.mp 3,.mp 4,.mp 5] false),(2,.map .str false tG true),(3,.map .str false (.list .str) false),(4,.map .str false .bool false),(5,.map .str false .bool false)] [.slot 1,.cell 0 0,.cell 1 0,.cell 1 1,.cell 1 2,.cell 1 3] []
@[reducible] def acK:az:=az.mk [(0,.c (.hole .bool))] [(0,.cells [.ptr 1 0] false),(1,.cells [.mp 2,.mp 3,.mp 4,.mp 5] false),(2,.map .str false tG true),(3,.map .str false (.list .str) false),(4,.map .str false .bool false),(5,.map .str false .bool false)] [] []
noncomputable def YF:Cx:=(aL [] [])
theorem KB:YF.Ok prog:=ax trivial trivial
noncomputable def OG:D prog 10 none 6:=dO [] (kd prog f123) 0
noncomputable def FH123 (v0:ByteArray) (m2:cH) (m3:cM) (m4:aT) (m5:aT):bQ (Bool×cH×cM×aT×aT×Unit) :=
 .ret ((ay .str false m5 v0),m2,m3,m4,m5,())
theorem OH:cL prog f123=some ⟨10,2,OG.er,[.t 3],[some .bool]⟩:=by kernel_rfl
noncomputable def OI:Ht:=⟨123,acJ,acK,(fun x=>ak (FH123 x.1 x.2.1 x.2.2.1 x.2.2.2.1 x.2.2.2.2.1))⟩
theorem Er:OI.Ok prog:=bP mixed KB rfl func123 OH (enters_of func123 rfl rfl) OG (by kernel_rfl) rfl rfl ⟨_,rfl⟩ rfl (pre:=[0,1,2,3,4,5]) rfl (fun x=>by kernel_rfl)

/- 119, lent -/
@[reducible] def OJ:az:=az.mk [(0,.c (.b7 0 .str)),(1,.fn 123 [] [.ptr 1 0])] [(0,.arr .str false),(1,.cells [.ptr 2 0] false),(2,.cells [.mp 3,.mp 4,.mp 5,.mp 6] false),(3,.map .str false tG true),(4,.map .str false (.list .str) false),(5,.map .str false .bool false),(6,.map .str false .bool false)] [.slot 0,.part 1 0,.cell 1 0,.cell 2 0,.cell 2 1,.cell 2 2,.cell 2 3] []
@[reducible] def OK:az:=az.mk [(0,hI)] [(1,.cells [.ptr 2 0] false),(2,.cells [.mp 3,.mp 4,.mp 5,.mp 6] false),(3,.map .str false tG true),(4,.map .str false (.list .str) false),(5,.map .str false .bool false),(6,.map .str false .bool false),(0,.arr .str false)] [] []
noncomputable def AH:Cx:=(aL [] [OI])
theorem sn:AH.Ok prog:=ax trivial ⟨⟨Er,rfl⟩,trivial⟩
@[reducible] def GJ:az:=az.mk [(0,.c (.b7 0 .str)),(1,.fn 123 [] [.ptr 1 0]),(7,hI),(8,hI)] [(0,.arr .str false),(1,.cells [.ptr 2 0] false),(2,.cells [.mp 3,.mp 4,.mp 5,.mp 6] false),(3,.map .str false tG true),(4,.map .str false (.list .str) false),(5,.map .str false .bool false),(6,.map .str false .bool false)] [] []
@[reducible] def GK:aW:=[(.ret,az.mk [(4,hI)] [(1,.cells [.ptr 2 0] false),(2,.cells [.mp 3,.mp 4,.mp 5,.mp 6] false),(3,.map .str false tG true),(4,.map .str false (.list .str) false),(5,.map .str false .bool false),(6,.map .str false .bool false),(0,.arr .str false)] [] []),(.exit 0,az.mk [] [(1,.cells [.ptr 2 0] false),(2,.cells [.mp 3,.mp 4,.mp 5,.mp 6] false),(3,.map .str false tG true),(4,.map .str false (.list .str) false),(5,.map .str false .bool false),(6,.map .str false .bool false),(0,.arr .str false)] [] [])]
noncomputable def GL:D prog 19 none 7:=dO [] (pick (kd prog f119) [(0,false)]) 0
noncomputable def gH119_v1_0:Nat×Int×Int×List ByteArray×cH×cM×aT×aT×Unit→bQ ((Nat×Int×Int×List ByteArray×cH×cM×aT×aT×Unit) ⊕ ((Int×cH×cM×aT×aT×List ByteArray×Unit) ⊕ ((cH×cM×aT×aT×List ByteArray×Unit)))):=fun (mb,v7,v8,b0,m3,m4,m5,m6,_) =>
 .br (decide (v8<v7)) (
 .nb v8 ((mb:Nat):Int) <|
 .nd (decide (((0:Nat)+(Int.toNat v8))<(b0).length)) <|
 .bd (FH123 ((b0).getD ((0:Nat)+(Int.toNat v8)) (bs [])) m3 m4 m5 m6) fun y0 =>
 .br y0.1 (
 .ret (.inr <| .inl<|(v8,y0.2.1,y0.2.2.1,y0.2.2.2.1,y0.2.2.2.2.1,b0,()))) (
 .ni (v8+(1:Int)) <|
 .ret (.inl (mb,v7,(v8+(1:Int)),b0,y0.2.1,y0.2.2.1,y0.2.2.2.1,y0.2.2.2.2.1,())))) (
 .ret (.inr <| .inr<|(m3,m4,m5,m6,b0,())))
noncomputable def GM:bS prog 19 none 7:=bE mixed AH sn [0,1,2,3,4,5,6] rfl GJ GK rfl (GL) (fun x=>ak (gH119_v1_0 x)) (fun x=>by kernel_rfl)
noncomputable def AJ:D prog 19 none 7:=dO [.l GM] (kd prog f119) 0
noncomputable def FH119_v1 (mb:Nat) (b0:List ByteArray) (m3:cH) (m4:cM) (m5:aT) (m6:aT):bQ (Int×cH×cM×aT×aT×List ByteArray×Unit) :=
 .bd (.it gH119_v1_0 (mb,((mb:Nat):Int),(0:Int),b0,m3,m4,m5,m6,())) fun z1 =>
 .sm z1 (fun z2 =>
 .ret (z2.1,z2.2.1,z2.2.2.1,z2.2.2.2.1,z2.2.2.2.2.1,z2.2.2.2.2.2.1,())) fun z3 =>
 .ret ((-1:Int),z3.1,z3.2.1,z3.2.2.1,z3.2.2.2.1,z3.2.2.2.2.1,())
theorem Es:cL prog f119=some ⟨19,2,AJ.er,[.t 4],[some tI]⟩:=by kernel_rfl
noncomputable def Et:Ht:=⟨119,OJ,OK,(fun x=>ak (FH119_v1 x.1 x.2.1 x.2.2.1 x.2.2.2.1 x.2.2.2.2.1 x.2.2.2.2.2.1))⟩
theorem Eu:Et.Ok prog:=bP mixed sn rfl func119 Es (enters_of func119 rfl rfl) AJ (by kernel_rfl) rfl rfl ⟨_,rfl⟩ rfl (pre:=[0,1,2,3,4,5,6]) rfl (fun x=>by kernel_rfl)

/- 97, lent -/
@[reducible] def SN:az:=az.mk [(0,.c (.b7 0 .str)),(1,.fn 123 [] [.ptr 1 0])] [(0,.arr .str false),(1,.cells [.ptr 2 0] false),(2,.cells [.mp 3,.mp 4,.mp 5,.mp 6] false),(3,.map .str false tG true),(4,.map .str false (.list .str) false),(5,.map .str false .bool false),(6,.map .str false .bool false)] [.slot 0,.part 1 0,.cell 1 0,.cell 2 0,.cell 2 1,.cell 2 2,.cell 2 3] []
@[reducible] def SO:az:=az.mk [(0,.c (.Qi 0 .str))] [(0,.arr .str false),(1,.cells [.ptr 2 0] false),(2,.cells [.mp 3,.mp 4,.mp 5,.mp 6] false),(3,.map .str false tG true),(4,.map .str false (.list .str) false),(5,.map .str false .bool false),(6,.map .str false .bool false)] [] []
noncomputable def Ev:Cx:=(aL [] [Et,OI])
theorem uC:Ev.Ok prog:=ax trivial ⟨⟨Eu,rfl⟩,⟨Er,rfl⟩,trivial⟩
@[reducible] def KC:az:=az.mk [(0,.c (.b7 0 .str)),(1,.fn 123 [] [.ptr 1 0]),(5,hI),(6,hI)] [(0,.arr .str false),(1,.cells [.ptr 2 0] false),(2,.cells [.mp 3,.mp 4,.mp 5,.mp 6] false),(3,.map .str false tG true),(4,.map .str false (.list .str) false),(5,.map .str false .bool false),(6,.map .str false .bool false)] [] []
@[reducible] def KE:aW:=[(.exit 0,az.mk [(0,.c (.b7 0 .str)),(5,hI)] [(0,.arr .str false),(1,.cells [.ptr 2 0] false),(2,.cells [.mp 3,.mp 4,.mp 5,.mp 6] false),(3,.map .str false tG true),(4,.map .str false (.list .str) false),(5,.map .str false .bool false),(6,.map .str false .bool false)] [] [])]
noncomputable def KF:D prog 42 none 7:=dO [] (pick (kd prog f97) [(0,false)]) 0
noncomputable def gH97_v1_0:Nat×Int×Int×List ByteArray×cH×cM×aT×aT×Unit→bQ ((Nat×Int×Int×List ByteArray×cH×cM×aT×aT×Unit) ⊕ ((Nat×Int×List ByteArray×cH×cM×aT×aT×Unit))):=fun (mb,v5,v6,b0,m3,m4,m5,m6,_) =>
 .br (decide (v6<((mb:Nat):Int))) (
 .nb v6 ((mb:Nat):Int) <|
 .nd (decide (((0:Nat)+(Int.toNat v6))<(b0).length)) <|
 .bd (FH123 ((b0).getD ((0:Nat)+(Int.toNat v6)) (bs [])) m3 m4 m5 m6) fun y1 =>
 .br (!y1.1) (
 .nb v5 ((mb:Nat):Int) <|
 .nd (decide (((0:Nat)+(Int.toNat v5))<(b0).length)) <|
 .ni (v5+(1:Int)) <|
 .ni (v6+(1:Int)) <|
 .ret (.inl (mb,(v5+(1:Int)),(v6+(1:Int)),((b0).set ((0:Nat)+(Int.toNat v5)) ((b0).getD ((0:Nat)+(Int.toNat v6)) (bs []))),y1.2.1,y1.2.2.1,y1.2.2.2.1,y1.2.2.2.2.1,()))) (
 .ni (v6+(1:Int)) <|
 .ret (.inl (mb,v5,(v6+(1:Int)),b0,y1.2.1,y1.2.2.1,y1.2.2.2.1,y1.2.2.2.2.1,())))) (
 .ret (.inr (mb,v5,b0,m3,m4,m5,m6,())))
noncomputable def KG:bS prog 42 none 7:=bE mixed Ev uC [0,1,2,3,4,5,6] rfl KC KE rfl (KF) (fun x=>ak (gH97_v1_0 x)) (fun x=>by kernel_rfl)
noncomputable def Ew:D prog 42 none 7:=dO [.l KG] (kd prog f97) 0
noncomputable def FH97_v1 (mb:Nat) (b0:List ByteArray) (m3:cH) (m4:cM) (m5:aT) (m6:aT):bQ (Nat×Nat×List ByteArray×cH×cM×aT×aT×Unit) :=
 .bd (FH119_v1 mb b0 m3 m4 m5 m6) fun y0 =>
 .br (y0.1==(-1:Int)) (
 .ret ((0:Nat),mb,y0.2.2.2.2.2.1,y0.2.1,y0.2.2.1,y0.2.2.2.1,y0.2.2.2.2.1,())) (
 .ni (y0.1+(1:Int)) <|
 .bd (.it gH97_v1_0 (mb,y0.1,(y0.1+(1:Int)),y0.2.2.2.2.2.1,y0.2.1,y0.2.2.1,y0.2.2.2.1,y0.2.2.2.2.1,())) fun z2 =>
 .nd (decide ((0:Int)≤z2.2.1)) <|
 .nd (decide (z2.2.1≤((z2.1:Nat):Int))) <|
 .nd (decide (((z2.1:Nat):Int)≤((z2.1:Nat):Int))) <|
 .nd (decide ((0:Int)≤(0:Int))) <|
 .nd (decide ((0:Int)≤z2.2.1)) <|
 .nd (decide (z2.2.1≤((z2.1:Nat):Int))) <|
 .ret (((0:Nat)+(Int.toNat (0:Int))),((Int.toNat z2.2.1) - (Int.toNat (0:Int))),(AZ (bs []) z2.2.2.1 ((0:Nat)+(Int.toNat z2.2.1)) ((Int.toNat ((z2.1:Nat):Int)) - (Int.toNat z2.2.1))),z2.2.2.2.1,z2.2.2.2.2.1,z2.2.2.2.2.2.1,z2.2.2.2.2.2.2.1,()))
theorem GN:cL prog f97=some ⟨42,2,Ew.er,[.t 4],[some (.list .str)]⟩:=by kernel_rfl
noncomputable def IW:Ht:=⟨97,SN,SO,(fun x=>ak (FH97_v1 x.1 x.2.1 x.2.2.1 x.2.2.2.1 x.2.2.2.2.1 x.2.2.2.2.2.1))⟩
theorem GO:IW.Ok prog:=bP mixed uC rfl func97 GN (enters_of func97 rfl rfl) Ew (by kernel_rfl) rfl rfl ⟨_,rfl⟩ rfl (pre:=[0,1,2,3,4,5,6]) rfl (fun x=>by kernel_rfl)

/- 104, lent -/
@[reducible] def acL:az:=az.mk [(0,.c (.ptr 0 0)),(1,.c (.hole .str))] [(0,.cells [.mp 1,.mp 2,.mp 3,.mp 4] false),(1,.map .str false tG true),(2,.map .str false (.list .str) false),(3,.map .str false .bool false),(4,.map .str false .bool false)] [.slot 0,.cell 0 0,.cell 0 1,.cell 0 2,.cell 0 3] []
@[reducible] def acM:az:=az.mk [(0,.c (.Qi 5 .str))] [(5,.arr .str false),(0,.cells [.mp 1,.mp 2,.mp 3,.mp 4] false),(1,.map .str false tG true),(2,.map .str false (.list .str) false),(3,.map .str false .bool false),(4,.map .str false .bool false)] [.slot 0] []
noncomputable def YG:Cx:=(aL [] [Yj,IW])
theorem KH:YG.Ok prog:=ax trivial ⟨⟨IP,rfl⟩,⟨GO,rfl⟩,trivial⟩
noncomputable def OL:D prog 14 none 5:=dO [] (kd prog f104) 0
noncomputable def FH104 (v1:ByteArray) (m1:cH) (m2:cM) (m3:aT) (m4:aT):bQ (Nat×Nat×List ByteArray×cH×cM×aT×aT×Unit) :=
 .bd (FH98 (ay .str [] m2 v1)) fun y0 =>
 .bd (FH97_v1 y0.1 y0.2.1 m1 m2 m3 m4) fun y1 =>
 .ret (y1.1,y1.2.1,y1.2.2.1,y1.2.2.2.1,y1.2.2.2.2.1,y1.2.2.2.2.2.1,y1.2.2.2.2.2.2.1,())
theorem OM:cL prog f104=some ⟨14,2,OL.er,[.t 4],[some (.list .str)]⟩:=by kernel_rfl
noncomputable def VS:Ht:=⟨104,acL,acM,(fun x=>ak (FH104 x.1 x.2.1 x.2.2.1 x.2.2.2.1 x.2.2.2.2.1))⟩
theorem ON:VS.Ok prog:=bP mixed KH rfl func104 OM (enters_of func104 rfl rfl) OL (by kernel_rfl) rfl rfl ⟨_,rfl⟩ rfl (pre:=[0,1,2,3,4]) rfl (fun x=>by kernel_rfl)

/- 76, lent -/
@[reducible] def kB:az:=az.mk [(0,.c (.ptr 0 0)),(1,.c (.hole .str))] [(0,.cells [.mp 1,.mp 2,.mp 3,.mp 4] false),(1,.map .str false tG true),(2,.map .str false (.list .str) false),(3,.map .str false .bool false),(4,.map .str false .bool false)] [.slot 0,.cell 0 0,.cell 0 1,.cell 0 2,.cell 0 3] []
@[reducible] def kC:az:=az.mk [(0,.c (.b7 5 .str))] [(5,.arr .str false),(0,.cells [.mp 1,.mp 2,.mp 3,.mp 4] false),(1,.map .str false tG true),(2,.map .str false (.list .str) false),(3,.map .str false .bool false),(4,.map .str false .bool false)] [.slot 0] []
noncomputable def OO (rec:kB.T→Option kC.T):Cx:=(aL [] [VS,⟨76,kB,kC,rec⟩,AF])
theorem Ey (rec:kB.T→Option kC.T) (h:Ht.Ok prog ⟨76,kB,kC,rec⟩):(OO rec).Ok prog:=ax trivial ⟨⟨ON,rfl⟩,⟨h,rfl⟩,⟨xW,rfl⟩,trivial⟩
@[reducible] def GP:az:=az.mk [(0,.c (.ptr 0 0)),(6,.c (.b7 5 .str)),(17,.c (.Qi 6 .str)),(18,hI),(19,hI)] [(0,.cells [.mp 1,.mp 2,.mp 3,.mp 4] false),(5,.arr .str false),(6,.arr .str false),(1,.map .str false tG true),(2,.map .str false (.list .str) false),(3,.map .str false .bool false),(4,.map .str false .bool false)] [.slot 6,.slot 17] []
@[reducible] def GQ:aW:=[(.exit 0,az.mk [(6,.c (.b7 5 .str))] [(5,.arr .str false),(0,.cells [.mp 1,.mp 2,.mp 3,.mp 4] false),(1,.map .str false tG true),(2,.map .str false (.list .str) false),(3,.map .str false .bool false),(4,.map .str false .bool false)] [.slot 6] [])]
noncomputable def OP (rec:kB.T→Option kC.T) (h:Ht.Ok prog ⟨76,kB,kC,rec⟩):D prog 32 none 5:=dO [] (pick (kd prog f76) [(0,false)]) 0
noncomputable def gH76_0:Nat×Nat×Nat×Int×Int×List ByteArray×List ByteArray×cH×cM×aT×aT×Unit→Tr kB.T kC.T ((Nat×Nat×Nat×Int×Int×List ByteArray×List ByteArray×cH×cM×aT×aT×Unit) ⊕ ((Nat×List ByteArray×cH×cM×aT×aT×Unit))):=fun (zw,YH,nv17,v18,SQ,b5,b6,m1,m2,m3,m4,_) =>
 .br (decide (SQ<v18)) (
 .nb SQ ((nv17:Nat):Int) <|
 .nd (decide ((YH+(Int.toNat SQ))<(b6).length)) <|
 .bd (.rc (((b6).getD (YH+(Int.toNat SQ)) (bs [])),m1,m2,m3,m4,())) fun y1 =>
 .nd (decide ((zw+((((y1.2.1).drop (0:Nat)).take y1.1)).length)<cg)) <|
 .ni (SQ+(1:Int)) <|
 .ret (.inl ((zw+((((y1.2.1).drop (0:Nat)).take y1.1)).length),YH,nv17,v18,(SQ+(1:Int)),((((b5).drop (0:Nat)).take zw)++(((y1.2.1).drop (0:Nat)).take y1.1)),b6,y1.2.2.1,y1.2.2.2.1,y1.2.2.2.2.1,y1.2.2.2.2.2.1,()))) (
 .ret (.inr (zw,b5,m1,m2,m3,m4,())))
theorem YI (rec:kB.T→Option kC.T) (h:Ht.Ok prog ⟨76,kB,kC,rec⟩):∀x,BQ (jf (GP.T ⊕ GQ.T)) (OO rec) ek [0,1,2,3,4] GP GQ (OP rec h) (fun y=>some (.inl y)) (fun b=>some (.inr b)) x=run rec (gH76_0 x):=fun x=>by kernel_rfl
noncomputable def YJ (rec:kB.T→Option kC.T) (h:Ht.Ok prog ⟨76,kB,kC,rec⟩):bS prog 32 none 5:=bE mixed (OO rec) (Ey rec h) [0,1,2,3,4] rfl GP GQ rfl (OP rec h) (fun x=>run rec (gH76_0 x)) (YI rec h)
noncomputable def VT (rec:kB.T→Option kC.T) (h:Ht.Ok prog ⟨76,kB,kC,rec⟩):D prog 32 none 5:=dO [.l (YJ rec h)] (kd prog f76) 0
noncomputable def FH76 (v1:ByteArray) (m1:cH) (m2:cM) (m3:aT) (m4:aT):Tr kB.T kC.T (Nat×List ByteArray×cH×cM×aT×aT×Unit) :=
 .bd (.up (FH104 v1 m1 m2 m3 m4)) fun y0 =>
 .br (((y0.2.1:Nat):Int)==(0:Int)) (
 .ret ((1:Nat),(v1::[]),y0.2.2.2.1,y0.2.2.2.2.1,y0.2.2.2.2.2.1,y0.2.2.2.2.2.2.1,())) (
 .bd (.it gH76_0 ((0:Nat),y0.1,y0.2.1,((y0.2.1:Nat):Int),(0:Int),[],y0.2.2.1,y0.2.2.2.1,y0.2.2.2.2.1,y0.2.2.2.2.2.1,y0.2.2.2.2.2.2.1,())) fun z2 =>
 .bd (.up (FH105 z2.1 z2.2.1)) fun y3 =>
 .ret (z2.1,y3.1,z2.2.2.1,z2.2.2.2.1,z2.2.2.2.2.1,z2.2.2.2.2.2.1,()))
theorem SR (rec:kB.T→Option kC.T) (h:Ht.Ok prog ⟨76,kB,kC,rec⟩):cL prog f76=some ⟨32,2,(VT rec h).er,[.t 4],[some (.list .str)]⟩:=by kernel_rfl
theorem KJ (rec:kB.T→Option kC.T) (h:Ht.Ok prog ⟨76,kB,kC,rec⟩):Ht.Ok prog ⟨76,kB,kC,(fun x=>run rec (FH76 x.1 x.2.1 x.2.2.1 x.2.2.2.1 x.2.2.2.2.1))⟩:=bP mixed (Ey rec h) rfl func76 (SR rec h) (enters_of func76 rfl rfl) (VT rec h) (by kernel_rfl) rfl rfl ⟨_,rfl⟩ rfl (pre:=[0,1,2,3,4]) rfl (fun x=>by kernel_rfl)
noncomputable def FH76fix (v1:ByteArray) (m1:cH) (m2:cM) (m3:aT) (m4:aT):bQ (Nat×List ByteArray×cH×cM×aT×aT×Unit):=.fx (A1:=kB.T) (B1:=kC.T) (fun x=>FH76 x.1 x.2.1 x.2.2.1 x.2.2.2.1 x.2.2.2.2.1) (v1,m1,m2,m3,m4,())
noncomputable def GR:Ht:=⟨76,kB,kC,fun x=>ak (FH76fix x.1 x.2.1 x.2.2.1 x.2.2.2.1 x.2.2.2.2.1)⟩
theorem sq:GR.Ok prog:=Nv (F:=fun rec x=>run rec (FH76 x.1 x.2.1 x.2.2.1 x.2.2.2.1 x.2.2.2.2.1)) (fun rec h=>KJ rec h)

/- 74, lent -/
@[reducible] def pH74:az:=az.mk [(0,.c (.ptr 0 0)),(1,.c (.hole .str))] [(0,.cells [.mp 1,.mp 2,.mp 3,.mp 4] false),(1,.map .str false tG true),(2,.map .str false (.list .str) false),(3,.map .str false .bool false),(4,.map .str false .bool false)] [.slot 0,.cell 0 0,.cell 0 1,.cell 0 2,.cell 0 3] []
@[reducible] def qH74:az:=az.mk [(0,.cG [.b7 5 .str,.hole .bool])] [(5,.arr .str false),(0,.cells [.mp 1,.mp 2,.mp 3,.mp 4] false),(1,.map .str false tG true),(2,.map .str false (.list .str) false),(3,.map .str false .bool false),(4,.map .str false .bool false)] [.part 0 0] []
noncomputable def VU:Cx:=(aL [] [GR])
theorem Ez:VU.Ok prog:=ax trivial ⟨⟨sq,rfl⟩,trivial⟩
@[reducible] def YK:az:=az.mk [(0,.c (.ptr 0 0)),(1,.c (.hole .str)),(11,.c (.mp 1))] [(0,.cells [.mp 1,.mp 2,.mp 3,.mp 4] false),(1,.map .str false tG true),(2,.map .str false (.list .str) false),(3,.map .str false .bool false),(4,.map .str false .bool false)] [] []
@[reducible] def YL:aW:=[(.ret,az.mk [(4,.c (.b7 5 .str)),(5,.c (.hole .bool))] [(5,.arr .str false),(0,.cells [.mp 1,.mp 2,.mp 3,.mp 4] false),(1,.map .str false tG true),(2,.map .str false (.list .str) false),(3,.map .str false .bool false),(4,.map .str false .bool false)] [.slot 4] [])]
noncomputable def YM:D prog 50 none 6:=dO [] (pick (kd prog f74) [(0,false)]) 0
noncomputable def gH74_0:((ByteArray)×(GG))→ByteArray×cH×cM×aT×aT×Unit→bQ ((ByteArray×cH×cM×aT×aT×Unit) ⊕ ((Nat×Bool×List ByteArray×cH×cM×aT×aT×Unit))):=fun e (v1,m1,m2,m3,m4,_) =>
 .br (!(aM .str m1 v1)) (
 .ret (.inr ((0:Nat),false,[],m1,m2,m3,m4,()))) (
 .br ((ay .str ((bs []),(0:Int),(bs []),(bs []),(0:Int)) m1 v1).2.1==(3:Int)) (
 .ret (.inr ((0:Nat),false,[],m1,m2,m3,m4,()))) (
 .br (ay .str false m4 v1) (
 .ret (.inr ((0:Nat),false,[],m1,m2,m3,m4,()))) (
 .br ((ay .str ((bs []),(0:Int),(bs []),(bs []),(0:Int)) m1 v1).2.1==(1:Int)) (
 .bd (FH76fix v1 m1 m2 m3 m4) fun y0 =>
 .ret (.inr (y0.1,true,y0.2.1,y0.2.2.1,y0.2.2.2.1,y0.2.2.2.2.1,y0.2.2.2.2.2.1,()))) (
 .nd (jB m1 m1) <|
 .ret (.inl ((ay .str ((bs []),(0:Int),(bs []),(bs []),(0:Int)) m1 v1).2.2.1,m1,m2,m3,m4,()))))))
noncomputable def YN:rG prog 50 none 5:=Xz mixed VU Ez [0,1,2,3,4] rfl YK YL rfl ( [.op (some 8) none (.mv (.t 0)),.op (some 9) none (.ex gw.iN [.t 8]),.op (some 10) none (.mG 0 [false] (.t 9)),.op (some 11) none (.load false 1 (.t 10))]) 11 12 [13,14] (none) ( .str)  false ( .prod .str (.prod tI (.prod .str (.prod .str tI))))  true 0 rfl 6 rfl (YM) (fun e x=>ak (gH74_0 e x)) (fun e=>fun x=>by kernel_rfl)
noncomputable def VV:D prog 50 none 5:=dO [.m YN] (kd prog f74) 0
noncomputable def FH74 (v1:ByteArray) (m1:cH) (m2:cM) (m3:aT) (m4:aT):bQ (Nat×Bool×List ByteArray×cH×cM×aT×aT×Unit) :=
 .bd (.mp gH74_0 m1 (v1,m1,m2,m3,m4,())) fun z1 =>
 .sm z1 (fun z2 =>
 .ret ((0:Nat),false,[],z2.2.1,z2.2.2.1,z2.2.2.2.1,z2.2.2.2.2.1,())) fun z3 =>
 .ret (z3.1,z3.2.1,z3.2.2.1,z3.2.2.2.1,z3.2.2.2.2.1,z3.2.2.2.2.2.1,z3.2.2.2.2.2.2.1,())
theorem SS:cL prog f74=some ⟨50,2,VV.er,[.t 4,.t 5],[some (.list .str),some .bool]⟩:=by kernel_rfl
noncomputable def YO:Ht:=⟨74,pH74,qH74,(fun x=>ak (FH74 x.1 x.2.1 x.2.2.1 x.2.2.2.1 x.2.2.2.2.1))⟩
theorem SU:YO.Ok prog:=bP mixed Ez rfl func74 SS (enters_of func74 rfl rfl) VV (by kernel_rfl) rfl rfl ⟨_,rfl⟩ rfl (pre:=[0,1,2,3,4]) rfl (fun x=>by kernel_rfl)

/- 103 -/
noncomputable def VW:Cx:=(aL [] [])
theorem EA:VW.Ok prog:=ax trivial trivial
@[reducible] def YP:az:=az.mk [(0,.c (.hole (.list .str))),(1,.c (.hole .str)),(7,hI),(8,hI)] [] [] []
@[reducible] def YQ:aW:=[(.ret,az.mk [(4,hI)] [] [] []),(.exit 0,az.mk [] [] [] [])]
noncomputable def YR:D prog 19 none 0:=dO [] (pick (kd prog f103) [(0,false)]) 0
noncomputable def g103_0:List ByteArray×ByteArray×Int×Int×Unit→bQ ((List ByteArray×ByteArray×Int×Int×Unit) ⊕ ((Int×Unit) ⊕ ((Unit)))):=fun (v0,v1,v7,v8,_) =>
 .br (decide (v8<v7)) (
 .nb v8 (((v0).length:Nat):Int) <|
 .br (seq v1 ((v0).getD (Int.toNat v8) (bs []))) (
 .ret (.inr <| .inl<|(v8,()))) (
 .ni (v8+(1:Int)) <|
 .ret (.inl (v0,v1,v7,(v8+(1:Int)),())))) (
 .ret (.inr <| .inr<|()))
noncomputable def YS:bS prog 19 none 0:=bE mixed VW EA [] rfl YP YQ rfl (YR) (fun x=>ak (g103_0 x)) (fun x=>by kernel_rfl)
noncomputable def VX:D prog 19 none 0:=dO [.l YS] (kd prog f103) 0
noncomputable def F103 (a0:List ByteArray) (a1:ByteArray):bQ (Int×Unit) :=
 .bd (.it g103_0 (a0,a1,(((a0).length:Nat):Int),(0:Int),())) fun z0 =>
 .sm z0 (fun z1 =>
 .ret (z1.1,())) fun z2 =>
 .ret ((-1:Int),())
theorem SV:cL prog f103=some ⟨19,2,VX.er,[.t 4],[some tI]⟩:=by kernel_rfl
noncomputable def VY:Ct:=⟨103,[.c (.hole (.list .str)),.c (.hole .str)],hI,fun x=>ak (F103 x.1 x.2.1)⟩
theorem OQ:VY.Ok prog:=cK mixed EA func103 SV (enters_of func103 rfl rfl) VX (by kernel_rfl) rfl (fun x=>by kernel_rfl)

/- 75 -/
noncomputable def cx75:Cx:=(aL [VY] [])
theorem SX:cx75.Ok prog:=ax ⟨OQ,trivial⟩ trivial
noncomputable def dd75:D prog 9 none 0:=dO [] (kd prog f75) 0
noncomputable def F75 (a0:List ByteArray) (a1:ByteArray):bQ (Bool×Unit) :=
 .bd (F103 a0 a1) fun y0 =>
 .ret ((decide ((0:Int)≤y0.1)),())
theorem YT:cL prog f75=some ⟨9,2,dd75.er,[.t 4],[some .bool]⟩:=by kernel_rfl
noncomputable def YU:Ct:=⟨75,[.c (.hole (.list .str)),.c (.hole .str)],.c (.hole .bool),fun x=>ak (F75 x.1 x.2.1)⟩
theorem SY:YU.Ok prog:=cK mixed SX func75 YT (enters_of func75 rfl rfl) dd75 (by kernel_rfl) rfl (fun x=>by kernel_rfl)

/- 32, lent -/
@[reducible] def pH32:az:=az.mk [(0,.c (.ptr 0 0)),(1,.c (.hole .str))] [(0,.cells [.mp 1] false),(1,.map tG true .bool false)] [.slot 0,.cell 0 0] []
@[reducible] def qH32:az:=az.mk [(0,.cG [.hole tI,.hole tI])] [(0,.cells [.mp 1] false),(1,.map tG true .bool false)] [] []
noncomputable def IX:Cx:=(aL [YU] [zu,Ep,YO])
theorem GS:IX.Ok prog:=ax (vr:=[YU]) (hts:=[zu,Ep,YO]) ⟨SY,trivial⟩ ⟨⟨nj,rfl⟩,⟨sk,rfl⟩,⟨SU,rfl⟩,trivial⟩
@[reducible] noncomputable def SZ:Go.AM.Fn:=⟨29,2,(dO [] (kd prog f73) 0:D prog 29 none 0).er,[.t 4,.cell 5 true 5,.t 6],[none,some tG,some tI]⟩
noncomputable def IY:Cx:=D6 prog IX 73 SZ (fun _=>dO [] (kd prog f73) 0)
theorem GU:IY.Ok prog:=pF mixed GS func73 (by kernel_rfl) (enters_of func73 rfl rfl) (fun _=>by kernel_rfl)
noncomputable def acP:Cx:=IY
theorem OR:acP.Ok prog:=GU
noncomputable def VZ:D prog 51 none 2:=dO [] (kd prog f32) 0
noncomputable def FH32 (v1:ByteArray) (m1:List ((GG)×Bool)):bQ (Int×Int×(List ((GG)×Bool))×Unit) :=
 .bd (FH54 m1) fun y0 =>
 .br y0.1 (
 .br (!((9:Int)==(0:Int))) (
 .ret ((0:Int),(9:Int),y0.2.1,())) (
 .br ((0:Int)==(3:Int)) (
 .ret ((0:Int),(18:Int),y0.2.1,())) (
 .no))) (
 .bd (FH66 y0.2.1) fun y1 =>
 .br (!(aM .str y1.2.1 v1)) (
 .br (!((5:Int)==(0:Int))) (
 .ret ((0:Int),(5:Int),y1.1,())) (
 .br ((0:Int)==(3:Int)) (
 .ret ((0:Int),(18:Int),y1.1,())) (
 .no))) (
 .br (!((0:Int)==(0:Int))) (
 .ret ((0:Int),(0:Int),y1.1,())) (
 .br ((ay .str ((bs []),(0:Int),(bs []),(bs []),(0:Int)) y1.2.1 v1).2.1==(3:Int)) (
 .ret ((0:Int),(18:Int),y1.1,())) (
 .br (ay .str false y1.2.2.2.2.1 v1) (
 .ret ((2:Int),(0:Int),y1.1,())) (
 .bd (FH74 v1 y1.2.1 y1.2.2.1 y1.2.2.2.1 y1.2.2.2.2.1) fun y2 =>
 .br (!y2.2.1) (
 .ret ((1:Int),(0:Int),y1.1,())) (
 .bd (F75 (((y2.2.2.1).drop (0:Nat)).take y2.1) v1) fun y3 =>
 .br (!y3.1) (
 .ret ((3:Int),(0:Int),y1.1,())) (
 .br (decide ((1:Int)<((y2.1:Nat):Int))) (
 .ret ((5:Int),(0:Int),y1.1,())) (
 .ret ((4:Int),(0:Int),y1.1,())))))))))
theorem S2:cL prog f32=some ⟨51,2,VZ.er,[.t 4,.t 5],[some tI,some tI]⟩:=by kernel_rfl
noncomputable def ht32:Ht:=⟨32,pH32,qH32,(fun x=>ak (FH32 x.1 x.2.1))⟩
theorem S4:ht32.Ok prog:=bP mixed OR rfl func32 S2 (enters_of func32 rfl rfl) VZ (by kernel_rfl) rfl rfl ⟨_,rfl⟩ rfl (pre:=[0,1]) rfl (fun x=>by kernel_rfl)

/- 104, lent -/
@[reducible] def OS:az:=az.mk [(0,.c .ez),(1,.c (.hole .str))] [] [] []
@[reducible] def OT:az:=az.mk [(0,.c .any)] [] [] []
noncomputable def KK:Cx:=(aL [] [])
theorem Ca:KK.Ok prog:=ax trivial trivial
noncomputable def AK:D prog 14 none 0:=dO [] (kd prog f104) 0
noncomputable def FH104_v1 (v1:ByteArray):bQ (Unit) :=
 .no
theorem EB:cL prog f104=some ⟨14,2,AK.er,[.t 4],[some (.list .str)]⟩:=by kernel_rfl
noncomputable def EC:Ht:=⟨104,OS,OT,(fun x=>ak (FH104_v1 x.1))⟩
theorem ED:EC.Ok prog:=bP mixed Ca rfl func104 EB (enters_of func104 rfl rfl) AK (by kernel_rfl) rfl rfl ⟨_,rfl⟩ rfl (pre:=[]) rfl (fun x=>by kernel_rfl)

/- 76, lent -/
@[reducible] def S5:az:=az.mk [(0,.c .ez),(1,.c (.hole .str))] [] [] []
@[reducible] def S6:az:=az.mk [(0,.c .any)] [] [] []
noncomputable def OU:Cx:=(aL [] [EC])
theorem EF:OU.Ok prog:=ax trivial ⟨⟨ED,rfl⟩,trivial⟩
noncomputable def EG:D prog 32 none 0:=dO [.x] (kd prog f76) 0
noncomputable def FH76_v1 (v1:ByteArray):bQ (Unit) :=
 .bd (FH104_v1 v1) fun y0 =>
 .no
theorem GV:cL prog f76=some ⟨32,2,EG.er,[.t 4],[some (.list .str)]⟩:=by kernel_rfl
noncomputable def Cb:Ht:=⟨76,S5,S6,(fun x=>ak (FH76_v1 x.1))⟩
theorem GW:Cb.Ok prog:=bP mixed EF rfl func76 GV (enters_of func76 rfl rfl) EG (by kernel_rfl) rfl rfl ⟨_,rfl⟩ rfl (pre:=[]) rfl (fun x=>by kernel_rfl)

/- 33, lent -/
@[reducible] def pH33:az:=az.mk [(0,.c (.ptr 0 0)),(1,.c (.hole .str))] [(0,.cells [.mp 1] false),(1,.map tG true .bool false)] [.slot 0,.cell 0 0] []
@[reducible] def qH33:az:=az.mk [(0,.cG [.b7 2 .str,.hole tI])] [(2,.arr .str false),(0,.cells [.mp 1] false),(1,.map tG true .bool false)] [.part 0 0] []
noncomputable def IZ:Cx:=(aL [] [zu,Cb,Ep,GR])
theorem GX:IZ.Ok prog:=ax (vr:=[]) (hts:=[zu,Cb,Ep,GR]) trivial ⟨⟨nj,rfl⟩,⟨GW,rfl⟩,⟨sk,rfl⟩,⟨sq,rfl⟩,trivial⟩
@[reducible] noncomputable def S7:Go.AM.Fn:=⟨29,2,(dO [] (kd prog f73) 0:D prog 29 none 0).er,[.t 4,.cell 5 true 5,.t 6],[none,some tG,some tI]⟩
noncomputable def I1:Cx:=D6 prog IZ 73 S7 (fun _=>dO [] (kd prog f73) 0)
theorem GY:I1.Ok prog:=pF mixed GX func73 (by kernel_rfl) (enters_of func73 rfl rfl) (fun _=>by kernel_rfl)
noncomputable def acR:Cx:=I1
theorem OV:acR.Ok prog:=GY
noncomputable def V0:D prog 27 none 2:=dO [] (kd prog f33) 0
noncomputable def FH33 (v1:ByteArray) (m1:List ((GG)×Bool)):bQ (Nat×Int×List ByteArray×(List ((GG)×Bool))×Unit) :=
 .bd (FH54 m1) fun y0 =>
 .br y0.1 (
 .br (!((9:Int)==(0:Int))) (
 .ret ((0:Nat),(9:Int),[],y0.2.1,())) (
 .br (!((0:Int)==(1:Int))) (
 .ret ((0:Nat),(18:Int),[],y0.2.1,())) (
 .bd (FH76_v1 v1) fun y1 =>
 .no))) (
 .bd (FH66 y0.2.1) fun y2 =>
 .br (!(aM .str y2.2.1 v1)) (
 .br (!((5:Int)==(0:Int))) (
 .ret ((0:Nat),(5:Int),[],y2.1,())) (
 .br (!((0:Int)==(1:Int))) (
 .ret ((0:Nat),(18:Int),[],y2.1,())) (
 .bd (FH76_v1 v1) fun y3 =>
 .no))) (
 .br (!((0:Int)==(0:Int))) (
 .ret ((0:Nat),(0:Int),[],y2.1,())) (
 .br (!((ay .str ((bs []),(0:Int),(bs []),(bs []),(0:Int)) y2.2.1 v1).2.1==(1:Int))) (
 .ret ((0:Nat),(18:Int),[],y2.1,())) (
 .bd (FH76fix v1 y2.2.1 y2.2.2.1 y2.2.2.2.1 y2.2.2.2.2.1) fun y4 =>
 .ret (y4.1,(0:Int),y4.2.1,y2.1,())))))
theorem S8:cL prog f33=some ⟨27,2,V0.er,[.t 4,.t 5],[some (.list .str),some tI]⟩:=by kernel_rfl
noncomputable def ht33:Ht:=⟨33,pH33,qH33,(fun x=>ak (FH33 x.1 x.2.1))⟩
theorem S9:ht33.Ok prog:=bP mixed OV rfl func33 S8 (enters_of func33 rfl rfl) V0 (by kernel_rfl) rfl rfl ⟨_,rfl⟩ rfl (pre:=[0,1]) rfl (fun x=>by kernel_rfl)

/- 40, lent -/
@[reducible] def pH40:az:=az.mk [(0,.c (.ptr 0 0)),(1,.c (.hole .str)),(2,hI)] [(0,.cells [.mp 1] false),(1,.map tG true .bool false)] [.slot 0,.cell 0 0] []
@[reducible] def qH40:az:=az.mk [(0,.c (.hole .bool))] [(0,.cells [.mp 1] false),(1,.map tG true .bool false)] [] []
noncomputable def acT:Cx:=(aL [] [ht32])
theorem OW:acT.Ok prog:=ax trivial ⟨⟨S4,rfl⟩,trivial⟩
noncomputable def V1:D prog 22 none 2:=dO [] (kd prog f40) 0
noncomputable def FH40 (v1:ByteArray) (v2:Int) (m1:List ((GG)×Bool)):bQ (Bool×(List ((GG)×Bool))×Unit) :=
 .bd (FH32 v1 m1) fun y0 =>
 .br (y0.2.1==(0:Int)) (
 .ret ((y0.1==v2),y0.2.2.1,())) (
 .ret (false,y0.2.2.1,()))
theorem Ta:cL prog f40=some ⟨22,3,V1.er,[.t 6],[some .bool]⟩:=by kernel_rfl
noncomputable def ht40:Ht:=⟨40,pH40,qH40,(fun x=>ak (FH40 x.1 x.2.1 x.2.2.1))⟩
theorem Tb:ht40.Ok prog:=bP mixed OW rfl func40 Ta (enters_of func40 rfl rfl) V1 (by kernel_rfl) rfl rfl ⟨_,rfl⟩ rfl (pre:=[0,1]) rfl (fun x=>by kernel_rfl)

/- 100, lent -/
@[reducible] def acV:az:=az.mk [(0,.c (.mp 0)),(1,hI)] [(0,.map tI false .unit true)] [.slot 0] []
@[reducible] def acW:az:=az.mk [(0,.c .any)] [(0,.map tI false .unit true)] [] []
noncomputable def YV:Cx:=(aL [] [])
theorem KL:YV.Ok prog:=ax trivial trivial
noncomputable def OX:D prog 7 none 1:=dO [] (kd prog f100) 0
noncomputable def FH100 (v1:Int) (m0:List (Int×Unit)):bQ ((List (Int×Unit))×Unit) :=
 .ret ((aZ (.int .i64) m0 v1 ()),())
theorem OY:cL prog f100=some ⟨7,2,OX.er,[],[]⟩:=by kernel_rfl
noncomputable def OZ:Ht:=⟨100,acV,acW,(fun x=>ak (FH100 x.1 x.2.1))⟩
theorem EH:OZ.Ok prog:=bP mixed KL rfl func100 OY (enters_of func100 rfl rfl) OX (by kernel_rfl) rfl rfl ⟨_,rfl⟩ rfl (pre:=[0]) rfl (fun x=>by kernel_rfl)

/- 79, lent -/
@[reducible] def pH79:az:=az.mk [(0,.c (.ptr 0 0))] [(0,.cells [.mp 1,.mp 2,.mp 3,.mp 4] false),(1,.map .str false tG true),(2,.map .str false (.list .str) false),(3,.map .str false .bool false),(4,.map .str false .bool false)] [.slot 0,.cell 0 0,.cell 0 1,.cell 0 2,.cell 0 3] []
@[reducible] def qH79:az:=az.mk [(0,.fn 106 [] [.ptr 5 0])] [(5,.cells [.ptr 0 0] false),(0,.cells [.mp 1,.mp 2,.mp 3,.mp 4] false),(1,.map .str false tG true),(2,.map .str false (.list .str) false),(3,.map .str false .bool false),(4,.map .str false .bool false)] [.part 0 0] []
noncomputable def acX:Cx:=(aL [] [])
theorem O0:acX.Ok prog:=ax trivial trivial
noncomputable def V2:D prog 4 none 5:=dO [] (kd prog f79) 0
noncomputable def FH79 (m1:cH) (m2:cM) (m3:aT) (m4:aT):bQ (cH×cM×aT×aT×Unit) :=
 .ret (m1,m2,m3,m4,())
theorem Tc:cL prog f79=some ⟨4,1,V2.er,[.t 2],[none]⟩:=by kernel_rfl
noncomputable def Td:Ht:=⟨79,pH79,qH79,(fun x=>ak (FH79 x.1 x.2.1 x.2.2.1 x.2.2.2.1))⟩
theorem Cc:Td.Ok prog:=bP mixed O0 rfl func79 Tc (enters_of func79 rfl rfl) V2 (by kernel_rfl) rfl rfl ⟨_,rfl⟩ rfl (pre:=[0,1,2,3,4]) rfl (fun x=>by kernel_rfl)

/- 68 -/
noncomputable def cx68:Cx:=(aL [] [])
theorem Te:cx68.Ok prog:=ax trivial trivial
noncomputable def dd68:D prog 10 none 0:=dO [] (kd prog f68) 0
noncomputable def F68 (a0:GG) (a1:ByteArray):bQ (Int×Unit) :=
 .br (!(seq a0.2.2.2.1 a1)) (
 .ret ((0:Int),())) (
 .ret (a0.2.2.2.2,()))
theorem YW:cL prog f68=some ⟨10,2,dd68.er,[.t 3],[some tI]⟩:=by kernel_rfl
noncomputable def ct68:Ct:=⟨68,[.c (.hole tG),.c (.fc .str)],hI,fun x=>ak (F68 x.1 x.2.1)⟩
theorem Tf:ct68.Ok prog:=cK mixed Te func68 YW (enters_of func68 rfl rfl) dd68 (by kernel_rfl) rfl (fun x=>by kernel_rfl)

/- 120, lent -/
@[reducible] def ac0:az:=az.mk [(0,.c (.mp 0))] [(0,.map tI false .unit true)] [.slot 0] []
@[reducible] def ac1:az:=az.mk [(0,.fn 132 [] [.ptr 1 0])] [(1,.cells [.mp 0] false),(0,.map tI false .unit true)] [.part 0 0] []
noncomputable def YX:Cx:=(aL [] [])
theorem KM:YX.Ok prog:=ax trivial trivial
noncomputable def O1:D prog 4 none 1:=dO [] (kd prog f120) 0
noncomputable def FH120 (m0:List (Int×Unit)):bQ ((List (Int×Unit))×Unit) :=
 .ret (m0,())
theorem O2:cL prog f120=some ⟨4,1,O1.er,[.t 2],[none]⟩:=by kernel_rfl
noncomputable def V3:Ht:=⟨120,ac0,ac1,(fun x=>ak (FH120 x.1))⟩
theorem O3:V3.Ok prog:=bP mixed KM rfl func120 O2 (enters_of func120 rfl rfl) O1 (by kernel_rfl) rfl rfl ⟨_,rfl⟩ rfl (pre:=[0]) rfl (fun x=>by kernel_rfl)

/- 101, lent -/
@[reducible] def ac2:az:=az.mk [(0,.c (.mp 0))] [(0,.map tI false .unit true)] [.slot 0] []
@[reducible] def ac3:az:=az.mk [(0,.fn 132 [] [.ptr 1 0])] [(1,.cells [.mp 0] false),(0,.map tI false .unit true)] [.part 0 0] []
noncomputable def YY:Cx:=(aL [] [V3])
theorem KN:YY.Ok prog:=ax trivial ⟨⟨O3,rfl⟩,trivial⟩
noncomputable def O4:D prog 5 none 1:=dO [] (kd prog f101) 0
noncomputable def FH101 (m0:List (Int×Unit)):bQ ((List (Int×Unit))×Unit) :=
 .bd (FH120 m0) fun y0 =>
 .ret (y0.1,())
theorem O5:cL prog f101=some ⟨5,1,O4.er,[.t 2],[none]⟩:=by kernel_rfl
noncomputable def O6:Ht:=⟨101,ac2,ac3,(fun x=>ak (FH101 x.1))⟩
theorem EI:O6.Ok prog:=bP mixed KN rfl func101 O5 (enters_of func101 rfl rfl) O4 (by kernel_rfl) rfl rfl ⟨_,rfl⟩ rfl (pre:=[0]) rfl (fun x=>by kernel_rfl)

/- 122, by hand -/
@[reducible] def ac4:az:=az.mk [(0,.c (.b7 0 tI))] [(0,.arr tI false)] [.slot 0] []
@[reducible] def ac5:az:=az.mk [(0,.c .any)] [(0,.arr tI false)] [] []
noncomputable def FH122 (mb:Nat) (b0:List Int):bQ (List Int×Unit) :=
 .of (uR (.int .i64) b0 mb)
noncomputable def O7:Ht:=⟨122,ac4,ac5,(fun x=>ak (FH122 x.1 x.2.1))⟩
theorem O8:O7.Ok prog:=fun x y h=>NB (ρ:=xQ) XP (enters_of func122 rfl rfl) (xs:=x.2.1) (n:=x.1) (y:=y) h

/- 102, lent -/
@[reducible] def ac6:az:=az.mk [(0,.fn 132 [] [.ptr 0 0])] [(0,.cells [.mp 1] false),(1,.map tI false .unit true)] [.part 0 0,.cell 0 0] []
@[reducible] def ac7:az:=az.mk [(0,.c (.b7 2 tI))] [(2,.arr tI false),(0,.cells [.mp 1] false),(1,.map tI false .unit true)] [.slot 0] []
noncomputable def sr:Cx:=(aL [] [O7])
theorem oI:sr.Ok prog:=ax (vr:=[]) (hts:=[O7]) trivial ⟨⟨O8,rfl⟩,trivial⟩
noncomputable def mc:D prog 13 (some 4) 7:=dO [] (pick (kd prog f133) [(0,false)]) 0
noncomputable def me:D prog 13 (some 4) 7:=dO [] (pick (kd prog f133) [(0,true)]) 0
noncomputable def gR:Cx:=zo sr (fun kz=>Nn kz sr ek 4 7 [7] (mc) (me))
theorem iZ:(gR).Ok prog:=jJ oI (fun h=>mY mixed oI h)
@[reducible] def qD:az:=az.mk [(0,.c (.yl 4)),(4,.c (.mp 1))] [(4,.loop .ready none 3 [(2,.c (.ptr 2 0)),(4,.c .bW),(6,.fn 132 [] [.ptr 0 0])] [7] (.aS [.op (some 5) none (.mv (.t 7))]) (.block 1 (.aS [.op (some 8) none (.load false 1 (.t 2)),.op (some 9) none (.mv (.t 5)),.op (some 10) none (.dR tI [.t 9]),.op (some 11) none (.append 1 (.t 8) (.t 10)),.op none none (.store 1 (.t 2) (.t 11))])) 13),(1,.map tI false .unit true),(3,.gX),(2,.cells [.b7 5 tI] false),(0,.cells [.mp 1] false),(5,.arr tI false)] [.cell 2 0] []
noncomputable def qE:D prog 14 none 7:=dO [] (pick (kd prog f132) [(0,false)]) 0
noncomputable def gH102f121f133_0i_0:((Int)×(Unit))→(List (Int×Unit))×Nat×List Int×Unit→bQ ((List (Int×Unit))×Nat×List Int×Unit):=fun e (m1,kr,b5,_) =>
 .nd (decide ((kr+(((((e.1::[])).drop (0:Nat)).take (1:Nat))).length)<cg)) <|
 .nd (jB m1 m1) <|
 .ret (m1,(kr+(((((e.1::[])).drop (0:Nat)).take (1:Nat))).length),((((b5).drop (0:Nat)).take kr)++((((e.1::[])).drop (0:Nat)).take (1:Nat))),())
noncomputable def qF:rG prog 14 none 5:=vz mixed gR iZ [0,1,2,3,4] rfl qD ( [.op (some 4) none (.load false 1 (.t 1))]) 4 5 [6,7] (some 8) ( .int .i64)  false ( .unit)  true 0 rfl 7 rfl (qE) (fun e x=>ak (gH102f121f133_0i_0 e x)) (fun e=>fun x=>by kernel_rfl)
@[reducible] def uV:az:=az.mk [(2,.c (.ptr 2 0)),(4,.c .bW),(6,.fn 132 [] [.ptr 0 0])] [(2,.cells [.bW] false),(0,.cells [.mp 1] false),(1,.map tI false .unit true)] [.slot 2] []
@[reducible] def uW:aW:=[(.normal,az.mk [(2,.c (.ptr 2 0))] [(2,.cells [.b7 3 tI] false),(0,.cells [.mp 1] false),(1,.map tI false .unit true),(3,.arr tI false)] [.slot 2,.cell 2 0] [])]
noncomputable def mg:D prog 14 none 5:=dO [.m qF] (kd prog f132) 0
theorem tS:cL prog f132=some ⟨14,2,(mg).er,[],[]⟩:=by kernel_rfl
noncomputable def nL:gm prog 13 none 2:=rS mixed gR iZ [0,1] rfl uV uW ( .t 6) [7] rfl (mc).er (me).er 132 func132 (tS) (enters_of func132 rfl rfl) 5 rfl (mg) rfl
@[reducible] noncomputable def O9:Go.AM.Fn:=⟨13,2,(dO [.r nL] (kd prog f133) 0:D prog 13 none 2).er,[.t 4],[some tL]⟩
noncomputable def EJ:Cx:=Az prog sr 133 O9 2 (dO [.r nL] (kd prog f133) 0)
theorem EK:EJ.Ok prog:=rR mixed oI func133 (by kernel_rfl) (enters_of func133 rfl rfl) rfl
@[reducible] noncomputable def Pa:Go.AM.Fn:=⟨5,1,(dO [] (kd prog f121) 0:D prog 5 none 0).er,[.t 2],[some tL]⟩
noncomputable def EL:Cx:=D6 prog EJ 121 Pa (fun _=>dO [] (kd prog f121) 0)
theorem EM:EL.Ok prog:=pF mixed EK func121 (by kernel_rfl) (enters_of func121 rfl rfl) (fun _=>by kernel_rfl)
noncomputable def YZ:Cx:=EL
theorem KO:YZ.Ok prog:=EM
noncomputable def Pb:D prog 9 none 2:=dO [] (kd prog f102) 0
noncomputable def FH102 (m1:List (Int×Unit)):bQ (Nat×List Int×(List (Int×Unit))×Unit) :=
 .an m1 fun l0 =>
 .bd (.fm gH102f121f133_0i_0 l0 (m1,(0:Nat),[],())) fun z1 =>
 .bd (FH122 z1.2.1 z1.2.2.1) fun y2 =>
 .ret (z1.2.1,y2.1,z1.1,())
theorem Pc:cL prog f102=some ⟨9,1,Pb.er,[.t 2],[some tL]⟩:=by kernel_rfl
noncomputable def Pd:Ht:=⟨102,ac6,ac7,(fun x=>ak (FH102 x.1))⟩
theorem EN:Pd.Ok prog:=bP mixed KO rfl func102 Pc (enters_of func102 rfl rfl) Pb (by kernel_rfl) rfl rfl ⟨_,rfl⟩ rfl (pre:=[0,1]) rfl (fun x=>by kernel_rfl)

/- 67, lent -/
@[reducible] def pH67:az:=az.mk [(0,.c (.ptr 0 0)),(1,.fn 68 [] [.ptr 1 0])] [(0,.cells [.mp 2,.mp 3,.mp 4,.mp 5] false),(1,.cells [.hole .str] false),(2,.map .str false tG true),(3,.map .str false (.list .str) false),(4,.map .str false .bool false),(5,.map .str false .bool false)] [.slot 0,.part 1 0,.cell 0 0,.cell 0 1,.cell 0 2,.cell 0 3] []
@[reducible] def qH67:az:=az.mk [(0,.c (.b7 6 tI))] [(6,.arr tI false),(0,.cells [.mp 2,.mp 3,.mp 4,.mp 5] false),(2,.map .str false tG true),(3,.map .str false (.list .str) false),(4,.map .str false .bool false),(5,.map .str false .bool false),(1,.cells [.hole .str] false)] [.slot 0] []
noncomputable def AL:Cx:=(aL [ct68] [OZ,Td,Oj,Om,GR,O6,Pd])
theorem mh:AL.Ok prog:=ax ⟨Tf,trivial⟩ ⟨⟨EH,rfl⟩,⟨Cc,rfl⟩,⟨vG,rfl⟩,⟨vI,rfl⟩,⟨sq,rfl⟩,⟨EI,rfl⟩,⟨EN,rfl⟩,trivial⟩
noncomputable def yc:D prog 48 (some 26) 29:=dO [] (pick (kd prog f67) [(0,true),(0,false),(0,false)]) 0
noncomputable def yd:D prog 48 (some 26) 29:=dO [] (pick (kd prog f67) [(0,true),(0,false),(0,true)]) 0
noncomputable def oJ:Cx:=zo AL (fun kz=>Nn kz AL ek 26 29 [37] (yc) (yd))
theorem oK:(oJ).Ok prog:=jJ mh (fun h=>mY mixed mh h)
@[reducible] def Cd:az:=az.mk [(0,.c (.yl 26)),(4,.c (.mp 24))] [(26,.loop .ready none 11 [(2,.c (.ptr 6 0)),(3,.c (.ptr 7 0)),(5,.c (.ptr 8 0)),(8,.c (.ptr 21 0)),(11,.c (.ptr 22 0)),(21,.c (.b7 20 .str)),(22,hI),(23,hI),(36,.fn 132 [] [.ptr 23 0])] [37] (.aS [.op (some 12) none (.mv (.t 37))]) (.block 5 (.aS [.op (some 38) none (.load false 1 (.t 8)),.op (some 39) none (.mv (.t 12)),.op (some 40) none (.load false 1 (.t 11)),.op (some 41) none (.bin .add (.t 39) (.t 40)),.call (some 42) none (.c (.fn 100 [] [])) [.t 38,.t 41] [none,some tI]])) 48),(24,.map tI false .unit true),(11,.gX),(6,.cells [.ptr 0 0] false),(0,.cells [.mp 2,.mp 3,.mp 4,.mp 5] false),(2,.map .str false tG true),(3,.map .str false (.list .str) false),(4,.map .str false .bool false),(5,.map .str false .bool false),(7,.cells [.fn 68 .nil (.cons (.ptr 1 0) .nil)] false),(1,.cells [.hole .str] false),(8,.cells [.mp 24] false),(21,.cells [.mp 27] false),(22,.cells [.hole tI] false),(20,.arr .str false),(23,.cells [.mp 24] false),(9,.cells [.ptr 0 0] false),(12,.loop .busy none 11 [(2,.c (.ptr 6 0)),(3,.c (.ptr 7 0)),(4,.c .bW),(5,.c (.ptr 8 0)),(17,.fn 106 [] [.ptr 9 0])] [18,19] (.aS [.op (some 7) none (.mv (.t 19))]) (.block 1 (.seq (.aS [.op (some 20) none (.ex (gw.iO tI false .unit true) []),.op (some 8) none (.alloc [.cB]),.op none none (.store 1 (.t 8) (.t 20))]) (.seq (.seq (.aS [.op (some 21) none (.mv (.t 7)),.op (some 22) none (.len (.t 21)),.op (some 23) none (.mv (.c (.int .i64 (Int.ofNat 0))))]) (.block 2 (.loop (.seq (.aS [.op (some 24) none (.bin .lss (.t 23) (.t 22))]) (.seq (.cond (.t 24) .skip (.exit 2)) (.seq (.block 3 (.seq (.aS [.op (some 25) none (.idx 1 (.t 21) (.t 23)),.op (some 26) none (.load false 1 (.t 25)),.op (some 10) none (.mv (.t 26))]) (.seq (.draw [[],[],[1],[1,2],[1,2,3],[],[1,2,3,4,5],[0,1,2,3,4,5,6],[],[0,1,2,3,4,5,6,7,8]] [.op (some 27) none (.load false 1 (.t 3)),.op (some 28) none (.load false 1 (.t 2)),.op (some 29) none (.ex gw.iN [.t 28]),.op (some 30) none (.mG 0 [false] (.t 29)),.op (some 31) none (.load false 1 (.t 30)),.op (some 32) none (.mv (.t 10)),.op (some 33) none (.ex (gw.fZ .str false tG true false) [.t 31,.t 32]),.call (some 34) none (.t 27) [.t 33] [some tG],.op (some 11) none (.alloc [.int .i64 (Int.ofNat 0)]),.op none none (.store 1 (.t 11) (.t 34))]) (.seq (.aS [.op (some 35) none (.load false 1 (.t 5)),.call (some 36) none (.c (.fn 101 [] [])) [.t 35] [none]]) (.block 4 (.bD (.t 36) [37] (.aS [.op (some 12) none (.mv (.t 37))]) (.block 5 (.aS [.op (some 38) none (.load false 1 (.t 8)),.op (some 39) none (.mv (.t 12)),.op (some 40) none (.load false 1 (.t 11)),.op (some 41) none (.bin .add (.t 39) (.t 40)),.call (some 42) none (.c (.fn 100 [] [])) [.t 38,.t 41] [none,some tI]])))))))) (.aS [.op (some 43) none (.bin .add (.t 23) (.c (.int .i64 (Int.ofNat 1)))),.op (some 23) none (.mv (.t 43))]))))))) (.aS [.op (some 44) none (.load false 1 (.t 8)),.op none none (.store 1 (.t 5) (.t 44))])))) 48),(13,.arr .str false),(27,.map tI false .unit true)] [.cell 21 0] []
noncomputable def Ce:D prog 14 none 29:=dO [] (pick (kd prog f132) [(0,false)]) 0
noncomputable def gH67_0b_2i_0:((Int)×(Unit))→Nat×Int×Int×(List (Int×Unit))×cH×cM×aT×aT×ByteArray×Int×List ByteArray×List ByteArray×(List (Int×Unit))×Unit→bQ (Nat×Int×Int×(List (Int×Unit))×cH×cM×aT×aT×ByteArray×Int×List ByteArray×List ByteArray×(List (Int×Unit))×Unit):=fun e (Y4,w22,w23,m24,m2,m3,m4,m5,eo,EO,pP,jg,m27,_) =>
 .ni (e.1+EO) <|
 .bd (FH100 (e.1+EO) m27) fun y7 =>
 .nd (jB m24 m24) <|
 .ret (Y4,w22,w23,m24,m2,m3,m4,m5,eo,EO,pP,jg,y7.1,())
noncomputable def Cf:rG prog 14 none 27:=B5 mixed oJ oK [0,1,2,3,4,5,6,7,8,9,10,11,12,13,14,15,16,17,18,19,20,21,22,23,24,25,26] rfl Cd ( [.op (some 4) none (.load false 1 (.t 1))]) 4 5 [6,7] (some 8) ( .int .i64)  false ( .unit)  true 0 rfl 29 rfl (Ce) (fun e x=>ak (gH67_0b_2i_0 e x)) (fun e=>fun x=>by kernel_rfl)
@[reducible] def KP:az:=az.mk [(2,.c (.ptr 6 0)),(3,.c (.ptr 7 0)),(5,.c (.ptr 8 0)),(8,.c (.ptr 21 0)),(11,.c (.ptr 22 0)),(21,.c (.b7 20 .str)),(22,hI),(23,hI),(36,.fn 132 [] [.ptr 23 0])] [(6,.cells [.ptr 0 0] false),(7,.cells [.fn 68 .nil (.cons (.ptr 1 0) .nil)] false),(8,.cells [.mp 24] false),(21,.cells [.mp 25] false),(22,.cells [.hole tI] false),(20,.arr .str false),(23,.cells [.mp 24] false),(0,.cells [.mp 2,.mp 3,.mp 4,.mp 5] false),(2,.map .str false tG true),(3,.map .str false (.list .str) false),(4,.map .str false .bool false),(5,.map .str false .bool false),(1,.cells [.hole .str] false),(9,.cells [.ptr 0 0] false),(11,.gX),(12,.loop .busy none 11 [(2,.c (.ptr 6 0)),(3,.c (.ptr 7 0)),(4,.c .bW),(5,.c (.ptr 8 0)),(17,.fn 106 [] [.ptr 9 0])] [18,19] (.aS [.op (some 7) none (.mv (.t 19))]) (.block 1 (.seq (.aS [.op (some 20) none (.ex (gw.iO tI false .unit true) []),.op (some 8) none (.alloc [.cB]),.op none none (.store 1 (.t 8) (.t 20))]) (.seq (.seq (.aS [.op (some 21) none (.mv (.t 7)),.op (some 22) none (.len (.t 21)),.op (some 23) none (.mv (.c (.int .i64 (Int.ofNat 0))))]) (.block 2 (.loop (.seq (.aS [.op (some 24) none (.bin .lss (.t 23) (.t 22))]) (.seq (.cond (.t 24) .skip (.exit 2)) (.seq (.block 3 (.seq (.aS [.op (some 25) none (.idx 1 (.t 21) (.t 23)),.op (some 26) none (.load false 1 (.t 25)),.op (some 10) none (.mv (.t 26))]) (.seq (.draw [[],[],[1],[1,2],[1,2,3],[],[1,2,3,4,5],[0,1,2,3,4,5,6],[],[0,1,2,3,4,5,6,7,8]] [.op (some 27) none (.load false 1 (.t 3)),.op (some 28) none (.load false 1 (.t 2)),.op (some 29) none (.ex gw.iN [.t 28]),.op (some 30) none (.mG 0 [false] (.t 29)),.op (some 31) none (.load false 1 (.t 30)),.op (some 32) none (.mv (.t 10)),.op (some 33) none (.ex (gw.fZ .str false tG true false) [.t 31,.t 32]),.call (some 34) none (.t 27) [.t 33] [some tG],.op (some 11) none (.alloc [.int .i64 (Int.ofNat 0)]),.op none none (.store 1 (.t 11) (.t 34))]) (.seq (.aS [.op (some 35) none (.load false 1 (.t 5)),.call (some 36) none (.c (.fn 101 [] [])) [.t 35] [none]]) (.block 4 (.bD (.t 36) [37] (.aS [.op (some 12) none (.mv (.t 37))]) (.block 5 (.aS [.op (some 38) none (.load false 1 (.t 8)),.op (some 39) none (.mv (.t 12)),.op (some 40) none (.load false 1 (.t 11)),.op (some 41) none (.bin .add (.t 39) (.t 40)),.call (some 42) none (.c (.fn 100 [] [])) [.t 38,.t 41] [none,some tI]])))))))) (.aS [.op (some 43) none (.bin .add (.t 23) (.c (.int .i64 (Int.ofNat 1)))),.op (some 23) none (.mv (.t 43))]))))))) (.aS [.op (some 44) none (.load false 1 (.t 8)),.op none none (.store 1 (.t 5) (.t 44))])))) 48),(13,.arr .str false),(24,.map tI false .unit true),(25,.map tI false .unit true)] [.slot 8,.slot 11,.part 36 0,.cell 8 0,.cell 21 0] []
@[reducible] def KQ:aW:=[(.normal,az.mk [(2,.c (.ptr 6 0)),(3,.c (.ptr 7 0)),(5,.c (.ptr 8 0)),(8,.c (.ptr 21 0)),(21,.c (.b7 20 .str)),(22,hI),(23,hI)] [(6,.cells [.ptr 0 0] false),(7,.cells [.fn 68 .nil (.cons (.ptr 1 0) .nil)] false),(8,.cells [.mp 22] false),(21,.cells [.mp 23] false),(20,.arr .str false),(0,.cells [.mp 2,.mp 3,.mp 4,.mp 5] false),(2,.map .str false tG true),(3,.map .str false (.list .str) false),(4,.map .str false .bool false),(5,.map .str false .bool false),(1,.cells [.hole .str] false),(9,.cells [.ptr 0 0] false),(11,.gX),(12,.loop .busy none 11 [(2,.c (.ptr 6 0)),(3,.c (.ptr 7 0)),(4,.c .bW),(5,.c (.ptr 8 0)),(17,.fn 106 [] [.ptr 9 0])] [18,19] (.aS [.op (some 7) none (.mv (.t 19))]) (.block 1 (.seq (.aS [.op (some 20) none (.ex (gw.iO tI false .unit true) []),.op (some 8) none (.alloc [.cB]),.op none none (.store 1 (.t 8) (.t 20))]) (.seq (.seq (.aS [.op (some 21) none (.mv (.t 7)),.op (some 22) none (.len (.t 21)),.op (some 23) none (.mv (.c (.int .i64 (Int.ofNat 0))))]) (.block 2 (.loop (.seq (.aS [.op (some 24) none (.bin .lss (.t 23) (.t 22))]) (.seq (.cond (.t 24) .skip (.exit 2)) (.seq (.block 3 (.seq (.aS [.op (some 25) none (.idx 1 (.t 21) (.t 23)),.op (some 26) none (.load false 1 (.t 25)),.op (some 10) none (.mv (.t 26))]) (.seq (.draw [[],[],[1],[1,2],[1,2,3],[],[1,2,3,4,5],[0,1,2,3,4,5,6],[],[0,1,2,3,4,5,6,7,8]] [.op (some 27) none (.load false 1 (.t 3)),.op (some 28) none (.load false 1 (.t 2)),.op (some 29) none (.ex gw.iN [.t 28]),.op (some 30) none (.mG 0 [false] (.t 29)),.op (some 31) none (.load false 1 (.t 30)),.op (some 32) none (.mv (.t 10)),.op (some 33) none (.ex (gw.fZ .str false tG true false) [.t 31,.t 32]),.call (some 34) none (.t 27) [.t 33] [some tG],.op (some 11) none (.alloc [.int .i64 (Int.ofNat 0)]),.op none none (.store 1 (.t 11) (.t 34))]) (.seq (.aS [.op (some 35) none (.load false 1 (.t 5)),.call (some 36) none (.c (.fn 101 [] [])) [.t 35] [none]]) (.block 4 (.bD (.t 36) [37] (.aS [.op (some 12) none (.mv (.t 37))]) (.block 5 (.aS [.op (some 38) none (.load false 1 (.t 8)),.op (some 39) none (.mv (.t 12)),.op (some 40) none (.load false 1 (.t 11)),.op (some 41) none (.bin .add (.t 39) (.t 40)),.call (some 42) none (.c (.fn 100 [] [])) [.t 38,.t 41] [none,some tI]])))))))) (.aS [.op (some 43) none (.bin .add (.t 23) (.c (.int .i64 (Int.ofNat 1)))),.op (some 23) none (.mv (.t 43))]))))))) (.aS [.op (some 44) none (.load false 1 (.t 8)),.op none none (.store 1 (.t 5) (.t 44))])))) 48),(13,.arr .str false),(22,.map tI false .unit true),(23,.map tI false .unit true)] [.slot 8,.cell 8 0,.cell 21 0] [])]
noncomputable def ye:D prog 14 none 27:=dO [.m Cf] (kd prog f132) 0
theorem GZ:cL prog f132=some ⟨14,2,(ye).er,[],[]⟩:=by kernel_rfl
noncomputable def gH67_0b_2:Nat×Int×Int×Int×List ByteArray×cH×cM×aT×aT×ByteArray×List ByteArray×(List (Int×Unit))×(List (Int×Unit))×Unit→bQ ((Nat×Int×Int×List ByteArray×cH×cM×aT×aT×ByteArray×List ByteArray×(List (Int×Unit))×(List (Int×Unit))×Unit)):=fun (yf,v22,v23,EO,pP,m2,m3,m4,m5,eo,jg,m24,m25,_) =>
 .bd (.mq gH67_0b_2i_0 m24 (yf,v22,v23,m24,m2,m3,m4,m5,eo,EO,pP,jg,m25,())) fun z8 =>
 .ret ((yf,v22,v23,z8.2.2.2.2.2.2.2.2.2.2.1,z8.2.2.2.2.1,z8.2.2.2.2.2.1,z8.2.2.2.2.2.2.1,z8.2.2.2.2.2.2.2.1,z8.2.2.2.2.2.2.2.2.1,z8.2.2.2.2.2.2.2.2.2.2.2.1,z8.2.2.2.1,z8.2.2.2.2.2.2.2.2.2.2.2.2.1,()))
noncomputable def KR:gm prog 48 (some 12) 21:=rP mixed oJ oK [0,1,2,3,4,5,6,7,8,9,10,11,12,13,14,15,16,17,18,19,20] rfl KP KQ ( .t 36) [37] rfl (yc).er (yd).er 132 func132 (GZ) (enters_of func132 rfl rfl) 27 rfl (ye) rfl (fun x=>ak (gH67_0b_2 x)) (fun x=>by kernel_rfl)
@[reducible] def KT:az:=az.mk [(2,.c (.ptr 6 0)),(3,.c (.ptr 7 0)),(5,.c (.ptr 8 0)),(8,.c (.ptr 21 0)),(21,.c (.b7 20 .str)),(22,hI),(23,hI)] [(6,.cells [.ptr 0 0] false),(7,.cells [.fn 68 .nil (.cons (.ptr 1 0) .nil)] false),(8,.cells [.mp 22] false),(21,.cells [.mp 23] false),(20,.arr .str false),(0,.cells [.mp 2,.mp 3,.mp 4,.mp 5] false),(2,.map .str false tG true),(3,.map .str false (.list .str) false),(4,.map .str false .bool false),(5,.map .str false .bool false),(1,.cells [.hole .str] false),(9,.cells [.ptr 0 0] false),(11,.gX),(12,.loop .busy none 11 [(2,.c (.ptr 6 0)),(3,.c (.ptr 7 0)),(4,.c .bW),(5,.c (.ptr 8 0)),(17,.fn 106 [] [.ptr 9 0])] [18,19] (.aS [.op (some 7) none (.mv (.t 19))]) (.block 1 (.seq (.aS [.op (some 20) none (.ex (gw.iO tI false .unit true) []),.op (some 8) none (.alloc [.cB]),.op none none (.store 1 (.t 8) (.t 20))]) (.seq (.seq (.aS [.op (some 21) none (.mv (.t 7)),.op (some 22) none (.len (.t 21)),.op (some 23) none (.mv (.c (.int .i64 (Int.ofNat 0))))]) (.block 2 (.loop (.seq (.aS [.op (some 24) none (.bin .lss (.t 23) (.t 22))]) (.seq (.cond (.t 24) .skip (.exit 2)) (.seq (.block 3 (.seq (.aS [.op (some 25) none (.idx 1 (.t 21) (.t 23)),.op (some 26) none (.load false 1 (.t 25)),.op (some 10) none (.mv (.t 26))]) (.seq (.draw [[],[],[1],[1,2],[1,2,3],[],[1,2,3,4,5],[0,1,2,3,4,5,6],[],[0,1,2,3,4,5,6,7,8]] [.op (some 27) none (.load false 1 (.t 3)),.op (some 28) none (.load false 1 (.t 2)),.op (some 29) none (.ex gw.iN [.t 28]),.op (some 30) none (.mG 0 [false] (.t 29)),.op (some 31) none (.load false 1 (.t 30)),.op (some 32) none (.mv (.t 10)),.op (some 33) none (.ex (gw.fZ .str false tG true false) [.t 31,.t 32]),.call (some 34) none (.t 27) [.t 33] [some tG],.op (some 11) none (.alloc [.int .i64 (Int.ofNat 0)]),.op none none (.store 1 (.t 11) (.t 34))]) (.seq (.aS [.op (some 35) none (.load false 1 (.t 5)),.call (some 36) none (.c (.fn 101 [] [])) [.t 35] [none]]) (.block 4 (.bD (.t 36) [37] (.aS [.op (some 12) none (.mv (.t 37))]) (.block 5 (.aS [.op (some 38) none (.load false 1 (.t 8)),.op (some 39) none (.mv (.t 12)),.op (some 40) none (.load false 1 (.t 11)),.op (some 41) none (.bin .add (.t 39) (.t 40)),.call (some 42) none (.c (.fn 100 [] [])) [.t 38,.t 41] [none,some tI]])))))))) (.aS [.op (some 43) none (.bin .add (.t 23) (.c (.int .i64 (Int.ofNat 1)))),.op (some 23) none (.mv (.t 43))]))))))) (.aS [.op (some 44) none (.load false 1 (.t 8)),.op none none (.store 1 (.t 5) (.t 44))])))) 48),(13,.arr .str false),(22,.map tI false .unit true),(23,.map tI false .unit true)] [.slot 8,.cell 8 0,.cell 21 0] []
@[reducible] def KU:aW:=[(.exit 2,az.mk [(5,.c (.ptr 8 0)),(8,.c (.ptr 21 0))] [(8,.cells [.mp 22] false),(21,.cells [.mp 23] false),(0,.cells [.mp 2,.mp 3,.mp 4,.mp 5] false),(2,.map .str false tG true),(3,.map .str false (.list .str) false),(4,.map .str false .bool false),(5,.map .str false .bool false),(1,.cells [.hole .str] false),(6,.cells [.ptr 0 0] false),(7,.cells [.fn 68 .nil (.cons (.ptr 1 0) .nil)] false),(9,.cells [.ptr 0 0] false),(11,.gX),(12,.loop .busy none 11 [(2,.c (.ptr 6 0)),(3,.c (.ptr 7 0)),(4,.c .bW),(5,.c (.ptr 8 0)),(17,.fn 106 [] [.ptr 9 0])] [18,19] (.aS [.op (some 7) none (.mv (.t 19))]) (.block 1 (.seq (.aS [.op (some 20) none (.ex (gw.iO tI false .unit true) []),.op (some 8) none (.alloc [.cB]),.op none none (.store 1 (.t 8) (.t 20))]) (.seq (.seq (.aS [.op (some 21) none (.mv (.t 7)),.op (some 22) none (.len (.t 21)),.op (some 23) none (.mv (.c (.int .i64 (Int.ofNat 0))))]) (.block 2 (.loop (.seq (.aS [.op (some 24) none (.bin .lss (.t 23) (.t 22))]) (.seq (.cond (.t 24) .skip (.exit 2)) (.seq (.block 3 (.seq (.aS [.op (some 25) none (.idx 1 (.t 21) (.t 23)),.op (some 26) none (.load false 1 (.t 25)),.op (some 10) none (.mv (.t 26))]) (.seq (.draw [[],[],[1],[1,2],[1,2,3],[],[1,2,3,4,5],[0,1,2,3,4,5,6],[],[0,1,2,3,4,5,6,7,8]] [.op (some 27) none (.load false 1 (.t 3)),.op (some 28) none (.load false 1 (.t 2)),.op (some 29) none (.ex gw.iN [.t 28]),.op (some 30) none (.mG 0 [false] (.t 29)),.op (some 31) none (.load false 1 (.t 30)),.op (some 32) none (.mv (.t 10)),.op (some 33) none (.ex (gw.fZ .str false tG true false) [.t 31,.t 32]),.call (some 34) none (.t 27) [.t 33] [some tG],.op (some 11) none (.alloc [.int .i64 (Int.ofNat 0)]),.op none none (.store 1 (.t 11) (.t 34))]) (.seq (.aS [.op (some 35) none (.load false 1 (.t 5)),.call (some 36) none (.c (.fn 101 [] [])) [.t 35] [none]]) (.block 4 (.bD (.t 36) [37] (.aS [.op (some 12) none (.mv (.t 37))]) (.block 5 (.aS [.op (some 38) none (.load false 1 (.t 8)),.op (some 39) none (.mv (.t 12)),.op (some 40) none (.load false 1 (.t 11)),.op (some 41) none (.bin .add (.t 39) (.t 40)),.call (some 42) none (.c (.fn 100 [] [])) [.t 38,.t 41] [none,some tI]])))))))) (.aS [.op (some 43) none (.bin .add (.t 23) (.c (.int .i64 (Int.ofNat 1)))),.op (some 23) none (.mv (.t 43))]))))))) (.aS [.op (some 44) none (.load false 1 (.t 8)),.op none none (.store 1 (.t 5) (.t 44))])))) 48),(13,.arr .str false),(20,.arr .str false),(22,.map tI false .unit true),(23,.map tI false .unit true)] [.slot 8,.cell 8 0,.cell 21 0] [])]
noncomputable def KV:D prog 48 (some 12) 21:=dO [.r KR] (pick (kd prog f67) [(0,true),(0,false)]) 0
noncomputable def gH67_0b_1:Nat×Int×Int×List ByteArray×cH×cM×aT×aT×ByteArray×List ByteArray×(List (Int×Unit))×(List (Int×Unit))×Unit→bQ ((Nat×Int×Int×List ByteArray×cH×cM×aT×aT×ByteArray×List ByteArray×(List (Int×Unit))×(List (Int×Unit))×Unit) ⊕ ((cH×cM×aT×aT×ByteArray×List ByteArray×List ByteArray×(List (Int×Unit))×(List (Int×Unit))×Unit))):=fun (yf,v22,v23,pP,m2,m3,m4,m5,eo,jg,m22,m23,_) =>
 .br (decide (v23<v22)) (
 .nb v23 ((yf:Nat):Int) <|
 .nd (decide (((0:Nat)+(Int.toNat v23))<(pP).length)) <|
 .bd (F68 ((ay .str ((bs []),(0:Int),(bs []),(bs []),(0:Int)) m2 ((pP).getD ((0:Nat)+(Int.toNat v23)) (bs []))).1,(ay .str ((bs []),(0:Int),(bs []),(bs []),(0:Int)) m2 ((pP).getD ((0:Nat)+(Int.toNat v23)) (bs []))).2.1,(ay .str ((bs []),(0:Int),(bs []),(bs []),(0:Int)) m2 ((pP).getD ((0:Nat)+(Int.toNat v23)) (bs []))).2.2.1,(ay .str ((bs []),(0:Int),(bs []),(bs []),(0:Int)) m2 ((pP).getD ((0:Nat)+(Int.toNat v23)) (bs []))).2.2.2.1,(ay .str ((bs []),(0:Int),(bs []),(bs []),(0:Int)) m2 ((pP).getD ((0:Nat)+(Int.toNat v23)) (bs []))).2.2.2.2) eo) fun y5 =>
 .bd (FH101 m22) fun y6 =>
 .bd (gH67_0b_2 (yf,v22,v23,y5.1,pP,m2,m3,m4,m5,eo,jg,y6.1,m23,())) fun z9 =>
 .ni (z9.2.2.1+(1:Int)) <|
 .ret (.inl (z9.1,z9.2.1,(z9.2.2.1+(1:Int)),z9.2.2.2.1,z9.2.2.2.2.1,z9.2.2.2.2.2.1,z9.2.2.2.2.2.2.1,z9.2.2.2.2.2.2.2.1,z9.2.2.2.2.2.2.2.2.1,z9.2.2.2.2.2.2.2.2.2.1,z9.2.2.2.2.2.2.2.2.2.2.1,z9.2.2.2.2.2.2.2.2.2.2.2.1,()))) (
 .ret (.inr (m2,m3,m4,m5,eo,jg,pP,m22,m23,())))
noncomputable def KW:bS prog 48 (some 12) 21:=bE mixed AL mh [0,1,2,3,4,5,6,7,8,9,10,11,12,13,14,15,16,17,18,19,20] rfl KT KU rfl (KV) (fun x=>ak (gH67_0b_1 x)) (fun x=>by kernel_rfl)
noncomputable def I2:D prog 48 (some 12) 21:=dO [] (pick (kd prog f67) [(0,false)]) 0
noncomputable def I3:D prog 48 (some 12) 21:=dO [.l KW] (pick (kd prog f67) [(0,true)]) 0
noncomputable def yg:Cx:=zo AL (fun kz=>Nn kz AL ek 12 21 [18,19] (I2) (I3))
theorem uD:(yg).Ok prog:=jJ mh (fun h=>mY mixed mh h)
@[reducible] def KX:az:=az.mk [(0,.c (.yl 12)),(1,.c (.ptr 9 0)),(10,.c (.b7 13 .str)),(11,hI),(12,hI)] [(12,.loop .ready none 11 [(2,.c (.ptr 6 0)),(3,.c (.ptr 7 0)),(4,.c .bW),(5,.c (.ptr 8 0)),(17,.fn 106 [] [.ptr 9 0])] [18,19] (.aS [.op (some 7) none (.mv (.t 19))]) (.block 1 (.seq (.aS [.op (some 20) none (.ex (gw.iO tI false .unit true) []),.op (some 8) none (.alloc [.cB]),.op none none (.store 1 (.t 8) (.t 20))]) (.seq (.seq (.aS [.op (some 21) none (.mv (.t 7)),.op (some 22) none (.len (.t 21)),.op (some 23) none (.mv (.c (.int .i64 (Int.ofNat 0))))]) (.block 2 (.loop (.seq (.aS [.op (some 24) none (.bin .lss (.t 23) (.t 22))]) (.seq (.cond (.t 24) .skip (.exit 2)) (.seq (.block 3 (.seq (.aS [.op (some 25) none (.idx 1 (.t 21) (.t 23)),.op (some 26) none (.load false 1 (.t 25)),.op (some 10) none (.mv (.t 26))]) (.seq (.draw [[],[],[1],[1,2],[1,2,3],[],[1,2,3,4,5],[0,1,2,3,4,5,6],[],[0,1,2,3,4,5,6,7,8]] [.op (some 27) none (.load false 1 (.t 3)),.op (some 28) none (.load false 1 (.t 2)),.op (some 29) none (.ex gw.iN [.t 28]),.op (some 30) none (.mG 0 [false] (.t 29)),.op (some 31) none (.load false 1 (.t 30)),.op (some 32) none (.mv (.t 10)),.op (some 33) none (.ex (gw.fZ .str false tG true false) [.t 31,.t 32]),.call (some 34) none (.t 27) [.t 33] [some tG],.op (some 11) none (.alloc [.int .i64 (Int.ofNat 0)]),.op none none (.store 1 (.t 11) (.t 34))]) (.seq (.aS [.op (some 35) none (.load false 1 (.t 5)),.call (some 36) none (.c (.fn 101 [] [])) [.t 35] [none]]) (.block 4 (.bD (.t 36) [37] (.aS [.op (some 12) none (.mv (.t 37))]) (.block 5 (.aS [.op (some 38) none (.load false 1 (.t 8)),.op (some 39) none (.mv (.t 12)),.op (some 40) none (.load false 1 (.t 11)),.op (some 41) none (.bin .add (.t 39) (.t 40)),.call (some 42) none (.c (.fn 100 [] [])) [.t 38,.t 41] [none,some tI]])))))))) (.aS [.op (some 43) none (.bin .add (.t 23) (.c (.int .i64 (Int.ofNat 1)))),.op (some 23) none (.mv (.t 43))]))))))) (.aS [.op (some 44) none (.load false 1 (.t 8)),.op none none (.store 1 (.t 5) (.t 44))])))) 48),(9,.cells [.ptr 0 0] false),(13,.arr .str false),(11,.gX),(6,.cells [.ptr 0 0] false),(0,.cells [.mp 2,.mp 3,.mp 4,.mp 5] false),(2,.map .str false tG true),(3,.map .str false (.list .str) false),(4,.map .str false .bool false),(5,.map .str false .bool false),(7,.cells [.fn 68 .nil (.cons (.ptr 1 0) .nil)] false),(1,.cells [.hole .str] false),(8,.cells [.mp 14] false),(14,.map tI false .unit true)] [.slot 10,.cell 8 0] []
@[reducible] def KY:aW:=[(.exit 0,az.mk [] [(0,.cells [.mp 2,.mp 3,.mp 4,.mp 5] false),(2,.map .str false tG true),(3,.map .str false (.list .str) false),(4,.map .str false .bool false),(5,.map .str false .bool false),(1,.cells [.hole .str] false),(6,.cells [.ptr 0 0] false),(7,.cells [.fn 68 .nil (.cons (.ptr 1 0) .nil)] false),(8,.cells [.mp 13] false),(9,.cells [.ptr 0 0] false),(11,.gX),(12,.loop .ready none 11 [(2,.c (.ptr 6 0)),(3,.c (.ptr 7 0)),(4,.c .bW),(5,.c (.ptr 8 0)),(17,.fn 106 [] [.ptr 9 0])] [18,19] (.aS [.op (some 7) none (.mv (.t 19))]) (.block 1 (.seq (.aS [.op (some 20) none (.ex (gw.iO tI false .unit true) []),.op (some 8) none (.alloc [.cB]),.op none none (.store 1 (.t 8) (.t 20))]) (.seq (.seq (.aS [.op (some 21) none (.mv (.t 7)),.op (some 22) none (.len (.t 21)),.op (some 23) none (.mv (.c (.int .i64 (Int.ofNat 0))))]) (.block 2 (.loop (.seq (.aS [.op (some 24) none (.bin .lss (.t 23) (.t 22))]) (.seq (.cond (.t 24) .skip (.exit 2)) (.seq (.block 3 (.seq (.aS [.op (some 25) none (.idx 1 (.t 21) (.t 23)),.op (some 26) none (.load false 1 (.t 25)),.op (some 10) none (.mv (.t 26))]) (.seq (.draw [[],[],[1],[1,2],[1,2,3],[],[1,2,3,4,5],[0,1,2,3,4,5,6],[],[0,1,2,3,4,5,6,7,8]] [.op (some 27) none (.load false 1 (.t 3)),.op (some 28) none (.load false 1 (.t 2)),.op (some 29) none (.ex gw.iN [.t 28]),.op (some 30) none (.mG 0 [false] (.t 29)),.op (some 31) none (.load false 1 (.t 30)),.op (some 32) none (.mv (.t 10)),.op (some 33) none (.ex (gw.fZ .str false tG true false) [.t 31,.t 32]),.call (some 34) none (.t 27) [.t 33] [some tG],.op (some 11) none (.alloc [.int .i64 (Int.ofNat 0)]),.op none none (.store 1 (.t 11) (.t 34))]) (.seq (.aS [.op (some 35) none (.load false 1 (.t 5)),.call (some 36) none (.c (.fn 101 [] [])) [.t 35] [none]]) (.block 4 (.bD (.t 36) [37] (.aS [.op (some 12) none (.mv (.t 37))]) (.block 5 (.aS [.op (some 38) none (.load false 1 (.t 8)),.op (some 39) none (.mv (.t 12)),.op (some 40) none (.load false 1 (.t 11)),.op (some 41) none (.bin .add (.t 39) (.t 40)),.call (some 42) none (.c (.fn 100 [] [])) [.t 38,.t 41] [none,some tI]])))))))) (.aS [.op (some 43) none (.bin .add (.t 23) (.c (.int .i64 (Int.ofNat 1)))),.op (some 23) none (.mv (.t 43))]))))))) (.aS [.op (some 44) none (.load false 1 (.t 8)),.op none none (.store 1 (.t 5) (.t 44))])))) 48),(13,.map tI false .unit true)] [.cell 8 0] [])]
noncomputable def KZ:D prog 34 none 13:=dO [] (pick (kd prog f106) [(0,false)]) 0
noncomputable def gH67_0i_0:Nat×Int×Int×List ByteArray×cH×cM×aT×aT×ByteArray×(List (Int×Unit))×Unit→bQ ((Nat×Int×Int×List ByteArray×cH×cM×aT×aT×ByteArray×(List (Int×Unit))×Unit) ⊕ ((cH×cM×aT×aT×ByteArray×(List (Int×Unit))×Unit))):=fun (yh,v11,v12,jg,m2,m3,m4,m5,eo,m14,_) =>
 .br (decide (v12<v11)) (
 .nb v12 ((yh:Nat):Int) <|
 .nd (decide (((0:Nat)+(Int.toNat v12))<(jg).length)) <|
 .br ((ay .str ((bs []),(0:Int),(bs []),(bs []),(0:Int)) m2 ((jg).getD ((0:Nat)+(Int.toNat v12)) (bs []))).2.1==(1:Int)) (
 .bd (FH76fix ((jg).getD ((0:Nat)+(Int.toNat v12)) (bs [])) m2 m3 m4 m5) fun y4 =>
 .bd (.it gH67_0b_1 (y4.1,((y4.1:Nat):Int),(0:Int),y4.2.1,y4.2.2.1,y4.2.2.2.1,y4.2.2.2.2.1,y4.2.2.2.2.2.1,eo,jg,m14,[],())) fun lR =>
 .ni (v12+(1:Int)) <|
 .ret (.inl (yh,v11,(v12+(1:Int)),lR.2.2.2.2.2.1,lR.1,lR.2.1,lR.2.2.1,lR.2.2.2.1,lR.2.2.2.2.1,lR.2.2.2.2.2.2.2.2.1,()))) (
 .ni (v12+(1:Int)) <|
 .ret (.inl (yh,v11,(v12+(1:Int)),jg,m2,m3,m4,m5,eo,m14,())))) (
 .ret (.inr (m2,m3,m4,m5,eo,m14,())))
noncomputable def K0:bS prog 34 none 13:=bE mixed yg uD [0,1,2,3,4,5,6,7,8,9,10,11,12] rfl KX KY rfl (KZ) (fun x=>ak (gH67_0i_0 x)) (fun x=>by kernel_rfl)
@[reducible] def Y5:az:=az.mk [(2,.c (.ptr 6 0)),(3,.c (.ptr 7 0)),(4,.c .bW),(5,.c (.ptr 8 0)),(17,.fn 106 [] [.ptr 9 0])] [(6,.cells [.ptr 0 0] false),(7,.cells [.fn 68 .nil (.cons (.ptr 1 0) .nil)] false),(8,.cells [.mp 10] false),(9,.cells [.ptr 0 0] false),(0,.cells [.mp 2,.mp 3,.mp 4,.mp 5] false),(2,.map .str false tG true),(3,.map .str false (.list .str) false),(4,.map .str false .bool false),(5,.map .str false .bool false),(1,.cells [.hole .str] false),(10,.map tI false .unit true)] [.slot 2,.slot 3,.slot 5,.part 17 0,.cell 8 0] []
@[reducible] def Y6:aW:=[(.normal,az.mk [(5,.c (.ptr 6 0))] [(6,.cells [.mp 7] false),(0,.cells [.mp 2,.mp 3,.mp 4,.mp 5] false),(2,.map .str false tG true),(3,.map .str false (.list .str) false),(4,.map .str false .bool false),(5,.map .str false .bool false),(1,.cells [.hole .str] false),(7,.map tI false .unit true)] [.slot 5,.cell 6 0] [])]
noncomputable def I4:D prog 34 none 13:=dO [.l K0] (kd prog f106) 0
theorem Tg:cL prog f106=some ⟨34,2,(I4).er,[],[]⟩:=by kernel_rfl
noncomputable def gH67_0:cH×cM×aT×aT×ByteArray×(List (Int×Unit))×Unit→bQ ((cH×cM×aT×aT×ByteArray×(List (Int×Unit))×Unit)):=fun (m2,m3,m4,m5,eo,m10,_) =>
 .bd (FH95 m2) fun y2 =>
 .bd (FH81 y2.1) fun y3 =>
 .bd (.it gH67_0i_0 (y3.1,((y3.1:Nat):Int),(0:Int),y3.2.1,y3.2.2.1,m3,m4,m5,eo,m10,())) fun Lz =>
 .ret ((Lz.1,Lz.2.1,Lz.2.2.1,Lz.2.2.2.1,Lz.2.2.2.2.1,Lz.2.2.2.2.2.1,()))
noncomputable def Y7:gm prog 48 none 6:=rP mixed yg uD [0,1,2,3,4,5] rfl Y5 Y6 ( .t 17) [18,19] rfl (I2).er (I3).er 106 func106 (Tg) (enters_of func106 rfl rfl) 13 rfl (I4) rfl (fun x=>ak (gH67_0 x)) (fun x=>by kernel_rfl)
noncomputable def V4:D prog 48 none 6:=dO [.r Y7] (kd prog f67) 0
noncomputable def FH67 (eo:ByteArray) (m2:cH) (m3:cM) (m4:aT) (m5:aT):bQ (Nat×List Int×cH×cM×aT×aT×ByteArray×Unit) :=
 .bd (FH100 (0:Int) []) fun y0 =>
 .bd (FH79 m2 m3 m4 m5) fun y1 =>
 .bd (gH67_0 (y1.1,y1.2.1,y1.2.2.1,y1.2.2.2.1,eo,y0.1,())) fun z12 =>
 .bd (FH101 z12.2.2.2.2.2.1) fun Y8 =>
 .bd (FH102 Y8.1) fun Th =>
 .ret (Th.1,Th.2.1,z12.1,z12.2.1,z12.2.2.1,z12.2.2.2.1,z12.2.2.2.2.1,())
theorem Ti:cL prog f67=some ⟨48,2,V4.er,[.t 4],[some tL]⟩:=by kernel_rfl
noncomputable def ht67:Ht:=⟨67,pH67,qH67,(fun x=>ak (FH67 x.1 x.2.1 x.2.2.1 x.2.2.2.1 x.2.2.2.2.1))⟩
theorem Tj:ht67.Ok prog:=bP mixed mh rfl func67 Ti (enters_of func67 rfl rfl) V4 (by kernel_rfl) rfl rfl ⟨_,rfl⟩ rfl (pre:=[0,1,2,3,4,5]) rfl (fun x=>by kernel_rfl)

/- 23, lent -/
@[reducible] def pH23:az:=az.mk [(0,.c (.ptr 0 0)),(1,.c (.hole .str))] [(0,.cells [.mp 1] false),(1,.map tG true .bool false)] [.slot 0,.cell 0 0] []
@[reducible] def qH23:az:=az.mk [(0,.cG [.b7 2 tI,.hole tI])] [(2,.arr tI false),(0,.cells [.mp 1] false),(1,.map tG true .bool false)] [.part 0 0] []
noncomputable def ac9:Cx:=(aL [N7] [zu,Ep,ht67])
theorem Pe:ac9.Ok prog:=ax ⟨vC,trivial⟩ ⟨⟨nj,rfl⟩,⟨sk,rfl⟩,⟨Tj,rfl⟩,trivial⟩
noncomputable def V5:D prog 15 none 2:=dO [] (kd prog f23) 0
noncomputable def FH23 (v1:ByteArray) (m1:List ((GG)×Bool)):bQ (Nat×Int×List Int×(List ((GG)×Bool))×Unit) :=
 .bd (FH54 m1) fun y0 =>
 .br y0.1 (
 .ret ((0:Nat),(9:Int),[],y0.2.1,())) (
 .bd (F65 v1) fun y1 =>
 .br (!y1.1) (
 .ret ((0:Nat),(8:Int),[],y0.2.1,())) (
 .bd (FH66 y0.2.1) fun y2 =>
 .bd (FH67 v1 y2.2.1 y2.2.2.1 y2.2.2.2.1 y2.2.2.2.2.1) fun y3 =>
 .ret (y3.1,(0:Int),y3.2.1,y2.1,())))
theorem Tl:cL prog f23=some ⟨15,2,V5.er,[.t 4,.t 5],[some tL,some tI]⟩:=by kernel_rfl
noncomputable def Tm:Ht:=⟨23,pH23,qH23,(fun x=>ak (FH23 x.1 x.2.1))⟩
theorem Cg:Tm.Ok prog:=bP mixed Pe rfl func23 Tl (enters_of func23 rfl rfl) V5 (by kernel_rfl) rfl rfl ⟨_,rfl⟩ rfl (pre:=[0,1]) rfl (fun x=>by kernel_rfl)

/- 78 -/
noncomputable def cx78:Cx:=(aL [] [])
theorem Tn:cx78.Ok prog:=ax trivial trivial
noncomputable def dd78:D prog 5 none 0:=dO [] (kd prog f78) 0
noncomputable def F78 (a0:GG):bQ (Int×Unit) :=
 .ret (a0.2.2.2.2,())
theorem Y9:cL prog f78=some ⟨5,1,dd78.er,[.t 2],[some tI]⟩:=by kernel_rfl
noncomputable def ct78:Ct:=⟨78,[.c (.hole tG)],hI,fun x=>ak (F78 x.1)⟩
theorem To:ct78.Ok prog:=cK mixed Tn func78 Y9 (enters_of func78 rfl rfl) dd78 (by kernel_rfl) rfl (fun x=>by kernel_rfl)

/- 67, lent -/
@[reducible] def Tp:az:=az.mk [(0,.c (.ptr 0 0)),(1,.c (.fn0 78))] [(0,.cells [.mp 1,.mp 2,.mp 3,.mp 4] false),(1,.map .str false tG true),(2,.map .str false (.list .str) false),(3,.map .str false .bool false),(4,.map .str false .bool false)] [.slot 0,.cell 0 0,.cell 0 1,.cell 0 2,.cell 0 3] []
@[reducible] def Tq:az:=az.mk [(0,.c (.b7 5 tI))] [(5,.arr tI false),(0,.cells [.mp 1,.mp 2,.mp 3,.mp 4] false),(1,.map .str false tG true),(2,.map .str false (.list .str) false),(3,.map .str false .bool false),(4,.map .str false .bool false)] [.slot 0] []
noncomputable def mj:Cx:=(aL [ct78] [OZ,Td,Oj,Om,GR,O6,Pd])
theorem gF:mj.Ok prog:=ax ⟨To,trivial⟩ ⟨⟨EH,rfl⟩,⟨Cc,rfl⟩,⟨vG,rfl⟩,⟨vI,rfl⟩,⟨sq,rfl⟩,⟨EI,rfl⟩,⟨EN,rfl⟩,trivial⟩
noncomputable def qc:D prog 48 (some 25) 28:=dO [] (pick (kd prog f67) [(0,true),(0,false),(0,false)]) 0
noncomputable def qd:D prog 48 (some 25) 28:=dO [] (pick (kd prog f67) [(0,true),(0,false),(0,true)]) 0
noncomputable def kD:Cx:=zo mj (fun kz=>Nn kz mj ek 25 28 [37] (qc) (qd))
theorem lu:(kD).Ok prog:=jJ gF (fun h=>mY mixed gF h)
@[reducible] def uX:az:=az.mk [(0,.c (.yl 25)),(4,.c (.mp 23))] [(25,.loop .ready none 10 [(2,.c (.ptr 5 0)),(3,.c (.ptr 6 0)),(5,.c (.ptr 7 0)),(8,.c (.ptr 20 0)),(11,.c (.ptr 21 0)),(21,.c (.b7 19 .str)),(22,hI),(23,hI),(36,.fn 132 [] [.ptr 22 0])] [37] (.aS [.op (some 12) none (.mv (.t 37))]) (.block 5 (.aS [.op (some 38) none (.load false 1 (.t 8)),.op (some 39) none (.mv (.t 12)),.op (some 40) none (.load false 1 (.t 11)),.op (some 41) none (.bin .add (.t 39) (.t 40)),.call (some 42) none (.c (.fn 100 [] [])) [.t 38,.t 41] [none,some tI]])) 48),(23,.map tI false .unit true),(10,.gX),(5,.cells [.ptr 0 0] false),(0,.cells [.mp 1,.mp 2,.mp 3,.mp 4] false),(1,.map .str false tG true),(2,.map .str false (.list .str) false),(3,.map .str false .bool false),(4,.map .str false .bool false),(6,.cells [.fn0 78] false),(7,.cells [.mp 23] false),(20,.cells [.mp 26] false),(21,.cells [.hole tI] false),(19,.arr .str false),(22,.cells [.mp 23] false),(8,.cells [.ptr 0 0] false),(11,.loop .busy none 10 [(2,.c (.ptr 5 0)),(3,.c (.ptr 6 0)),(4,.c .bW),(5,.c (.ptr 7 0)),(17,.fn 106 [] [.ptr 8 0])] [18,19] (.aS [.op (some 7) none (.mv (.t 19))]) (.block 1 (.seq (.aS [.op (some 20) none (.ex (gw.iO tI false .unit true) []),.op (some 8) none (.alloc [.cB]),.op none none (.store 1 (.t 8) (.t 20))]) (.seq (.seq (.aS [.op (some 21) none (.mv (.t 7)),.op (some 22) none (.len (.t 21)),.op (some 23) none (.mv (.c (.int .i64 (Int.ofNat 0))))]) (.block 2 (.loop (.seq (.aS [.op (some 24) none (.bin .lss (.t 23) (.t 22))]) (.seq (.cond (.t 24) .skip (.exit 2)) (.seq (.block 3 (.seq (.aS [.op (some 25) none (.idx 1 (.t 21) (.t 23)),.op (some 26) none (.load false 1 (.t 25)),.op (some 10) none (.mv (.t 26))]) (.seq (.draw [[],[],[1],[1,2],[1,2,3],[],[1,2,3,4,5],[0,1,2,3,4,5,6],[],[0,1,2,3,4,5,6,7,8]] [.op (some 27) none (.load false 1 (.t 3)),.op (some 28) none (.load false 1 (.t 2)),.op (some 29) none (.ex gw.iN [.t 28]),.op (some 30) none (.mG 0 [false] (.t 29)),.op (some 31) none (.load false 1 (.t 30)),.op (some 32) none (.mv (.t 10)),.op (some 33) none (.ex (gw.fZ .str false tG true false) [.t 31,.t 32]),.call (some 34) none (.t 27) [.t 33] [some tG],.op (some 11) none (.alloc [.int .i64 (Int.ofNat 0)]),.op none none (.store 1 (.t 11) (.t 34))]) (.seq (.aS [.op (some 35) none (.load false 1 (.t 5)),.call (some 36) none (.c (.fn 101 [] [])) [.t 35] [none]]) (.block 4 (.bD (.t 36) [37] (.aS [.op (some 12) none (.mv (.t 37))]) (.block 5 (.aS [.op (some 38) none (.load false 1 (.t 8)),.op (some 39) none (.mv (.t 12)),.op (some 40) none (.load false 1 (.t 11)),.op (some 41) none (.bin .add (.t 39) (.t 40)),.call (some 42) none (.c (.fn 100 [] [])) [.t 38,.t 41] [none,some tI]])))))))) (.aS [.op (some 43) none (.bin .add (.t 23) (.c (.int .i64 (Int.ofNat 1)))),.op (some 23) none (.mv (.t 43))]))))))) (.aS [.op (some 44) none (.load false 1 (.t 8)),.op none none (.store 1 (.t 5) (.t 44))])))) 48),(12,.arr .str false),(26,.map tI false .unit true)] [.cell 20 0] []
noncomputable def uY:D prog 14 none 28:=dO [] (pick (kd prog f132) [(0,false)]) 0
noncomputable def gH67_v1_0b_2i_0:((Int)×(Unit))→Nat×Int×Int×(List (Int×Unit))×cH×cM×aT×aT×Int×List ByteArray×List ByteArray×(List (Int×Unit))×Unit→bQ (Nat×Int×Int×(List (Int×Unit))×cH×cM×aT×aT×Int×List ByteArray×List ByteArray×(List (Int×Unit))×Unit):=fun e (Y4,w22,w23,m23,m1,m2,m3,m4,EP,LA,LB,m26,_) =>
 .ni (e.1+EP) <|
 .bd (FH100 (e.1+EP) m26) fun y7 =>
 .nd (jB m23 m23) <|
 .ret (Y4,w22,w23,m23,m1,m2,m3,m4,EP,LA,LB,y7.1,())
noncomputable def uZ:rG prog 14 none 26:=B5 mixed kD lu [0,1,2,3,4,5,6,7,8,9,10,11,12,13,14,15,16,17,18,19,20,21,22,23,24,25] rfl uX ( [.op (some 4) none (.load false 1 (.t 1))]) 4 5 [6,7] (some 8) ( .int .i64)  false ( .unit)  true 0 rfl 28 rfl (uY) (fun e x=>ak (gH67_v1_0b_2i_0 e x)) (fun e=>fun x=>by kernel_rfl)
@[reducible] def Ch:az:=az.mk [(2,.c (.ptr 5 0)),(3,.c (.ptr 6 0)),(5,.c (.ptr 7 0)),(8,.c (.ptr 20 0)),(11,.c (.ptr 21 0)),(21,.c (.b7 19 .str)),(22,hI),(23,hI),(36,.fn 132 [] [.ptr 22 0])] [(5,.cells [.ptr 0 0] false),(6,.cells [.fn0 78] false),(7,.cells [.mp 23] false),(20,.cells [.mp 24] false),(21,.cells [.hole tI] false),(19,.arr .str false),(22,.cells [.mp 23] false),(0,.cells [.mp 1,.mp 2,.mp 3,.mp 4] false),(1,.map .str false tG true),(2,.map .str false (.list .str) false),(3,.map .str false .bool false),(4,.map .str false .bool false),(8,.cells [.ptr 0 0] false),(10,.gX),(11,.loop .busy none 10 [(2,.c (.ptr 5 0)),(3,.c (.ptr 6 0)),(4,.c .bW),(5,.c (.ptr 7 0)),(17,.fn 106 [] [.ptr 8 0])] [18,19] (.aS [.op (some 7) none (.mv (.t 19))]) (.block 1 (.seq (.aS [.op (some 20) none (.ex (gw.iO tI false .unit true) []),.op (some 8) none (.alloc [.cB]),.op none none (.store 1 (.t 8) (.t 20))]) (.seq (.seq (.aS [.op (some 21) none (.mv (.t 7)),.op (some 22) none (.len (.t 21)),.op (some 23) none (.mv (.c (.int .i64 (Int.ofNat 0))))]) (.block 2 (.loop (.seq (.aS [.op (some 24) none (.bin .lss (.t 23) (.t 22))]) (.seq (.cond (.t 24) .skip (.exit 2)) (.seq (.block 3 (.seq (.aS [.op (some 25) none (.idx 1 (.t 21) (.t 23)),.op (some 26) none (.load false 1 (.t 25)),.op (some 10) none (.mv (.t 26))]) (.seq (.draw [[],[],[1],[1,2],[1,2,3],[],[1,2,3,4,5],[0,1,2,3,4,5,6],[],[0,1,2,3,4,5,6,7,8]] [.op (some 27) none (.load false 1 (.t 3)),.op (some 28) none (.load false 1 (.t 2)),.op (some 29) none (.ex gw.iN [.t 28]),.op (some 30) none (.mG 0 [false] (.t 29)),.op (some 31) none (.load false 1 (.t 30)),.op (some 32) none (.mv (.t 10)),.op (some 33) none (.ex (gw.fZ .str false tG true false) [.t 31,.t 32]),.call (some 34) none (.t 27) [.t 33] [some tG],.op (some 11) none (.alloc [.int .i64 (Int.ofNat 0)]),.op none none (.store 1 (.t 11) (.t 34))]) (.seq (.aS [.op (some 35) none (.load false 1 (.t 5)),.call (some 36) none (.c (.fn 101 [] [])) [.t 35] [none]]) (.block 4 (.bD (.t 36) [37] (.aS [.op (some 12) none (.mv (.t 37))]) (.block 5 (.aS [.op (some 38) none (.load false 1 (.t 8)),.op (some 39) none (.mv (.t 12)),.op (some 40) none (.load false 1 (.t 11)),.op (some 41) none (.bin .add (.t 39) (.t 40)),.call (some 42) none (.c (.fn 100 [] [])) [.t 38,.t 41] [none,some tI]])))))))) (.aS [.op (some 43) none (.bin .add (.t 23) (.c (.int .i64 (Int.ofNat 1)))),.op (some 23) none (.mv (.t 43))]))))))) (.aS [.op (some 44) none (.load false 1 (.t 8)),.op none none (.store 1 (.t 5) (.t 44))])))) 48),(12,.arr .str false),(23,.map tI false .unit true),(24,.map tI false .unit true)] [.slot 8,.slot 11,.part 36 0,.cell 7 0,.cell 20 0] []
@[reducible] def Ci:aW:=[(.normal,az.mk [(2,.c (.ptr 5 0)),(3,.c (.ptr 6 0)),(5,.c (.ptr 7 0)),(8,.c (.ptr 20 0)),(21,.c (.b7 19 .str)),(22,hI),(23,hI)] [(5,.cells [.ptr 0 0] false),(6,.cells [.fn0 78] false),(7,.cells [.mp 21] false),(20,.cells [.mp 22] false),(19,.arr .str false),(0,.cells [.mp 1,.mp 2,.mp 3,.mp 4] false),(1,.map .str false tG true),(2,.map .str false (.list .str) false),(3,.map .str false .bool false),(4,.map .str false .bool false),(8,.cells [.ptr 0 0] false),(10,.gX),(11,.loop .busy none 10 [(2,.c (.ptr 5 0)),(3,.c (.ptr 6 0)),(4,.c .bW),(5,.c (.ptr 7 0)),(17,.fn 106 [] [.ptr 8 0])] [18,19] (.aS [.op (some 7) none (.mv (.t 19))]) (.block 1 (.seq (.aS [.op (some 20) none (.ex (gw.iO tI false .unit true) []),.op (some 8) none (.alloc [.cB]),.op none none (.store 1 (.t 8) (.t 20))]) (.seq (.seq (.aS [.op (some 21) none (.mv (.t 7)),.op (some 22) none (.len (.t 21)),.op (some 23) none (.mv (.c (.int .i64 (Int.ofNat 0))))]) (.block 2 (.loop (.seq (.aS [.op (some 24) none (.bin .lss (.t 23) (.t 22))]) (.seq (.cond (.t 24) .skip (.exit 2)) (.seq (.block 3 (.seq (.aS [.op (some 25) none (.idx 1 (.t 21) (.t 23)),.op (some 26) none (.load false 1 (.t 25)),.op (some 10) none (.mv (.t 26))]) (.seq (.draw [[],[],[1],[1,2],[1,2,3],[],[1,2,3,4,5],[0,1,2,3,4,5,6],[],[0,1,2,3,4,5,6,7,8]] [.op (some 27) none (.load false 1 (.t 3)),.op (some 28) none (.load false 1 (.t 2)),.op (some 29) none (.ex gw.iN [.t 28]),.op (some 30) none (.mG 0 [false] (.t 29)),.op (some 31) none (.load false 1 (.t 30)),.op (some 32) none (.mv (.t 10)),.op (some 33) none (.ex (gw.fZ .str false tG true false) [.t 31,.t 32]),.call (some 34) none (.t 27) [.t 33] [some tG],.op (some 11) none (.alloc [.int .i64 (Int.ofNat 0)]),.op none none (.store 1 (.t 11) (.t 34))]) (.seq (.aS [.op (some 35) none (.load false 1 (.t 5)),.call (some 36) none (.c (.fn 101 [] [])) [.t 35] [none]]) (.block 4 (.bD (.t 36) [37] (.aS [.op (some 12) none (.mv (.t 37))]) (.block 5 (.aS [.op (some 38) none (.load false 1 (.t 8)),.op (some 39) none (.mv (.t 12)),.op (some 40) none (.load false 1 (.t 11)),.op (some 41) none (.bin .add (.t 39) (.t 40)),.call (some 42) none (.c (.fn 100 [] [])) [.t 38,.t 41] [none,some tI]])))))))) (.aS [.op (some 43) none (.bin .add (.t 23) (.c (.int .i64 (Int.ofNat 1)))),.op (some 23) none (.mv (.t 43))]))))))) (.aS [.op (some 44) none (.load false 1 (.t 8)),.op none none (.store 1 (.t 5) (.t 44))])))) 48),(12,.arr .str false),(21,.map tI false .unit true),(22,.map tI false .unit true)] [.slot 8,.cell 7 0,.cell 20 0] [])]
noncomputable def qe:D prog 14 none 26:=dO [.m uZ] (kd prog f132) 0
theorem zx:cL prog f132=some ⟨14,2,(qe).er,[],[]⟩:=by kernel_rfl
noncomputable def gH67_v1_0b_2:Nat×Int×Int×Int×List ByteArray×cH×cM×aT×aT×List ByteArray×(List (Int×Unit))×(List (Int×Unit))×Unit→bQ ((Nat×Int×Int×List ByteArray×cH×cM×aT×aT×List ByteArray×(List (Int×Unit))×(List (Int×Unit))×Unit)):=fun (yf,v22,v23,EP,LA,m1,m2,m3,m4,LB,m23,m24,_) =>
 .bd (.mq gH67_v1_0b_2i_0 m23 (yf,v22,v23,m23,m1,m2,m3,m4,EP,LA,LB,m24,())) fun z8 =>
 .ret ((yf,v22,v23,z8.2.2.2.2.2.2.2.2.2.1,z8.2.2.2.2.1,z8.2.2.2.2.2.1,z8.2.2.2.2.2.2.1,z8.2.2.2.2.2.2.2.1,z8.2.2.2.2.2.2.2.2.2.2.1,z8.2.2.2.1,z8.2.2.2.2.2.2.2.2.2.2.2.1,()))
noncomputable def Cj:gm prog 48 (some 11) 20:=rP mixed kD lu [0,1,2,3,4,5,6,7,8,9,10,11,12,13,14,15,16,17,18,19] rfl Ch Ci ( .t 36) [37] rfl (qc).er (qd).er 132 func132 (zx) (enters_of func132 rfl rfl) 26 rfl (qe) rfl (fun x=>ak (gH67_v1_0b_2 x)) (fun x=>by kernel_rfl)
@[reducible] def Ck:az:=az.mk [(2,.c (.ptr 5 0)),(3,.c (.ptr 6 0)),(5,.c (.ptr 7 0)),(8,.c (.ptr 20 0)),(21,.c (.b7 19 .str)),(22,hI),(23,hI)] [(5,.cells [.ptr 0 0] false),(6,.cells [.fn0 78] false),(7,.cells [.mp 21] false),(20,.cells [.mp 22] false),(19,.arr .str false),(0,.cells [.mp 1,.mp 2,.mp 3,.mp 4] false),(1,.map .str false tG true),(2,.map .str false (.list .str) false),(3,.map .str false .bool false),(4,.map .str false .bool false),(8,.cells [.ptr 0 0] false),(10,.gX),(11,.loop .busy none 10 [(2,.c (.ptr 5 0)),(3,.c (.ptr 6 0)),(4,.c .bW),(5,.c (.ptr 7 0)),(17,.fn 106 [] [.ptr 8 0])] [18,19] (.aS [.op (some 7) none (.mv (.t 19))]) (.block 1 (.seq (.aS [.op (some 20) none (.ex (gw.iO tI false .unit true) []),.op (some 8) none (.alloc [.cB]),.op none none (.store 1 (.t 8) (.t 20))]) (.seq (.seq (.aS [.op (some 21) none (.mv (.t 7)),.op (some 22) none (.len (.t 21)),.op (some 23) none (.mv (.c (.int .i64 (Int.ofNat 0))))]) (.block 2 (.loop (.seq (.aS [.op (some 24) none (.bin .lss (.t 23) (.t 22))]) (.seq (.cond (.t 24) .skip (.exit 2)) (.seq (.block 3 (.seq (.aS [.op (some 25) none (.idx 1 (.t 21) (.t 23)),.op (some 26) none (.load false 1 (.t 25)),.op (some 10) none (.mv (.t 26))]) (.seq (.draw [[],[],[1],[1,2],[1,2,3],[],[1,2,3,4,5],[0,1,2,3,4,5,6],[],[0,1,2,3,4,5,6,7,8]] [.op (some 27) none (.load false 1 (.t 3)),.op (some 28) none (.load false 1 (.t 2)),.op (some 29) none (.ex gw.iN [.t 28]),.op (some 30) none (.mG 0 [false] (.t 29)),.op (some 31) none (.load false 1 (.t 30)),.op (some 32) none (.mv (.t 10)),.op (some 33) none (.ex (gw.fZ .str false tG true false) [.t 31,.t 32]),.call (some 34) none (.t 27) [.t 33] [some tG],.op (some 11) none (.alloc [.int .i64 (Int.ofNat 0)]),.op none none (.store 1 (.t 11) (.t 34))]) (.seq (.aS [.op (some 35) none (.load false 1 (.t 5)),.call (some 36) none (.c (.fn 101 [] [])) [.t 35] [none]]) (.block 4 (.bD (.t 36) [37] (.aS [.op (some 12) none (.mv (.t 37))]) (.block 5 (.aS [.op (some 38) none (.load false 1 (.t 8)),.op (some 39) none (.mv (.t 12)),.op (some 40) none (.load false 1 (.t 11)),.op (some 41) none (.bin .add (.t 39) (.t 40)),.call (some 42) none (.c (.fn 100 [] [])) [.t 38,.t 41] [none,some tI]])))))))) (.aS [.op (some 43) none (.bin .add (.t 23) (.c (.int .i64 (Int.ofNat 1)))),.op (some 23) none (.mv (.t 43))]))))))) (.aS [.op (some 44) none (.load false 1 (.t 8)),.op none none (.store 1 (.t 5) (.t 44))])))) 48),(12,.arr .str false),(21,.map tI false .unit true),(22,.map tI false .unit true)] [.slot 8,.cell 7 0,.cell 20 0] []
@[reducible] def Cl:aW:=[(.exit 2,az.mk [(5,.c (.ptr 7 0)),(8,.c (.ptr 20 0))] [(7,.cells [.mp 21] false),(20,.cells [.mp 22] false),(0,.cells [.mp 1,.mp 2,.mp 3,.mp 4] false),(1,.map .str false tG true),(2,.map .str false (.list .str) false),(3,.map .str false .bool false),(4,.map .str false .bool false),(5,.cells [.ptr 0 0] false),(6,.cells [.fn0 78] false),(8,.cells [.ptr 0 0] false),(10,.gX),(11,.loop .busy none 10 [(2,.c (.ptr 5 0)),(3,.c (.ptr 6 0)),(4,.c .bW),(5,.c (.ptr 7 0)),(17,.fn 106 [] [.ptr 8 0])] [18,19] (.aS [.op (some 7) none (.mv (.t 19))]) (.block 1 (.seq (.aS [.op (some 20) none (.ex (gw.iO tI false .unit true) []),.op (some 8) none (.alloc [.cB]),.op none none (.store 1 (.t 8) (.t 20))]) (.seq (.seq (.aS [.op (some 21) none (.mv (.t 7)),.op (some 22) none (.len (.t 21)),.op (some 23) none (.mv (.c (.int .i64 (Int.ofNat 0))))]) (.block 2 (.loop (.seq (.aS [.op (some 24) none (.bin .lss (.t 23) (.t 22))]) (.seq (.cond (.t 24) .skip (.exit 2)) (.seq (.block 3 (.seq (.aS [.op (some 25) none (.idx 1 (.t 21) (.t 23)),.op (some 26) none (.load false 1 (.t 25)),.op (some 10) none (.mv (.t 26))]) (.seq (.draw [[],[],[1],[1,2],[1,2,3],[],[1,2,3,4,5],[0,1,2,3,4,5,6],[],[0,1,2,3,4,5,6,7,8]] [.op (some 27) none (.load false 1 (.t 3)),.op (some 28) none (.load false 1 (.t 2)),.op (some 29) none (.ex gw.iN [.t 28]),.op (some 30) none (.mG 0 [false] (.t 29)),.op (some 31) none (.load false 1 (.t 30)),.op (some 32) none (.mv (.t 10)),.op (some 33) none (.ex (gw.fZ .str false tG true false) [.t 31,.t 32]),.call (some 34) none (.t 27) [.t 33] [some tG],.op (some 11) none (.alloc [.int .i64 (Int.ofNat 0)]),.op none none (.store 1 (.t 11) (.t 34))]) (.seq (.aS [.op (some 35) none (.load false 1 (.t 5)),.call (some 36) none (.c (.fn 101 [] [])) [.t 35] [none]]) (.block 4 (.bD (.t 36) [37] (.aS [.op (some 12) none (.mv (.t 37))]) (.block 5 (.aS [.op (some 38) none (.load false 1 (.t 8)),.op (some 39) none (.mv (.t 12)),.op (some 40) none (.load false 1 (.t 11)),.op (some 41) none (.bin .add (.t 39) (.t 40)),.call (some 42) none (.c (.fn 100 [] [])) [.t 38,.t 41] [none,some tI]])))))))) (.aS [.op (some 43) none (.bin .add (.t 23) (.c (.int .i64 (Int.ofNat 1)))),.op (some 23) none (.mv (.t 43))]))))))) (.aS [.op (some 44) none (.load false 1 (.t 8)),.op none none (.store 1 (.t 5) (.t 44))])))) 48),(12,.arr .str false),(19,.arr .str false),(21,.map tI false .unit true),(22,.map tI false .unit true)] [.slot 8,.cell 7 0,.cell 20 0] [])]
noncomputable def Cm:D prog 48 (some 11) 20:=dO [.r Cj] (pick (kd prog f67) [(0,true),(0,false)]) 0
noncomputable def gH67_v1_0b_1:Nat×Int×Int×List ByteArray×cH×cM×aT×aT×List ByteArray×(List (Int×Unit))×(List (Int×Unit))×Unit→bQ ((Nat×Int×Int×List ByteArray×cH×cM×aT×aT×List ByteArray×(List (Int×Unit))×(List (Int×Unit))×Unit) ⊕ ((cH×cM×aT×aT×List ByteArray×List ByteArray×(List (Int×Unit))×(List (Int×Unit))×Unit))):=fun (yf,v22,v23,LA,m1,m2,m3,m4,LB,m21,m22,_) =>
 .br (decide (v23<v22)) (
 .nb v23 ((yf:Nat):Int) <|
 .nd (decide (((0:Nat)+(Int.toNat v23))<(LA).length)) <|
 .bd (F78 ((ay .str ((bs []),(0:Int),(bs []),(bs []),(0:Int)) m1 ((LA).getD ((0:Nat)+(Int.toNat v23)) (bs []))).1,(ay .str ((bs []),(0:Int),(bs []),(bs []),(0:Int)) m1 ((LA).getD ((0:Nat)+(Int.toNat v23)) (bs []))).2.1,(ay .str ((bs []),(0:Int),(bs []),(bs []),(0:Int)) m1 ((LA).getD ((0:Nat)+(Int.toNat v23)) (bs []))).2.2.1,(ay .str ((bs []),(0:Int),(bs []),(bs []),(0:Int)) m1 ((LA).getD ((0:Nat)+(Int.toNat v23)) (bs []))).2.2.2.1,(ay .str ((bs []),(0:Int),(bs []),(bs []),(0:Int)) m1 ((LA).getD ((0:Nat)+(Int.toNat v23)) (bs []))).2.2.2.2)) fun y5 =>
 .bd (FH101 m21) fun y6 =>
 .bd (gH67_v1_0b_2 (yf,v22,v23,y5.1,LA,m1,m2,m3,m4,LB,y6.1,m22,())) fun z9 =>
 .ni (z9.2.2.1+(1:Int)) <|
 .ret (.inl (z9.1,z9.2.1,(z9.2.2.1+(1:Int)),z9.2.2.2.1,z9.2.2.2.2.1,z9.2.2.2.2.2.1,z9.2.2.2.2.2.2.1,z9.2.2.2.2.2.2.2.1,z9.2.2.2.2.2.2.2.2.1,z9.2.2.2.2.2.2.2.2.2.1,z9.2.2.2.2.2.2.2.2.2.2.1,()))) (
 .ret (.inr (m1,m2,m3,m4,LB,LA,m21,m22,())))
noncomputable def Cn:bS prog 48 (some 11) 20:=bE mixed mj gF [0,1,2,3,4,5,6,7,8,9,10,11,12,13,14,15,16,17,18,19] rfl Ck Cl rfl (Cm) (fun x=>ak (gH67_v1_0b_1 x)) (fun x=>by kernel_rfl)
noncomputable def yj:D prog 48 (some 11) 20:=dO [] (pick (kd prog f67) [(0,false)]) 0
noncomputable def ym:D prog 48 (some 11) 20:=dO [.l Cn] (pick (kd prog f67) [(0,true)]) 0
noncomputable def oL:Cx:=zo mj (fun kz=>Nn kz mj ek 11 20 [18,19] (yj) (ym))
theorem oM:(oL).Ok prog:=jJ gF (fun h=>mY mixed gF h)
@[reducible] def Co:az:=az.mk [(0,.c (.yl 11)),(1,.c (.ptr 8 0)),(10,.c (.b7 12 .str)),(11,hI),(12,hI)] [(11,.loop .ready none 10 [(2,.c (.ptr 5 0)),(3,.c (.ptr 6 0)),(4,.c .bW),(5,.c (.ptr 7 0)),(17,.fn 106 [] [.ptr 8 0])] [18,19] (.aS [.op (some 7) none (.mv (.t 19))]) (.block 1 (.seq (.aS [.op (some 20) none (.ex (gw.iO tI false .unit true) []),.op (some 8) none (.alloc [.cB]),.op none none (.store 1 (.t 8) (.t 20))]) (.seq (.seq (.aS [.op (some 21) none (.mv (.t 7)),.op (some 22) none (.len (.t 21)),.op (some 23) none (.mv (.c (.int .i64 (Int.ofNat 0))))]) (.block 2 (.loop (.seq (.aS [.op (some 24) none (.bin .lss (.t 23) (.t 22))]) (.seq (.cond (.t 24) .skip (.exit 2)) (.seq (.block 3 (.seq (.aS [.op (some 25) none (.idx 1 (.t 21) (.t 23)),.op (some 26) none (.load false 1 (.t 25)),.op (some 10) none (.mv (.t 26))]) (.seq (.draw [[],[],[1],[1,2],[1,2,3],[],[1,2,3,4,5],[0,1,2,3,4,5,6],[],[0,1,2,3,4,5,6,7,8]] [.op (some 27) none (.load false 1 (.t 3)),.op (some 28) none (.load false 1 (.t 2)),.op (some 29) none (.ex gw.iN [.t 28]),.op (some 30) none (.mG 0 [false] (.t 29)),.op (some 31) none (.load false 1 (.t 30)),.op (some 32) none (.mv (.t 10)),.op (some 33) none (.ex (gw.fZ .str false tG true false) [.t 31,.t 32]),.call (some 34) none (.t 27) [.t 33] [some tG],.op (some 11) none (.alloc [.int .i64 (Int.ofNat 0)]),.op none none (.store 1 (.t 11) (.t 34))]) (.seq (.aS [.op (some 35) none (.load false 1 (.t 5)),.call (some 36) none (.c (.fn 101 [] [])) [.t 35] [none]]) (.block 4 (.bD (.t 36) [37] (.aS [.op (some 12) none (.mv (.t 37))]) (.block 5 (.aS [.op (some 38) none (.load false 1 (.t 8)),.op (some 39) none (.mv (.t 12)),.op (some 40) none (.load false 1 (.t 11)),.op (some 41) none (.bin .add (.t 39) (.t 40)),.call (some 42) none (.c (.fn 100 [] [])) [.t 38,.t 41] [none,some tI]])))))))) (.aS [.op (some 43) none (.bin .add (.t 23) (.c (.int .i64 (Int.ofNat 1)))),.op (some 23) none (.mv (.t 43))]))))))) (.aS [.op (some 44) none (.load false 1 (.t 8)),.op none none (.store 1 (.t 5) (.t 44))])))) 48),(8,.cells [.ptr 0 0] false),(12,.arr .str false),(10,.gX),(5,.cells [.ptr 0 0] false),(0,.cells [.mp 1,.mp 2,.mp 3,.mp 4] false),(1,.map .str false tG true),(2,.map .str false (.list .str) false),(3,.map .str false .bool false),(4,.map .str false .bool false),(6,.cells [.fn0 78] false),(7,.cells [.mp 13] false),(13,.map tI false .unit true)] [.slot 10,.cell 7 0] []
@[reducible] def Cp:aW:=[(.exit 0,az.mk [] [(0,.cells [.mp 1,.mp 2,.mp 3,.mp 4] false),(1,.map .str false tG true),(2,.map .str false (.list .str) false),(3,.map .str false .bool false),(4,.map .str false .bool false),(5,.cells [.ptr 0 0] false),(6,.cells [.fn0 78] false),(7,.cells [.mp 12] false),(8,.cells [.ptr 0 0] false),(10,.gX),(11,.loop .ready none 10 [(2,.c (.ptr 5 0)),(3,.c (.ptr 6 0)),(4,.c .bW),(5,.c (.ptr 7 0)),(17,.fn 106 [] [.ptr 8 0])] [18,19] (.aS [.op (some 7) none (.mv (.t 19))]) (.block 1 (.seq (.aS [.op (some 20) none (.ex (gw.iO tI false .unit true) []),.op (some 8) none (.alloc [.cB]),.op none none (.store 1 (.t 8) (.t 20))]) (.seq (.seq (.aS [.op (some 21) none (.mv (.t 7)),.op (some 22) none (.len (.t 21)),.op (some 23) none (.mv (.c (.int .i64 (Int.ofNat 0))))]) (.block 2 (.loop (.seq (.aS [.op (some 24) none (.bin .lss (.t 23) (.t 22))]) (.seq (.cond (.t 24) .skip (.exit 2)) (.seq (.block 3 (.seq (.aS [.op (some 25) none (.idx 1 (.t 21) (.t 23)),.op (some 26) none (.load false 1 (.t 25)),.op (some 10) none (.mv (.t 26))]) (.seq (.draw [[],[],[1],[1,2],[1,2,3],[],[1,2,3,4,5],[0,1,2,3,4,5,6],[],[0,1,2,3,4,5,6,7,8]] [.op (some 27) none (.load false 1 (.t 3)),.op (some 28) none (.load false 1 (.t 2)),.op (some 29) none (.ex gw.iN [.t 28]),.op (some 30) none (.mG 0 [false] (.t 29)),.op (some 31) none (.load false 1 (.t 30)),.op (some 32) none (.mv (.t 10)),.op (some 33) none (.ex (gw.fZ .str false tG true false) [.t 31,.t 32]),.call (some 34) none (.t 27) [.t 33] [some tG],.op (some 11) none (.alloc [.int .i64 (Int.ofNat 0)]),.op none none (.store 1 (.t 11) (.t 34))]) (.seq (.aS [.op (some 35) none (.load false 1 (.t 5)),.call (some 36) none (.c (.fn 101 [] [])) [.t 35] [none]]) (.block 4 (.bD (.t 36) [37] (.aS [.op (some 12) none (.mv (.t 37))]) (.block 5 (.aS [.op (some 38) none (.load false 1 (.t 8)),.op (some 39) none (.mv (.t 12)),.op (some 40) none (.load false 1 (.t 11)),.op (some 41) none (.bin .add (.t 39) (.t 40)),.call (some 42) none (.c (.fn 100 [] [])) [.t 38,.t 41] [none,some tI]])))))))) (.aS [.op (some 43) none (.bin .add (.t 23) (.c (.int .i64 (Int.ofNat 1)))),.op (some 23) none (.mv (.t 43))]))))))) (.aS [.op (some 44) none (.load false 1 (.t 8)),.op none none (.store 1 (.t 5) (.t 44))])))) 48),(12,.map tI false .unit true)] [.cell 7 0] [])]
noncomputable def Cq:D prog 34 none 12:=dO [] (pick (kd prog f106) [(0,false)]) 0
noncomputable def gH67_v1_0i_0:Nat×Int×Int×List ByteArray×cH×cM×aT×aT×(List (Int×Unit))×Unit→bQ ((Nat×Int×Int×List ByteArray×cH×cM×aT×aT×(List (Int×Unit))×Unit) ⊕ ((cH×cM×aT×aT×(List (Int×Unit))×Unit))):=fun (yh,v11,v12,LB,m1,m2,m3,m4,m13,_) =>
 .br (decide (v12<v11)) (
 .nb v12 ((yh:Nat):Int) <|
 .nd (decide (((0:Nat)+(Int.toNat v12))<(LB).length)) <|
 .br ((ay .str ((bs []),(0:Int),(bs []),(bs []),(0:Int)) m1 ((LB).getD ((0:Nat)+(Int.toNat v12)) (bs []))).2.1==(1:Int)) (
 .bd (FH76fix ((LB).getD ((0:Nat)+(Int.toNat v12)) (bs [])) m1 m2 m3 m4) fun y4 =>
 .bd (.it gH67_v1_0b_1 (y4.1,((y4.1:Nat):Int),(0:Int),y4.2.1,y4.2.2.1,y4.2.2.2.1,y4.2.2.2.2.1,y4.2.2.2.2.2.1,LB,m13,[],())) fun lR =>
 .ni (v12+(1:Int)) <|
 .ret (.inl (yh,v11,(v12+(1:Int)),lR.2.2.2.2.1,lR.1,lR.2.1,lR.2.2.1,lR.2.2.2.1,lR.2.2.2.2.2.2.2.1,()))) (
 .ni (v12+(1:Int)) <|
 .ret (.inl (yh,v11,(v12+(1:Int)),LB,m1,m2,m3,m4,m13,())))) (
 .ret (.inr (m1,m2,m3,m4,m13,())))
noncomputable def Cr:bS prog 34 none 12:=bE mixed oL oM [0,1,2,3,4,5,6,7,8,9,10,11] rfl Co Cp rfl (Cq) (fun x=>ak (gH67_v1_0i_0 x)) (fun x=>by kernel_rfl)
@[reducible] def K1:az:=az.mk [(2,.c (.ptr 5 0)),(3,.c (.ptr 6 0)),(4,.c .bW),(5,.c (.ptr 7 0)),(17,.fn 106 [] [.ptr 8 0])] [(5,.cells [.ptr 0 0] false),(6,.cells [.fn0 78] false),(7,.cells [.mp 9] false),(8,.cells [.ptr 0 0] false),(0,.cells [.mp 1,.mp 2,.mp 3,.mp 4] false),(1,.map .str false tG true),(2,.map .str false (.list .str) false),(3,.map .str false .bool false),(4,.map .str false .bool false),(9,.map tI false .unit true)] [.slot 2,.slot 3,.slot 5,.part 17 0,.cell 7 0] []
@[reducible] def K2:aW:=[(.normal,az.mk [(5,.c (.ptr 5 0))] [(5,.cells [.mp 6] false),(0,.cells [.mp 1,.mp 2,.mp 3,.mp 4] false),(1,.map .str false tG true),(2,.map .str false (.list .str) false),(3,.map .str false .bool false),(4,.map .str false .bool false),(6,.map tI false .unit true)] [.slot 5,.cell 5 0] [])]
noncomputable def yp:D prog 34 none 12:=dO [.l Cr] (kd prog f106) 0
theorem He:cL prog f106=some ⟨34,2,(yp).er,[],[]⟩:=by kernel_rfl
noncomputable def gH67_v1_0:cH×cM×aT×aT×(List (Int×Unit))×Unit→bQ ((cH×cM×aT×aT×(List (Int×Unit))×Unit)):=fun (m1,m2,m3,m4,m9,_) =>
 .bd (FH95 m1) fun y2 =>
 .bd (FH81 y2.1) fun y3 =>
 .bd (.it gH67_v1_0i_0 (y3.1,((y3.1:Nat):Int),(0:Int),y3.2.1,y3.2.2.1,m2,m3,m4,m9,())) fun Lz =>
 .ret ((Lz.1,Lz.2.1,Lz.2.2.1,Lz.2.2.2.1,Lz.2.2.2.2.1,()))
noncomputable def K3:gm prog 48 none 5:=rP mixed oL oM [0,1,2,3,4] rfl K1 K2 ( .t 17) [18,19] rfl (yj).er (ym).er 106 func106 (He) (enters_of func106 rfl rfl) 12 rfl (yp) rfl (fun x=>ak (gH67_v1_0 x)) (fun x=>by kernel_rfl)
noncomputable def ER:D prog 48 none 5:=dO [.r K3] (kd prog f67) 0
noncomputable def FH67_v1 (m1:cH) (m2:cM) (m3:aT) (m4:aT):bQ (Nat×List Int×cH×cM×aT×aT×Unit) :=
 .bd (FH100 (0:Int) []) fun y0 =>
 .bd (FH79 m1 m2 m3 m4) fun y1 =>
 .bd (gH67_v1_0 (y1.1,y1.2.1,y1.2.2.1,y1.2.2.2.1,y0.1,())) fun z12 =>
 .bd (FH101 z12.2.2.2.2.1) fun Y8 =>
 .bd (FH102 Y8.1) fun Th =>
 .ret (Th.1,Th.2.1,z12.1,z12.2.1,z12.2.2.1,z12.2.2.2.1,())
theorem Hf:cL prog f67=some ⟨48,2,ER.er,[.t 4],[some tL]⟩:=by kernel_rfl
noncomputable def I5:Ht:=⟨67,Tp,Tq,(fun x=>ak (FH67_v1 x.1 x.2.1 x.2.2.1 x.2.2.2.1))⟩
theorem Hg:I5.Ok prog:=bP mixed gF rfl func67 Hf (enters_of func67 rfl rfl) ER (by kernel_rfl) rfl rfl ⟨_,rfl⟩ rfl (pre:=[0,1,2,3,4]) rfl (fun x=>by kernel_rfl)

/- 72 -/
noncomputable def cx72:Cx:=(aL [] [])
theorem Ts:cx72.Ok prog:=ax trivial trivial
noncomputable def dd72:D prog 13 none 0:=dO [] (kd prog f72) 0
noncomputable def F72 (a0:List Int):bQ ((Int×Int)×Unit) :=
 .nb (0:Int) (((a0).length:Nat):Int) <|
 .ni ((((a0).length:Nat):Int) - (1:Int)) <|
 .nb ((((a0).length:Nat):Int) - (1:Int)) (((a0).length:Nat):Int) <|
 .ret ((((a0).getD (Int.toNat (0:Int)) (0:Int)),((a0).getD (Int.toNat ((((a0).length:Nat):Int) - (1:Int))) (0:Int))),())
theorem Za:cL prog f72=some ⟨13,1,dd72.er,[.cell 2 true 2],[some (.prod tI tI)]⟩:=by kernel_rfl
noncomputable def Zb:Ct:=⟨72,[hL],.c (.hole (.prod tI tI)),fun x=>ak (F72 x.1)⟩
theorem I6:Zb.Ok prog:=cK mixed Ts func72 Za (enters_of func72 rfl rfl) dd72 (by kernel_rfl) rfl (fun x=>by kernel_rfl)

/- 37, lent -/
@[reducible] def pH37:az:=az.mk [(0,.c (.ptr 0 0))] [(0,.cells [.mp 1] false),(1,.map tG true .bool false)] [.slot 0,.cell 0 0] []
@[reducible] def qH37:az:=az.mk [(0,.cG [.hole (.prod tI tI),.hole tI])] [(0,.cells [.mp 1] false),(1,.map tG true .bool false)] [] []
noncomputable def adf:Cx:=(aL [Zb] [zu,Ep,I5])
theorem Pf:adf.Ok prog:=ax ⟨I6,trivial⟩ ⟨⟨nj,rfl⟩,⟨sk,rfl⟩,⟨Hg,rfl⟩,trivial⟩
noncomputable def V6:D prog 11 none 2:=dO [] (kd prog f37) 0
noncomputable def FH37 (m1:List ((GG)×Bool)):bQ ((Int×Int)×Int×(List ((GG)×Bool))×Unit) :=
 .bd (FH54 m1) fun y0 =>
 .br y0.1 (
 .ret (((0:Int),(0:Int)),(9:Int),y0.2.1,())) (
 .bd (FH66 y0.2.1) fun y1 =>
 .bd (FH67_v1 y1.2.1 y1.2.2.1 y1.2.2.2.1 y1.2.2.2.2.1) fun y2 =>
 .bd (F72 (((y2.2.1).drop (0:Nat)).take y2.1)) fun y3 =>
 .ret ((y3.1.1,y3.1.2),(0:Int),y1.1,()))
theorem Tt:cL prog f37=some ⟨11,1,V6.er,[.cell 2 true 2,.t 3],[some (.prod tI tI),some tI]⟩:=by kernel_rfl
noncomputable def Zc:Ht:=⟨37,pH37,qH37,(fun x=>ak (FH37 x.1))⟩
theorem I7:Zc.Ok prog:=bP mixed Pf rfl func37 Tt (enters_of func37 rfl rfl) V6 (by kernel_rfl) rfl rfl ⟨_,rfl⟩ rfl (pre:=[0,1]) rfl (fun x=>by kernel_rfl)

/- 25, lent -/
@[reducible] def pH25:az:=az.mk [(0,.c (.ptr 0 0)),(1,.c (.hole .str))] [(0,.cells [.mp 1] false),(1,.map tG true .bool false)] [.slot 0,.cell 0 0] []
@[reducible] def qH25:az:=az.mk [(0,.cG [.hole (.prod tI tI),.hole tI])] [(0,.cells [.mp 1] false),(1,.map tG true .bool false)] [] []
noncomputable def adg:Cx:=(aL [Zb] [Tm])
theorem Pg:adg.Ok prog:=ax ⟨I6,trivial⟩ ⟨⟨Cg,rfl⟩,trivial⟩
noncomputable def V7:D prog 20 none 2:=dO [] (kd prog f25) 0
noncomputable def FH25 (v1:ByteArray) (m1:List ((GG)×Bool)):bQ ((Int×Int)×Int×(List ((GG)×Bool))×Unit) :=
 .bd (FH23 v1 m1) fun y0 =>
 .br (!(y0.2.1==(0:Int))) (
 .ret (((0:Int),(0:Int)),y0.2.1,y0.2.2.2.1,())) (
 .bd (F72 (((y0.2.2.1).drop (0:Nat)).take y0.1)) fun y1 =>
 .ret ((y1.1.1,y1.1.2),(0:Int),y0.2.2.2.1,()))
theorem Tu:cL prog f25=some ⟨20,2,V7.er,[.cell 4 true 2,.t 5],[some (.prod tI tI),some tI]⟩:=by kernel_rfl
noncomputable def Zd:Ht:=⟨25,pH25,qH25,(fun x=>ak (FH25 x.1 x.2.1))⟩
theorem I8:Zd.Ok prog:=bP mixed Pg rfl func25 Tu (enters_of func25 rfl rfl) V7 (by kernel_rfl) rfl rfl ⟨_,rfl⟩ rfl (pre:=[0,1]) rfl (fun x=>by kernel_rfl)

/- 36 -/
noncomputable def cx36:Cx:=(aL [] [])
theorem I9:cx36.Ok prog:=ax trivial trivial
@[reducible] def adi:az:=az.mk [(0,.c (.hole (.list .str))),(1,.c (.hole (.list .str))),(5,hI)] [] [] []
@[reducible] def adj:aW:=[(.ret,az.mk [(4,.c (.tf false))] [] [] []),(.exit 0,az.mk [] [] [] [])]
noncomputable def adk:D prog 26 none 0:=dO [] (pick (kd prog f36) [(0,false)]) 0
noncomputable def g36_0:List ByteArray×List ByteArray×Int×Unit→bQ ((List ByteArray×List ByteArray×Int×Unit) ⊕ ((Unit) ⊕ ((Unit)))):=fun (v0,v1,v5,_) =>
 .br (decide (v5<(((v0).length:Nat):Int))) (
 .nb v5 (((v0).length:Nat):Int) <|
 .nb v5 (((v1).length:Nat):Int) <|
 .br (!(seq ((v0).getD (Int.toNat v5) (bs [])) ((v1).getD (Int.toNat v5) (bs [])))) (
 .ret (.inr <| .inl<|())) (
 .ni (v5+(1:Int)) <|
 .ret (.inl (v0,v1,(v5+(1:Int)),())))) (
 .ret (.inr <| .inr<|()))
noncomputable def adl:bS prog 26 none 0:=bE mixed cx36 I9 [] rfl adi adj rfl (adk) (fun x=>ak (g36_0 x)) (fun x=>by kernel_rfl)
noncomputable def dd36:D prog 26 none 0:=dO [.l adl] (kd prog f36) 0
noncomputable def F36 (a0:List ByteArray) (a1:List ByteArray):bQ (Bool×Unit) :=
 .br (!((((a0).length:Nat):Int)==(((a1).length:Nat):Int))) (
 .ret (false,())) (
 .bd (.it g36_0 (a0,a1,(0:Int),())) fun z0 =>
 .sm z0 (fun z1 =>
 .ret (false,())) fun z2 =>
 .ret (true,()))
theorem Ze:cL prog f36=some ⟨26,2,dd36.er,[.t 4],[some .bool]⟩:=by kernel_rfl
noncomputable def ct36:Ct:=⟨36,[.c (.hole (.list .str)),.c (.hole (.list .str))],.c (.hole .bool),fun x=>ak (F36 x.1 x.2.1)⟩
theorem Tv:ct36.Ok prog:=cK mixed I9 func36 Ze (enters_of func36 rfl rfl) dd36 (by kernel_rfl) rfl (fun x=>by kernel_rfl)

/- 27 -/
noncomputable def cx27:Cx:=(aL [] [])
theorem Ja:cx27.Ok prog:=ax trivial trivial
@[reducible] def adp:az:=az.mk [(0,hL),(1,hL),(5,hI)] [] [] []
@[reducible] def adq:aW:=[(.ret,az.mk [(4,.c (.tf false))] [] [] []),(.exit 0,az.mk [] [] [] [])]
noncomputable def adr:D prog 26 none 0:=dO [] (pick (kd prog f27) [(0,false)]) 0
noncomputable def g27_0:List Int×List Int×Int×Unit→bQ ((List Int×List Int×Int×Unit) ⊕ ((Unit) ⊕ ((Unit)))):=fun (v0,v1,v5,_) =>
 .br (decide (v5<(((v0).length:Nat):Int))) (
 .nb v5 (((v0).length:Nat):Int) <|
 .nb v5 (((v1).length:Nat):Int) <|
 .br (!(((v0).getD (Int.toNat v5) (0:Int))==((v1).getD (Int.toNat v5) (0:Int)))) (
 .ret (.inr <| .inl<|())) (
 .ni (v5+(1:Int)) <|
 .ret (.inl (v0,v1,(v5+(1:Int)),())))) (
 .ret (.inr <| .inr<|()))
noncomputable def ads:bS prog 26 none 0:=bE mixed cx27 Ja [] rfl adp adq rfl (adr) (fun x=>ak (g27_0 x)) (fun x=>by kernel_rfl)
noncomputable def dd27:D prog 26 none 0:=dO [.l ads] (kd prog f27) 0
noncomputable def F27 (a0:List Int) (a1:List Int):bQ (Bool×Unit) :=
 .br (!((((a0).length:Nat):Int)==(((a1).length:Nat):Int))) (
 .ret (false,())) (
 .bd (.it g27_0 (a0,a1,(0:Int),())) fun z0 =>
 .sm z0 (fun z1 =>
 .ret (false,())) fun z2 =>
 .ret (true,()))
theorem Zf:cL prog f27=some ⟨26,2,dd27.er,[.t 4],[some .bool]⟩:=by kernel_rfl
noncomputable def Zg:Ct:=⟨27,[hL,hL],.c (.hole .bool),fun x=>ak (F27 x.1 x.2.1)⟩
theorem Jb:Zg.Ok prog:=cK mixed Ja func27 Zf (enters_of func27 rfl rfl) dd27 (by kernel_rfl) rfl (fun x=>by kernel_rfl)

/- 80, lent -/
@[reducible] def pH80:az:=az.mk [(0,.c (.mp 0)),(1,.c (.hole .str))] [(0,.map .str false .unit true)] [.slot 0] []
@[reducible] def qH80:az:=az.mk [(0,.c .any)] [(0,.map .str false .unit true)] [] []
noncomputable def adu:Cx:=(aL [] [])
theorem Ph:adu.Ok prog:=ax trivial trivial
noncomputable def V8:D prog 7 none 1:=dO [] (kd prog f80) 0
noncomputable def FH80 (v1:ByteArray) (m0:List (ByteArray×Unit)):bQ ((List (ByteArray×Unit))×Unit) :=
 .ret ((aZ .str m0 v1 ()),())
theorem Tw:cL prog f80=some ⟨7,2,V8.er,[],[]⟩:=by kernel_rfl
noncomputable def ht80:Ht:=⟨80,pH80,qH80,(fun x=>ak (FH80 x.1 x.2.1))⟩
theorem Tx:ht80.Ok prog:=bP mixed Ph rfl func80 Tw (enters_of func80 rfl rfl) V8 (by kernel_rfl) rfl rfl ⟨_,rfl⟩ rfl (pre:=[0]) rfl (fun x=>by kernel_rfl)

/- 108, lent -/
@[reducible] def adw:az:=az.mk [(0,.c (.mp 0))] [(0,.map .str false .unit true)] [.slot 0] []
@[reducible] def adx:az:=az.mk [(0,.fn 127 [] [.ptr 1 0])] [(1,.cells [.mp 0] false),(0,.map .str false .unit true)] [.part 0 0] []
noncomputable def Zh:Cx:=(aL [] [])
theorem K4:Zh.Ok prog:=ax trivial trivial
noncomputable def Pj:D prog 4 none 1:=dO [] (kd prog f108) 0
noncomputable def FH108 (m0:List (ByteArray×Unit)):bQ ((List (ByteArray×Unit))×Unit) :=
 .ret (m0,())
theorem Pk:cL prog f108=some ⟨4,1,Pj.er,[.t 2],[none]⟩:=by kernel_rfl
noncomputable def V9:Ht:=⟨108,adw,adx,(fun x=>ak (FH108 x.1))⟩
theorem Pm:V9.Ok prog:=bP mixed K4 rfl func108 Pk (enters_of func108 rfl rfl) Pj (by kernel_rfl) rfl rfl ⟨_,rfl⟩ rfl (pre:=[0]) rfl (fun x=>by kernel_rfl)

/- 82, lent -/
@[reducible] def pH82:az:=az.mk [(0,.c (.mp 0))] [(0,.map .str false .unit true)] [.slot 0] []
@[reducible] def qH82:az:=az.mk [(0,.fn 127 [] [.ptr 1 0])] [(1,.cells [.mp 0] false),(0,.map .str false .unit true)] [.part 0 0] []
noncomputable def ady:Cx:=(aL [] [V9])
theorem Pn:ady.Ok prog:=ax trivial ⟨⟨Pm,rfl⟩,trivial⟩
noncomputable def Wa:D prog 5 none 1:=dO [] (kd prog f82) 0
noncomputable def FH82 (m0:List (ByteArray×Unit)):bQ ((List (ByteArray×Unit))×Unit) :=
 .bd (FH108 m0) fun y0 =>
 .ret (y0.1,())
theorem Tz:cL prog f82=some ⟨5,1,Wa.er,[.t 2],[none]⟩:=by kernel_rfl
noncomputable def ht82:Ht:=⟨82,pH82,qH82,(fun x=>ak (FH82 x.1))⟩
theorem TA:ht82.Ok prog:=bP mixed Pn rfl func82 Tz (enters_of func82 rfl rfl) Wa (by kernel_rfl) rfl rfl ⟨_,rfl⟩ rfl (pre:=[0]) rfl (fun x=>by kernel_rfl)

/- 81, lent -/
@[reducible] def TB:az:=az.mk [(0,.fn 127 [] [.ptr 0 0])] [(0,.cells [.mp 1] false),(1,.map .str false .unit true)] [.part 0 0,.cell 0 0] []
@[reducible] def TC:az:=az.mk [(0,.c (.b7 2 .str))] [(2,.arr .str false),(0,.cells [.mp 1] false),(1,.map .str false .unit true)] [.slot 0] []
noncomputable def nk:Cx:=(aL [] [AF])
theorem lN:nk.Ok prog:=ax (vr:=[]) (hts:=[AF]) trivial ⟨⟨xW,rfl⟩,trivial⟩
noncomputable def kF:D prog 13 (some 4) 7:=dO [] (pick (kd prog f126) [(0,false)]) 0
noncomputable def kG:D prog 13 (some 4) 7:=dO [] (pick (kd prog f126) [(0,true)]) 0
noncomputable def fC:Cx:=zo nk (fun kz=>Nn kz nk ek 4 7 [7] (kF) (kG))
theorem gT:(fC).Ok prog:=jJ lN (fun h=>mY mixed lN h)
@[reducible] def oN:az:=az.mk [(0,.c (.yl 4)),(4,.c (.mp 1))] [(4,.loop .ready none 3 [(2,.c (.ptr 2 0)),(4,.c .bW),(6,.fn 127 [] [.ptr 0 0])] [7] (.aS [.op (some 5) none (.mv (.t 7))]) (.block 1 (.aS [.op (some 8) none (.load false 1 (.t 2)),.op (some 9) none (.mv (.t 5)),.op (some 10) none (.dR .str [.t 9]),.op (some 11) none (.append 1 (.t 8) (.t 10)),.op none none (.store 1 (.t 2) (.t 11))])) 13),(1,.map .str false .unit true),(3,.gX),(2,.cells [.b7 5 .str] false),(0,.cells [.mp 1] false),(5,.arr .str false)] [.cell 2 0] []
noncomputable def oO:D prog 14 none 7:=dO [] (pick (kd prog f127) [(0,false)]) 0
noncomputable def gH81_v1f107f126_0i_0:((ByteArray)×(Unit))→(List (ByteArray×Unit))×Nat×List ByteArray×Unit→bQ ((List (ByteArray×Unit))×Nat×List ByteArray×Unit):=fun e (m1,kr,b5,_) =>
 .nd (decide ((kr+(((((e.1::[])).drop (0:Nat)).take (1:Nat))).length)<cg)) <|
 .nd (jB m1 m1) <|
 .ret (m1,(kr+(((((e.1::[])).drop (0:Nat)).take (1:Nat))).length),((((b5).drop (0:Nat)).take kr)++((((e.1::[])).drop (0:Nat)).take (1:Nat))),())
noncomputable def oP:rG prog 14 none 5:=vz mixed fC gT [0,1,2,3,4] rfl oN ( [.op (some 4) none (.load false 1 (.t 1))]) 4 5 [6,7] (some 8) ( .str)  false ( .unit)  true 0 rfl 7 rfl (oO) (fun e x=>ak (gH81_v1f107f126_0i_0 e x)) (fun e=>fun x=>by kernel_rfl)
@[reducible] def su:az:=az.mk [(2,.c (.ptr 2 0)),(4,.c .bW),(6,.fn 127 [] [.ptr 0 0])] [(2,.cells [.bW] false),(0,.cells [.mp 1] false),(1,.map .str false .unit true)] [.slot 2] []
@[reducible] def sv:aW:=[(.normal,az.mk [(2,.c (.ptr 2 0))] [(2,.cells [.b7 3 .str] false),(0,.cells [.mp 1] false),(1,.map .str false .unit true),(3,.arr .str false)] [.slot 2,.cell 2 0] [])]
noncomputable def kH:D prog 14 none 5:=dO [.m oP] (kd prog f127) 0
theorem qG:cL prog f127=some ⟨14,2,(kH).er,[],[]⟩:=by kernel_rfl
noncomputable def lz:gm prog 13 none 2:=rS mixed fC gT [0,1] rfl su sv ( .t 6) [7] rfl (kF).er (kG).er 127 func127 (qG) (enters_of func127 rfl rfl) 5 rfl (kH) rfl
@[reducible] noncomputable def Hi:Go.AM.Fn:=⟨13,2,(dO [.r lz] (kd prog f126) 0:D prog 13 none 2).er,[.t 4],[some (.list .str)]⟩
noncomputable def yq:Cx:=Az prog nk 126 Hi 2 (dO [.r lz] (kd prog f126) 0)
theorem zy:yq.Ok prog:=rR mixed lN func126 (by kernel_rfl) (enters_of func126 rfl rfl) rfl
@[reducible] noncomputable def Hj:Go.AM.Fn:=⟨5,1,(dO [] (kd prog f107) 0:D prog 5 none 0).er,[.t 2],[some (.list .str)]⟩
noncomputable def yu:Cx:=D6 prog yq 107 Hj (fun _=>dO [] (kd prog f107) 0)
theorem zz:yu.Ok prog:=pF mixed zy func107 (by kernel_rfl) (enters_of func107 rfl rfl) (fun _=>by kernel_rfl)
noncomputable def Po:Cx:=yu
theorem ET:Po.Ok prog:=zz
noncomputable def EU:D prog 9 none 2:=dO [] (kd prog f81) 0
noncomputable def FH81_v1 (m1:List (ByteArray×Unit)):bQ (Nat×List ByteArray×(List (ByteArray×Unit))×Unit) :=
 .an m1 fun l0 =>
 .bd (.fm gH81_v1f107f126_0i_0 l0 (m1,(0:Nat),[],())) fun z1 =>
 .bd (FH105 z1.2.1 z1.2.2.1) fun y2 =>
 .ret (z1.2.1,y2.1,z1.1,())
theorem Hl:cL prog f81=some ⟨9,1,EU.er,[.t 2],[some (.list .str)]⟩:=by kernel_rfl
noncomputable def Jc:Ht:=⟨81,TB,TC,(fun x=>ak (FH81_v1 x.1))⟩
theorem Ho:Jc.Ok prog:=bP mixed ET rfl func81 Hl (enters_of func81 rfl rfl) EU (by kernel_rfl) rfl rfl ⟨_,rfl⟩ rfl (pre:=[0,1]) rfl (fun x=>by kernel_rfl)

/- 45, lent -/
@[reducible] def pH45:az:=az.mk [(0,.c (.ptr 0 0))] [(0,.cells [.mp 1] false),(1,.map tG true .bool false)] [.slot 0,.cell 0 0] []
@[reducible] def qH45:az:=az.mk [(0,.c (.b7 2 .str))] [(2,.arr .str false),(0,.cells [.mp 1] false),(1,.map tG true .bool false)] [.slot 0] []
noncomputable def Jd:Cx:=(aL [] [zu,Ep,Td,Oj,Om,GR,ht80,ht82,Jc])
theorem sw:Jd.Ok prog:=ax trivial ⟨⟨nj,rfl⟩,⟨sk,rfl⟩,⟨Cc,rfl⟩,⟨vG,rfl⟩,⟨vI,rfl⟩,⟨sq,rfl⟩,⟨Tx,rfl⟩,⟨TA,rfl⟩,⟨Ho,rfl⟩,trivial⟩
@[reducible] def K5:az:=az.mk [(3,.c (.ptr 2 0)),(4,.c (.ptr 3 0)),(18,.c (.b7 20 .str)),(19,hI),(20,hI)] [(2,.cells [.ptr 5 0] false),(3,.cells [.mp 21] false),(20,.arr .str false),(5,.cells [.mp 7,.mp 8,.mp 9,.mp 10] false),(7,.map .str false tG true),(8,.map .str false (.list .str) false),(9,.map .str false .bool false),(10,.map .str false .bool false),(0,.cells [.mp 1] false),(1,.map tG true .bool false),(4,.cells [.ptr 5 0] false),(11,.gX),(12,.loop .busy none 11 [(2,.c .bW),(3,.c (.ptr 2 0)),(4,.c (.ptr 3 0)),(15,.fn 106 [] [.ptr 4 0])] [16,17] (.aS [.op (some 6) none (.mv (.t 17))]) (.block 1 (.seq (.aS [.op (some 18) none (.mv (.t 6)),.op (some 19) none (.len (.t 18)),.op (some 20) none (.mv (.c (.int .i64 (Int.ofNat 0))))]) (.block 2 (.loop (.seq (.aS [.op (some 21) none (.bin .lss (.t 20) (.t 19))]) (.seq (.cond (.t 21) .skip (.exit 2)) (.seq (.block 3 (.seq (.aS [.op (some 22) none (.idx 1 (.t 18) (.t 20)),.op (some 23) none (.load false 1 (.t 22)),.op (some 8) none (.mv (.t 23))]) (.seq (.draw [[],[],[1],[1,2],[1,2,3],[],[1,2,3,4,5],[1,2,3,4,5,6],[0,1,2,3,4,5,6,7]] [.op (some 24) none (.load false 1 (.t 4)),.op (some 25) none (.load false 1 (.t 3)),.op (some 26) none (.ex gw.iN [.t 25]),.op (some 27) none (.mG 0 [false] (.t 26)),.op (some 28) none (.load false 1 (.t 27)),.op (some 29) none (.mv (.t 8)),.op (some 30) none (.ex (gw.fZ .str false tG true false) [.t 28,.t 29]),.op (some 31) none (.field false 3 1 (.t 30))]) (.aS [.call (some 32) none (.c (.fn 80 [] [])) [.t 24,.t 31] [none,some .str]])))) (.aS [.op (some 33) none (.bin .add (.t 20) (.c (.int .i64 (Int.ofNat 1)))),.op (some 20) none (.mv (.t 33))])))))))) 37),(13,.arr .str false),(21,.map .str false .unit true)] [.cell 3 0] []
@[reducible] def K6:aW:=[(.exit 2,az.mk [] [(0,.cells [.mp 1] false),(1,.map tG true .bool false),(2,.cells [.ptr 5 0] false),(5,.cells [.mp 7,.mp 8,.mp 9,.mp 10] false),(7,.map .str false tG true),(8,.map .str false (.list .str) false),(9,.map .str false .bool false),(10,.map .str false .bool false),(3,.cells [.mp 21] false),(4,.cells [.ptr 5 0] false),(11,.gX),(12,.loop .busy none 11 [(2,.c .bW),(3,.c (.ptr 2 0)),(4,.c (.ptr 3 0)),(15,.fn 106 [] [.ptr 4 0])] [16,17] (.aS [.op (some 6) none (.mv (.t 17))]) (.block 1 (.seq (.aS [.op (some 18) none (.mv (.t 6)),.op (some 19) none (.len (.t 18)),.op (some 20) none (.mv (.c (.int .i64 (Int.ofNat 0))))]) (.block 2 (.loop (.seq (.aS [.op (some 21) none (.bin .lss (.t 20) (.t 19))]) (.seq (.cond (.t 21) .skip (.exit 2)) (.seq (.block 3 (.seq (.aS [.op (some 22) none (.idx 1 (.t 18) (.t 20)),.op (some 23) none (.load false 1 (.t 22)),.op (some 8) none (.mv (.t 23))]) (.seq (.draw [[],[],[1],[1,2],[1,2,3],[],[1,2,3,4,5],[1,2,3,4,5,6],[0,1,2,3,4,5,6,7]] [.op (some 24) none (.load false 1 (.t 4)),.op (some 25) none (.load false 1 (.t 3)),.op (some 26) none (.ex gw.iN [.t 25]),.op (some 27) none (.mG 0 [false] (.t 26)),.op (some 28) none (.load false 1 (.t 27)),.op (some 29) none (.mv (.t 8)),.op (some 30) none (.ex (gw.fZ .str false tG true false) [.t 28,.t 29]),.op (some 31) none (.field false 3 1 (.t 30))]) (.aS [.call (some 32) none (.c (.fn 80 [] [])) [.t 24,.t 31] [none,some .str]])))) (.aS [.op (some 33) none (.bin .add (.t 20) (.c (.int .i64 (Int.ofNat 1)))),.op (some 20) none (.mv (.t 33))])))))))) 37),(13,.arr .str false),(20,.arr .str false),(21,.map .str false .unit true)] [.cell 3 0] [])]
noncomputable def K7:D prog 37 (some 12) 21:=dO [] (pick (kd prog f45) [(0,true),(0,false)]) 0
noncomputable def gH45_0b_1:Nat×Int×Int×List ByteArray×cH×cM×aT×aT×(List ((GG)×Bool))×List ByteArray×(List (ByteArray×Unit))×Unit→bQ ((Nat×Int×Int×List ByteArray×cH×cM×aT×aT×(List ((GG)×Bool))×List ByteArray×(List (ByteArray×Unit))×Unit) ⊕ (((List ((GG)×Bool))×cH×cM×aT×aT×List ByteArray×List ByteArray×(List (ByteArray×Unit))×Unit))):=fun (nv18,SQ,v20,pP,m7,m8,m9,m10,m1,jg,m21,_) =>
 .br (decide (v20<SQ)) (
 .nb v20 ((nv18:Nat):Int) <|
 .nd (decide (((0:Nat)+(Int.toNat v20))<(pP).length)) <|
 .bd (FH80 (ay .str ((bs []),(0:Int),(bs []),(bs []),(0:Int)) m7 ((pP).getD ((0:Nat)+(Int.toNat v20)) (bs []))).2.2.2.1 m21) fun y6 =>
 .ni (v20+(1:Int)) <|
 .ret (.inl (nv18,SQ,(v20+(1:Int)),pP,m7,m8,m9,m10,m1,jg,y6.1,()))) (
 .ret (.inr (m1,m7,m8,m9,m10,jg,pP,m21,())))
noncomputable def K8:bS prog 37 (some 12) 21:=bE mixed Jd sw [0,1,2,3,4,5,6,7,8,9,10,11,12,13,14,15,16,17,18,19,20] rfl K5 K6 rfl (K7) (fun x=>ak (gH45_0b_1 x)) (fun x=>by kernel_rfl)
noncomputable def Je:D prog 37 (some 12) 21:=dO [] (pick (kd prog f45) [(0,false)]) 0
noncomputable def Jf:D prog 37 (some 12) 21:=dO [.l K8] (pick (kd prog f45) [(0,true)]) 0
noncomputable def yw:Cx:=zo Jd (fun kz=>Nn kz Jd ek 12 21 [16,17] (Je) (Jf))
theorem uE:(yw).Ok prog:=jJ sw (fun h=>mY mixed sw h)
@[reducible] def K9:az:=az.mk [(0,.c (.yl 12)),(1,.c (.ptr 4 0)),(10,.c (.b7 13 .str)),(11,hI),(12,hI)] [(12,.loop .ready none 11 [(2,.c .bW),(3,.c (.ptr 2 0)),(4,.c (.ptr 3 0)),(15,.fn 106 [] [.ptr 4 0])] [16,17] (.aS [.op (some 6) none (.mv (.t 17))]) (.block 1 (.seq (.aS [.op (some 18) none (.mv (.t 6)),.op (some 19) none (.len (.t 18)),.op (some 20) none (.mv (.c (.int .i64 (Int.ofNat 0))))]) (.block 2 (.loop (.seq (.aS [.op (some 21) none (.bin .lss (.t 20) (.t 19))]) (.seq (.cond (.t 21) .skip (.exit 2)) (.seq (.block 3 (.seq (.aS [.op (some 22) none (.idx 1 (.t 18) (.t 20)),.op (some 23) none (.load false 1 (.t 22)),.op (some 8) none (.mv (.t 23))]) (.seq (.draw [[],[],[1],[1,2],[1,2,3],[],[1,2,3,4,5],[1,2,3,4,5,6],[0,1,2,3,4,5,6,7]] [.op (some 24) none (.load false 1 (.t 4)),.op (some 25) none (.load false 1 (.t 3)),.op (some 26) none (.ex gw.iN [.t 25]),.op (some 27) none (.mG 0 [false] (.t 26)),.op (some 28) none (.load false 1 (.t 27)),.op (some 29) none (.mv (.t 8)),.op (some 30) none (.ex (gw.fZ .str false tG true false) [.t 28,.t 29]),.op (some 31) none (.field false 3 1 (.t 30))]) (.aS [.call (some 32) none (.c (.fn 80 [] [])) [.t 24,.t 31] [none,some .str]])))) (.aS [.op (some 33) none (.bin .add (.t 20) (.c (.int .i64 (Int.ofNat 1)))),.op (some 20) none (.mv (.t 33))])))))))) 37),(4,.cells [.ptr 5 0] false),(13,.arr .str false),(11,.gX),(2,.cells [.ptr 5 0] false),(5,.cells [.mp 7,.mp 8,.mp 9,.mp 10] false),(7,.map .str false tG true),(8,.map .str false (.list .str) false),(9,.map .str false .bool false),(10,.map .str false .bool false),(3,.cells [.mp 14] false),(0,.cells [.mp 1] false),(1,.map tG true .bool false),(14,.map .str false .unit true)] [.slot 10,.cell 3 0] []
@[reducible] def La:aW:=[(.exit 0,az.mk [] [(0,.cells [.mp 1] false),(1,.map tG true .bool false),(2,.cells [.ptr 5 0] false),(5,.cells [.mp 7,.mp 8,.mp 9,.mp 10] false),(7,.map .str false tG true),(8,.map .str false (.list .str) false),(9,.map .str false .bool false),(10,.map .str false .bool false),(3,.cells [.mp 13] false),(4,.cells [.ptr 5 0] false),(11,.gX),(12,.loop .ready none 11 [(2,.c .bW),(3,.c (.ptr 2 0)),(4,.c (.ptr 3 0)),(15,.fn 106 [] [.ptr 4 0])] [16,17] (.aS [.op (some 6) none (.mv (.t 17))]) (.block 1 (.seq (.aS [.op (some 18) none (.mv (.t 6)),.op (some 19) none (.len (.t 18)),.op (some 20) none (.mv (.c (.int .i64 (Int.ofNat 0))))]) (.block 2 (.loop (.seq (.aS [.op (some 21) none (.bin .lss (.t 20) (.t 19))]) (.seq (.cond (.t 21) .skip (.exit 2)) (.seq (.block 3 (.seq (.aS [.op (some 22) none (.idx 1 (.t 18) (.t 20)),.op (some 23) none (.load false 1 (.t 22)),.op (some 8) none (.mv (.t 23))]) (.seq (.draw [[],[],[1],[1,2],[1,2,3],[],[1,2,3,4,5],[1,2,3,4,5,6],[0,1,2,3,4,5,6,7]] [.op (some 24) none (.load false 1 (.t 4)),.op (some 25) none (.load false 1 (.t 3)),.op (some 26) none (.ex gw.iN [.t 25]),.op (some 27) none (.mG 0 [false] (.t 26)),.op (some 28) none (.load false 1 (.t 27)),.op (some 29) none (.mv (.t 8)),.op (some 30) none (.ex (gw.fZ .str false tG true false) [.t 28,.t 29]),.op (some 31) none (.field false 3 1 (.t 30))]) (.aS [.call (some 32) none (.c (.fn 80 [] [])) [.t 24,.t 31] [none,some .str]])))) (.aS [.op (some 33) none (.bin .add (.t 20) (.c (.int .i64 (Int.ofNat 1)))),.op (some 20) none (.mv (.t 33))])))))))) 37),(13,.map .str false .unit true)] [.cell 3 0] [])]
noncomputable def Lb:D prog 34 none 13:=dO [] (pick (kd prog f106) [(0,false)]) 0
noncomputable def gH45_0i_0:Nat×Int×Int×List ByteArray×cH×cM×aT×aT×(List ((GG)×Bool))×(List (ByteArray×Unit))×Unit→bQ ((Nat×Int×Int×List ByteArray×cH×cM×aT×aT×(List ((GG)×Bool))×(List (ByteArray×Unit))×Unit) ⊕ (((List ((GG)×Bool))×cH×cM×aT×aT×(List (ByteArray×Unit))×Unit))):=fun (yh,v11,v12,jg,m7,m8,m9,m10,m1,m14,_) =>
 .br (decide (v12<v11)) (
 .nb v12 ((yh:Nat):Int) <|
 .nd (decide (((0:Nat)+(Int.toNat v12))<(jg).length)) <|
 .br ((ay .str ((bs []),(0:Int),(bs []),(bs []),(0:Int)) m7 ((jg).getD ((0:Nat)+(Int.toNat v12)) (bs []))).2.1==(1:Int)) (
 .bd (FH76fix ((jg).getD ((0:Nat)+(Int.toNat v12)) (bs [])) m7 m8 m9 m10) fun y5 =>
 .bd (.it gH45_0b_1 (y5.1,((y5.1:Nat):Int),(0:Int),y5.2.1,y5.2.2.1,y5.2.2.2.1,y5.2.2.2.2.1,y5.2.2.2.2.2.1,m1,jg,m14,())) fun z7 =>
 .ni (v12+(1:Int)) <|
 .ret (.inl (yh,v11,(v12+(1:Int)),z7.2.2.2.2.2.1,z7.2.1,z7.2.2.1,z7.2.2.2.1,z7.2.2.2.2.1,z7.1,z7.2.2.2.2.2.2.2.1,()))) (
 .ni (v12+(1:Int)) <|
 .ret (.inl (yh,v11,(v12+(1:Int)),jg,m7,m8,m9,m10,m1,m14,())))) (
 .ret (.inr (m1,m7,m8,m9,m10,m14,())))
noncomputable def Lf:bS prog 34 none 13:=bE mixed yw uE [0,1,2,3,4,5,6,7,8,9,10,11,12] rfl K9 La rfl (Lb) (fun x=>ak (gH45_0i_0 x)) (fun x=>by kernel_rfl)
@[reducible] def Zi:az:=az.mk [(2,.c .bW),(3,.c (.ptr 2 0)),(4,.c (.ptr 3 0)),(15,.fn 106 [] [.ptr 4 0])] [(2,.cells [.ptr 5 0] false),(3,.cells [.mp 6] false),(4,.cells [.ptr 5 0] false),(0,.cells [.mp 1] false),(1,.map tG true .bool false),(5,.cells [.mp 7,.mp 8,.mp 9,.mp 10] false),(6,.map .str false .unit true),(7,.map .str false tG true),(8,.map .str false (.list .str) false),(9,.map .str false .bool false),(10,.map .str false .bool false)] [.slot 3,.slot 4,.part 15 0,.cell 2 0,.cell 3 0,.cell 5 0,.cell 5 1,.cell 5 2,.cell 5 3] []
@[reducible] def Zj:aW:=[(.normal,az.mk [(4,.c (.ptr 2 0))] [(2,.cells [.mp 3] false),(0,.cells [.mp 1] false),(1,.map tG true .bool false),(3,.map .str false .unit true)] [.slot 4,.cell 2 0] [])]
noncomputable def Jg:D prog 34 none 13:=dO [.l Lf] (kd prog f106) 0
theorem TD:cL prog f106=some ⟨34,2,(Jg).er,[],[]⟩:=by kernel_rfl
noncomputable def gH45_0:(List ((GG)×Bool))×(List (ByteArray×Unit))×cH×cM×aT×aT×Unit→bQ (((List ((GG)×Bool))×(List (ByteArray×Unit))×Unit)):=fun (m1,m6,m7,m8,m9,m10,_) =>
 .bd (FH95 m7) fun y3 =>
 .bd (FH81 y3.1) fun y4 =>
 .bd (.it gH45_0i_0 (y4.1,((y4.1:Nat):Int),(0:Int),y4.2.1,y4.2.2.1,m8,m9,m10,m1,m6,())) fun z8 =>
 .ret ((z8.1,z8.2.2.2.2.2.1,()))
noncomputable def Zk:gm prog 37 none 2:=rP mixed yw uE [0,1] rfl Zi Zj ( .t 15) [16,17] rfl (Je).er (Jf).er 106 func106 (TD) (enters_of func106 rfl rfl) 13 rfl (Jg) rfl (fun x=>ak (gH45_0 x)) (fun x=>by kernel_rfl)
noncomputable def Wb:D prog 37 none 2:=dO [.r Zk] (kd prog f45) 0
noncomputable def FH45 (m1:List ((GG)×Bool)):bQ (Nat×List ByteArray×(List ((GG)×Bool))×Unit) :=
 .bd (FH54 m1) fun y0 =>
 .br y0.1 (
 .ret ((0:Nat),[],y0.2.1,())) (
 .bd (FH66 y0.2.1) fun y1 =>
 .bd (FH79 y1.2.1 y1.2.2.1 y1.2.2.2.1 y1.2.2.2.2.1) fun y2 =>
 .bd (gH45_0 (y1.1,[],y2.1,y2.2.1,y2.2.2.1,y2.2.2.2.1,())) fun z9 =>
 .bd (FH82 z9.2.1) fun y10 =>
 .bd (FH81_v1 y10.1) fun TE =>
 .ret (TE.1,TE.2.1,z9.1,()))
theorem TF:cL prog f45=some ⟨37,1,Wb.er,[.t 2],[some (.list .str)]⟩:=by kernel_rfl
noncomputable def ht45:Ht:=⟨45,pH45,qH45,(fun x=>ak (FH45 x.1))⟩
theorem TG:ht45.Ok prog:=bP mixed sw rfl func45 TF (enters_of func45 rfl rfl) Wb (by kernel_rfl) rfl rfl ⟨_,rfl⟩ rfl (pre:=[0,1]) rfl (fun x=>by kernel_rfl)

/- 17 -/
noncomputable def cx17:Cx:=(aL [ct46,ct36,Zg] [Yg,ht33,Tm,Zc,Zd,ht45,ht40,Yi])
theorem TH:cx17.Ok prog:=ax ⟨RY,Tv,Jb,trivial⟩ ⟨⟨IG,rfl⟩,⟨S9,rfl⟩,⟨Cg,rfl⟩,⟨I7,rfl⟩,⟨I8,rfl⟩,⟨TG,rfl⟩,⟨Tb,rfl⟩,⟨IK,rfl⟩,trivial⟩
noncomputable def dd17:D prog 130 none 0:=dO [] (kd prog f17) 0
noncomputable def F17:bQ (Bool×Unit) :=
 .bd (F46) fun y0 =>
 .nd (decide ((0:Int)≤(0:Int))) <|
 .nd (decide ((0:Int)≤(6:Int))) <|
 .nd (decide ((6:Int)≤(((y0.1).length:Nat):Int))) <|
 .bd (FH29 (((y0.1).drop (Int.toNat (0:Int))).take ((Int.toNat (6:Int)) - (Int.toNat (0:Int))))) fun y1 =>
 .bd (F46) fun y2 =>
 .nd (decide ((0:Int)≤(0:Int))) <|
 .nd (decide ((0:Int)≤(7:Int))) <|
 .nd (decide ((7:Int)≤(((y2.1).length:Nat):Int))) <|
 .bd (FH29 (((y2.1).drop (Int.toNat (0:Int))).take ((Int.toNat (7:Int)) - (Int.toNat (0:Int))))) fun y3 =>
 .bd (F46) fun y4 =>
 .bd (FH29 y4.1) fun y5 =>
 .bd (FH33 (bs [116,49]) y1.1) fun y6 =>
 .bd (FH23 (bs [97,110,97]) y6.2.2.2.1) fun y7 =>
 .bd (FH23 (bs [97,110,97]) y3.1) fun y8 =>
 .bd (FH37 y7.2.2.2.1) fun y9 =>
 .bd (FH25 (bs [99,121]) y5.1) fun y10 =>
 .br (y6.2.1==(0:Int)) (
 .br (y7.2.1==(0:Int)) (
 .br (y8.2.1==(0:Int)) (
 .br (y9.2.1==(0:Int)) (
 .br (y10.2.1==(0:Int)) (
 .bd (F36 (((y6.2.2.1).drop (0:Nat)).take y6.1) (((((bs [99,50])::((bs [99,51])::[]))).drop (0:Nat)).take (2:Nat))) fun TE =>
 .br TE.1 (
 .bd (F27 (((y7.2.2.1).drop (0:Nat)).take y7.1) (((((0:Int)::((41:Int)::[]))).drop (0:Nat)).take (2:Nat))) fun y12 =>
 .br y12.1 (
 .bd (F27 (((y8.2.2.1).drop (0:Nat)).take y8.1) (((((41:Int)::[])).drop (0:Nat)).take (1:Nat))) fun Y8 =>
 .br Y8.1 (
 .br ((y9.1.1==(65:Int))&&((y9.1.2==(66:Int))&&true)) (
 .br ((y10.1.1==(0:Int))&&((y10.1.2==(40:Int))&&true)) (
 .bd (FH45 y9.2.2.1) fun Th =>
 .bd (F36 (((Th.2.1).drop (0:Nat)).take Th.1) (((((bs [97,110,97])::((bs [98,101,110])::((bs [99,121])::[])))).drop (0:Nat)).take (3:Nat))) fun y15 =>
 .br y15.1 (
 .bd (FH40 (bs [116,49]) (3:Int) Th.2.2.1) fun y16 =>
 .br y16.1 (
 .bd (FH40 (bs [116,50]) (4:Int) y16.2.1) fun y17 =>
 .br y17.1 (
 .bd (FH40 (bs [99,51]) (5:Int) y17.2.1) fun y18 =>
 .br y18.1 (
 .bd (FH40 (bs [119,49]) (1:Int) y18.2.1) fun y19 =>
 .br y19.1 (
 .bd (FH40 (bs [99,50]) (2:Int) y8.2.2.2.1) fun y20 =>
 .br y20.1 (
 .bd (FH40 (bs [99,51]) (4:Int) y20.2.1) fun y21 =>
 .br y21.1 (
 .bd (FH40 (bs [99,50]) (5:Int) y10.2.2.1) fun y22 =>
 .br y22.1 (
 .bd (FH47 y22.2.1) fun y23 =>
 .ret ((((y23.1:Nat):Int)==(8:Int)),())) (
 .ret (false,()))) (
 .ret (false,()))) (
 .ret (false,()))) (
 .ret (false,()))) (
 .ret (false,()))) (
 .ret (false,()))) (
 .ret (false,()))) (
 .ret (false,()))) (
 .ret (false,()))) (
 .ret (false,()))) (
 .ret (false,()))) (
 .ret (false,()))) (
 .ret (false,()))) (
 .ret (false,()))) (
 .ret (false,()))) (
 .ret (false,()))) (
 .ret (false,()))) (
 .ret (false,()))
theorem Zl:cL prog f17=some ⟨130,0,dd17.er,[.t 0],[some .bool]⟩:=by kernel_rfl
noncomputable def ct17:Ct:=⟨17,[],.c (.hole .bool),fun x=>ak (F17)⟩
theorem TI:ct17.Ok prog:=cK mixed TH func17 Zl (enters_of func17 rfl rfl) dd17 (by kernel_rfl) rfl (fun x=>by kernel_rfl)

/- 43 -/
noncomputable def cx43:Cx:=(aL [] [])
theorem TJ:cx43.Ok prog:=ax trivial trivial
noncomputable def dd43:D prog 11 none 0:=dO [] (kd prog f43) 0
noncomputable def F43 (a0:Int) (a1:Int):bQ (ByteArray×Unit) :=
 .nd (eN .u8 a1) <|
 .nd (eN .u8 (a0+a1)) <|
 .ret ((uH (((((a0+a1)::[])).drop (0:Nat)).take (1:Nat))),())
theorem Zm:cL prog f43=some ⟨11,2,dd43.er,[.t 4],[some .str]⟩:=by kernel_rfl
noncomputable def ct43:Ct:=⟨43,[.c (.hole (.int .u8)),hI],.c (.hole .str),fun x=>ak (F43 x.1 x.2.1)⟩
theorem TK:ct43.Ok prog:=cK mixed TJ func43 Zm (enters_of func43 rfl rfl) dd43 (by kernel_rfl) rfl (fun x=>by kernel_rfl)

/- 44 -/
noncomputable def cx44:Cx:=(aL [ct43] [])
theorem TL:cx44.Ok prog:=ax ⟨TK,trivial⟩ trivial
noncomputable def dd44:D prog 52 none 0:=dO [] (kd prog f44) 0
noncomputable def F44 (a0:Int×Int×Int×Int):bQ ((GG)×Unit) :=
 .nd (decide ((0:Nat)<((a0.1::(a0.2.1::(a0.2.2.1::(a0.2.2.2::[]))))).length)) <|
 .ni (((a0.1::(a0.2.1::(a0.2.2.1::(a0.2.2.2::[]))))).getD (0:Nat) (0:Int)) <|
 .nd (!((8:Int)==(0:Int))) <|
 .nd (decide ((1:Nat)<((a0.1::(a0.2.1::(a0.2.2.1::(a0.2.2.2::[]))))).length)) <|
 .ni (((a0.1::(a0.2.1::(a0.2.2.1::(a0.2.2.2::[]))))).getD (1:Nat) (0:Int)) <|
 .nd (!((8:Int)==(0:Int))) <|
 .br ((Int.tmod (((a0.1::(a0.2.1::(a0.2.2.1::(a0.2.2.2::[]))))).getD (0:Nat) (0:Int)) (8:Int))==(Int.tmod (((a0.1::(a0.2.1::(a0.2.2.1::(a0.2.2.2::[]))))).getD (1:Nat) (0:Int)) (8:Int))) (
 .ni ((Int.tmod (((a0.1::(a0.2.1::(a0.2.2.1::(a0.2.2.2::[]))))).getD (1:Nat) (0:Int)) (8:Int))+(1:Int)) <|
 .nd (!((8:Int)==(0:Int))) <|
 .bd (F43 (97:Int) (Int.tmod (((a0.1::(a0.2.1::(a0.2.2.1::(a0.2.2.2::[]))))).getD (0:Nat) (0:Int)) (8:Int))) fun y0 =>
 .bd (F43 (97:Int) (Int.tmod ((Int.tmod (((a0.1::(a0.2.1::(a0.2.2.1::(a0.2.2.2::[]))))).getD (1:Nat) (0:Int)) (8:Int))+(1:Int)) (8:Int))) fun y1 =>
 .nd (decide ((2:Nat)<((a0.1::(a0.2.1::(a0.2.2.1::(a0.2.2.2::[]))))).length)) <|
 .ni (((a0.1::(a0.2.1::(a0.2.2.1::(a0.2.2.2::[]))))).getD (2:Nat) (0:Int)) <|
 .nd (!((3:Int)==(0:Int))) <|
 .bd (F43 (120:Int) (Int.tmod (((a0.1::(a0.2.1::(a0.2.2.1::(a0.2.2.2::[]))))).getD (2:Nat) (0:Int)) (3:Int))) fun y2 =>
 .nd (decide ((2:Nat)<((a0.1::(a0.2.1::(a0.2.2.1::(a0.2.2.2::[]))))).length)) <|
 .ni (((a0.1::(a0.2.1::(a0.2.2.1::(a0.2.2.2::[]))))).getD (2:Nat) (0:Int)) <|
 .nd (!((3:Int)==(0:Int))) <|
 .ni (Int.tdiv (((a0.1::(a0.2.1::(a0.2.2.1::(a0.2.2.2::[]))))).getD (2:Nat) (0:Int)) (3:Int)) <|
 .nd (!((12:Int)==(0:Int))) <|
 .ni ((Int.tmod (Int.tdiv (((a0.1::(a0.2.1::(a0.2.2.1::(a0.2.2.2::[]))))).getD (2:Nat) (0:Int)) (3:Int)) (12:Int)) - (3:Int)) <|
 .nd (decide ((3:Nat)<((a0.1::(a0.2.1::(a0.2.2.1::(a0.2.2.2::[]))))).length)) <|
 .ni (((a0.1::(a0.2.1::(a0.2.2.1::(a0.2.2.2::[]))))).getD (3:Nat) (0:Int)) <|
 .nd (!((8:Int)==(0:Int))) <|
 .br ((Int.tmod (((a0.1::(a0.2.1::(a0.2.2.1::(a0.2.2.2::[]))))).getD (3:Nat) (0:Int)) (8:Int))==(0:Int)) (
 .ret ((y0.1,(1:Int),(bs []),y2.1,((Int.tmod (Int.tdiv (((a0.1::(a0.2.1::(a0.2.2.1::(a0.2.2.2::[]))))).getD (2:Nat) (0:Int)) (3:Int)) (12:Int)) - (3:Int))),())) (
 .br ((Int.tmod (((a0.1::(a0.2.1::(a0.2.2.1::(a0.2.2.2::[]))))).getD (3:Nat) (0:Int)) (8:Int))==(1:Int)) (
 .ret ((y0.1,(1:Int),(bs []),y2.1,((Int.tmod (Int.tdiv (((a0.1::(a0.2.1::(a0.2.2.1::(a0.2.2.2::[]))))).getD (2:Nat) (0:Int)) (3:Int)) (12:Int)) - (3:Int))),())) (
 .br ((Int.tmod (((a0.1::(a0.2.1::(a0.2.2.1::(a0.2.2.2::[]))))).getD (3:Nat) (0:Int)) (8:Int))==(2:Int)) (
 .ret ((y0.1,(1:Int),(bs []),y2.1,((Int.tmod (Int.tdiv (((a0.1::(a0.2.1::(a0.2.2.1::(a0.2.2.2::[]))))).getD (2:Nat) (0:Int)) (3:Int)) (12:Int)) - (3:Int))),())) (
 .br ((Int.tmod (((a0.1::(a0.2.1::(a0.2.2.1::(a0.2.2.2::[]))))).getD (3:Nat) (0:Int)) (8:Int))==(3:Int)) (
 .ret ((y0.1,(3:Int),y1.1,(bs []),(0:Int)),())) (
 .ret ((y0.1,(2:Int),y1.1,y2.1,((Int.tmod (Int.tdiv (((a0.1::(a0.2.1::(a0.2.2.1::(a0.2.2.2::[]))))).getD (2:Nat) (0:Int)) (3:Int)) (12:Int)) - (3:Int))),())))))) (
 .bd (F43 (97:Int) (Int.tmod (((a0.1::(a0.2.1::(a0.2.2.1::(a0.2.2.2::[]))))).getD (0:Nat) (0:Int)) (8:Int))) fun y3 =>
 .bd (F43 (97:Int) (Int.tmod (((a0.1::(a0.2.1::(a0.2.2.1::(a0.2.2.2::[]))))).getD (1:Nat) (0:Int)) (8:Int))) fun y4 =>
 .nd (decide ((2:Nat)<((a0.1::(a0.2.1::(a0.2.2.1::(a0.2.2.2::[]))))).length)) <|
 .ni (((a0.1::(a0.2.1::(a0.2.2.1::(a0.2.2.2::[]))))).getD (2:Nat) (0:Int)) <|
 .nd (!((3:Int)==(0:Int))) <|
 .bd (F43 (120:Int) (Int.tmod (((a0.1::(a0.2.1::(a0.2.2.1::(a0.2.2.2::[]))))).getD (2:Nat) (0:Int)) (3:Int))) fun y5 =>
 .nd (decide ((2:Nat)<((a0.1::(a0.2.1::(a0.2.2.1::(a0.2.2.2::[]))))).length)) <|
 .ni (((a0.1::(a0.2.1::(a0.2.2.1::(a0.2.2.2::[]))))).getD (2:Nat) (0:Int)) <|
 .nd (!((3:Int)==(0:Int))) <|
 .ni (Int.tdiv (((a0.1::(a0.2.1::(a0.2.2.1::(a0.2.2.2::[]))))).getD (2:Nat) (0:Int)) (3:Int)) <|
 .nd (!((12:Int)==(0:Int))) <|
 .ni ((Int.tmod (Int.tdiv (((a0.1::(a0.2.1::(a0.2.2.1::(a0.2.2.2::[]))))).getD (2:Nat) (0:Int)) (3:Int)) (12:Int)) - (3:Int)) <|
 .nd (decide ((3:Nat)<((a0.1::(a0.2.1::(a0.2.2.1::(a0.2.2.2::[]))))).length)) <|
 .ni (((a0.1::(a0.2.1::(a0.2.2.1::(a0.2.2.2::[]))))).getD (3:Nat) (0:Int)) <|
 .nd (!((8:Int)==(0:Int))) <|
 .br ((Int.tmod (((a0.1::(a0.2.1::(a0.2.2.1::(a0.2.2.2::[]))))).getD (3:Nat) (0:Int)) (8:Int))==(0:Int)) (
 .ret ((y3.1,(1:Int),(bs []),y5.1,((Int.tmod (Int.tdiv (((a0.1::(a0.2.1::(a0.2.2.1::(a0.2.2.2::[]))))).getD (2:Nat) (0:Int)) (3:Int)) (12:Int)) - (3:Int))),())) (
 .br ((Int.tmod (((a0.1::(a0.2.1::(a0.2.2.1::(a0.2.2.2::[]))))).getD (3:Nat) (0:Int)) (8:Int))==(1:Int)) (
 .ret ((y3.1,(1:Int),(bs []),y5.1,((Int.tmod (Int.tdiv (((a0.1::(a0.2.1::(a0.2.2.1::(a0.2.2.2::[]))))).getD (2:Nat) (0:Int)) (3:Int)) (12:Int)) - (3:Int))),())) (
 .br ((Int.tmod (((a0.1::(a0.2.1::(a0.2.2.1::(a0.2.2.2::[]))))).getD (3:Nat) (0:Int)) (8:Int))==(2:Int)) (
 .ret ((y3.1,(1:Int),(bs []),y5.1,((Int.tmod (Int.tdiv (((a0.1::(a0.2.1::(a0.2.2.1::(a0.2.2.2::[]))))).getD (2:Nat) (0:Int)) (3:Int)) (12:Int)) - (3:Int))),())) (
 .br ((Int.tmod (((a0.1::(a0.2.1::(a0.2.2.1::(a0.2.2.2::[]))))).getD (3:Nat) (0:Int)) (8:Int))==(3:Int)) (
 .ret ((y3.1,(3:Int),y4.1,(bs []),(0:Int)),())) (
 .ret ((y3.1,(2:Int),y4.1,y5.1,((Int.tmod (Int.tdiv (((a0.1::(a0.2.1::(a0.2.2.1::(a0.2.2.2::[]))))).getD (2:Nat) (0:Int)) (3:Int)) (12:Int)) - (3:Int))),()))))))
theorem Zn:cL prog f44=some ⟨52,1,dd44.er,[.cell 2 true 5],[some tG]⟩:=by kernel_rfl
noncomputable def ct44:Ct:=⟨44,[.c (.hole (.prod (.int .u8) (.prod (.int .u8) (.prod (.int .u8) (.int .u8)))))],.c (.hole tG),fun x=>ak (F44 x.1)⟩
theorem TM:ct44.Ok prog:=cK mixed TL func44 Zn (enters_of func44 rfl rfl) dd44 (by kernel_rfl) rfl (fun x=>by kernel_rfl)

/- 28 -/
noncomputable def cx28:Cx:=(aL [ct44] [])
theorem Jh:cx28.Ok prog:=ax ⟨TM,trivial⟩ trivial
@[reducible] def adJ:az:=az.mk [(0,.c (.hole (.list (.prod (.int .u8) (.prod (.int .u8) (.prod (.int .u8) (.int .u8))))))),(3,.c (.b7 0 tG)),(4,hI)] [(0,.arr tG false)] [.slot 3] []
@[reducible] def adK:aW:=[(.exit 0,az.mk [(3,.c (.b7 0 tG))] [(0,.arr tG false)] [.slot 3] [])]
noncomputable def adL:D prog 24 none 0:=dO [] (pick (kd prog f28) [(0,false)]) 0
noncomputable def g28_0:(List (Int×Int×Int×Int))×Nat×Int×(List (GG))×Unit→bQ (((List (Int×Int×Int×Int))×Nat×Int×(List (GG))×Unit) ⊕ ((Nat×(List (GG))×Unit))):=fun (v0,AN,v4,b0,_) =>
 .br (decide (v4<(((v0).length:Nat):Int))) (
 .br (decide (v4<(10:Int))) (
 .nb v4 (((v0).length:Nat):Int) <|
 .bd (F44 (((v0).getD (Int.toNat v4) ((0:Int),(0:Int),(0:Int),(0:Int))).1,((v0).getD (Int.toNat v4) ((0:Int),(0:Int),(0:Int),(0:Int))).2.1,((v0).getD (Int.toNat v4) ((0:Int),(0:Int),(0:Int),(0:Int))).2.2.1,((v0).getD (Int.toNat v4) ((0:Int),(0:Int),(0:Int),(0:Int))).2.2.2)) fun y0 =>
 .nd (decide ((AN+((((((y0.1.1,y0.1.2.1,y0.1.2.2.1,y0.1.2.2.2.1,y0.1.2.2.2.2)::[])).drop (0:Nat)).take (1:Nat))).length)<cg)) <|
 .ni (v4+(1:Int)) <|
 .ret (.inl (v0,(AN+((((((y0.1.1,y0.1.2.1,y0.1.2.2.1,y0.1.2.2.2.1,y0.1.2.2.2.2)::[])).drop (0:Nat)).take (1:Nat))).length),(v4+(1:Int)),((((b0).drop (0:Nat)).take AN)++(((((y0.1.1,y0.1.2.1,y0.1.2.2.1,y0.1.2.2.2.1,y0.1.2.2.2.2)::[])).drop (0:Nat)).take (1:Nat))),()))) (
 .ret (.inr (AN,b0,())))) (
 .ret (.inr (AN,b0,())))
noncomputable def adM:bS prog 24 none 0:=bE mixed cx28 Jh [] rfl adJ adK rfl (adL) (fun x=>ak (g28_0 x)) (fun x=>by kernel_rfl)
noncomputable def dd28:D prog 24 none 0:=dO [.l adM] (kd prog f28) 0
noncomputable def F28 (a0:List (Int×Int×Int×Int)):bQ ((List (GG))×Unit) :=
 .bd (.it g28_0 (a0,(0:Nat),(0:Int),[],())) fun z1 =>
 .ret ((((z1.2.1).drop (0:Nat)).take z1.1),())
theorem Zo:cL prog f28=some ⟨24,1,dd28.er,[.t 2],[some (.list tG)]⟩:=by kernel_rfl
noncomputable def ct28:Ct:=⟨28,[.c (.hole (.list (.prod (.int .u8) (.prod (.int .u8) (.prod (.int .u8) (.int .u8))))))],.c (.hole (.list tG)),fun x=>ak (F28 x.1)⟩
theorem TN:ct28.Ok prog:=cK mixed Jh func28 Zo (enters_of func28 rfl rfl) dd28 (by kernel_rfl) rfl (fun x=>by kernel_rfl)

/- 31 -/
noncomputable def cx31:Cx:=(aL [] [])
theorem TO:cx31.Ok prog:=ax trivial trivial
noncomputable def dd31:D prog 2 none 0:=dO [] (kd prog f31) 0
noncomputable def F31:bQ (List ByteArray×Unit) :=
 .ret ((((((bs [97])::((bs [98])::((bs [99])::((bs [100])::((bs [101])::((bs [102])::((bs [103])::((bs [104])::[]))))))))).drop (0:Nat)).take (8:Nat)),())
theorem Zp:cL prog f31=some ⟨2,0,dd31.er,[.t 0],[some (.list .str)]⟩:=by kernel_rfl
noncomputable def ct31:Ct:=⟨31,[],.c (.hole (.list .str)),fun x=>ak (F31)⟩
theorem TP:ct31.Ok prog:=cK mixed TO func31 Zp (enters_of func31 rfl rfl) dd31 (by kernel_rfl) rfl (fun x=>by kernel_rfl)

/- 30 -/
noncomputable def Zq:Cx:=(aL [ct31] [])
theorem Cs:Zq.Ok prog:=ax ⟨TP,trivial⟩ trivial
@[reducible] def adR:az:=az.mk [(0,.c (.hole (.list tG))),(3,.c (.b7 0 tG)),(5,.c (.hole .str)),(6,.c (.ptr 1 0)),(9,.c (.hole (.list .str))),(10,hI),(11,hI),(15,.c (.hole (.list tG))),(16,hI),(17,hI)] [(0,.arr tG false),(1,.cells [.hole .str,.hole tI,.hole .str,.hole .str,.hole tI] false)] [.slot 3,.slot 6] []
@[reducible] def adS:aW:=[(.exit 2,az.mk [(0,.c (.hole (.list tG))),(3,.c (.b7 0 tG)),(6,.c (.ptr 1 0)),(9,.c (.hole (.list .str))),(10,hI),(11,hI)] [(0,.arr tG false),(1,.cells [.hole .str,.hole tI,.hole .str,.hole .str,.hole tI] false)] [.slot 3,.slot 6] [])]
noncomputable def adT:D prog 90 none 0:=dO [] (pick (kd prog f30) [(0,false),(0,false)]) 0
noncomputable def g30_1:(List (GG))×Nat×ByteArray×List ByteArray×Int×Int×(List (GG))×Int×Int×(List (GG))×ByteArray×Int×ByteArray×ByteArray×Int×Unit→bQ (((List (GG))×Nat×ByteArray×List ByteArray×Int×Int×(List (GG))×Int×Int×(List (GG))×ByteArray×Int×ByteArray×ByteArray×Int×Unit) ⊕ (((List (GG))×Nat×List ByteArray×Int×Int×(List (GG))×ByteArray×Int×ByteArray×ByteArray×Int×Unit))):=fun (v0,AN,v5,v9,v10,v11,aJ,yR,v17,b0,eo,kJ,nq,nt,nQ,_) =>
 .br (decide (v17<yR)) (
 .nb v17 (((aJ).length:Nat):Int) <|
 .br (seq ((aJ).getD (Int.toNat v17) ((bs []),(0:Int),(bs []),(bs []),(0:Int))).1 v5) (
 .br (kJ==(0:Int)) (
 .ni (v17+(1:Int)) <|
 .ret (.inl (v0,AN,v5,v9,v10,v11,aJ,yR,(v17+(1:Int)),b0,((aJ).getD (Int.toNat v17) ((bs []),(0:Int),(bs []),(bs []),(0:Int))).1,((aJ).getD (Int.toNat v17) ((bs []),(0:Int),(bs []),(bs []),(0:Int))).2.1,((aJ).getD (Int.toNat v17) ((bs []),(0:Int),(bs []),(bs []),(0:Int))).2.2.1,((aJ).getD (Int.toNat v17) ((bs []),(0:Int),(bs []),(bs []),(0:Int))).2.2.2.1,((aJ).getD (Int.toNat v17) ((bs []),(0:Int),(bs []),(bs []),(0:Int))).2.2.2.2,()))) (
 .br (decide (((aJ).getD (Int.toNat v17) ((bs []),(0:Int),(bs []),(bs []),(0:Int))).2.1<kJ)) (
 .ni (v17+(1:Int)) <|
 .ret (.inl (v0,AN,v5,v9,v10,v11,aJ,yR,(v17+(1:Int)),b0,((aJ).getD (Int.toNat v17) ((bs []),(0:Int),(bs []),(bs []),(0:Int))).1,((aJ).getD (Int.toNat v17) ((bs []),(0:Int),(bs []),(bs []),(0:Int))).2.1,((aJ).getD (Int.toNat v17) ((bs []),(0:Int),(bs []),(bs []),(0:Int))).2.2.1,((aJ).getD (Int.toNat v17) ((bs []),(0:Int),(bs []),(bs []),(0:Int))).2.2.2.1,((aJ).getD (Int.toNat v17) ((bs []),(0:Int),(bs []),(bs []),(0:Int))).2.2.2.2,()))) (
 .br (((aJ).getD (Int.toNat v17) ((bs []),(0:Int),(bs []),(bs []),(0:Int))).2.1==kJ) (
 .br (slt ((aJ).getD (Int.toNat v17) ((bs []),(0:Int),(bs []),(bs []),(0:Int))).2.2.1 nq) (
 .ni (v17+(1:Int)) <|
 .ret (.inl (v0,AN,v5,v9,v10,v11,aJ,yR,(v17+(1:Int)),b0,((aJ).getD (Int.toNat v17) ((bs []),(0:Int),(bs []),(bs []),(0:Int))).1,((aJ).getD (Int.toNat v17) ((bs []),(0:Int),(bs []),(bs []),(0:Int))).2.1,((aJ).getD (Int.toNat v17) ((bs []),(0:Int),(bs []),(bs []),(0:Int))).2.2.1,((aJ).getD (Int.toNat v17) ((bs []),(0:Int),(bs []),(bs []),(0:Int))).2.2.2.1,((aJ).getD (Int.toNat v17) ((bs []),(0:Int),(bs []),(bs []),(0:Int))).2.2.2.2,()))) (
 .br (seq ((aJ).getD (Int.toNat v17) ((bs []),(0:Int),(bs []),(bs []),(0:Int))).2.2.1 nq) (
 .br (slt ((aJ).getD (Int.toNat v17) ((bs []),(0:Int),(bs []),(bs []),(0:Int))).2.2.2.1 nt) (
 .ni (v17+(1:Int)) <|
 .ret (.inl (v0,AN,v5,v9,v10,v11,aJ,yR,(v17+(1:Int)),b0,((aJ).getD (Int.toNat v17) ((bs []),(0:Int),(bs []),(bs []),(0:Int))).1,((aJ).getD (Int.toNat v17) ((bs []),(0:Int),(bs []),(bs []),(0:Int))).2.1,((aJ).getD (Int.toNat v17) ((bs []),(0:Int),(bs []),(bs []),(0:Int))).2.2.1,((aJ).getD (Int.toNat v17) ((bs []),(0:Int),(bs []),(bs []),(0:Int))).2.2.2.1,((aJ).getD (Int.toNat v17) ((bs []),(0:Int),(bs []),(bs []),(0:Int))).2.2.2.2,()))) (
 .br (seq ((aJ).getD (Int.toNat v17) ((bs []),(0:Int),(bs []),(bs []),(0:Int))).2.2.2.1 nt) (
 .br (decide (((aJ).getD (Int.toNat v17) ((bs []),(0:Int),(bs []),(bs []),(0:Int))).2.2.2.2<nQ)) (
 .ni (v17+(1:Int)) <|
 .ret (.inl (v0,AN,v5,v9,v10,v11,aJ,yR,(v17+(1:Int)),b0,((aJ).getD (Int.toNat v17) ((bs []),(0:Int),(bs []),(bs []),(0:Int))).1,((aJ).getD (Int.toNat v17) ((bs []),(0:Int),(bs []),(bs []),(0:Int))).2.1,((aJ).getD (Int.toNat v17) ((bs []),(0:Int),(bs []),(bs []),(0:Int))).2.2.1,((aJ).getD (Int.toNat v17) ((bs []),(0:Int),(bs []),(bs []),(0:Int))).2.2.2.1,((aJ).getD (Int.toNat v17) ((bs []),(0:Int),(bs []),(bs []),(0:Int))).2.2.2.2,()))) (
 .ni (v17+(1:Int)) <|
 .ret (.inl (v0,AN,v5,v9,v10,v11,aJ,yR,(v17+(1:Int)),b0,eo,kJ,nq,nt,nQ,())))) (
 .ni (v17+(1:Int)) <|
 .ret (.inl (v0,AN,v5,v9,v10,v11,aJ,yR,(v17+(1:Int)),b0,eo,kJ,nq,nt,nQ,()))))) (
 .ni (v17+(1:Int)) <|
 .ret (.inl (v0,AN,v5,v9,v10,v11,aJ,yR,(v17+(1:Int)),b0,eo,kJ,nq,nt,nQ,()))))) (
 .ni (v17+(1:Int)) <|
 .ret (.inl (v0,AN,v5,v9,v10,v11,aJ,yR,(v17+(1:Int)),b0,eo,kJ,nq,nt,nQ,())))))) (
 .ni (v17+(1:Int)) <|
 .ret (.inl (v0,AN,v5,v9,v10,v11,aJ,yR,(v17+(1:Int)),b0,eo,kJ,nq,nt,nQ,())))) (
 .ret (.inr (v0,AN,v9,v10,v11,b0,eo,kJ,nq,nt,nQ,())))
noncomputable def adU:bS prog 90 none 0:=bE mixed Zq Cs [] rfl adR adS rfl (adT) (fun x=>ak (g30_1 x)) (fun x=>by kernel_rfl)
@[reducible] def adV:az:=az.mk [(0,.c (.hole (.list tG))),(3,.c (.b7 0 tG)),(9,.c (.hole (.list .str))),(10,hI),(11,hI)] [(0,.arr tG false)] [.slot 3] []
@[reducible] def adW:aW:=[(.exit 0,az.mk [(3,.c (.b7 0 tG))] [(0,.arr tG false)] [.slot 3] [])]
noncomputable def adX:D prog 90 none 0:=dO [.l adU] (pick (kd prog f30) [(0,false)]) 0
noncomputable def g30_0:(List (GG))×Nat×List ByteArray×Int×Int×(List (GG))×Unit→bQ (((List (GG))×Nat×List ByteArray×Int×Int×(List (GG))×Unit) ⊕ ((Nat×(List (GG))×Unit))):=fun (v0,AN,v9,v10,v11,b0,_) =>
 .br (decide (v11<v10)) (
 .nb v11 (((v9).length:Nat):Int) <|
 .bd (.it g30_1 (v0,AN,((v9).getD (Int.toNat v11) (bs [])),v9,v10,v11,v0,(((v0).length:Nat):Int),(0:Int),b0,(bs []),(0:Int),(bs []),(bs []),(0:Int),())) fun z1 =>
 .br (decide ((0:Int)<z1.2.2.2.2.2.2.2.1)) (
 .nd (decide ((z1.2.1+((((((z1.2.2.2.2.2.2.1,z1.2.2.2.2.2.2.2.1,z1.2.2.2.2.2.2.2.2.1,z1.2.2.2.2.2.2.2.2.2.1,z1.2.2.2.2.2.2.2.2.2.2.1)::[])).drop (0:Nat)).take (1:Nat))).length)<cg)) <|
 .ni (z1.2.2.2.2.1+(1:Int)) <|
 .ret (.inl (z1.1,(z1.2.1+((((((z1.2.2.2.2.2.2.1,z1.2.2.2.2.2.2.2.1,z1.2.2.2.2.2.2.2.2.1,z1.2.2.2.2.2.2.2.2.2.1,z1.2.2.2.2.2.2.2.2.2.2.1)::[])).drop (0:Nat)).take (1:Nat))).length),z1.2.2.1,z1.2.2.2.1,(z1.2.2.2.2.1+(1:Int)),((((z1.2.2.2.2.2.1).drop (0:Nat)).take z1.2.1)++(((((z1.2.2.2.2.2.2.1,z1.2.2.2.2.2.2.2.1,z1.2.2.2.2.2.2.2.2.1,z1.2.2.2.2.2.2.2.2.2.1,z1.2.2.2.2.2.2.2.2.2.2.1)::[])).drop (0:Nat)).take (1:Nat))),()))) (
 .ni (z1.2.2.2.2.1+(1:Int)) <|
 .ret (.inl (z1.1,z1.2.1,z1.2.2.1,z1.2.2.2.1,(z1.2.2.2.2.1+(1:Int)),z1.2.2.2.2.2.1,())))) (
 .ret (.inr (AN,b0,())))
noncomputable def adY:bS prog 90 none 0:=bE mixed Zq Cs [] rfl adV adW rfl (adX) (fun x=>ak (g30_0 x)) (fun x=>by kernel_rfl)
noncomputable def dd30:D prog 90 none 0:=dO [.l adY] (kd prog f30) 0
noncomputable def F30 (a0:List (GG)):bQ ((List (GG))×Unit) :=
 .bd (F31) fun y0 =>
 .bd (.it g30_0 (a0,(0:Nat),y0.1,(((y0.1).length:Nat):Int),(0:Int),[],())) fun z2 =>
 .ret ((((z2.2.1).drop (0:Nat)).take z2.1),())
theorem Zr:cL prog f30=some ⟨90,1,dd30.er,[.t 2],[some (.list tG)]⟩:=by kernel_rfl
noncomputable def ct30:Ct:=⟨30,[.c (.hole (.list tG))],.c (.hole (.list tG)),fun x=>ak (F30 x.1)⟩
theorem TQ:ct30.Ok prog:=cK mixed Cs func30 Zr (enters_of func30 rfl rfl) dd30 (by kernel_rfl) rfl (fun x=>by kernel_rfl)

end Go.Proofs.Tryz

