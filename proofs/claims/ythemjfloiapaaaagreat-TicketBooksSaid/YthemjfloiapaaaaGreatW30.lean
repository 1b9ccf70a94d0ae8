/- Functions of the program as functions of data, part 1; printed by a program of mine. -/
import Derived.Test.YthemjfloiapaaaaGreatP3
import Derived.Test.YthemjfloiapaaaaGreatProg
set_option linter.unusedSectionVars false
set_option linter.unusedVariables false
set_option linter.unusedSimpArgs false
open Go.AM
namespace Go.Proofs.Tryz
set_option maxRecDepth 100000
set_option synthInstance.maxSize 4000
set_option synthInstance.maxHeartbeats 400000
set_option synthInstance.maxSize 4000
set_option synthInstance.maxHeartbeats 400000
theorem mixed : prog.follows .mixedOrders = true := by kernel_rfl
abbrev tG : Ty := .prod .str (.prod tI (.prod .str (.prod .str tI)))
abbrev GG := ByteArray × Int × ByteArray × ByteArray × Int
abbrev bR : BP := .map .str false .bool false
abbrev fB : BP := .map .str false (.list .str) false
abbrev eE : BP := .map .str false tG true
abbrev gq : BP := .map tG true .bool false
abbrev nU : BP := .map tI false .unit true
abbrev eR := List (GG × Bool)
abbrev bg := List (ByteArray × Bool)
abbrev cV := List (ByteArray × List ByteArray)
abbrev cR := List (ByteArray × GG)
abbrev bJ := List GG
abbrev oo (n : Nat) (i : I) : dw := .op (some n) none i
abbrev om (n k : Nat) : dw := .op (some n) none (.mv (.t k))
abbrev ol (n k : Nat) : dw := .op (some n) none (.load false 1 (.t k))
abbrev og (n k : Nat) (b : Bool) (i : I) : dw := .op (some n) (some (k, b)) i
abbrev ki (n : Nat) : O := .c (.int .i64 (Int.ofNat n))
abbrev hzI : SP := .c (.hole (.int .i64))
abbrev hzL : SP := .c (.hole (.list (.int .i64)))
abbrev hzM : SP := .c (.hole (.list (.list (.int .i64))))

/- 130 -/
noncomputable def aeB:Cx:=(aL [] [])
theorem PY:aeB.Ok prog:=au trivial trivial
noncomputable def XU:D prog 6 none 0:=dO [] (kd prog f130) 0
noncomputable def F130 (a0:ByteArray):bG (Bool×Unit) :=
 .ret ((!(seq a0 a0)),())
theorem Um:cw prog f130=some ⟨6,1,XU.er,[.t 2],[some .bool]⟩:=by kernel_rfl
noncomputable def XV:Ct:=⟨130,[.c (.hole .str)],.c (.hole .bool),fun x=>ai (F130 x.1)⟩
theorem PZ:XV.Ok prog:=cE mixed PY func130 Um (enters_of func130 rfl rfl) XU (by kernel_rfl) rfl (fun x=>by kernel_rfl)

/- 113 -/
noncomputable def aeC:Cx:=(aL [XV] [])
theorem P0:aeC.Ok prog:=au ⟨PZ,trivial⟩ trivial
noncomputable def XW:D prog 20 none 0:=dO [] (kd prog f113) 0
noncomputable def F113 (a0:ByteArray) (a1:ByteArray):bG (Int×Unit) :=
 .bd (F130 a0) fun y0 =>
 .bd (F130 a1) fun y1 =>
 .br y0.1 (
 .br y1.1 (
 .ret ((0:Int),())) (
 .ret ((-1:Int),()))) (
 .br y1.1 (
 .ret ((1:Int),())) (
 .br (slt a0 a1) (
 .ret ((-1:Int),())) (
 .br (!(Gx (slt a0 a1) true (seq a0 a1))) (
 .ret ((1:Int),())) (
 .ret ((0:Int),())))))
theorem Un:cw prog f113=some ⟨20,2,XW.er,[.t 4],[some tI]⟩:=by kernel_rfl
noncomputable def XX:Ct:=⟨113,[.c (.hole .str),.c (.hole .str)],hI,fun x=>ai (F113 x.1 x.2.1)⟩
theorem P3:XX.Ok prog:=cE mixed P0 func113 Un (enters_of func113 rfl rfl) XW (by kernel_rfl) rfl (fun x=>by kernel_rfl)

/- 131 -/
noncomputable def aeD:Cx:=(aL [] [])
theorem P4:aeD.Ok prog:=au trivial trivial
noncomputable def XY:D prog 6 none 0:=dO [] (kd prog f131) 0
noncomputable def F131 (a0:Int):bG (Bool×Unit) :=
 .ret ((!(a0==a0)),())
theorem Uo:cw prog f131=some ⟨6,1,XY.er,[.t 2],[some .bool]⟩:=by kernel_rfl
noncomputable def XZ:Ct:=⟨131,[hI],.c (.hole .bool),fun x=>ai (F131 x.1)⟩
theorem P5:XZ.Ok prog:=cE mixed P4 func131 Uo (enters_of func131 rfl rfl) XY (by kernel_rfl) rfl (fun x=>by kernel_rfl)

/- 114 -/
noncomputable def aeE:Cx:=(aL [XZ] [])
theorem P6:aeE.Ok prog:=au ⟨P5,trivial⟩ trivial
noncomputable def X0:D prog 20 none 0:=dO [] (kd prog f114) 0
noncomputable def F114 (a0:Int) (a1:Int):bG (Int×Unit) :=
 .bd (F131 a0) fun y0 =>
 .bd (F131 a1) fun y1 =>
 .br y0.1 (
 .br y1.1 (
 .ret ((0:Int),())) (
 .ret ((-1:Int),()))) (
 .br y1.1 (
 .ret ((1:Int),())) (
 .br (decide (a0<a1)) (
 .ret ((-1:Int),())) (
 .br (decide (a1<a0)) (
 .ret ((1:Int),())) (
 .ret ((0:Int),())))))
theorem Uq:cw prog f114=some ⟨20,2,X0.er,[.t 4],[some tI]⟩:=by kernel_rfl
noncomputable def X1:Ct:=⟨114,[hI,hI],hI,fun x=>ai (F114 x.1 x.2.1)⟩
theorem P7:X1.Ok prog:=cE mixed P6 func114 Uq (enters_of func114 rfl rfl) X0 (by kernel_rfl) rfl (fun x=>by kernel_rfl)

/- 112 -/
noncomputable def X2:Cx:=(aL [] [])
theorem EX:X2.Ok prog:=au trivial trivial
abbrev aav:av:=av.mk [(3,hI),(6,hL),(7,hI),(8,hI)] [] [] []
abbrev aaw:aU:=[(.ret,av.mk [(2,hI)] [] [] []),(.exit 0,av.mk [(3,hI)] [] [] [])]
noncomputable def aax:D prog 18 none 0:=dO [] (pick (kd prog f112) [(0,false)]) 0
noncomputable def g112_0:Int×List Int×Int×Int×Unit->bG ((Int×List Int×Int×Int×Unit) ⊕ ((Int×Unit) ⊕ ((Int×Unit)))):=fun (v3,v6,v7,v8,_) =>
 .br (decide (v8<v7)) (
 .nb v8 (((v6).length:Nat):Int) <|
 .br (!(((v6).getD (Int.toNat v8) (0:Int))==v3)) (
 .ret (.inr <| .inl<|(((v6).getD (Int.toNat v8) (0:Int)),()))) (
 .ni (v8+(1:Int)) <|
 .ret (.inl (v3,v6,v7,(v8+(1:Int)),())))) (
 .ret (.inr <| .inr<|(v3,())))
noncomputable def aay:bw prog 18 none 0:=aW mixed X2 EX [] rfl aav aaw rfl (aax) (fun x=>ai (g112_0 x)) (fun x=>by kernel_rfl)
noncomputable def X3:D prog 18 none 0:=dO [.l aay] (kd prog f112) 0
noncomputable def F112 (a0:List Int):bG (Int×Unit) :=
 .bd (.it g112_0 ((0:Int),a0,(((a0).length:Nat):Int),(0:Int),())) fun z0 =>
 .sm z0 (fun z1 =>
 .ret (z1.1,())) fun z2 =>
 .ret (z2.1,())
theorem Ur:cw prog f112=some ⟨18,1,X3.er,[.t 2],[some tI]⟩:=by kernel_rfl
noncomputable def X4:Ct:=⟨112,[hL],hI,fun x=>ai (F112 x.1)⟩
theorem P8:X4.Ok prog:=cE mixed EX func112 Ur (enters_of func112 rfl rfl) X3 (by kernel_rfl) rfl (fun x=>by kernel_rfl)

/- 85 -/
noncomputable def cx85:Cx:=(aL [XX,X1,X4] [])
theorem Us:cx85.Ok prog:=au ⟨P3,P7,P8,trivial⟩ trivial
noncomputable def dd85:D prog 35 none 0:=dO [] (kd prog f85) 0
noncomputable def F85 (a0:GG) (a1:GG):bG (Int×Unit) :=
 .br ((seq a0.1 a1.1)&&((a0.2.1==a1.2.1)&&((seq a0.2.2.1 a1.2.2.1)&&((seq a0.2.2.2.1 a1.2.2.2.1)&&((a0.2.2.2.2==a1.2.2.2.2)&&true))))) (
 .ret ((0:Int),())) (
 .bd (F113 a0.1 a1.1) fun y0 =>
 .bd (F114 a0.2.1 a1.2.1) fun y1 =>
 .bd (F113 a0.2.2.1 a1.2.2.1) fun y2 =>
 .bd (F113 a0.2.2.2.1 a1.2.2.2.1) fun y3 =>
 .bd (F114 a0.2.2.2.2 a1.2.2.2.2) fun y4 =>
 .bd (F112 ((((y0.1::(y1.1::(y2.1::(y3.1::(y4.1::[])))))).drop (0:Nat)).take (5:Nat))) fun y5 =>
 .ret (y5.1,()))
theorem aaz:cw prog f85=some ⟨35,2,dd85.er,[.t 4],[some tI]⟩:=by kernel_rfl
noncomputable def ct85:Ct:=⟨85,[.c (.hole tG),.c (.hole tG)],hI,fun x=>ai (F85 x.1 x.2.1)⟩
theorem Ut:ct85.Ok prog:=cE mixed Us func85 aaz (enters_of func85 rfl rfl) dd85 (by kernel_rfl) rfl (fun x=>by kernel_rfl)

/- 50 -/
noncomputable def cx50:Cx:=(aL [] [])
theorem Uu:cx50.Ok prog:=au trivial trivial
noncomputable def dd50:D prog 11 none 0:=dO [] (kd prog f50) 0
noncomputable def F50 (a0:ByteArray) (a1:ByteArray) (a2:Int):bG (GG×Unit) :=
 .ret ((a0,(1:Int),(bs []),a1,a2),())
theorem aaA:cw prog f50=some ⟨11,3,dd50.er,[.cell 6 true 5],[some tG]⟩:=by kernel_rfl
noncomputable def ct50:Ct:=⟨50,[.c (.hole .str),.c (.hole .str),hI],.c (.hole tG),fun x=>ai (F50 x.1 x.2.1 x.2.2.1)⟩
theorem Uv:ct50.Ok prog:=cE mixed Uu func50 aaA (enters_of func50 rfl rfl) dd50 (by kernel_rfl) rfl (fun x=>by kernel_rfl)

/- 42 -/
noncomputable def cx42:Cx:=(aL [] [])
theorem Uw:cx42.Ok prog:=au trivial trivial
noncomputable def dd42:D prog 14 none 0:=dO [] (kd prog f42) 0
noncomputable def F42 (a0:ByteArray) (a1:ByteArray) (a2:ByteArray) (a3:Int):bG (GG×Unit) :=
 .ret ((a0,(2:Int),a1,a2,a3),())
theorem aaB:cw prog f42=some ⟨14,4,dd42.er,[.cell 8 true 5],[some tG]⟩:=by kernel_rfl
noncomputable def ct42:Ct:=⟨42,[.c (.hole .str),.c (.hole .str),.c (.hole .str),hI],.c (.hole tG),fun x=>ai (F42 x.1 x.2.1 x.2.2.1 x.2.2.2.1)⟩
theorem Ux:ct42.Ok prog:=cE mixed Uw func42 aaB (enters_of func42 rfl rfl) dd42 (by kernel_rfl) rfl (fun x=>by kernel_rfl)

/- 39 -/
noncomputable def cx39:Cx:=(aL [] [])
theorem Uy:cx39.Ok prog:=au trivial trivial
noncomputable def dd39:D prog 8 none 0:=dO [] (kd prog f39) 0
noncomputable def F39 (a0:ByteArray) (a1:ByteArray):bG (GG×Unit) :=
 .ret ((a0,(3:Int),a1,(bs []),(0:Int)),())
theorem aaC:cw prog f39=some ⟨8,2,dd39.er,[.cell 4 true 5],[some tG]⟩:=by kernel_rfl
noncomputable def ct39:Ct:=⟨39,[.c (.hole .str),.c (.hole .str)],.c (.hole tG),fun x=>ai (F39 x.1 x.2.1)⟩
theorem Uz:ct39.Ok prog:=cE mixed Uy func39 aaC (enters_of func39 rfl rfl) dd39 (by kernel_rfl) rfl (fun x=>by kernel_rfl)

/- 46 -/
noncomputable def cx46:Cx:=(aL [ct50,ct42,ct39] [])
theorem UA:cx46.Ok prog:=au ⟨Uv,Ux,Uz,trivial⟩ trivial
noncomputable def dd46:D prog 10 none 0:=dO [] (kd prog f46) 0
noncomputable def F46:bG (bJ×Unit) :=
 .bd (F50 (bs [116,49]) (bs [97,110,97]) (40:Int)) fun y0 =>
 .bd (F50 (bs [116,50]) (bs [98,101,110]) (25:Int)) fun y1 =>
 .bd (F42 (bs [99,49]) (bs [116,49]) (bs [97,110,97]) (42:Int)) fun y2 =>
 .bd (F42 (bs [99,50]) (bs [116,49]) (bs [99,121]) (40:Int)) fun y3 =>
 .bd (F42 (bs [99,51]) (bs [99,49]) (bs [97,110,97]) (41:Int)) fun y4 =>
 .bd (F42 (bs [119,49]) (bs [120,57]) (bs [98,101,110]) (5:Int)) fun y5 =>
 .bd (F39 (bs [114,49]) (bs [99,49])) fun y6 =>
 .bd (F39 (bs [114,50]) (bs [99,50])) fun y7 =>
 .ret ((((((y0.1.1,y0.1.2.1,y0.1.2.2.1,y0.1.2.2.2.1,y0.1.2.2.2.2)::((y1.1.1,y1.1.2.1,y1.1.2.2.1,y1.1.2.2.2.1,y1.1.2.2.2.2)::((y2.1.1,y2.1.2.1,y2.1.2.2.1,y2.1.2.2.2.1,y2.1.2.2.2.2)::((y3.1.1,y3.1.2.1,y3.1.2.2.1,y3.1.2.2.2.1,y3.1.2.2.2.2)::((y4.1.1,y4.1.2.1,y4.1.2.2.1,y4.1.2.2.2.1,y4.1.2.2.2.2)::((y5.1.1,y5.1.2.1,y5.1.2.2.1,y5.1.2.2.2.1,y5.1.2.2.2.2)::((y6.1.1,y6.1.2.1,y6.1.2.2.1,y6.1.2.2.2.1,y6.1.2.2.2.2)::((y7.1.1,y7.1.2.1,y7.1.2.2.1,y7.1.2.2.2.1,y7.1.2.2.2.2)::[]))))))))).drop (0:Nat)).take (8:Nat)),())
theorem aaD:cw prog f46=some ⟨10,0,dd46.er,[.t 0],[some (.list tG)]⟩:=by kernel_rfl
noncomputable def ct46:Ct:=⟨46,[],.c (.hole (.list tG)),fun x=>ai (F46)⟩
theorem UB:ct46.Ok prog:=cE mixed UA func46 aaD (enters_of func46 rfl rfl) dd46 (by kernel_rfl) rfl (fun x=>by kernel_rfl)

/- 18, lent -/
abbrev pH18:av:=av.mk [] [] [] []
abbrev qH18:av:=av.mk [(0,.c (.ptr 0 0))] [(0,.cells [.mp 1] false),(1,gq)] [.slot 0,.cell 0 0] []
noncomputable def aeO:Cx:=(aL [] [])
theorem P9:aeO.Ok prog:=au trivial trivial
noncomputable def X5:D prog 4 none 0:=dO [] (kd prog f18) 0
noncomputable def FH18:bG (eR×Unit) :=
 .ret ([],())
theorem UC:cw prog f18=some ⟨4,0,X5.er,[.t 0],[none]⟩:=by kernel_rfl
noncomputable def aaE:Ht:=⟨18,pH18,qH18,(fun x=>ai (FH18))⟩
theorem JM:aaE.Ok prog:=bE mixed P9 rfl func18 UC (enters_of func18 rfl rfl) X5 (by kernel_rfl) rfl rfl ⟨_,rfl⟩ rfl (pre:=[]) rfl (fun x=>by kernel_rfl)

/- 54, lent -/
abbrev pH54:av:=av.mk [(0,.c (.ptr 0 0))] [(0,.cells [.mp 1] false),(1,gq)] [.slot 0,.cell 0 0] []
abbrev qH54:av:=av.mk [(0,.c (.hole .bool))] [(0,.cells [.mp 1] false),(1,gq)] [] []
noncomputable def aeP:Cx:=(aL [] [])
theorem Qa:aeP.Ok prog:=au trivial trivial
noncomputable def X6:D prog 12 none 2:=dO [] (kd prog f54) 0
noncomputable def FH54 (m1:eR):bG (Bool×eR×Unit) :=
 .ret (false,m1,())
theorem UD:cw prog f54=some ⟨12,1,X6.er,[.t 2],[some .bool]⟩:=by kernel_rfl
noncomputable def Ah:Ht:=⟨54,pH54,qH54,(fun x=>ai (FH54 x.1))⟩
theorem nV:Ah.Ok prog:=bE mixed Qa rfl func54 UD (enters_of func54 rfl rfl) X6 (by kernel_rfl) rfl rfl ⟨_,rfl⟩ rfl (pre:=[0,1]) rfl (fun x=>by kernel_rfl)

/- 65 -/
noncomputable def cx65:Cx:=(aL [] [])
theorem JN:cx65.Ok prog:=au trivial trivial
abbrev aeR:av:=av.mk [(0,.c (.hole .str)),(6,.c (.hole (.list (.int .u8)))),(7,hI),(8,hI)] [] [] []
abbrev aeS:aU:=[(.ret,av.mk [(2,.c (.tf false))] [] [] []),(.exit 0,av.mk [(0,.c (.hole .str))] [] [] [])]
noncomputable def aeT:D prog 40 none 0:=dO [] (pick (kd prog f65) [(0,false)]) 0
noncomputable def g65_0:ByteArray×List Int×Int×Int×Unit->bG ((ByteArray×List Int×Int×Int×Unit) ⊕ ((Unit) ⊕ ((ByteArray×Unit)))):=fun (v0,v6,v7,v8,_) =>
 .br (decide (v8<v7)) (
 .nb v8 (((v6).length:Nat):Int) <|
 .br (decide (((v6).getD (Int.toNat v8) (0:Int))<(97:Int))) (
 .br (v8==(0:Int)) (
 .ret (.inr <| .inl<|())) (
 .br (decide (((v6).getD (Int.toNat v8) (0:Int))<(48:Int))) (
 .ret (.inr <| .inl<|())) (
 .br (decide ((57:Int)<((v6).getD (Int.toNat v8) (0:Int)))) (
 .ret (.inr <| .inl<|())) (
 .ni (v8+(1:Int)) <|
 .ret (.inl (v0,v6,v7,(v8+(1:Int)),())))))) (
 .br (decide ((122:Int)<((v6).getD (Int.toNat v8) (0:Int)))) (
 .br (v8==(0:Int)) (
 .ret (.inr <| .inl<|())) (
 .br (decide (((v6).getD (Int.toNat v8) (0:Int))<(48:Int))) (
 .ret (.inr <| .inl<|())) (
 .br (decide ((57:Int)<((v6).getD (Int.toNat v8) (0:Int)))) (
 .ret (.inr <| .inl<|())) (
 .ni (v8+(1:Int)) <|
 .ret (.inl (v0,v6,v7,(v8+(1:Int)),())))))) (
 .ni (v8+(1:Int)) <|
 .ret (.inl (v0,v6,v7,(v8+(1:Int)),()))))) (
 .ret (.inr <| .inr<|(v0,())))
noncomputable def aeU:bw prog 40 none 0:=aW mixed cx65 JN [] rfl aeR aeS rfl (aeT) (fun x=>ai (g65_0 x)) (fun x=>by kernel_rfl)
noncomputable def dd65:D prog 40 none 0:=dO [.l aeU] (kd prog f65) 0
noncomputable def F65 (a0:ByteArray):bG (Bool×Unit) :=
 .bd (.it g65_0 (a0,(fH a0),((((fH a0)).length:Nat):Int),(0:Int),())) fun z0 =>
 .sm z0 (fun z1 =>
 .ret (false,())) fun z2 =>
 .br (decide ((0:Int)<((z2.1.size:Nat):Int))) (
 .ret ((decide (((z2.1.size:Nat):Int)<=(10:Int))),())) (
 .ret (false,()))
theorem aaF:cw prog f65=some ⟨40,1,dd65.er,[.t 2],[some .bool]⟩:=by kernel_rfl
noncomputable def Qb:Ct:=⟨65,[.c (.hole .str)],.c (.hole .bool),fun x=>ai (F65 x.1)⟩
theorem wD:Qb.Ok prog:=cE mixed JN func65 aaF (enters_of func65 rfl rfl) dd65 (by kernel_rfl) rfl (fun x=>by kernel_rfl)

/- 87 -/
noncomputable def cx87:Cx:=(aL [Qb] [])
theorem UE:cx87.Ok prog:=au ⟨wD,trivial⟩ trivial
noncomputable def dd87:D prog 27 none 0:=dO [] (kd prog f87) 0
noncomputable def F87 (a0:GG):bG (Int×Unit) :=
 .br (a0.2.1==(1:Int)) (
 .br (!(seq a0.2.2.1 (bs []))) (
 .ret ((22:Int),())) (
 .br (a0.2.1==(1:Int)) (
 .ret ((0:Int),())) (
 .bd (F65 a0.2.2.1) fun y0 =>
 .br (!y0.1) (
 .ret ((8:Int),())) (
 .br (seq a0.2.2.1 a0.1) (
 .ret ((22:Int),())) (
 .ret ((0:Int),())))))) (
 .br (a0.2.1==(1:Int)) (
 .ret ((0:Int),())) (
 .bd (F65 a0.2.2.1) fun y1 =>
 .br (!y1.1) (
 .ret ((8:Int),())) (
 .br (seq a0.2.2.1 a0.1) (
 .ret ((22:Int),())) (
 .ret ((0:Int),())))))
theorem aaG:cw prog f87=some ⟨27,1,dd87.er,[.t 2],[some tI]⟩:=by kernel_rfl
noncomputable def ct87:Ct:=⟨87,[.c (.hole tG)],hI,fun x=>ai (F87 x.1)⟩
theorem UF:ct87.Ok prog:=cE mixed UE func87 aaG (enters_of func87 rfl rfl) dd87 (by kernel_rfl) rfl (fun x=>by kernel_rfl)

/- 88 -/
noncomputable def cx88:Cx:=(aL [Qb] [])
theorem UG:cx88.Ok prog:=au ⟨wD,trivial⟩ trivial
noncomputable def dd88:D prog 35 none 0:=dO [] (kd prog f88) 0
noncomputable def F88 (a0:GG):bG (Int×Unit) :=
 .br (a0.2.1==(3:Int)) (
 .br (!(seq a0.2.2.2.1 (bs []))) (
 .ret ((22:Int),())) (
 .br (!(a0.2.2.2.2==(0:Int))) (
 .ret ((22:Int),())) (
 .br (a0.2.1==(3:Int)) (
 .ret ((0:Int),())) (
 .bd (F65 a0.2.2.2.1) fun y0 =>
 .br (!y0.1) (
 .ret ((8:Int),())) (
 .br (decide (a0.2.2.2.2<(-1000:Int))) (
 .ret ((2:Int),())) (
 .br (decide ((1000:Int)<a0.2.2.2.2)) (
 .ret ((2:Int),())) (
 .ret ((0:Int),())))))))) (
 .br (a0.2.1==(3:Int)) (
 .ret ((0:Int),())) (
 .bd (F65 a0.2.2.2.1) fun y1 =>
 .br (!y1.1) (
 .ret ((8:Int),())) (
 .br (decide (a0.2.2.2.2<(-1000:Int))) (
 .ret ((2:Int),())) (
 .br (decide ((1000:Int)<a0.2.2.2.2)) (
 .ret ((2:Int),())) (
 .ret ((0:Int),()))))))
theorem aaH:cw prog f88=some ⟨35,1,dd88.er,[.t 2],[some tI]⟩:=by kernel_rfl
noncomputable def ct88:Ct:=⟨88,[.c (.hole tG)],hI,fun x=>ai (F88 x.1)⟩
theorem UH:ct88.Ok prog:=cE mixed UG func88 aaH (enters_of func88 rfl rfl) dd88 (by kernel_rfl) rfl (fun x=>by kernel_rfl)

/- 86 -/
noncomputable def cx86:Cx:=(aL [] [])
theorem JO:cx86.Ok prog:=au trivial trivial
abbrev ae1:av:=av.mk [(3,hI),(6,hL),(7,hI),(8,hI)] [] [] []
abbrev ae2:aU:=[(.ret,av.mk [(2,hI)] [] [] []),(.exit 0,av.mk [(3,hI)] [] [] [])]
noncomputable def ae3:D prog 18 none 0:=dO [] (pick (kd prog f86) [(0,false)]) 0
noncomputable def g86_0:Int×List Int×Int×Int×Unit->bG ((Int×List Int×Int×Int×Unit) ⊕ ((Int×Unit) ⊕ ((Int×Unit)))):=fun (v3,v6,v7,v8,_) =>
 .br (decide (v8<v7)) (
 .nb v8 (((v6).length:Nat):Int) <|
 .br (!(((v6).getD (Int.toNat v8) (0:Int))==v3)) (
 .ret (.inr <| .inl<|(((v6).getD (Int.toNat v8) (0:Int)),()))) (
 .ni (v8+(1:Int)) <|
 .ret (.inl (v3,v6,v7,(v8+(1:Int)),())))) (
 .ret (.inr <| .inr<|(v3,())))
noncomputable def ae4:bw prog 18 none 0:=aW mixed cx86 JO [] rfl ae1 ae2 rfl (ae3) (fun x=>ai (g86_0 x)) (fun x=>by kernel_rfl)
noncomputable def dd86:D prog 18 none 0:=dO [.l ae4] (kd prog f86) 0
noncomputable def F86 (a0:List Int):bG (Int×Unit) :=
 .bd (.it g86_0 ((0:Int),a0,(((a0).length:Nat):Int),(0:Int),())) fun z0 =>
 .sm z0 (fun z1 =>
 .ret (z1.1,())) fun z2 =>
 .ret (z2.1,())
theorem aaI:cw prog f86=some ⟨18,1,dd86.er,[.t 2],[some tI]⟩:=by kernel_rfl
noncomputable def ct86:Ct:=⟨86,[hL],hI,fun x=>ai (F86 x.1)⟩
theorem UI:ct86.Ok prog:=cE mixed JO func86 aaI (enters_of func86 rfl rfl) dd86 (by kernel_rfl) rfl (fun x=>by kernel_rfl)

/- 55 -/
noncomputable def cx55:Cx:=(aL [Qb,ct87,ct88,ct86] [])
theorem UJ:cx55.Ok prog:=au ⟨wD,UF,UH,UI,trivial⟩ trivial
noncomputable def dd55:D prog 23 none 0:=dO [] (kd prog f55) 0
noncomputable def F55 (a0:GG):bG (Int×Unit) :=
 .br (decide (a0.2.1<(1:Int))) (
 .ret ((18:Int),())) (
 .br (decide ((3:Int)<a0.2.1)) (
 .ret ((18:Int),())) (
 .bd (F65 a0.1) fun y0 =>
 .br (!y0.1) (
 .ret ((8:Int),())) (
 .bd (F87 (a0.1,a0.2.1,a0.2.2.1,a0.2.2.2.1,a0.2.2.2.2)) fun y1 =>
 .bd (F88 (a0.1,a0.2.1,a0.2.2.1,a0.2.2.2.1,a0.2.2.2.2)) fun y2 =>
 .bd (F86 ((((y1.1::(y2.1::[]))).drop (0:Nat)).take (2:Nat))) fun y3 =>
 .ret (y3.1,()))))
theorem aaJ:cw prog f55=some ⟨23,1,dd55.er,[.t 2],[some tI]⟩:=by kernel_rfl
noncomputable def ct55:Ct:=⟨55,[.c (.hole tG)],hI,fun x=>ai (F55 x.1)⟩
theorem UK:ct55.Ok prog:=cE mixed UJ func55 aaJ (enters_of func55 rfl rfl) dd55 (by kernel_rfl) rfl (fun x=>by kernel_rfl)

/- 89, by hand -/
abbrev pH89:av:=av.mk [(0,.c (.mp 0))] [(0,gq)] [.slot 0] []
abbrev qH89:av:=av.mk [(0,.c (.mp 1))] [(1,gq),(0,gq)] [.slot 0] []
noncomputable def FH89 (m0:eR):bG (eR×eR×Unit) :=
 .ret (m0,m0,())
noncomputable def ht89:Ht:=⟨89,pH89,qH89,(fun x=>ai (FH89 x.1))⟩
theorem UL:ht89.Ok prog:=fun x y h=>by
  have h':some (x.1,x.1,())=some y:=h
  cases h'
  exact EM (ρ:=Bg) aeA (enters_of func89 rfl rfl)

/- 193, lent -/
abbrev afa:av:=av.mk [(0,.c (.hole tG))] [] [] []
abbrev afb:av:=av.mk [(0,.c (.bH 0 tG))] [(0,.arr tG false)] [.slot 0] []
noncomputable def aaK:Cx:=(aL [] [])
theorem L5:aaK.Ok prog:=au trivial trivial
noncomputable def Qd:D prog 5 none 0:=dO [] (kd prog f193) 0
noncomputable def FH193 (v0:GG):bG (Nat×bJ×Unit) :=
 .ret ((1:Nat),((v0.1,v0.2.1,v0.2.2.1,v0.2.2.2.1,v0.2.2.2.2)::[]),())
theorem Qe:cw prog f193=some ⟨5,1,Qd.er,[.t 2],[some (.list tG)]⟩:=by kernel_rfl
noncomputable def X7:Ht:=⟨193,afa,afb,(fun x=>ai (FH193 x.1))⟩
theorem Qf:X7.Ok prog:=bE mixed L5 rfl func193 Qe (enters_of func193 rfl rfl) Qd (by kernel_rfl) rfl rfl ⟨_,rfl⟩ rfl (pre:=[]) rfl (fun x=>by kernel_rfl)

/- 56, lent -/
abbrev pH56:av:=av.mk [(0,.c (.ptr 0 0)),(1,.c (.Hr 33 true (.cons (.hole .str) (.cons (.hole tI) (.cons (.hole .str) (.cons (.hole .str) (.cons (.hole tI) .nil)))))))] [(0,.cells [.mp 1] false),(1,gq)] [.slot 0,.cell 0 0] []
abbrev qH56:av:=av.mk [(0,hI)] [(0,.cells [.mp 2] false),(2,gq)] [.cell 0 0] []
noncomputable def X8:Cx:=(aL [] [ht89,X7])
theorem EY:X8.Ok prog:=au trivial ⟨⟨UL,rfl⟩,⟨Qf,rfl⟩,trivial⟩
abbrev aaL:av:=av.mk [(0,.c (.ptr 0 0)),(5,.c (.mp 2)),(14,.c (.bH 3 tG)),(15,hI),(16,hI)] [(0,.cells [.mp 1] false),(2,gq),(3,.arr tG false),(1,gq)] [.slot 5,.slot 14] []
abbrev aaM:aU:=[(.exit 0,av.mk [(0,.c (.ptr 0 0)),(5,.c (.mp 2))] [(0,.cells [.mp 1] false),(2,gq),(1,gq)] [.slot 5] [])]
noncomputable def aaN:D prog 30 none 2:=dO [] (pick (kd prog f56) [(0,false)]) 0
noncomputable def gH56_0:Nat×Int×Int×eR×bJ×eR×Unit->bG ((Nat×Int×Int×eR×bJ×eR×Unit) ⊕ ((eR×eR×Unit))):=fun (nv14,v15,CI,m2,b3,m1,_) =>
 .br (decide (CI<v15)) (
 .nb CI ((nv14:Nat):Int) <|
 .nd (decide (((0:Nat)+(Int.toNat CI))<(b3).length)) <|
 .ni (CI+(1:Int)) <|
 .ret (.inl (nv14,v15,(CI+(1:Int)),(bq (.prod .str (.prod (.int .i64) (.prod .str (.prod .str (.int .i64))))) m2 (((b3).getD ((0:Nat)+(Int.toNat CI)) ((bs []),(0:Int),(bs []),(bs []),(0:Int))).1,((b3).getD ((0:Nat)+(Int.toNat CI)) ((bs []),(0:Int),(bs []),(bs []),(0:Int))).2.1,((b3).getD ((0:Nat)+(Int.toNat CI)) ((bs []),(0:Int),(bs []),(bs []),(0:Int))).2.2.1,((b3).getD ((0:Nat)+(Int.toNat CI)) ((bs []),(0:Int),(bs []),(bs []),(0:Int))).2.2.2.1,((b3).getD ((0:Nat)+(Int.toNat CI)) ((bs []),(0:Int),(bs []),(bs []),(0:Int))).2.2.2.2) true),b3,m1,()))) (
 .ret (.inr (m2,m1,())))
noncomputable def aaO:bw prog 30 none 2:=aW mixed X8 EY [0,1] rfl aaL aaM rfl (aaN) (fun x=>ai (gH56_0 x)) (fun x=>by kernel_rfl)
noncomputable def X9:D prog 30 none 2:=dO [.l aaO] (kd prog f56) 0
noncomputable def FH56 (v1c0:ByteArray) (v1c1:Int) (v1c2:ByteArray) (v1c3:ByteArray) (v1c4:Int) (m1:eR):bG (Int×eR×Unit) :=
 .bd (FH89 m1) fun y0 =>
 .bd (FH193 (v1c0,v1c1,v1c2,v1c3,v1c4)) fun y1 =>
 .bd (.it gH56_0 (y1.1,((y1.1:Nat):Int),(0:Int),y0.1,y1.2.1,y0.2.1,())) fun z2 =>
 .br (decide ((60:Int)<(((z2.1).length:Nat):Int))) (
 .ret ((15:Int),z2.2.1,())) (
 .ret ((0:Int),z2.1,()))
theorem UM:cw prog f56=some ⟨30,2,X9.er,[.t 4],[some tI]⟩:=by kernel_rfl
noncomputable def ht56:Ht:=⟨56,pH56,qH56,(fun x=>ai (FH56 x.1 x.2.1 x.2.2.1 x.2.2.2.1 x.2.2.2.2.1 x.2.2.2.2.2.1))⟩
theorem UN:ht56.Ok prog:=bE mixed EY rfl func56 UM (enters_of func56 rfl rfl) X9 (by kernel_rfl) rfl rfl ⟨_,rfl⟩ rfl (pre:=[0,1]) rfl (fun x=>by kernel_rfl)

/- 20, lent -/
abbrev pH20:av:=av.mk [(0,.c (.ptr 0 0)),(1,.c (.hole tG))] [(0,.cells [.mp 1] false),(1,gq)] [.slot 0,.cell 0 0] []
abbrev qH20:av:=av.mk [(0,hI)] [(0,.cells [.mp 2] false),(2,gq)] [.cell 0 0] []
noncomputable def afe:Cx:=(aL [ct55] [Ah,ht56])
theorem Qg:afe.Ok prog:=au ⟨UK,trivial⟩ ⟨⟨nV,rfl⟩,⟨UN,rfl⟩,trivial⟩
noncomputable def Yc:D prog 17 none 2:=dO [] (kd prog f20) 0
noncomputable def FH20 (v1:GG) (m1:eR):bG (Int×eR×Unit) :=
 .bd (FH54 m1) fun y0 =>
 .br y0.1 (
 .ret ((9:Int),y0.2.1,())) (
 .bd (F55 (v1.1,v1.2.1,v1.2.2.1,v1.2.2.2.1,v1.2.2.2.2)) fun y1 =>
 .br (!(y1.1==(0:Int))) (
 .ret (y1.1,y0.2.1,())) (
 .bd (FH56 v1.1 v1.2.1 v1.2.2.1 v1.2.2.2.1 v1.2.2.2.2 y0.2.1) fun y2 =>
 .ret (y2.1,y2.2.1,())))
theorem UO:cw prog f20=some ⟨17,2,Yc.er,[.t 4],[some tI]⟩:=by kernel_rfl
noncomputable def aaP:Ht:=⟨20,pH20,qH20,(fun x=>ai (FH20 x.1 x.2.1))⟩
theorem JP:aaP.Ok prog:=bE mixed Qg rfl func20 UO (enters_of func20 rfl rfl) Yc (by kernel_rfl) rfl rfl ⟨_,rfl⟩ rfl (pre:=[0,1]) rfl (fun x=>by kernel_rfl)

/- 29, lent -/
abbrev pH29:av:=av.mk [(0,.c (.hole (.list tG)))] [] [] []
abbrev qH29:av:=av.mk [(0,.c (.ptr 0 0))] [(0,.cells [.mp 1] false),(1,gq)] [.slot 0,.cell 0 0] []
noncomputable def Yd:Cx:=(aL [] [aaE,aaP])
theorem EZ:Yd.Ok prog:=au trivial ⟨⟨JM,rfl⟩,⟨JP,rfl⟩,trivial⟩
abbrev aaQ:av:=av.mk [(0,.c (.hole (.list tG))),(3,.c (.ptr 0 0)),(4,hI)] [(0,.cells [.mp 1] false),(1,gq)] [.slot 3,.cell 0 0] []
abbrev aaR:aU:=[(.exit 0,av.mk [(3,.c (.ptr 0 0))] [(0,.cells [.mp 1] false),(1,gq)] [.slot 3,.cell 0 0] [])]
noncomputable def aaS:D prog 19 none 0:=dO [] (pick (kd prog f29) [(0,false)]) 0
noncomputable def gH29_0:bJ×Int×eR×Unit->bG ((bJ×Int×eR×Unit) ⊕ ((eR×Unit))):=fun (v0,v4,m1,_) =>
 .br (decide (v4<(((v0).length:Nat):Int))) (
 .nb v4 (((v0).length:Nat):Int) <|
 .bd (FH20 (((v0).getD (Int.toNat v4) ((bs []),(0:Int),(bs []),(bs []),(0:Int))).1,((v0).getD (Int.toNat v4) ((bs []),(0:Int),(bs []),(bs []),(0:Int))).2.1,((v0).getD (Int.toNat v4) ((bs []),(0:Int),(bs []),(bs []),(0:Int))).2.2.1,((v0).getD (Int.toNat v4) ((bs []),(0:Int),(bs []),(bs []),(0:Int))).2.2.2.1,((v0).getD (Int.toNat v4) ((bs []),(0:Int),(bs []),(bs []),(0:Int))).2.2.2.2) m1) fun y1 =>
 .ni (v4+(1:Int)) <|
 .ret (.inl (v0,(v4+(1:Int)),y1.2.1,()))) (
 .ret (.inr (m1,())))
noncomputable def aaT:bw prog 19 none 0:=aW mixed Yd EZ [] rfl aaQ aaR rfl (aaS) (fun x=>ai (gH29_0 x)) (fun x=>by kernel_rfl)
noncomputable def Ye:D prog 19 none 0:=dO [.l aaT] (kd prog f29) 0
noncomputable def FH29 (v0:bJ):bG (eR×Unit) :=
 .bd (FH18) fun y0 =>
 .bd (.it gH29_0 (v0,(0:Int),y0.1,())) fun z2 =>
 .ret (z2.1,())
theorem UP:cw prog f29=some ⟨19,1,Ye.er,[.t 2],[none]⟩:=by kernel_rfl
noncomputable def ht29:Ht:=⟨29,pH29,qH29,(fun x=>ai (FH29 x.1))⟩
theorem UQ:ht29.Ok prog:=bE mixed EZ rfl func29 UP (enters_of func29 rfl rfl) Ye (by kernel_rfl) rfl rfl ⟨_,rfl⟩ rfl (pre:=[]) rfl (fun x=>by kernel_rfl)

/- 84, lent -/
abbrev pH84:av:=av.mk [(0,.c (.mp 0))] [(0,gq)] [.slot 0] []
abbrev qH84:av:=av.mk [(0,.fn 111 [] [.ptr 1 0])] [(1,.cells [.mp 0] false),(0,gq)] [.part 0 0] []
noncomputable def afg:Cx:=(aL [] [])
theorem Qh:afg.Ok prog:=au trivial trivial
noncomputable def Yf:D prog 4 none 1:=dO [] (kd prog f84) 0
noncomputable def FH84 (m0:eR):bG (eR×Unit) :=
 .ret (m0,())
theorem UR:cw prog f84=some ⟨4,1,Yf.er,[.t 2],[none]⟩:=by kernel_rfl
noncomputable def ht84:Ht:=⟨84,pH84,qH84,(fun x=>ai (FH84 x.1))⟩
theorem US:ht84.Ok prog:=bE mixed Qh rfl func84 UR (enters_of func84 rfl rfl) Yf (by kernel_rfl) rfl rfl ⟨_,rfl⟩ rfl (pre:=[0]) rfl (fun x=>by kernel_rfl)

/- 110, by hand -/
abbrev afi:av:=av.mk [(0,.c (.bH 0 tG)),(1,.c (.fn0 85))] [(0,.arr tG false)] [.slot 0] []
abbrev afj:av:=av.mk [(0,.c .any)] [(0,.arr tG false)] [] []
noncomputable def FH110 (nW:Nat) (b0:bJ):bG (bJ×Unit) :=
 .of (vN (.prod .str (.prod (.int .i64) (.prod .str (.prod .str (.int .i64))))) b0 nW)
noncomputable def Qi:Ht:=⟨110,afi,afj,(fun x=>ai (FH110 x.1 x.2.1))⟩
theorem wE (a b:ByteArray):(seq a b=true)↔a=b:=by
  unfold seq
  rw [beq_iff_eq,Go.ByteArray.toList_eq,Go.ByteArray.toList_eq]
  obtain ⟨a⟩:=a;obtain ⟨b⟩:=b
  simp
def od (a b:ByteArray):Int:=if slt a b=true then -1 else if a=b then 0 else 1
def qD (a b:Int):Int:=if a<b then -1 else if b<a then 1 else 0
def qm : List Int → Int
 |[]=>0
 |a::r=>if a=0 then qm r else a
theorem afk (a:ByteArray):ai (F130 a)=some (false,()):=by
  have:seq a a=true:=(wE a a).2 rfl
  simp [F130,aa,this]
theorem afl (a:Int):ai (F131 a)=some (false,()):=by simp [F131,aa]
theorem afm (a b:ByteArray):ai (F113 a b)=some (od a b,()):=by
  simp only [F113,aA,aj,aa,afk,aF,EW,jR,od]
  cases h:slt a b
  · by_cases he : a = b
    · subst he;simp [(wE a a).2 rfl]
    · have : seq a b = false := by rw [← Bool.not_eq_true]; exact fun h => he ((wE a b).1 h)
      simp [this,he]
  · simp
theorem afn (a b:Int):ai (F114 a b)=some (qD a b,()):=by
  simp only [F114,aA,aj,aa,afl,aF,EW,aK,qD]
  repeat' split
  all_goals rfl
theorem afo (l:List Int) (hl:l.length<=1000):ai (F112 l)=some (qm l,()):=by
  simp only [F112,aA,bn,aa]
  refine bind_eq (aQ l (fun k (_:Unit)=>((0:Int),l,((l.length:Nat):Int),(k:Int),())) (fun _ r=>if qm r=0 then .inr (0,()) else .inl (qm r,())) (fun _ _=>True) ?_ ?_ (s:=()) trivial) ?_
  · rintro pre x post _ hx -
    have hlen:l.length=pre.length+(post.length+1):=by rw [hx];simp
    have hd:l.getD pre.length 0=x:=by rw [hx];exact aT rfl
    have i1:bT (pre.length:Int) ((l.length:Nat):Int)=true:=aP (by omega) (by omega)
    have r1:dc .i64 ((pre.length:Int)+1)=true:=aD (by omega) (by omega)
    simp only [g112_0,aj,aJ,aI,aS,aa,Int.toNat_natCast,hd,i1,r1,af,aK,bx,aZ]
    rw [if_pos (by omega)]
    by_cases h:x=0
    · left
      refine ⟨(),?_,trivial,by simp [qm,h]⟩
      rw [if_pos h];rfl
    · right
      rw [if_neg h]
      have:qm (x::post)=x:=by simp [qm,h]
      rw [this,if_neg h]
  · rintro _ _
    simp only [g112_0,aj,aK,aa]
    rw [if_neg (by omega)]
    simp [qm]
  · by_cases h : qm l = 0
    · rw [if_pos h,h];rfl
    · rw [if_neg h];rfl
abbrev Qj:Ty:=.prod .str (.prod tI (.prod .str (.prod .str tI)))
def yO (a b:Qj.den):Int:=qm [od a.1 b.1,qD a.2.1 b.2.1,od a.2.2.1 b.2.2.1,od a.2.2.2.1 b.2.2.2.1,qD a.2.2.2.2 b.2.2.2.2]
theorem wF {a b:ByteArray}:od a b=0↔a=b:=by
  unfold od
  split
  · rename_i h
    constructor
    · intro h';omega
    · rintro rfl
      have:fE .str a a=true:=h
      rw [JI (t:=.str) rfl] at this;cases this
  · split<;>simp_all
theorem CJ {a b:Int}:qD a b=0↔a=b:=by
  unfold qD
  repeat' split
  all_goals omega
theorem UT {a b:ByteArray}:od a b<0↔fE .str a b=true:=by
  unfold od
  split
  · rename_i h;simp only [fE];exact ⟨fun _=>h,fun _=>by omega⟩
  · rename_i h
    constructor
    · intro h';split at h'<;>omega
    · intro h';exact absurd h' h
theorem UU {a b:Int}:qD a b<0↔fE tI a b=true:=by
  have e:fE tI a b=decide (a<b):=rfl
  rw [e,decide_eq_true_eq]
  unfold qD
  repeat' split
  all_goals omega
theorem aaU {c:Int} {r:List Int}:qm (c::r)<0↔c<0\/(c=0/\qm r<0):=by
  simp only [qm]
  split<;>omega
theorem UW (a b:Qj.den):decide (yO a b<0)=fE Qj a b:=by
  have hS:∀x y:ByteArray,dV .str x y=true↔x=y:=fun x y=>⟨fun h=>bS h,fun h=>by subst h;exact kW (t:=.str) x rfl⟩
  have hI:∀x y:Int,dV tI x y=true↔x=y:=fun x y=>⟨fun h=>bS (t:=tI) h,fun h=>by subst h;exact kW (t:=tI) x rfl⟩
  rw [Bool.eq_iff_iff,decide_eq_true_eq]
  show _↔(fE .str a.1 b.1||(dV .str a.1 b.1&&(fE tI a.2.1 b.2.1||(dV tI a.2.1 b.2.1&&(fE .str a.2.2.1 b.2.2.1||(dV .str a.2.2.1 b.2.2.1&&(fE .str a.2.2.2.1 b.2.2.2.1||(dV .str a.2.2.2.1 b.2.2.2.1&&fE tI a.2.2.2.2 b.2.2.2.2))))))))=true
  have e:qm []<0↔False:=by simp [qm]
  unfold yO
  simp only [aaU,e,and_false,or_false,wF,CJ,UT,UU,Bool.or_eq_true,Bool.and_eq_true,hS,hI]
theorem wq85 (a b:Qj.den):ai (F85 a b)=some (yO a b,()):=by
  have hq:∀x y:ByteArray,(x.toList=y.toList)↔x=y:=fun x y=>by rw [<-wE];unfold seq;rw [beq_iff_eq]
  simp only [F85,aj,aA,aa,afm,afn,aF,jR]
  split
  · rename_i h
    simp only [Bool.and_eq_true,beq_iff_eq,and_true,hq] at h
    obtain ⟨h1,h2,h3,h4,h5⟩:=h
    have:yO a b=0:=by
      unfold yO
      simp only [qm,wF.2 h1,CJ.2 h2,wF.2 h3,wF.2 h4,CJ.2 h5,if_true]
    rw [this]
  · exact bind_eq (afo [od a.1 b.1,qD a.2.1 b.2.1,od a.2.2.1 b.2.2.1,od a.2.2.2.1 b.2.2.2.1,qD a.2.2.2.2 b.2.2.2.2] (by simp)) rfl
theorem Qk:Qi.Ok prog:=fun x y h =>
  Ui (ρ := yN) aau (enters_of func110 rfl rfl) (g := 85) (t := Qj) (ks := [.s, .i, .s, .s, .i]) rfl (by decide) (fun w => isAgg33 w) (fun w => sizeOf33 w) yO
    (fun a b=>Ut (a,b,()) (yO a b,()) (wq85 a b)) UW (xs:=x.2.1) (n:=x.1) (y:=y) h

/- 83, lent -/
abbrev pH83:av:=av.mk [(0,.fn 111 [] [.ptr 0 0]),(1,.c (.fn0 85))] [(0,.cells [.mp 1] false),(1,gq)] [.part 0 0,.cell 0 0] []
abbrev qH83:av:=av.mk [(0,.c (.bH 2 tG))] [(2,.arr tG false),(0,.cells [.mp 1] false),(1,gq)] [.slot 0] []
noncomputable def wG:Cx:=(aL [] [Qi])
theorem rq:wG.Ok prog:=au (wq:=[]) (hts:=[Qi]) trivial ⟨⟨Qk,rfl⟩,trivial⟩
noncomputable def oe:D prog 13 (some 4) 8:=dO [] (pick (kd prog f128) [(0,false)]) 0
noncomputable def oh:D prog 13 (some 4) 8:=dO [] (pick (kd prog f128) [(0,true)]) 0
noncomputable def iX:Cx:=Af wG (fun kz=>Pw kz wG eu 4 8 [7] (oe) (oh))
theorem jS:(iX).Ok prog:=j4 rq (fun h=>nQ mixed rq h)
abbrev sQ:av:=av.mk [(0,.c (.yl 4)),(4,.c (.mp 1))] [(4,.loop .ready none 3 [(2,.c (.ptr 2 0)),(4,.c .cg),(6,.fn 111 [] [.ptr 0 0])] [7] (.bf [.op (some 5) none (.alloc [.str (ByteArray.mk (Array.mk [])),.int .i64 (Int.ofNat 0),.str (ByteArray.mk (Array.mk [])),.str (ByteArray.mk (Array.mk [])),.int .i64 (Int.ofNat 0)]),.op none none (.store 5 (.t 5) (.t 7))]) (.block 1 (.bf [.op (some 8) none (.load false 1 (.t 2)),.op (some 9) none (.load true 5 (.t 5)),.op (some 10) none (.eG tG [.t 9]),.op (some 11) none (.append 5 (.t 8) (.t 10)),.op none none (.store 1 (.t 2) (.t 11))])) 13),(1,gq),(3,.iH),(2,.cells [.bH 5 tG] false),(0,.cells [.mp 1] false),(5,.arr tG false)] [.cell 2 0] []
noncomputable def sR:D prog 14 none 7:=dO [] (pick (kd prog f111) [(0,false)]) 0
noncomputable def gH83f109f128_0i_0:((GG)×(Bool))->eR×Nat×bJ×Unit->bG (eR×Nat×bJ×Unit):=fun e (m1,kZ,b5,_) =>
 .nd (decide ((kZ+((((((e.1.1,e.1.2.1,e.1.2.2.1,e.1.2.2.2.1,e.1.2.2.2.2)::[])).drop (0:Nat)).take (1:Nat))).length)<bp)) <|
 .nd (jP m1 m1) <|
 .ret (m1,(kZ+((((((e.1.1,e.1.2.1,e.1.2.2.1,e.1.2.2.2.1,e.1.2.2.2.2)::[])).drop (0:Nat)).take (1:Nat))).length),((((b5).drop (0:Nat)).take kZ)++(((((e.1.1,e.1.2.1,e.1.2.2.1,e.1.2.2.2.1,e.1.2.2.2.2)::[])).drop (0:Nat)).take (1:Nat))),())
noncomputable def sS:sx prog 14 none 5:=wA mixed iX jS [0,1,2,3,4] rfl sQ ( [.op (some 4) none (.load false 1 (.t 1))]) 4 5 [6,7] (some 8) ( .prod .str (.prod tI (.prod .str (.prod .str tI))))  true ( .bool)  false 0 rfl 7 rfl (sR) (fun e x=>ai (gH83f109f128_0i_0 e x)) (fun e=>fun x=>by kernel_rfl)
abbrev yP:av:=av.mk [(2,.c (.ptr 2 0)),(4,.c .cg),(6,.fn 111 [] [.ptr 0 0])] [(2,.cells [.cg] false),(0,.cells [.mp 1] false),(1,gq)] [.slot 2] []
abbrev yQ:aU:=[(.normal,av.mk [(2,.c (.ptr 2 0))] [(2,.cells [.bH 3 tG] false),(0,.cells [.mp 1] false),(1,gq),(3,.arr tG false)] [.slot 2,.cell 2 0] [])]
noncomputable def oq:D prog 14 none 5:=dO [.m sS] (kd prog f111) 0
theorem vO:cw prog f111=some ⟨14,2,(oq).er,[],[]⟩:=by kernel_rfl
noncomputable def pe:gM prog 13 none 2:=sL mixed iX jS [0,1] rfl yP yQ ( .t 6) [7] rfl (oe).er (oh).er 111 func111 (vO) (enters_of func111 rfl rfl) 5 rfl (oq) rfl
@[reducible] noncomputable def UX:Go.AM.Fn:=⟨13,2,(dO [.r pe] (kd prog f128) 0:D prog 13 none 2).er,[.t 4],[some (.list tG)]⟩
noncomputable def JQ:Cx:=Bc prog wG 128 UX 2 (dO [.r pe] (kd prog f128) 0)
theorem HC:JQ.Ok prog:=sK mixed rq func128 (by kernel_rfl) (enters_of func128 rfl rfl) rfl
@[reducible] noncomputable def UY:Go.AM.Fn:=⟨5,1,(dO [] (kd prog f109) 0:D prog 5 none 0).er,[.t 2],[some (.list tG)]⟩
noncomputable def JR:Cx:=EI prog JQ 109 UY (fun _=>dO [] (kd prog f109) 0)
theorem HD:JR.Ok prog:=qd mixed HC func109 (by kernel_rfl) (enters_of func109 rfl rfl) (fun _=>by kernel_rfl)
noncomputable def afp:Cx:=JR
theorem Ql:afp.Ok prog:=HD
noncomputable def Yg:D prog 12 none 2:=dO [] (kd prog f83) 0
noncomputable def FH83 (m1:eR):bG (Nat×bJ×eR×Unit) :=
 .an m1 fun l0 =>
 .bd (.fm gH83f109f128_0i_0 l0 (m1,(0:Nat),[],())) fun z1 =>
 .bd (FH110 z1.2.1 z1.2.2.1) fun y2 =>
 .ret (z1.2.1,y2.1,z1.1,())
theorem UZ:cw prog f83=some ⟨12,2,Yg.er,[.t 4],[some (.list tG)]⟩:=by kernel_rfl
noncomputable def ht83:Ht:=⟨83,pH83,qH83,(fun x=>ai (FH83 x.1))⟩
theorem U0:ht83.Ok prog:=bE mixed Ql rfl func83 UZ (enters_of func83 rfl rfl) Yg (by kernel_rfl) rfl rfl ⟨_,rfl⟩ rfl (pre:=[0,1]) rfl (fun x=>by kernel_rfl)

/- 47, lent -/
abbrev pH47:av:=av.mk [(0,.c (.ptr 0 0))] [(0,.cells [.mp 1] false),(1,gq)] [.slot 0,.cell 0 0] []
abbrev qH47:av:=av.mk [(0,.c (.bH 2 tG))] [(2,.arr tG false),(0,.cells [.mp 1] false),(1,gq)] [.slot 0] []
noncomputable def afr:Cx:=(aL [] [Ah,ht84,ht83])
theorem Qm:afr.Ok prog:=au trivial ⟨⟨nV,rfl⟩,⟨US,rfl⟩,⟨U0,rfl⟩,trivial⟩
noncomputable def Yh:D prog 11 none 2:=dO [] (kd prog f47) 0
noncomputable def FH47 (m1:eR):bG (Nat×bJ×eR×Unit) :=
 .bd (FH54 m1) fun y0 =>
 .br y0.1 (
 .ret ((0:Nat),[],y0.2.1,())) (
 .bd (FH84 y0.2.1) fun y1 =>
 .bd (FH83 y1.1) fun y2 =>
 .ret (y2.1,y2.2.1,y2.2.2.1,()))
theorem U1:cw prog f47=some ⟨11,1,Yh.er,[.t 2],[some (.list tG)]⟩:=by kernel_rfl
noncomputable def U2:Ht:=⟨47,pH47,qH47,(fun x=>ai (FH47 x.1))⟩
theorem CK:U2.Ok prog:=bE mixed Qm rfl func47 U1 (enters_of func47 rfl rfl) Yh (by kernel_rfl) rfl rfl ⟨_,rfl⟩ rfl (pre:=[0,1]) rfl (fun x=>by kernel_rfl)

/- 95, lent -/
abbrev pH95:av:=av.mk [(0,.c (.mp 0))] [(0,eE)] [.slot 0] []
abbrev qH95:av:=av.mk [(0,.fn 118 [] [.ptr 1 0])] [(1,.cells [.mp 0] false),(0,eE)] [.part 0 0] []
noncomputable def afs:Cx:=(aL [] [])
theorem Qn:afs.Ok prog:=au trivial trivial
noncomputable def Yi:D prog 4 none 1:=dO [] (kd prog f95) 0
noncomputable def FH95 (m0:cR):bG (cR×Unit) :=
 .ret (m0,())
theorem U3:cw prog f95=some ⟨4,1,Yi.er,[.t 2],[none]⟩:=by kernel_rfl
noncomputable def Qo:Ht:=⟨95,pH95,qH95,(fun x=>ai (FH95 x.1))⟩
theorem wH:Qo.Ok prog:=bE mixed Qn rfl func95 U3 (enters_of func95 rfl rfl) Yi (by kernel_rfl) rfl rfl ⟨_,rfl⟩ rfl (pre:=[0]) rfl (fun x=>by kernel_rfl)

/- 105, by hand -/
abbrev aft:av:=av.mk [(0,.c (.bH 0 .str))] [(0,.arr .str false)] [.slot 0] []
abbrev afu:av:=av.mk [(0,.c .any)] [(0,.arr .str false)] [] []
noncomputable def FH105 (nW:Nat) (b0:List ByteArray):bG (List ByteArray×Unit) :=
 .of (vN .str b0 nW)
noncomputable def Bh:Ht:=⟨105,aft,afu,(fun x=>ai (FH105 x.1 x.2.1))⟩
theorem yR:Bh.Ok prog:=fun x y h=>PI (ρ:=yL) aas (enters_of func105 rfl rfl) (xs:=x.2.1) (n:=x.1) (y:=y) h

/- 81, lent -/
abbrev pH81:av:=av.mk [(0,.fn 118 [] [.ptr 0 0])] [(0,.cells [.mp 1] false),(1,eE)] [.part 0 0,.cell 0 0] []
abbrev qH81:av:=av.mk [(0,.c (.bH 2 .str))] [(2,.arr .str false),(0,.cells [.mp 1] false),(1,eE)] [.slot 0] []
noncomputable def wI:Cx:=(aL [] [Bh])
theorem ru:wI.Ok prog:=au (wq:=[]) (hts:=[Bh]) trivial ⟨⟨yR,rfl⟩,trivial⟩
noncomputable def ot:D prog 13 (some 4) 7:=dO [] (pick (kd prog f126) [(0,false)]) 0
noncomputable def ou:D prog 13 (some 4) 7:=dO [] (pick (kd prog f126) [(0,true)]) 0
noncomputable def iY:Cx:=Af wI (fun kz=>Pw kz wI eu 4 7 [7] (ot) (ou))
theorem jT:(iY).Ok prog:=j4 ru (fun h=>nQ mixed ru h)
abbrev sU:av:=av.mk [(0,.c (.yl 4)),(4,.c (.mp 1))] [(4,.loop .ready none 3 [(2,.c (.ptr 2 0)),(4,.c .cg),(6,.fn 118 [] [.ptr 0 0])] [7] (.bf [.op (some 5) none (.mv (.t 7))]) (.block 1 (.bf [.op (some 8) none (.load false 1 (.t 2)),.op (some 9) none (.mv (.t 5)),.op (some 10) none (.eG .str [.t 9]),.op (some 11) none (.append 1 (.t 8) (.t 10)),.op none none (.store 1 (.t 2) (.t 11))])) 13),(1,eE),(3,.iH),(2,.cells [.bH 5 .str] false),(0,.cells [.mp 1] false),(5,.arr .str false)] [.cell 2 0] []
noncomputable def sV:D prog 14 none 7:=dO [] (pick (kd prog f118) [(0,false)]) 0
noncomputable def gH81f107f126_0i_0:((ByteArray)×GG)->cR×Nat×List ByteArray×Unit->bG (cR×Nat×List ByteArray×Unit):=fun e (m1,kZ,b5,_) =>
 .nd (decide ((kZ+(((((e.1::[])).drop (0:Nat)).take (1:Nat))).length)<bp)) <|
 .nd (jP m1 m1) <|
 .ret (m1,(kZ+(((((e.1::[])).drop (0:Nat)).take (1:Nat))).length),((((b5).drop (0:Nat)).take kZ)++((((e.1::[])).drop (0:Nat)).take (1:Nat))),())
noncomputable def sW:sx prog 14 none 5:=wA mixed iY jT [0,1,2,3,4] rfl sU ( [.op (some 4) none (.load false 1 (.t 1))]) 4 5 [6,7] (some 8) ( .str)  false ( .prod .str (.prod tI (.prod .str (.prod .str tI))))  true 0 rfl 7 rfl (sV) (fun e x=>ai (gH81f107f126_0i_0 e x)) (fun e=>fun x=>by kernel_rfl)
abbrev yS:av:=av.mk [(2,.c (.ptr 2 0)),(4,.c .cg),(6,.fn 118 [] [.ptr 0 0])] [(2,.cells [.cg] false),(0,.cells [.mp 1] false),(1,eE)] [.slot 2] []
abbrev yT:aU:=[(.normal,av.mk [(2,.c (.ptr 2 0))] [(2,.cells [.bH 3 .str] false),(0,.cells [.mp 1] false),(1,eE),(3,.arr .str false)] [.slot 2,.cell 2 0] [])]
noncomputable def ov:D prog 14 none 5:=dO [.m sW] (kd prog f118) 0
theorem vP:cw prog f118=some ⟨14,2,(ov).er,[],[]⟩:=by kernel_rfl
noncomputable def pg:gM prog 13 none 2:=sL mixed iY jT [0,1] rfl yS yT ( .t 6) [7] rfl (ot).er (ou).er 118 func118 (vP) (enters_of func118 rfl rfl) 5 rfl (ov) rfl
@[reducible] noncomputable def U4:Go.AM.Fn:=⟨13,2,(dO [.r pg] (kd prog f126) 0:D prog 13 none 2).er,[.t 4],[some (.list .str)]⟩
noncomputable def JS:Cx:=Bc prog wI 126 U4 2 (dO [.r pg] (kd prog f126) 0)
theorem HE:JS.Ok prog:=sK mixed ru func126 (by kernel_rfl) (enters_of func126 rfl rfl) rfl
@[reducible] noncomputable def U5:Go.AM.Fn:=⟨5,1,(dO [] (kd prog f107) 0:D prog 5 none 0).er,[.t 2],[some (.list .str)]⟩
noncomputable def JT:Cx:=EI prog JS 107 U5 (fun _=>dO [] (kd prog f107) 0)
theorem HF:JT.Ok prog:=qd mixed HE func107 (by kernel_rfl) (enters_of func107 rfl rfl) (fun _=>by kernel_rfl)
noncomputable def afv:Cx:=JT
theorem Qp:afv.Ok prog:=HF
noncomputable def Yj:D prog 9 none 2:=dO [] (kd prog f81) 0
noncomputable def FH81 (m1:cR):bG (Nat×List ByteArray×cR×Unit) :=
 .an m1 fun l0 =>
 .bd (.fm gH81f107f126_0i_0 l0 (m1,(0:Nat),[],())) fun z1 =>
 .bd (FH105 z1.2.1 z1.2.2.1) fun y2 =>
 .ret (z1.2.1,y2.1,z1.1,())
theorem U6:cw prog f81=some ⟨9,1,Yj.er,[.t 2],[some (.list .str)]⟩:=by kernel_rfl
noncomputable def Qq:Ht:=⟨81,pH81,qH81,(fun x=>ai (FH81 x.1))⟩
theorem wJ:Qq.Ok prog:=bE mixed Qp rfl func81 U6 (enters_of func81 rfl rfl) Yj (by kernel_rfl) rfl rfl ⟨_,rfl⟩ rfl (pre:=[0,1]) rfl (fun x=>by kernel_rfl)

/- 98, lent -/
abbrev pH98:av:=av.mk [(0,.c (.hole (.list .str)))] [] [] []
abbrev qH98:av:=av.mk [(0,.c (.bH 0 .str))] [(0,.arr .str false)] [.slot 0] []
noncomputable def afw:Cx:=(aL [] [])
theorem Qr:afw.Ok prog:=au trivial trivial
noncomputable def Yk:D prog 8 none 0:=dO [] (kd prog f98) 0
noncomputable def FH98 (v0:List ByteArray):bG (Nat×List ByteArray×Unit) :=
 .br ((((v0).length:Nat):Int)==(0:Int)) (
 .am inferInstance (
 .ret ((0:Nat),[],())) (
 .nd (decide (((0:Nat)+(v0).length)<bp)) <|
 .ret (((0:Nat)+(v0).length),(((([]).drop (0:Nat)).take (0:Nat))++v0),()))) (
 .nd (decide (((0:Nat)+(v0).length)<bp)) <|
 .ret (((0:Nat)+(v0).length),(((([]).drop (0:Nat)).take (0:Nat))++v0),()))
theorem U7:cw prog f98=some ⟨8,1,Yk.er,[.t 2],[some (.list .str)]⟩:=by kernel_rfl
noncomputable def aaV:Ht:=⟨98,pH98,qH98,(fun x=>ai (FH98 x.1))⟩
theorem JU:aaV.Ok prog:=bE mixed Qr rfl func98 U7 (enters_of func98 rfl rfl) Yk (by kernel_rfl) rfl rfl ⟨_,rfl⟩ rfl (pre:=[]) rfl (fun x=>by kernel_rfl)

/- 99, lent -/
abbrev pH99:av:=av.mk [(0,.c (.hole .str)),(1,.c (.ptr 0 0))] [(0,.cells [.ptr 1 0] false),(1,.cells [.mp 2,.mp 3,.mp 4,.mp 5] false),(2,eE),(3,fB),(4,bR),(5,bR)] [.slot 1,.cell 0 0,.cell 1 0,.cell 1 1,.cell 1 2,.cell 1 3] []
abbrev qH99:av:=av.mk [(0,.c (.hole .bool))] [(0,.cells [.ptr 1 0] false),(1,.cells [.mp 2,.mp 3,.mp 4,.mp 5] false),(2,eE),(3,fB),(4,bR),(5,bR)] [] []
noncomputable def afx:Cx:=(aL [] [])
theorem Qs:afx.Ok prog:=au trivial trivial
noncomputable def Yl:D prog 11 none 6:=dO [] (kd prog f99) 0
noncomputable def FH99 (v0:ByteArray) (m2:cR) (m3:cV) (m4:bg) (m5:bg):bG (Bool×cR×cV×bg×bg×Unit) :=
 .ret ((!(az .str false m4 v0)),m2,m3,m4,m5,())
theorem U8:cw prog f99=some ⟨11,2,Yl.er,[.t 3],[some .bool]⟩:=by kernel_rfl
noncomputable def aaW:Ht:=⟨99,pH99,qH99,(fun x=>ai (FH99 x.1 x.2.1 x.2.2.1 x.2.2.2.1 x.2.2.2.2.1))⟩
theorem JV:aaW.Ok prog:=bE mixed Qs rfl func99 U8 (enters_of func99 rfl rfl) Yl (by kernel_rfl) rfl rfl ⟨_,rfl⟩ rfl (pre:=[0,1,2,3,4,5]) rfl (fun x=>by kernel_rfl)

/- 119, lent -/
abbrev afy:av:=av.mk [(0,.c (.bH 0 .str)),(1,.fn 99 [] [.ptr 1 0])] [(0,.arr .str false),(1,.cells [.ptr 2 0] false),(2,.cells [.mp 3,.mp 4,.mp 5,.mp 6] false),(3,eE),(4,fB),(5,bR),(6,bR)] [.slot 0,.part 1 0,.cell 1 0,.cell 2 0,.cell 2 1,.cell 2 2,.cell 2 3] []
abbrev afz:av:=av.mk [(0,hI)] [(1,.cells [.ptr 2 0] false),(2,.cells [.mp 3,.mp 4,.mp 5,.mp 6] false),(3,eE),(4,fB),(5,bR),(6,bR),(0,.arr .str false)] [] []
noncomputable def Qt:Cx:=(aL [] [aaW])
theorem Bi:Qt.Ok prog:=au trivial ⟨⟨JV,rfl⟩,trivial⟩
abbrev U9:av:=av.mk [(0,.c (.bH 0 .str)),(1,.fn 99 [] [.ptr 1 0]),(7,hI),(8,hI)] [(0,.arr .str false),(1,.cells [.ptr 2 0] false),(2,.cells [.mp 3,.mp 4,.mp 5,.mp 6] false),(3,eE),(4,fB),(5,bR),(6,bR)] [] []
abbrev Va:aU:=[(.ret,av.mk [(4,hI)] [(1,.cells [.ptr 2 0] false),(2,.cells [.mp 3,.mp 4,.mp 5,.mp 6] false),(3,eE),(4,fB),(5,bR),(6,bR),(0,.arr .str false)] [] []),(.exit 0,av.mk [] [(1,.cells [.ptr 2 0] false),(2,.cells [.mp 3,.mp 4,.mp 5,.mp 6] false),(3,eE),(4,fB),(5,bR),(6,bR),(0,.arr .str false)] [] [])]
noncomputable def Vb:D prog 19 none 7:=dO [] (pick (kd prog f119) [(0,false)]) 0
noncomputable def gH119_0:Nat×Int×Int×List ByteArray×cR×cV×bg×bg×Unit->bG ((Nat×Int×Int×List ByteArray×cR×cV×bg×bg×Unit) ⊕ ((Int×cR×cV×bg×bg×List ByteArray×Unit) ⊕ ((cR×cV×bg×bg×List ByteArray×Unit)))):=fun (nW,v7,v8,b0,m3,m4,m5,m6,_) =>
 .br (decide (v8<v7)) (
 .nb v8 ((nW:Nat):Int) <|
 .nd (decide (((0:Nat)+(Int.toNat v8))<(b0).length)) <|
 .bd (FH99 ((b0).getD ((0:Nat)+(Int.toNat v8)) (bs [])) m3 m4 m5 m6) fun y0 =>
 .br y0.1 (
 .ret (.inr <| .inl<|(v8,y0.2.1,y0.2.2.1,y0.2.2.2.1,y0.2.2.2.2.1,b0,()))) (
 .ni (v8+(1:Int)) <|
 .ret (.inl (nW,v7,(v8+(1:Int)),b0,y0.2.1,y0.2.2.1,y0.2.2.2.1,y0.2.2.2.2.1,())))) (
 .ret (.inr <| .inr<|(m3,m4,m5,m6,b0,())))
noncomputable def Vc:bw prog 19 none 7:=aW mixed Qt Bi [0,1,2,3,4,5,6] rfl U9 Va rfl (Vb) (fun x=>ai (gH119_0 x)) (fun x=>by kernel_rfl)
noncomputable def Qu:D prog 19 none 7:=dO [.l Vc] (kd prog f119) 0
noncomputable def FH119 (nW:Nat) (b0:List ByteArray) (m3:cR) (m4:cV) (m5:bg) (m6:bg):bG (Int×cR×cV×bg×bg×List ByteArray×Unit) :=
 .bd (.it gH119_0 (nW,((nW:Nat):Int),(0:Int),b0,m3,m4,m5,m6,())) fun z1 =>
 .sm z1 (fun z2 =>
 .ret (z2.1,z2.2.1,z2.2.2.1,z2.2.2.2.1,z2.2.2.2.2.1,z2.2.2.2.2.2.1,())) fun z3 =>
 .ret ((-1:Int),z3.1,z3.2.1,z3.2.2.1,z3.2.2.2.1,z3.2.2.2.2.1,())
theorem Qv:cw prog f119=some ⟨19,2,Qu.er,[.t 4],[some tI]⟩:=by kernel_rfl
noncomputable def Ym:Ht:=⟨119,afy,afz,(fun x=>ai (FH119 x.1 x.2.1 x.2.2.1 x.2.2.2.1 x.2.2.2.2.1 x.2.2.2.2.2.1))⟩
theorem Qw:Ym.Ok prog:=bE mixed Bi rfl func119 Qv (enters_of func119 rfl rfl) Qu (by kernel_rfl) rfl rfl ⟨_,rfl⟩ rfl (pre:=[0,1,2,3,4,5,6]) rfl (fun x=>by kernel_rfl)

/- 97, lent -/
abbrev pH97:av:=av.mk [(0,.c (.bH 0 .str)),(1,.fn 99 [] [.ptr 1 0])] [(0,.arr .str false),(1,.cells [.ptr 2 0] false),(2,.cells [.mp 3,.mp 4,.mp 5,.mp 6] false),(3,eE),(4,fB),(5,bR),(6,bR)] [.slot 0,.part 1 0,.cell 1 0,.cell 2 0,.cell 2 1,.cell 2 2,.cell 2 3] []
abbrev qH97:av:=av.mk [(0,.c (.SG 0 .str))] [(0,.arr .str false),(1,.cells [.ptr 2 0] false),(2,.cells [.mp 3,.mp 4,.mp 5,.mp 6] false),(3,eE),(4,fB),(5,bR),(6,bR)] [] []
noncomputable def Yn:Cx:=(aL [] [Ym,aaW])
theorem E0:Yn.Ok prog:=au trivial ⟨⟨Qw,rfl⟩,⟨JV,rfl⟩,trivial⟩
abbrev aaX:av:=av.mk [(0,.c (.bH 0 .str)),(1,.fn 99 [] [.ptr 1 0]),(5,hI),(6,hI)] [(0,.arr .str false),(1,.cells [.ptr 2 0] false),(2,.cells [.mp 3,.mp 4,.mp 5,.mp 6] false),(3,eE),(4,fB),(5,bR),(6,bR)] [] []
abbrev aaY:aU:=[(.exit 0,av.mk [(0,.c (.bH 0 .str)),(5,hI)] [(0,.arr .str false),(1,.cells [.ptr 2 0] false),(2,.cells [.mp 3,.mp 4,.mp 5,.mp 6] false),(3,eE),(4,fB),(5,bR),(6,bR)] [] [])]
noncomputable def aaZ:D prog 42 none 7:=dO [] (pick (kd prog f97) [(0,false)]) 0
noncomputable def gH97_0:Nat×Int×Int×List ByteArray×cR×cV×bg×bg×Unit->bG ((Nat×Int×Int×List ByteArray×cR×cV×bg×bg×Unit) ⊕ ((Nat×Int×List ByteArray×cR×cV×bg×bg×Unit))):=fun (nW,v5,v6,b0,m3,m4,m5,m6,_) =>
 .br (decide (v6<((nW:Nat):Int))) (
 .nb v6 ((nW:Nat):Int) <|
 .nd (decide (((0:Nat)+(Int.toNat v6))<(b0).length)) <|
 .bd (FH99 ((b0).getD ((0:Nat)+(Int.toNat v6)) (bs [])) m3 m4 m5 m6) fun y1 =>
 .br (!y1.1) (
 .nb v5 ((nW:Nat):Int) <|
 .nd (decide (((0:Nat)+(Int.toNat v5))<(b0).length)) <|
 .ni (v5+(1:Int)) <|
 .ni (v6+(1:Int)) <|
 .ret (.inl (nW,(v5+(1:Int)),(v6+(1:Int)),((b0).set ((0:Nat)+(Int.toNat v5)) ((b0).getD ((0:Nat)+(Int.toNat v6)) (bs []))),y1.2.1,y1.2.2.1,y1.2.2.2.1,y1.2.2.2.2.1,()))) (
 .ni (v6+(1:Int)) <|
 .ret (.inl (nW,v5,(v6+(1:Int)),b0,y1.2.1,y1.2.2.1,y1.2.2.2.1,y1.2.2.2.2.1,())))) (
 .ret (.inr (nW,v5,b0,m3,m4,m5,m6,())))
noncomputable def aa0:bw prog 42 none 7:=aW mixed Yn E0 [0,1,2,3,4,5,6] rfl aaX aaY rfl (aaZ) (fun x=>ai (gH97_0 x)) (fun x=>by kernel_rfl)
noncomputable def Yo:D prog 42 none 7:=dO [.l aa0] (kd prog f97) 0
noncomputable def FH97 (nW:Nat) (b0:List ByteArray) (m3:cR) (m4:cV) (m5:bg) (m6:bg):bG (Nat×Nat×List ByteArray×cR×cV×bg×bg×Unit) :=
 .bd (FH119 nW b0 m3 m4 m5 m6) fun y0 =>
 .br (y0.1==(-1:Int)) (
 .ret ((0:Nat),nW,y0.2.2.2.2.2.1,y0.2.1,y0.2.2.1,y0.2.2.2.1,y0.2.2.2.2.1,())) (
 .ni (y0.1+(1:Int)) <|
 .bd (.it gH97_0 (nW,y0.1,(y0.1+(1:Int)),y0.2.2.2.2.2.1,y0.2.1,y0.2.2.1,y0.2.2.2.1,y0.2.2.2.2.1,())) fun z2 =>
 .nd (decide ((0:Int)<=z2.2.1)) <|
 .nd (decide (z2.2.1<=((z2.1:Nat):Int))) <|
 .nd (decide (((z2.1:Nat):Int)<=((z2.1:Nat):Int))) <|
 .nd (decide ((0:Int)<=(0:Int))) <|
 .nd (decide ((0:Int)<=z2.2.1)) <|
 .nd (decide (z2.2.1<=((z2.1:Nat):Int))) <|
 .ret (((0:Nat)+(Int.toNat (0:Int))),((Int.toNat z2.2.1) - (Int.toNat (0:Int))),(BF (bs []) z2.2.2.1 ((0:Nat)+(Int.toNat z2.2.1)) ((Int.toNat ((z2.1:Nat):Int)) - (Int.toNat z2.2.1))),z2.2.2.2.1,z2.2.2.2.2.1,z2.2.2.2.2.2.1,z2.2.2.2.2.2.2.1,()))
theorem Vd:cw prog f97=some ⟨42,2,Yo.er,[.t 4],[some (.list .str)]⟩:=by kernel_rfl
noncomputable def ht97:Ht:=⟨97,pH97,qH97,(fun x=>ai (FH97 x.1 x.2.1 x.2.2.1 x.2.2.2.1 x.2.2.2.2.1 x.2.2.2.2.2.1))⟩
theorem Ve:ht97.Ok prog:=bE mixed E0 rfl func97 Vd (enters_of func97 rfl rfl) Yo (by kernel_rfl) rfl rfl ⟨_,rfl⟩ rfl (pre:=[0,1,2,3,4,5,6]) rfl (fun x=>by kernel_rfl)

/- 96, lent -/
abbrev k4:av:=av.mk [(0,.c (.hole .str)),(1,.c (.ptr 0 0)),(2,.c (.ptr 1 0))] [(0,.cells [.ptr 2 0] false),(1,.cells [.fn 96 .nil (.cons (.ptr 0 0) (.cons (.ptr 1 0) .nil))] false),(2,.cells [.mp 3,.mp 4,.mp 5,.mp 6] false),(3,eE),(4,fB),(5,bR),(6,bR)] [.slot 1,.slot 2,.cell 0 0,.cell 2 0,.cell 2 1,.cell 2 2,.cell 2 3] []
abbrev k5:av:=av.mk [(0,.c .any)] [(0,.cells [.ptr 2 0] false),(2,.cells [.mp 3,.mp 4,.mp 5,.mp 6] false),(3,eE),(4,fB),(5,bR),(6,bR),(1,.cells [.fn 96 .nil (.cons (.ptr 0 0) (.cons (.ptr 1 0) .nil))] false)] [] []
noncomputable def Qx (rec:k4.T->Option k5.T):Cx:=(aL [] [⟨96,k4,k5,rec⟩])
theorem E1 (rec:k4.T->Option k5.T) (h:Ht.Ok prog ⟨96,k4,k5,rec⟩):(Qx rec).Ok prog:=au trivial ⟨⟨h,rfl⟩,trivial⟩
abbrev HG:av:=av.mk [(2,.c (.ptr 1 0)),(22,.c (.hole (.list .str))),(23,hI),(24,hI)] [(1,.cells [.fn 96 .nil (.cons (.ptr 0 0) (.cons (.ptr 1 0) .nil))] false),(0,.cells [.ptr 2 0] false),(2,.cells [.mp 3,.mp 4,.mp 5,.mp 6] false),(3,eE),(4,fB),(5,bR),(6,bR)] [] []
abbrev HH:aU:=[(.exit 0,av.mk [] [(0,.cells [.ptr 2 0] false),(2,.cells [.mp 3,.mp 4,.mp 5,.mp 6] false),(3,eE),(4,fB),(5,bR),(6,bR),(1,.cells [.fn 96 .nil (.cons (.ptr 0 0) (.cons (.ptr 1 0) .nil))] false)] [] [])]
noncomputable def Qy (rec:k4.T->Option k5.T) (h:Ht.Ok prog ⟨96,k4,k5,rec⟩):D prog 32 none 7:=dO [] (pick (kd prog f96) [(0,false)]) 0
noncomputable def gH96_0:List ByteArray×Int×Int×cR×cV×bg×bg×Unit->Tr k4.T k5.T ((List ByteArray×Int×Int×cR×cV×bg×bg×Unit) ⊕ ((cR×cV×bg×bg×Unit))):=fun (v22,v23,v24,m3,m4,m5,m6,_) =>
 .br (decide (v24<v23)) (
 .nb v24 (((v22).length:Nat):Int) <|
 .bd (.rc (((v22).getD (Int.toNat v24) (bs [])),m3,m4,m5,m6,())) fun y0 =>
 .ni (v24+(1:Int)) <|
 .ret (.inl (v22,v23,(v24+(1:Int)),y0.1,y0.2.1,y0.2.2.1,y0.2.2.2.1,()))) (
 .ret (.inr (m3,m4,m5,m6,())))
theorem aa1 (rec:k4.T->Option k5.T) (h:Ht.Ok prog ⟨96,k4,k5,rec⟩):∀x,oV (iK (HG.T ⊕ HH.T)) (Qx rec) eu [0,1,2,3,4,5,6] HG HH (Qy rec h) (fun y=>some (.inl y)) (fun b=>some (.inr b)) x=run rec (gH96_0 x):=fun x=>by kernel_rfl
noncomputable def aa2 (rec:k4.T->Option k5.T) (h:Ht.Ok prog ⟨96,k4,k5,rec⟩):bw prog 32 none 7:=aW mixed (Qx rec) (E1 rec h) [0,1,2,3,4,5,6] rfl HG HH rfl (Qy rec h) (fun x=>run rec (gH96_0 x)) (aa1 rec h)
noncomputable def Yp (rec:k4.T->Option k5.T) (h:Ht.Ok prog ⟨96,k4,k5,rec⟩):D prog 32 none 7:=dO [.l (aa2 rec h)] (kd prog f96) 0
noncomputable def FH96 (v0:ByteArray) (m3:cR) (m4:cV) (m5:bg) (m6:bg):Tr k4.T k5.T (cR×cV×bg×bg×Unit) :=
 .br (az .str false m6 v0) (
 .ret (m3,m4,m5,m6,())) (
 .bd (.it gH96_0 ((az .str [] m4 v0),((((az .str [] m4 v0)).length:Nat):Int),(0:Int),m3,m4,m5,(bq .str m6 v0 true),())) fun z1 =>
 .ret (z1.1,z1.2.1,z1.2.2.1,z1.2.2.2.1,()))
theorem Vf (rec:k4.T->Option k5.T) (h:Ht.Ok prog ⟨96,k4,k5,rec⟩):cw prog f96=some ⟨32,3,(Yp rec h).er,[],[]⟩:=by kernel_rfl
theorem Ma (rec:k4.T->Option k5.T) (h:Ht.Ok prog ⟨96,k4,k5,rec⟩):Ht.Ok prog ⟨96,k4,k5,(fun x=>run rec (FH96 x.1 x.2.1 x.2.2.1 x.2.2.2.1 x.2.2.2.2.1))⟩:=bE mixed (E1 rec h) rfl func96 (Vf rec h) (enters_of func96 rfl rfl) (Yp rec h) (by kernel_rfl) rfl rfl ⟨_,rfl⟩ rfl (pre:=[0,1,2,3,4,5,6]) rfl (fun x=>by kernel_rfl)
noncomputable def FH96fix (v0:ByteArray) (m3:cR) (m4:cV) (m5:bg) (m6:bg):bG (cR×cV×bg×bg×Unit):=.fx (A1:=k4.T) (B1:=k5.T) (fun x=>FH96 x.1 x.2.1 x.2.2.1 x.2.2.2.1 x.2.2.2.2.1) (v0,m3,m4,m5,m6,())
noncomputable def ht96:Ht:=⟨96,k4,k5,fun x=>ai (FH96fix x.1 x.2.1 x.2.2.1 x.2.2.2.1 x.2.2.2.2.1)⟩
theorem Vg:ht96.Ok prog:=CA (F:=fun rec x=>run rec (FH96 x.1 x.2.1 x.2.2.1 x.2.2.2.1 x.2.2.2.2.1)) (fun rec h=>Ma rec h)

/- 66, lent -/
abbrev pH66:av:=av.mk [(0,.c (.ptr 0 0))] [(0,.cells [.mp 1] false),(1,gq)] [.slot 0,.cell 0 0] []
abbrev qH66:av:=av.mk [(0,.c (.ptr 2 0))] [(2,.cells [.mp 3,.mp 4,.mp 5,.mp 6] false),(0,.cells [.mp 1] false),(1,gq),(3,eE),(4,fB),(5,bR),(6,bR)] [.slot 0,.cell 2 0,.cell 2 1,.cell 2 2,.cell 2 3] []
noncomputable def JW:Cx:=(aL [] [U2,Qo,Qq,aaV,ht97,ht96])
theorem sX:JW.Ok prog:=au trivial ⟨⟨CK,rfl⟩,⟨wH,rfl⟩,⟨wJ,rfl⟩,⟨JU,rfl⟩,⟨Ve,rfl⟩,⟨Vg,rfl⟩,trivial⟩
abbrev aa3:av:=av.mk [(3,.c (.ptr 2 0)),(26,.c (.bH 3 tG)),(27,hI),(28,hI)] [(2,.cells [.ptr 4 0] false),(3,.arr tG false),(0,.cells [.mp 1] false),(1,gq),(4,.cells [.mp 5,.mp 6,.mp 7,.mp 8] false),(5,eE),(6,fB),(7,bR),(8,bR)] [.slot 3,.slot 26,.cell 2 0,.cell 4 0,.cell 4 1,.cell 4 2,.cell 4 3] []
abbrev aa4:aU:=[(.exit 0,av.mk [(3,.c (.ptr 2 0))] [(2,.cells [.ptr 3 0] false),(0,.cells [.mp 1] false),(1,gq),(3,.cells [.mp 4,.mp 5,.mp 6,.mp 7] false),(4,eE),(5,fB),(6,bR),(7,bR)] [.slot 3,.cell 2 0,.cell 3 0,.cell 3 1,.cell 3 2,.cell 3 3] [])]
noncomputable def aa5:D prog 148 none 2:=dO [] (pick (kd prog f66) [(0,false)]) 0
noncomputable def gH66_0:Nat×Int×Int×bJ×eR×cR×cV×bg×bg×Unit->bG ((Nat×Int×Int×bJ×eR×cR×cV×bg×bg×Unit) ⊕ ((eR×cR×cV×bg×bg×Unit))):=fun (aa6,v27,v28,b3,m1,m5,m6,m7,m8,_) =>
 .br (decide (v28<v27)) (
 .nb v28 ((aa6:Nat):Int) <|
 .nd (decide (((0:Nat)+(Int.toNat v28))<(b3).length)) <|
 .br (!(aR .str m5 ((b3).getD ((0:Nat)+(Int.toNat v28)) ((bs []),(0:Int),(bs []),(bs []),(0:Int))).1)) (
 .ni (v28+(1:Int)) <|
 .ret (.inl (aa6,v27,(v28+(1:Int)),b3,m1,(bq .str m5 ((b3).getD ((0:Nat)+(Int.toNat v28)) ((bs []),(0:Int),(bs []),(bs []),(0:Int))).1 (((b3).getD ((0:Nat)+(Int.toNat v28)) ((bs []),(0:Int),(bs []),(bs []),(0:Int))).1,((b3).getD ((0:Nat)+(Int.toNat v28)) ((bs []),(0:Int),(bs []),(bs []),(0:Int))).2.1,((b3).getD ((0:Nat)+(Int.toNat v28)) ((bs []),(0:Int),(bs []),(bs []),(0:Int))).2.2.1,((b3).getD ((0:Nat)+(Int.toNat v28)) ((bs []),(0:Int),(bs []),(bs []),(0:Int))).2.2.2.1,((b3).getD ((0:Nat)+(Int.toNat v28)) ((bs []),(0:Int),(bs []),(bs []),(0:Int))).2.2.2.2)),m6,m7,m8,()))) (
 .ni (v28+(1:Int)) <|
 .ret (.inl (aa6,v27,(v28+(1:Int)),b3,m1,m5,m6,m7,m8,())))) (
 .ret (.inr (m1,m5,m6,m7,m8,())))
noncomputable def aa7:bw prog 148 none 2:=aW mixed JW sX [0,1] rfl aa3 aa4 rfl (aa5) (fun x=>ai (gH66_0 x)) (fun x=>by kernel_rfl)
abbrev rz:av:=av.mk [(3,.c (.ptr 2 0)),(57,.c (.bH 3 .str)),(58,hI),(59,hI)] [(2,.cells [.ptr 4 0] false),(3,.arr .str false),(0,.cells [.mp 1] false),(1,gq),(4,.cells [.mp 5,.mp 6,.mp 7,.mp 8] false),(5,eE),(6,fB),(7,bR),(8,bR)] [.slot 3,.slot 57,.cell 2 0,.cell 4 0,.cell 4 1,.cell 4 2,.cell 4 3] []
abbrev uE:aU:=[(.exit 2,av.mk [(3,.c (.ptr 2 0))] [(2,.cells [.ptr 3 0] false),(0,.cells [.mp 1] false),(1,gq),(3,.cells [.mp 4,.mp 5,.mp 6,.mp 7] false),(4,eE),(5,fB),(6,bR),(7,bR)] [.slot 3,.cell 2 0,.cell 3 0,.cell 3 1,.cell 3 2,.cell 3 3] [])]
noncomputable def aa8:D prog 148 none 2:=dO [] (pick (kd prog f66) [(1,false)]) 0
noncomputable def gH66_1:Nat×Int×Int×List ByteArray×eR×cR×cV×bg×bg×Unit->bG ((Nat×Int×Int×List ByteArray×eR×cR×cV×bg×bg×Unit) ⊕ ((eR×cR×cV×bg×bg×Unit))):=fun (ei,v58,v59,b3,m1,m5,m6,m7,m8,_) =>
 .br (decide (v59<v58)) (
 .nb v59 ((ei:Nat):Int) <|
 .nd (decide (((0:Nat)+(Int.toNat v59))<(b3).length)) <|
 .br ((az .str ((bs []),(0:Int),(bs []),(bs []),(0:Int)) m5 ((b3).getD ((0:Nat)+(Int.toNat v59)) (bs []))).2.1==(3:Int)) (
 .ni (v59+(1:Int)) <|
 .ret (.inl (ei,v58,(v59+(1:Int)),b3,m1,m5,m6,(bq .str m7 (az .str ((bs []),(0:Int),(bs []),(bs []),(0:Int)) m5 ((b3).getD ((0:Nat)+(Int.toNat v59)) (bs []))).2.2.1 true),m8,()))) (
 .br ((az .str ((bs []),(0:Int),(bs []),(bs []),(0:Int)) m5 ((b3).getD ((0:Nat)+(Int.toNat v59)) (bs []))).2.1==(2:Int)) (
 .nd (decide (((az .str [] m6 (az .str ((bs []),(0:Int),(bs []),(bs []),(0:Int)) m5 ((b3).getD ((0:Nat)+(Int.toNat v59)) (bs []))).2.2.1)).length+1<bp)) <|
 .ni (v59+(1:Int)) <|
 .ret (.inl (ei,v58,(v59+(1:Int)),b3,m1,m5,(bq .str m6 (az .str ((bs []),(0:Int),(bs []),(bs []),(0:Int)) m5 ((b3).getD ((0:Nat)+(Int.toNat v59)) (bs []))).2.2.1 ((az .str [] m6 (az .str ((bs []),(0:Int),(bs []),(bs []),(0:Int)) m5 ((b3).getD ((0:Nat)+(Int.toNat v59)) (bs []))).2.2.1)++(((b3).getD ((0:Nat)+(Int.toNat v59)) (bs []))::[]))),m7,m8,()))) (
 .ni (v59+(1:Int)) <|
 .ret (.inl (ei,v58,(v59+(1:Int)),b3,m1,m5,m6,m7,m8,()))))) (
 .ret (.inr (m1,m5,m6,m7,m8,())))
/-! The loop in which lists grow that lie in a map, by hand. -/
abbrev uF:Ty:=.prod .str (.prod tI (.prod .str (.prod .str tI)))
def gP (b3:List ByteArray) (m1:List (uF.den×Bool)) (m5:List (ByteArray×uF.den)) (m7 m8:bg):aq :=
 [(2,.cells [.ptr 4 0] false),(3,.arr .str b3 false),(0,.cells [.mp 1] false),(1,.map uF true .bool false m1),(4,.cells [.mp 5,.mp 6,.mp 7,.mp 8] false),(5,.map .str false uF true m5),(7,.map .str false .bool false m7),(8,.map .str false .bool false m8)]
def yU (ei:Nat) (v58 v59:Int):Env:=[(3,.ptr 2 0),(57,.sl 3 .str 0 ei),(58,.int .i64 v58),(59,.int .i64 v59)]
def I66 (x:rz.T):St:=⟨yU x.1 x.2.1 x.2.2.1,⟨9,gP x.2.2.2.1 x.2.2.2.2.1 x.2.2.2.2.2.1 x.2.2.2.2.2.2.2.1 x.2.2.2.2.2.2.2.2.1⟩,[]⟩
def HI:C:=.bf [.op (some 97) none (.bin .add (.t 59) (.c (.int .i64 (Int.ofNat 1)))),.op (some 59) none (.mv (.t 97))]
def aa9 : C := .draw [[], [0], [0, 1], [0, 1, 2], [], [4], [0, 1, 2, 3, 4, 5]]
 [.op (some 73) none (.load false 1 (.t 3)),.op (some 74) none (.ex .jg [.t 73]),.op (some 75) none (.nu 2 [true,true,false] (.t 74)),.op (some 76) none (.load false 1 (.t 75)),.op (some 77) none (.nu 2 [true,true,false] (.t 10)),.op (some 78) none (.load false 1 (.t 77)),
 .op none none (.ex (.iG .str false .bool false) [.t 76,.t 78,.c (.tf true)])]
def in66 : C := .block 4 (.seq (.bf [.op (some 72) none (.bin .eql (.t 70) (.c (.int .i64 (Int.ofNat 3)))), .op (some 71) none (.mv (.t 72))])
 (.cond (.t 71) aa9 (.seq (.bf [.op (some 80) none (.bin .eql (.t 70) (.c (.int .i64 (Int.ofNat 2)))),.op (some 79) none (.mv (.t 80))]) (.cond (.t 79) (.draw nT EP) .skip))))
def Yq : C := .seq (.block 3 (.seq (.bf [.op (some 61) none (.idx 1 (.t 57) (.t 59)), .op (some 62) none (.load false 1 (.t 61)), .op (some 9) none (.mv (.t 62))])
 (.seq (.bf [.op (some 63) none (.load false 1 (.t 3)),.op (some 64) none (.ex .jg [.t 63]),.op (some 65) none (.nu 0 [false] (.t 64)),.op (some 66) none (.load false 1 (.t 65)),.op (some 67) none (.mv (.t 9)),
 .op (some 68) none (.ex (.gJ .str false uF true false) [.t 66,.t 67]),.op (some 10) none (.alloc [.str ⟨⟨[]⟩⟩,.int .i64 (Int.ofNat 0),.str ⟨⟨[]⟩⟩,.str ⟨⟨[]⟩⟩,.int .i64 (Int.ofNat 0)]),.op none none (.store 5 (.t 10) (.t 68))])
 (.seq (.bf [.op (some 69) none (.nu 1 [true,false] (.t 10)),.op (some 70) none (.load false 1 (.t 69))]) in66)))) HI
def c66:C:=.seq (.bf [.op (some 60) none (.bin .lss (.t 59) (.t 58))]) (.seq (.cond (.t 60) .skip (.exit 2)) Yq)
theorem afD {ei : Nat} {v58 v59 : Int} {b3 : List ByteArray} {m1 : List (uF.den × Bool)} {m5 : List (ByteArray × uF.den)} {m7 m8 : bg} {env : Env} {nx : Nat} {bl : aq}
    (h3:get 3 env = .ptr 2 0) (h57:get 57 env = .sl 3 .str 0 ei) (h58:get 58 env = .int .i64 v58) (h59:get 59 env = .int .i64 v59) (hb:∀p∈gP b3 m1 m5 m7 m8,ay p.1 bl=some p.2) :
    jE 2 (List.range 9) ⟨env,⟨nx,bl⟩,[]⟩ ⟨yU ei v58 v59,⟨9,gP b3 m1 m5 m7 m8⟩,[]⟩:=by
  refine LZ (by omega) rfl rfl rfl (fun p hp=>?_) (fun p hp=>?_)
  · simp only [yU, List.mem_cons, List.not_mem_nil, or_false] at hp
    rcases hp with rfl|rfl|rfl|rfl
    · rw [h3];exact .ptr 2 2 0 rfl
    · rw [h57];exact .sl 3 3 .str 0 ei rfl
    · rw [h58];exact .int _ _
    · rw [h59];exact .int _ _
  · have hg := hb p hp
    simp only [gP,List.mem_cons,List.not_mem_nil,or_false] at hp
    rcases hp with rfl|rfl|rfl|rfl|rfl|rfl|rfl|rfl
    · exact ⟨by omega,2,rfl,_,hg,.cons (.ptr 4 4 0 rfl) .nil⟩
    · exact ⟨by omega,3,rfl,.inl hg⟩
    · exact ⟨by omega,0,rfl,_,hg,.cons (.mp 1 1 rfl) .nil⟩
    · exact ⟨by omega,1,rfl,hg⟩
    · exact ⟨by omega,4,rfl,_,hg,.cons (.mp 5 5 rfl) (.cons (.mp 6 6 rfl) (.cons (.mp 7 7 rfl) (.cons (.mp 8 8 rfl) .nil)))⟩
    · exact ⟨by omega,5,rfl,hg⟩
    · exact ⟨by omega,7,rfl,hg⟩
    · exact ⟨by omega,8,rfl,hg⟩
def P66:rz.T ⊕ uE.T->Ex->St->cV->Prop:=GRnd 6 2 I66 (fun x=>x.2.2.2.2.2.2.1) (uE.st 2) (fun b=>b.2.2.1)
theorem Qz {ei : Nat} {v58 v59 : Int} {b3 : List ByteArray} {m1 : List (uF.den × Bool)} {m5 : List (ByteArray × uF.den)} {m6 : cV} {m7 m8 : bg} {env : Env} {nx : Nat} {bl : aq} (u : Unit) (hi : dc .i64 (v59 + 1) = true)
    (h3:get 3 env = .ptr 2 0) (h57:get 57 env = .sl 3 .str 0 ei) (h58:get 58 env = .int .i64 v58) (h59:get 59 env = .int .i64 v59) (hb:∀p∈gP b3 m1 m5 m7 m8,ay p.1 bl=some p.2) :
    gC prog 148 none 6 HI ⟨env,⟨nx,bl⟩,[]⟩ m6 (P66 (.inl (ei,v58,v59+1,b3,m1,m5,m6,m7,m8,u))):=by
  refine ET (env':=(59,.int .i64 (v59+1))::(97,.int .i64 (v59+1))::env) (Gr:=nx) (bP:=bl) (ms':=[]) mixed (fun _=>rfl) (fun base=>?_) ⟨rfl,rfl,List.range 9,rfl,afD h3 h57 h58 rfl hb⟩
  refine Eq.trans (b:=need (dc .i64 (v59+1)) (some (Ex.normal,(59,.int .i64 (v59+1))::(97,.int .i64 (v59+1))::env,nx,bl,[]))) ?_ (by rw [iU hi])
  have h1:Xx eu (.bin .add (.t 59) (.c (.int .i64 (Int.ofNat 1)))) env bl nx=some ([dc .i64 (v59+1)],.int .i64 (v59+1),[]):=by
    show (match (O.t 59).ev env,(O.c (V.int .i64 (Int.ofNat 1))).ev env with
      | .int k a,.int k' b=>_
      | .str a,.str b=>_
      |_,_=>_)=_
    rw [show (O.t 59).ev env = .int .i64 v59 from h59]
    rfl
  show (match Xx eu (.bin .add (.t 59) (.c (.int .i64 (Int.ofNat 1)))) env bl nx with
    |some (ob,v,u)=>_
    |none=>_)=_
  rw [h1]
  rfl
def JX (ei:Nat) (v58 v59:Int):Env:=(60,.tf true)::(60,.bool (decide (v59<v58)))::yU ei v58 v59
def sY (ei:Nat) (v58 v59:Int) (id:ByteArray) (m:uF.den):Env :=
 (70,.int .i64 m.2.1)::(69,.ptr 9 1)::(10,.ptr 9 0)::(68,.agg [.str m.1,.int .i64 m.2.1,.str m.2.2.1,.str m.2.2.2.1,.int .i64 m.2.2.2.2])::(67,.str id)::(66,.mp 5)::(65,.ptr 4 0)::(64,.ptr 4 0)::(63,.ptr 4 0) ::
 (9,.str id)::(62,.str id)::(61,.ep 3 .str (0+Int.toNat v59) [])::JX ei v58 v59
/-- Up to the switch. -/
theorem yV {ei : Nat} {v58 v59 : Int} {b3 : List ByteArray} {m1 : List (uF.den × Bool)} {m5 : List (ByteArray × uF.den)} {m6 : cV} {m7 m8 : bg} {Q R : Ex → St → cV → Prop}
    (iP:bT v59 (ei:Int)=true) (fF:decide (0+Int.toNat v59<b3.length)=true) {id:ByteArray} {m:uF.den} (hid:id=b3.getD (0+Int.toNat v59) (bs [])) (hm:m=az .str (bs [],(0:Int),bs [],bs [],(0:Int)) m5 id)
    (hin:gC prog 148 none 6 in66 ⟨sY ei v58 v59 id m,⟨10,(9,.cells [.str m.1,.int .i64 m.2.1,.str m.2.2.1,.str m.2.2.2.1,.int .i64 m.2.2.2.2] false)::gP b3 m1 m5 m7 m8⟩,[]⟩ m6 fun e S' es'=>e = .normal/\R .normal S' es')
    (h18:∀S' es',R .normal S' es'->gC prog 148 none 6 HI S' es' Q):gC prog 148 none 6 Yq ⟨JX ei v58 v59,⟨9,gP b3 m1 m5 m7 m8⟩,[]⟩ m6 Q:=by
  subst hm;subst hid
  refine JK (Q1:=fun e S' es'=>e = .normal/\R .normal S' es') (fun _ _ h=>by cases h) (wC (Q1:=fun e S' es'=>e = .normal/\R .normal S' es') ?_ (fun _ _ h=>h) (fun i _ _ h=>by cases h.1) (fun _ _ h=>by cases h.1)) (fun S' es' hq=>h18 _ _ hq.2) (fun i S' es' hq=>by cases hq.1) (fun S' es' hq=>by cases hq.1)
  generalize hE3:((9,V.str (b3.getD (0+Int.toNat v59) (bs [])))::(62,V.str (b3.getD (0+Int.toNat v59) (bs [])))::(61,V.ep 3 .str (0+Int.toNat v59) [])::JX ei v58 v59:Env)=e3
  refine gE (env':=e3) (Gr:=9) (bP:=gP b3 m1 m5 m7 m8) (ms':=[]) mixed (fun base=>Eq.trans (b:=need (bT v59 (ei:Int)) (need (decide (0+Int.toNat v59<b3.length)) (some (Ex.normal,e3,9,gP b3 m1 m5 m7 m8,[])))) (by subst hE3;kernel_rfl) (by rw [iU iP,iU fF])) ?_
  subst hE3
  refine gE (Gr := 10) (ms' := []) (bP := (9, .cells [.str (az .str (bs [], (0 : Int), bs [], bs [], (0 : Int)) m5 (b3.getD (0 + Int.toNat v59) (bs []))).1, .int .i64 (az .str (bs [], (0 : Int), bs [], bs [], (0 : Int)) m5 (b3.getD (0 + Int.toNat v59) (bs []))).2.1, .str (az .str (bs [], (0 : Int), bs [], bs [], (0 : Int)) m5 (b3.getD (0 + Int.toNat v59) (bs []))).2.2.1, .str (az .str (bs [], (0 : Int), bs [], bs [], (0 : Int)) m5 (b3.getD (0 + Int.toNat v59) (bs []))).2.2.2.1, .int .i64 (az .str (bs [], (0 : Int), bs [], bs [], (0 : Int)) m5 (b3.getD (0 + Int.toNat v59) (bs []))).2.2.2.2] false) :: gP b3 m1 m5 m7 m8)
    (env':=(sY ei v58 v59 (b3.getD (0+Int.toNat v59) (bs [])) (az .str (bs [],(0:Int),bs [],bs [],(0:Int)) m5 (b3.getD (0+Int.toNat v59) (bs [])))).drop 2) mixed (fun base=>by kernel_rfl) ?_
  exact gE (Gr:=10) (ms':=[]) mixed (fun base=>by kernel_rfl) hin
theorem aba:∀(x:rz.T) (r:rz.T ⊕ uE.T),ai (gH66_1 x)=some r->gC prog 148 none 6 c66 (I66 x) x.2.2.2.2.2.2.1 (P66 r):=by
  rintro ⟨ei,v58,v59,b3,m1,m5,m6,m7,m8,u⟩ r hr
  have hr:lF (decide (v59<v58)) _ _=some r:=hr
  rcases iV hr with ⟨hlt,hr⟩|⟨hlt,hr⟩
  · obtain ⟨iP, hr⟩ := de hr
    obtain ⟨fF,hr⟩:=de hr
    refine gE (env':=(60,.bool (decide (v59<v58)))::yU ei v58 v59) (Gr:=9) (bP:=gP b3 m1 m5 m7 m8) (ms':=[]) mixed (fun base=>by kernel_rfl) ?_
    refine JK (Q1:=fun e S' es'=>e = .normal/\S'=⟨JX ei v58 v59,⟨9,gP b3 m1 m5 m7 m8⟩,[]⟩/\es'=m6) (fun _ _ h=>by cases h) (rj (t:=true) (by show V.bool _=_;rw [hlt]) (ET mixed (fun _=>rfl) (fun base=>by kernel_rfl) ⟨rfl,rfl,rfl⟩)) (fun S' es' hq=>?_) (fun i S' es' hq=>by cases hq.1) (fun S' es' hq=>by cases hq.1)
    obtain ⟨-,rfl,rfl⟩:=hq
    obtain ⟨id,hid⟩:∃id,id=b3.getD (0+Int.toNat v59) (bs []):=⟨_,rfl⟩
    obtain ⟨m,hm⟩:∃m,m=az .str (bs [],(0:Int),bs [],bs [],(0:Int)) m5 id:=⟨_,rfl⟩
    rw [<-hid,<-hm] at hr
    have hr:lF (m.2.1==3) _ _=some r:=hr
    rcases iV hr with ⟨h3,hr⟩|⟨h3,hr⟩
    · obtain ⟨hi, hr⟩ := de hr
      cases hr
      refine yV (R:=fun _ S' Gn=>Gn=es'/\S'=⟨(78,.str m.2.2.1)::(77,.ptr 9 2)::(76,.mp 7)::(75,.ptr 4 2)::(74,.ptr 4 0)::(73,.ptr 4 0)::(71,.tf true)::(71,.bool (m.2.1==3))::(72,.bool (m.2.1==3))::sY ei v58 v59 id m,⟨17,(7,.map .str false .bool false (bq .str m7 m.2.2.1 true))::(9,.cells [.str m.1,.int .i64 m.2.1,.str m.2.2.1,.str m.2.2.2.1,.int .i64 m.2.2.2.2] false)::bD 7 (gP b3 m1 m5 m7 m8)⟩,[]⟩) iP fF hid hm ?_ ?_
      · refine wC (Q1 := fun e S' Gn => e = .normal ∧ (Gn = es' ∧ S' = _)) ?_ (fun _ _ h => h) (fun i _ _ h => by cases h.1) (fun _ _ h => by cases h.1)
        refine gE (env':=(71,.bool (m.2.1==3))::(72,.bool (m.2.1==3))::sY ei v58 v59 id m) (Gr:=10) (ms':=[]) (bP:=(9,.cells [.str m.1,.int .i64 m.2.1,.str m.2.2.1,.str m.2.2.2.1,.int .i64 m.2.2.2.2] false)::gP b3 m1 m5 m7 m8) mixed (fun base=>by kernel_rfl) ?_
        refine rj (t:=true) (by show V.bool _=_;rw [h3]) ?_
        exact ET mixed (fun _=>rfl) (fun base=>by kernel_rfl) ⟨rfl,rfl,rfl⟩
      · rintro S' Gn ⟨rfl, rfl⟩
        refine Qz u hi rfl rfl rfl rfl fun p hp=>?_
        simp only [gP,List.mem_cons,List.not_mem_nil,or_false] at hp
        rcases hp with rfl|rfl|rfl|rfl|rfl|rfl|rfl|rfl<;>rfl
    · have hr : lF (m.2.1 == 2) _ _ = some r := hr
      rcases iV hr with ⟨h2,hr⟩|⟨h2,hr⟩
      · obtain ⟨l8, hr⟩ := de hr
        obtain ⟨hi,hr⟩:=de hr
        cases hr
        refine yV (R:=fun _ S' Gn=>Gn=bq .str es' m.2.2.1 (az .str [] es' m.2.2.1++[id])/\S'=⟨yU ei v58 v59,⟨28,gP b3 m1 m5 m7 m8⟩,[]⟩) iP fF hid hm ?_ ?_
        · refine wC (Q1 := fun e S' Gn => e = .normal ∧ (Gn = _ ∧ S' = _)) ?_ (fun _ _ h => h) (fun i _ _ h => by cases h.1) (fun _ _ h => by cases h.1)
          refine gE (env':=(71,.bool (m.2.1==3))::(72,.bool (m.2.1==3))::sY ei v58 v59 id m) (Gr:=10) (ms':=[]) (bP:=(9,.cells [.str m.1,.int .i64 m.2.1,.str m.2.2.1,.str m.2.2.2.1,.int .i64 m.2.2.2.2] false)::gP b3 m1 m5 m7 m8) mixed (fun base=>by kernel_rfl) ?_
          refine rj (t:=false) (by show V.bool _=_;rw [h3]) ?_
          refine gE (env':=(79,.bool (m.2.1==2))::(80,.bool (m.2.1==2))::(71,.tf false)::(71,.bool (m.2.1==3))::(72,.bool (m.2.1==3))::sY ei v58 v59 id m) (Gr:=10) (ms':=[]) (bP:=(9,.cells [.str m.1,.int .i64 m.2.1,.str m.2.2.1,.str m.2.2.2.1,.int .i64 m.2.2.2.2] false)::gP b3 m1 m5 m7 m8) mixed (fun base=>by kernel_rfl) ?_
          refine rj (t:=true) (by show V.bool _=_;rw [h2]) ?_
          refine PO (PV (c2:=2) (c4:=4) (c9:=9) (k:=m.2.2.1) (x:=id) (env':=yU ei v58 v59) (bP:=gP b3 m1 m5 m7 m8) mixed rfl rfl rfl rfl rfl rfl (of_decide_eq_true l8) (fun i B hB=>?_) (fun t=>?_)) fun e S' Gn hq=>⟨hq.1,hq.2.2,hq.2.1⟩
          · have hm := dH hB
            simp only [gP,List.mem_cons,List.not_mem_nil,or_false,Prod.mk.injEq] at hm
            rcases hm with ⟨rfl,rfl⟩|⟨rfl,rfl⟩|⟨rfl,rfl⟩|⟨rfl,rfl⟩|⟨rfl,rfl⟩|⟨rfl,rfl⟩|⟨rfl,rfl⟩|⟨rfl,rfl⟩<;>rfl
          · by_cases ht : t = 3 ∨ t = 57 ∨ t = 58 ∨ t = 59
            · rcases ht with rfl|rfl|rfl|rfl<;>exact .inr ⟨rfl,by omega⟩
            · refine .inl (get_none ?_)
              simp only [yU,List.map_cons,List.map_nil,List.mem_cons,List.not_mem_nil,or_false]
              omega
        · rintro S' Gn ⟨rfl, rfl⟩
          refine Qz u hi rfl rfl rfl rfl fun p hp=>?_
          simp only [gP,List.mem_cons,List.not_mem_nil,or_false] at hp
          rcases hp with rfl|rfl|rfl|rfl|rfl|rfl|rfl|rfl<;>rfl
      · obtain ⟨hi, hr⟩ := de hr
        cases hr
        refine yV (R:=fun _ S' Gn=>Gn=es'/\S'=⟨(79,.tf false)::(79,.bool (m.2.1==2))::(80,.bool (m.2.1==2))::(71,.tf false)::(71,.bool (m.2.1==3))::(72,.bool (m.2.1==3))::sY ei v58 v59 id m,⟨10,(9,.cells [.str m.1,.int .i64 m.2.1,.str m.2.2.1,.str m.2.2.2.1,.int .i64 m.2.2.2.2] false)::gP b3 m1 m5 m7 m8⟩,[]⟩) iP fF hid hm ?_ ?_
        · refine wC (Q1 := fun e S' Gn => e = .normal ∧ (Gn = es' ∧ S' = _)) ?_ (fun _ _ h => h) (fun i _ _ h => by cases h.1) (fun _ _ h => by cases h.1)
          refine gE (env':=(71,.bool (m.2.1==3))::(72,.bool (m.2.1==3))::sY ei v58 v59 id m) (Gr:=10) (ms':=[]) (bP:=(9,.cells [.str m.1,.int .i64 m.2.1,.str m.2.2.1,.str m.2.2.2.1,.int .i64 m.2.2.2.2] false)::gP b3 m1 m5 m7 m8) mixed (fun base=>by kernel_rfl) ?_
          refine rj (t:=false) (by show V.bool _=_;rw [h3]) ?_
          refine gE (env':=(79,.bool (m.2.1==2))::(80,.bool (m.2.1==2))::(71,.tf false)::(71,.bool (m.2.1==3))::(72,.bool (m.2.1==3))::sY ei v58 v59 id m) (Gr:=10) (ms':=[]) (bP:=(9,.cells [.str m.1,.int .i64 m.2.1,.str m.2.2.1,.str m.2.2.2.1,.int .i64 m.2.2.2.2] false)::gP b3 m1 m5 m7 m8) mixed (fun base=>by kernel_rfl) ?_
          refine rj (t:=false) (by show V.bool _=_;rw [h2]) ?_
          exact ET mixed (fun _=>rfl) (fun base=>by kernel_rfl) ⟨rfl,rfl,rfl⟩
        · rintro S' Gn ⟨rfl, rfl⟩
          refine Qz u hi rfl rfl rfl rfl fun p hp=>?_
          simp only [gP,List.mem_cons,List.not_mem_nil,or_false] at hp
          rcases hp with rfl|rfl|rfl|rfl|rfl|rfl|rfl|rfl<;>rfl
  · cases hr
    refine gE (env':=(60,.bool (decide (v59<v58)))::yU ei v58 v59) (Gr:=9) (bP:=gP b3 m1 m5 m7 m8) (ms':=[]) mixed (fun base=>by kernel_rfl) ?_
    refine JK (Q1:=fun e S' es'=>e = .exit 2/\S'=⟨(60,.tf false)::(60,.bool (decide (v59<v58)))::yU ei v58 v59,⟨9,gP b3 m1 m5 m7 m8⟩,[]⟩/\es'=m6) (fun _ _ h=>by cases h) (rj (t:=false) (by show V.bool _=_;rw [hlt]) ?_) (fun S' es' hq=>by cases hq.1) (fun i S' es' hq=>?_) (fun S' es' hq=>by cases hq.1)
    · exact ET mixed (fun _=>rfl) (fun base=>by kernel_rfl) ⟨rfl,rfl,rfl⟩
    · obtain ⟨h1, rfl, rfl⟩ := hq
      cases h1
      refine ⟨by simp,rfl,by show 6<9;omega,rfl,?_⟩
      obtain ⟨b',π,h1,h2,h3⟩:=aU.dR (base:=2) (xs:=uE) (e:=.exit 2) (k:=fun x=>some x) (r:=(m1,m5,es',m7,m8,u)) (env:=(60,.tf false)::(60,.bool (decide (v59<v58)))::yU ei v58 v59) (nx:=9) (bl:=(6,.map .str false (.list .str) false es')::bD 6 (gP b3 m1 m5 m7 m8)) (ms:=[]) (by kernel_rfl)
      cases h1
      exact ⟨π,h3⟩
noncomputable def abb:bw prog 148 none 2 where
  c:=(aa8).er
  run kz env nx bl ms K:=rz.rd kz.no [0,1] 2 env nx bl ms fun x=>kz.nd x.2.2.2.2.2.2.1.isEmpty (kz.bd (iter (fun x=>ai (gH66_1 x)) x) fun b=>uE.go kz 2 b K)
  ok:=by
    intro X env nx bl ms K r h Q hQ
    obtain ⟨x,π,h1,h2⟩:=av.dR (base:=2) (show av.rd none (List.range 2) 2 rz _ _ _ _ _=some r from h)
    obtain ⟨hemp,h1⟩:=de h1
    obtain ⟨b,h3,h4⟩:=pZ h1
    have h5:=aU.A2 h4
    intro body hbody Y ι μ a w ho hb hR
    have qx:=h2.rep hb hR
    obtain ⟨ei,v58,v59,b3,m1,m5,m6,m7,m8,u⟩:=x
    have hm:m6=[]:=List.isEmpty_iff.1 hemp
    subst hm
    have rJ:∀id B,ay id (gP b3 m1 m5 m7 m8)=some B->ay id (rz.st 2 (ei,v58,v59,b3,m1,m5,[],m7,m8,u)).H.bl=some B/\id≠6:=by
      intro id B hB
      have hm:=dH hB
      simp only [gP,List.mem_cons,List.not_mem_nil,or_false,Prod.mk.injEq] at hm
      rcases hm with ⟨rfl,rfl⟩|⟨rfl,rfl⟩|⟨rfl,rfl⟩|⟨rfl,rfl⟩|⟨rfl,rfl⟩|⟨rfl,rfl⟩|⟨rfl,rfl⟩|⟨rfl,rfl⟩<;>exact ⟨rfl,by omega⟩
    obtain ⟨hI,hG⟩:=Ul (gi:=6) (bP:=gP b3 m1 m5 m7 m8) qx.inv rfl rJ
    exact aar (I:=I66) (ES:=fun x=>x.2.2.2.2.2.2.1) (X:=uE.st 2) (nb:=fun b=>b.2.2.1) (c:=c66) aba h3 (hQ _ _ _ _ _ h5) (by rw [hbody];kernel_rfl) ho hb ⟨qx.env,qx.sz,hI,qx.ms⟩ hG
abbrev Mb:av:=av.mk [(3,.c (.ptr 2 0)),(11,.c (.ptr 3 0)),(16,.c (.SG 10 .str)),(102,.c (.mp 5)),(103,.c (.ptr 9 0)),(121,.c (.ptr 11 1)),(122,hI),(123,.c (.hole .bool)),(132,.c (.hole (.list .str))),(133,hI),(134,hI)] [(2,.cells [.ptr 4 0] false),(3,.cells [.fn 96 .nil (.cons (.ptr 2 0) (.cons (.ptr 3 0) .nil))] false),(10,.arr .str false),(5,fB),(11,.cells [.hole .str,.hole tI,.hole .str,.hole .str,.hole tI] false),(4,.cells [.mp 6,.mp 5,.mp 7,.mp 8] false),(6,eE),(7,bR),(8,bR),(0,.cells [.mp 1] false),(1,gq)] [.slot 16,.slot 121] []
abbrev Mc:aU:=[(.exit 7,av.mk [(3,.c (.ptr 2 0)),(11,.c (.ptr 3 0)),(102,.c (.mp 5)),(103,.c (.ptr 9 0)),(121,.c (.ptr 10 1)),(122,hI),(123,.c (.hole .bool))] [(2,.cells [.ptr 4 0] false),(3,.cells [.fn 96 .nil (.cons (.ptr 2 0) (.cons (.ptr 3 0) .nil))] false),(5,fB),(10,.cells [.hole .str,.hole tI,.hole .str,.hole .str,.hole tI] false),(4,.cells [.mp 6,.mp 5,.mp 7,.mp 8] false),(6,eE),(7,bR),(8,bR),(0,.cells [.mp 1] false),(1,gq)] [.slot 121] [])]
noncomputable def Md:D prog 148 none 10:=dO [] (pick (kd prog f66) [(2,false),(0,false)]) 0
noncomputable def gH66_2b_3:Nat×Nat×Int×Bool×List ByteArray×Int×Int×List ByteArray×cV×ByteArray×Int×ByteArray×ByteArray×Int×cR×bg×bg×eR×Unit->bG ((Nat×Nat×Int×Bool×List ByteArray×Int×Int×List ByteArray×cV×ByteArray×Int×ByteArray×ByteArray×Int×cR×bg×bg×eR×Unit) ⊕ ((Int×Bool×cV×ByteArray×Int×ByteArray×ByteArray×Int×cR×bg×bg×eR×Unit))):=fun (Vh,abc,E2,E3,QA,abd,E4,SM,m5,QB,QC,QD,QE,QF,m6,m7,m8,m1,_) =>
 .br (decide (E4<abd)) (
 .nb E4 (((QA).length:Nat):Int) <|
 .nb (0:Int) ((abc:Nat):Int) <|
 .nd (decide ((Vh+(Int.toNat (0:Int)))<(SM).length)) <|
 .br (!(seq ((QA).getD (Int.toNat E4) (bs [])) ((SM).getD (Vh+(Int.toNat (0:Int))) (bs [])))) (
 .bd (FH96fix ((QA).getD (Int.toNat E4) (bs [])) m6 m5 m7 m8) fun y7 =>
 .ni (E4+(1:Int)) <|
 .ret (.inl (Vh,abc,E2,E3,QA,abd,(E4+(1:Int)),SM,y7.2.1,QB,QC,QD,QE,QF,y7.1,y7.2.2.1,y7.2.2.2.1,m1,()))) (
 .ni (E4+(1:Int)) <|
 .ret (.inl (Vh,abc,E2,E3,QA,abd,(E4+(1:Int)),SM,m5,QB,QC,QD,QE,QF,m6,m7,m8,m1,())))) (
 .ret (.inr (E2,E3,m5,QB,QC,QD,QE,QF,m6,m7,m8,m1,())))
noncomputable def Me:bw prog 148 none 10:=aW mixed JW sX [0,1,2,3,4,5,6,7,8,9] rfl Mb Mc rfl (Md) (fun x=>ai (gH66_2b_3 x)) (fun x=>by kernel_rfl)
abbrev abe:av:=av.mk [(3,.c (.ptr 2 0)),(11,.c (.ptr 3 0)),(102,.c (.mp 5))] [(2,.cells [.ptr 4 0] false),(3,.cells [.fn 96 .nil (.cons (.ptr 2 0) (.cons (.ptr 3 0) .nil))] false),(4,.cells [.mp 6,.mp 5,.mp 7,.mp 8] false),(5,fB),(0,.cells [.mp 1] false),(1,gq),(6,eE),(7,bR),(8,bR)] [.slot 3,.slot 11,.cell 2 0,.cell 4 1,.cell 4 0,.cell 4 2,.cell 4 3] []
noncomputable def abf:D prog 148 none 10:=dO [.l Me] (pick (kd prog f66) [(2,false)]) 0
noncomputable def gH66_2:((ByteArray)×(List ByteArray))->cV×eR×cR×bg×bg×Unit->bG (cV×eR×cR×bg×bg×Unit):=fun e (m5,m1,m6,m7,m8,_) =>
 .br (!(aR .str m6 e.1)) (
 .nd (jP m5 m5) <|
 .ret (m5,m1,m6,m7,m8,())) (
 .br ((az .str ((bs []),(0:Int),(bs []),(bs []),(0:Int)) m6 e.1).2.1==(3:Int)) (
 .nd (jP m5 m5) <|
 .ret (m5,m1,m6,m7,m8,())) (
 .bd (FH98 e.2) fun y5 =>
 .bd (FH97 y5.1 y5.2.1 m6 m5 m7 m8) fun y6 =>
 .br (!(((y6.2.1:Nat):Int)==(1:Int))) (
 .nd (jP y6.2.2.2.2.1 m5) <|
 .ret (y6.2.2.2.2.1,m1,y6.2.2.2.1,y6.2.2.2.2.2.1,y6.2.2.2.2.2.2.1,())) (
 .bd (.it gH66_2b_3 (y6.1,y6.2.1,(az .str ((bs []),(0:Int),(bs []),(bs []),(0:Int)) m6 e.1).2.1,((az .str ((bs []),(0:Int),(bs []),(bs []),(0:Int)) m6 e.1).2.1==(3:Int)),e.2,(((e.2).length:Nat):Int),(0:Int),y6.2.2.1,y6.2.2.2.2.1,(az .str ((bs []),(0:Int),(bs []),(bs []),(0:Int)) m6 e.1).1,(az .str ((bs []),(0:Int),(bs []),(bs []),(0:Int)) m6 e.1).2.1,(az .str ((bs []),(0:Int),(bs []),(bs []),(0:Int)) m6 e.1).2.2.1,(az .str ((bs []),(0:Int),(bs []),(bs []),(0:Int)) m6 e.1).2.2.2.1,(az .str ((bs []),(0:Int),(bs []),(bs []),(0:Int)) m6 e.1).2.2.2.2,y6.2.2.2.1,y6.2.2.2.2.2.1,y6.2.2.2.2.2.2.1,m1,())) fun z8 =>
 .nd (jP z8.2.2.1 m5) <|
 .ret (z8.2.2.1,z8.2.2.2.2.2.2.2.2.2.2.2.1,z8.2.2.2.2.2.2.2.2.1,z8.2.2.2.2.2.2.2.2.2.1,z8.2.2.2.2.2.2.2.2.2.2.1,()))))
noncomputable def abg:sx prog 148 none 2:=CE mixed JW sX [0,1] rfl abe ( [.op (some 99) none (.load false 1 (.t 3)),.op (some 100) none (.ex gI.jg [.t 99]),.op (some 101) none (.nu 1 [true,false] (.t 100)),.op (some 102) none (.load false 1 (.t 101))]) 102 103 [104,105] (some 106) ( .str)  false ( .list .str)  false 5 rfl 10 rfl (abf) (fun e x=>ai (gH66_2 e x)) (fun e=>fun x=>by kernel_rfl)
noncomputable def Yr:D prog 148 none 2:=dO [.l aa7,.l abb,.m abg] (kd prog f66) 0
noncomputable def FH66 (m1:eR):bG (eR×cR×cV×bg×bg×Unit) :=
 .bd (FH47 m1) fun y0 =>
 .bd (.it gH66_0 (y0.1,((y0.1:Nat):Int),(0:Int),y0.2.1,y0.2.2.1,[],[],[],[],())) fun z1 =>
 .bd (FH95 z1.2.1) fun y2 =>
 .bd (FH81 y2.1) fun y3 =>
 .nd (z1.2.2.1).isEmpty <|
 .bd (.it gH66_1 (y3.1,((y3.1:Nat):Int),(0:Int),y3.2.1,z1.1,y3.2.2.1,z1.2.2.1,z1.2.2.2.1,z1.2.2.2.2.1,())) fun z4 =>
 .bd (.mq gH66_2 z4.2.2.1 (z4.2.2.1,z4.1,z4.2.1,z4.2.2.2.1,z4.2.2.2.2.1,())) fun z9 =>
 .ret (z9.2.1,z9.2.2.1,z9.1,z9.2.2.2.1,z9.2.2.2.2.1,())
theorem Vi:cw prog f66=some ⟨148,1,Yr.er,[.t 2],[none]⟩:=by kernel_rfl
noncomputable def E5:Ht:=⟨66,pH66,qH66,(fun x=>ai (FH66 x.1))⟩
theorem sZ:E5.Ok prog:=bE mixed sX rfl func66 Vi (enters_of func66 rfl rfl) Yr (by kernel_rfl) rfl rfl ⟨_,rfl⟩ rfl (pre:=[0,1]) rfl (fun x=>by kernel_rfl)

/- 123, lent -/
abbrev afE:av:=av.mk [(0,.c (.hole .str)),(1,.c (.ptr 0 0))] [(0,.cells [.ptr 1 0] false),(1,.cells [.mp 2,.mp 3,.mp 4,.mp 5] false),(2,eE),(3,fB),(4,bR),(5,bR)] [.slot 1,.cell 0 0,.cell 1 0,.cell 1 1,.cell 1 2,.cell 1 3] []
abbrev afF:av:=av.mk [(0,.c (.hole .bool))] [(0,.cells [.ptr 1 0] false),(1,.cells [.mp 2,.mp 3,.mp 4,.mp 5] false),(2,eE),(3,fB),(4,bR),(5,bR)] [] []
noncomputable def abh:Cx:=(aL [] [])
theorem Mf:abh.Ok prog:=au trivial trivial
noncomputable def QG:D prog 10 none 6:=dO [] (kd prog f123) 0
noncomputable def FH123 (v0:ByteArray) (m2:cR) (m3:cV) (m4:bg) (m5:bg):bG (Bool×cR×cV×bg×bg×Unit) :=
 .ret ((az .str false m5 v0),m2,m3,m4,m5,())
theorem QH:cw prog f123=some ⟨10,2,QG.er,[.t 3],[some .bool]⟩:=by kernel_rfl
noncomputable def QI:Ht:=⟨123,afE,afF,(fun x=>ai (FH123 x.1 x.2.1 x.2.2.1 x.2.2.2.1 x.2.2.2.2.1))⟩
theorem E6:QI.Ok prog:=bE mixed Mf rfl func123 QH (enters_of func123 rfl rfl) QG (by kernel_rfl) rfl rfl ⟨_,rfl⟩ rfl (pre:=[0,1,2,3,4,5]) rfl (fun x=>by kernel_rfl)

/- 119, lent -/
abbrev QJ:av:=av.mk [(0,.c (.bH 0 .str)),(1,.fn 123 [] [.ptr 1 0])] [(0,.arr .str false),(1,.cells [.ptr 2 0] false),(2,.cells [.mp 3,.mp 4,.mp 5,.mp 6] false),(3,eE),(4,fB),(5,bR),(6,bR)] [.slot 0,.part 1 0,.cell 1 0,.cell 2 0,.cell 2 1,.cell 2 2,.cell 2 3] []
abbrev QK:av:=av.mk [(0,hI)] [(1,.cells [.ptr 2 0] false),(2,.cells [.mp 3,.mp 4,.mp 5,.mp 6] false),(3,eE),(4,fB),(5,bR),(6,bR),(0,.arr .str false)] [] []
noncomputable def Bk:Cx:=(aL [] [QI])
theorem ta:Bk.Ok prog:=au trivial ⟨⟨E6,rfl⟩,trivial⟩
abbrev HJ:av:=av.mk [(0,.c (.bH 0 .str)),(1,.fn 123 [] [.ptr 1 0]),(7,hI),(8,hI)] [(0,.arr .str false),(1,.cells [.ptr 2 0] false),(2,.cells [.mp 3,.mp 4,.mp 5,.mp 6] false),(3,eE),(4,fB),(5,bR),(6,bR)] [] []
abbrev HK:aU:=[(.ret,av.mk [(4,hI)] [(1,.cells [.ptr 2 0] false),(2,.cells [.mp 3,.mp 4,.mp 5,.mp 6] false),(3,eE),(4,fB),(5,bR),(6,bR),(0,.arr .str false)] [] []),(.exit 0,av.mk [] [(1,.cells [.ptr 2 0] false),(2,.cells [.mp 3,.mp 4,.mp 5,.mp 6] false),(3,eE),(4,fB),(5,bR),(6,bR),(0,.arr .str false)] [] [])]
noncomputable def HL:D prog 19 none 7:=dO [] (pick (kd prog f119) [(0,false)]) 0
noncomputable def gH119_v1_0:Nat×Int×Int×List ByteArray×cR×cV×bg×bg×Unit->bG ((Nat×Int×Int×List ByteArray×cR×cV×bg×bg×Unit) ⊕ ((Int×cR×cV×bg×bg×List ByteArray×Unit) ⊕ ((cR×cV×bg×bg×List ByteArray×Unit)))):=fun (nW,v7,v8,b0,m3,m4,m5,m6,_) =>
 .br (decide (v8<v7)) (
 .nb v8 ((nW:Nat):Int) <|
 .nd (decide (((0:Nat)+(Int.toNat v8))<(b0).length)) <|
 .bd (FH123 ((b0).getD ((0:Nat)+(Int.toNat v8)) (bs [])) m3 m4 m5 m6) fun y0 =>
 .br y0.1 (
 .ret (.inr <| .inl<|(v8,y0.2.1,y0.2.2.1,y0.2.2.2.1,y0.2.2.2.2.1,b0,()))) (
 .ni (v8+(1:Int)) <|
 .ret (.inl (nW,v7,(v8+(1:Int)),b0,y0.2.1,y0.2.2.1,y0.2.2.2.1,y0.2.2.2.2.1,())))) (
 .ret (.inr <| .inr<|(m3,m4,m5,m6,b0,())))
noncomputable def HM:bw prog 19 none 7:=aW mixed Bk ta [0,1,2,3,4,5,6] rfl HJ HK rfl (HL) (fun x=>ai (gH119_v1_0 x)) (fun x=>by kernel_rfl)
noncomputable def Bm:D prog 19 none 7:=dO [.l HM] (kd prog f119) 0
noncomputable def FH119_v1 (nW:Nat) (b0:List ByteArray) (m3:cR) (m4:cV) (m5:bg) (m6:bg):bG (Int×cR×cV×bg×bg×List ByteArray×Unit) :=
 .bd (.it gH119_v1_0 (nW,((nW:Nat):Int),(0:Int),b0,m3,m4,m5,m6,())) fun z1 =>
 .sm z1 (fun z2 =>
 .ret (z2.1,z2.2.1,z2.2.2.1,z2.2.2.2.1,z2.2.2.2.2.1,z2.2.2.2.2.2.1,())) fun z3 =>
 .ret ((-1:Int),z3.1,z3.2.1,z3.2.2.1,z3.2.2.2.1,z3.2.2.2.2.1,())
theorem E7:cw prog f119=some ⟨19,2,Bm.er,[.t 4],[some tI]⟩:=by kernel_rfl
noncomputable def E8:Ht:=⟨119,QJ,QK,(fun x=>ai (FH119_v1 x.1 x.2.1 x.2.2.1 x.2.2.2.1 x.2.2.2.2.1 x.2.2.2.2.2.1))⟩
theorem E9:E8.Ok prog:=bE mixed ta rfl func119 E7 (enters_of func119 rfl rfl) Bm (by kernel_rfl) rfl rfl ⟨_,rfl⟩ rfl (pre:=[0,1,2,3,4,5,6]) rfl (fun x=>by kernel_rfl)

/- 97, lent -/
abbrev Vj:av:=av.mk [(0,.c (.bH 0 .str)),(1,.fn 123 [] [.ptr 1 0])] [(0,.arr .str false),(1,.cells [.ptr 2 0] false),(2,.cells [.mp 3,.mp 4,.mp 5,.mp 6] false),(3,eE),(4,fB),(5,bR),(6,bR)] [.slot 0,.part 1 0,.cell 1 0,.cell 2 0,.cell 2 1,.cell 2 2,.cell 2 3] []
abbrev Vk:av:=av.mk [(0,.c (.SG 0 .str))] [(0,.arr .str false),(1,.cells [.ptr 2 0] false),(2,.cells [.mp 3,.mp 4,.mp 5,.mp 6] false),(3,eE),(4,fB),(5,bR),(6,bR)] [] []
noncomputable def Fa:Cx:=(aL [] [E8,QI])
theorem vp:Fa.Ok prog:=au trivial ⟨⟨E9,rfl⟩,⟨E6,rfl⟩,trivial⟩
abbrev Mh:av:=av.mk [(0,.c (.bH 0 .str)),(1,.fn 123 [] [.ptr 1 0]),(5,hI),(6,hI)] [(0,.arr .str false),(1,.cells [.ptr 2 0] false),(2,.cells [.mp 3,.mp 4,.mp 5,.mp 6] false),(3,eE),(4,fB),(5,bR),(6,bR)] [] []
abbrev Mi:aU:=[(.exit 0,av.mk [(0,.c (.bH 0 .str)),(5,hI)] [(0,.arr .str false),(1,.cells [.ptr 2 0] false),(2,.cells [.mp 3,.mp 4,.mp 5,.mp 6] false),(3,eE),(4,fB),(5,bR),(6,bR)] [] [])]
noncomputable def Mj:D prog 42 none 7:=dO [] (pick (kd prog f97) [(0,false)]) 0
noncomputable def gH97_v1_0:Nat×Int×Int×List ByteArray×cR×cV×bg×bg×Unit->bG ((Nat×Int×Int×List ByteArray×cR×cV×bg×bg×Unit) ⊕ ((Nat×Int×List ByteArray×cR×cV×bg×bg×Unit))):=fun (nW,v5,v6,b0,m3,m4,m5,m6,_) =>
 .br (decide (v6<((nW:Nat):Int))) (
 .nb v6 ((nW:Nat):Int) <|
 .nd (decide (((0:Nat)+(Int.toNat v6))<(b0).length)) <|
 .bd (FH123 ((b0).getD ((0:Nat)+(Int.toNat v6)) (bs [])) m3 m4 m5 m6) fun y1 =>
 .br (!y1.1) (
 .nb v5 ((nW:Nat):Int) <|
 .nd (decide (((0:Nat)+(Int.toNat v5))<(b0).length)) <|
 .ni (v5+(1:Int)) <|
 .ni (v6+(1:Int)) <|
 .ret (.inl (nW,(v5+(1:Int)),(v6+(1:Int)),((b0).set ((0:Nat)+(Int.toNat v5)) ((b0).getD ((0:Nat)+(Int.toNat v6)) (bs []))),y1.2.1,y1.2.2.1,y1.2.2.2.1,y1.2.2.2.2.1,()))) (
 .ni (v6+(1:Int)) <|
 .ret (.inl (nW,v5,(v6+(1:Int)),b0,y1.2.1,y1.2.2.1,y1.2.2.2.1,y1.2.2.2.2.1,())))) (
 .ret (.inr (nW,v5,b0,m3,m4,m5,m6,())))
noncomputable def Mk:bw prog 42 none 7:=aW mixed Fa vp [0,1,2,3,4,5,6] rfl Mh Mi rfl (Mj) (fun x=>ai (gH97_v1_0 x)) (fun x=>by kernel_rfl)
noncomputable def Fb:D prog 42 none 7:=dO [.l Mk] (kd prog f97) 0
noncomputable def FH97_v1 (nW:Nat) (b0:List ByteArray) (m3:cR) (m4:cV) (m5:bg) (m6:bg):bG (Nat×Nat×List ByteArray×cR×cV×bg×bg×Unit) :=
 .bd (FH119_v1 nW b0 m3 m4 m5 m6) fun y0 =>
 .br (y0.1==(-1:Int)) (
 .ret ((0:Nat),nW,y0.2.2.2.2.2.1,y0.2.1,y0.2.2.1,y0.2.2.2.1,y0.2.2.2.2.1,())) (
 .ni (y0.1+(1:Int)) <|
 .bd (.it gH97_v1_0 (nW,y0.1,(y0.1+(1:Int)),y0.2.2.2.2.2.1,y0.2.1,y0.2.2.1,y0.2.2.2.1,y0.2.2.2.2.1,())) fun z2 =>
 .nd (decide ((0:Int)<=z2.2.1)) <|
 .nd (decide (z2.2.1<=((z2.1:Nat):Int))) <|
 .nd (decide (((z2.1:Nat):Int)<=((z2.1:Nat):Int))) <|
 .nd (decide ((0:Int)<=(0:Int))) <|
 .nd (decide ((0:Int)<=z2.2.1)) <|
 .nd (decide (z2.2.1<=((z2.1:Nat):Int))) <|
 .ret (((0:Nat)+(Int.toNat (0:Int))),((Int.toNat z2.2.1) - (Int.toNat (0:Int))),(BF (bs []) z2.2.2.1 ((0:Nat)+(Int.toNat z2.2.1)) ((Int.toNat ((z2.1:Nat):Int)) - (Int.toNat z2.2.1))),z2.2.2.2.1,z2.2.2.2.2.1,z2.2.2.2.2.2.1,z2.2.2.2.2.2.2.1,()))
theorem HN:cw prog f97=some ⟨42,2,Fb.er,[.t 4],[some (.list .str)]⟩:=by kernel_rfl
noncomputable def JY:Ht:=⟨97,Vj,Vk,(fun x=>ai (FH97_v1 x.1 x.2.1 x.2.2.1 x.2.2.2.1 x.2.2.2.2.1 x.2.2.2.2.2.1))⟩
theorem HO:JY.Ok prog:=bE mixed vp rfl func97 HN (enters_of func97 rfl rfl) Fb (by kernel_rfl) rfl rfl ⟨_,rfl⟩ rfl (pre:=[0,1,2,3,4,5,6]) rfl (fun x=>by kernel_rfl)

/- 104, lent -/
abbrev afG:av:=av.mk [(0,.c (.ptr 0 0)),(1,.c (.hole .str))] [(0,.cells [.mp 1,.mp 2,.mp 3,.mp 4] false),(1,eE),(2,fB),(3,bR),(4,bR)] [.slot 0,.cell 0 0,.cell 0 1,.cell 0 2,.cell 0 3] []
abbrev afH:av:=av.mk [(0,.c (.SG 5 .str))] [(5,.arr .str false),(0,.cells [.mp 1,.mp 2,.mp 3,.mp 4] false),(1,eE),(2,fB),(3,bR),(4,bR)] [.slot 0] []
noncomputable def abi:Cx:=(aL [] [aaV,JY])
theorem Ml:abi.Ok prog:=au trivial ⟨⟨JU,rfl⟩,⟨HO,rfl⟩,trivial⟩
noncomputable def QL:D prog 14 none 5:=dO [] (kd prog f104) 0
noncomputable def FH104 (v1:ByteArray) (m1:cR) (m2:cV) (m3:bg) (m4:bg):bG (Nat×Nat×List ByteArray×cR×cV×bg×bg×Unit) :=
 .bd (FH98 (az .str [] m2 v1)) fun y0 =>
 .bd (FH97_v1 y0.1 y0.2.1 m1 m2 m3 m4) fun y1 =>
 .ret (y1.1,y1.2.1,y1.2.2.1,y1.2.2.2.1,y1.2.2.2.2.1,y1.2.2.2.2.2.1,y1.2.2.2.2.2.2.1,())
theorem QM:cw prog f104=some ⟨14,2,QL.er,[.t 4],[some (.list .str)]⟩:=by kernel_rfl
noncomputable def Ys:Ht:=⟨104,afG,afH,(fun x=>ai (FH104 x.1 x.2.1 x.2.2.1 x.2.2.2.1 x.2.2.2.2.1))⟩
theorem QN:Ys.Ok prog:=bE mixed Ml rfl func104 QM (enters_of func104 rfl rfl) QL (by kernel_rfl) rfl rfl ⟨_,rfl⟩ rfl (pre:=[0,1,2,3,4]) rfl (fun x=>by kernel_rfl)

/- 76, lent -/
abbrev k6:av:=av.mk [(0,.c (.ptr 0 0)),(1,.c (.hole .str))] [(0,.cells [.mp 1,.mp 2,.mp 3,.mp 4] false),(1,eE),(2,fB),(3,bR),(4,bR)] [.slot 0,.cell 0 0,.cell 0 1,.cell 0 2,.cell 0 3] []
abbrev k7:av:=av.mk [(0,.c (.bH 5 .str))] [(5,.arr .str false),(0,.cells [.mp 1,.mp 2,.mp 3,.mp 4] false),(1,eE),(2,fB),(3,bR),(4,bR)] [.slot 0] []
noncomputable def QO (rec:k6.T->Option k7.T):Cx:=(aL [] [Ys,⟨76,k6,k7,rec⟩,Bh])
theorem Fc (rec:k6.T->Option k7.T) (h:Ht.Ok prog ⟨76,k6,k7,rec⟩):(QO rec).Ok prog:=au trivial ⟨⟨QN,rfl⟩,⟨h,rfl⟩,⟨yR,rfl⟩,trivial⟩
abbrev HP:av:=av.mk [(0,.c (.ptr 0 0)),(6,.c (.bH 5 .str)),(17,.c (.SG 6 .str)),(18,hI),(19,hI)] [(0,.cells [.mp 1,.mp 2,.mp 3,.mp 4] false),(5,.arr .str false),(6,.arr .str false),(1,eE),(2,fB),(3,bR),(4,bR)] [.slot 6,.slot 17] []
abbrev HQ:aU:=[(.exit 0,av.mk [(6,.c (.bH 5 .str))] [(5,.arr .str false),(0,.cells [.mp 1,.mp 2,.mp 3,.mp 4] false),(1,eE),(2,fB),(3,bR),(4,bR)] [.slot 6] [])]
noncomputable def QS (rec:k6.T->Option k7.T) (h:Ht.Ok prog ⟨76,k6,k7,rec⟩):D prog 32 none 5:=dO [] (pick (kd prog f76) [(0,false)]) 0
noncomputable def gH76_0:Nat×Nat×Nat×Int×Int×List ByteArray×List ByteArray×cR×cV×bg×bg×Unit->Tr k6.T k7.T ((Nat×Nat×Nat×Int×Int×List ByteArray×List ByteArray×cR×cV×bg×bg×Unit) ⊕ ((Nat×List ByteArray×cR×cV×bg×bg×Unit))):=fun (vq,abj,nv17,v18,Vl,b5,b6,m1,m2,m3,m4,_) =>
 .br (decide (Vl<v18)) (
 .nb Vl ((nv17:Nat):Int) <|
 .nd (decide ((abj+(Int.toNat Vl))<(b6).length)) <|
 .bd (.rc (((b6).getD (abj+(Int.toNat Vl)) (bs [])),m1,m2,m3,m4,())) fun y1 =>
 .nd (decide ((vq+((((y1.2.1).drop (0:Nat)).take y1.1)).length)<bp)) <|
 .ni (Vl+(1:Int)) <|
 .ret (.inl ((vq+((((y1.2.1).drop (0:Nat)).take y1.1)).length),abj,nv17,v18,(Vl+(1:Int)),((((b5).drop (0:Nat)).take vq)++(((y1.2.1).drop (0:Nat)).take y1.1)),b6,y1.2.2.1,y1.2.2.2.1,y1.2.2.2.2.1,y1.2.2.2.2.2.1,()))) (
 .ret (.inr (vq,b5,m1,m2,m3,m4,())))
theorem abk (rec:k6.T->Option k7.T) (h:Ht.Ok prog ⟨76,k6,k7,rec⟩):∀x,oV (iK (HP.T ⊕ HQ.T)) (QO rec) eu [0,1,2,3,4] HP HQ (QS rec h) (fun y=>some (.inl y)) (fun b=>some (.inr b)) x=run rec (gH76_0 x):=fun x=>by kernel_rfl
noncomputable def abl (rec:k6.T->Option k7.T) (h:Ht.Ok prog ⟨76,k6,k7,rec⟩):bw prog 32 none 5:=aW mixed (QO rec) (Fc rec h) [0,1,2,3,4] rfl HP HQ rfl (QS rec h) (fun x=>run rec (gH76_0 x)) (abk rec h)
noncomputable def Yt (rec:k6.T->Option k7.T) (h:Ht.Ok prog ⟨76,k6,k7,rec⟩):D prog 32 none 5:=dO [.l (abl rec h)] (kd prog f76) 0
noncomputable def FH76 (v1:ByteArray) (m1:cR) (m2:cV) (m3:bg) (m4:bg):Tr k6.T k7.T (Nat×List ByteArray×cR×cV×bg×bg×Unit) :=
 .bd (.up (FH104 v1 m1 m2 m3 m4)) fun y0 =>
 .br (((y0.2.1:Nat):Int)==(0:Int)) (
 .ret ((1:Nat),(v1::[]),y0.2.2.2.1,y0.2.2.2.2.1,y0.2.2.2.2.2.1,y0.2.2.2.2.2.2.1,())) (
 .bd (.it gH76_0 ((0:Nat),y0.1,y0.2.1,((y0.2.1:Nat):Int),(0:Int),[],y0.2.2.1,y0.2.2.2.1,y0.2.2.2.2.1,y0.2.2.2.2.2.1,y0.2.2.2.2.2.2.1,())) fun z2 =>
 .bd (.up (FH105 z2.1 z2.2.1)) fun y3 =>
 .ret (z2.1,y3.1,z2.2.2.1,z2.2.2.2.1,z2.2.2.2.2.1,z2.2.2.2.2.2.1,()))
theorem Vm (rec:k6.T->Option k7.T) (h:Ht.Ok prog ⟨76,k6,k7,rec⟩):cw prog f76=some ⟨32,2,(Yt rec h).er,[.t 4],[some (.list .str)]⟩:=by kernel_rfl
theorem Mm (rec:k6.T->Option k7.T) (h:Ht.Ok prog ⟨76,k6,k7,rec⟩):Ht.Ok prog ⟨76,k6,k7,(fun x=>run rec (FH76 x.1 x.2.1 x.2.2.1 x.2.2.2.1 x.2.2.2.2.1))⟩:=bE mixed (Fc rec h) rfl func76 (Vm rec h) (enters_of func76 rfl rfl) (Yt rec h) (by kernel_rfl) rfl rfl ⟨_,rfl⟩ rfl (pre:=[0,1,2,3,4]) rfl (fun x=>by kernel_rfl)
noncomputable def FH76fix (v1:ByteArray) (m1:cR) (m2:cV) (m3:bg) (m4:bg):bG (Nat×List ByteArray×cR×cV×bg×bg×Unit):=.fx (A1:=k6.T) (B1:=k7.T) (fun x=>FH76 x.1 x.2.1 x.2.2.1 x.2.2.2.1 x.2.2.2.2.1) (v1,m1,m2,m3,m4,())
noncomputable def HR:Ht:=⟨76,k6,k7,fun x=>ai (FH76fix x.1 x.2.1 x.2.2.1 x.2.2.2.1 x.2.2.2.2.1)⟩
theorem tc:HR.Ok prog:=CA (F:=fun rec x=>run rec (FH76 x.1 x.2.1 x.2.2.1 x.2.2.2.1 x.2.2.2.2.1)) (fun rec h=>Mm rec h)

/- 74, lent -/
abbrev pH74:av:=av.mk [(0,.c (.ptr 0 0)),(1,.c (.hole .str))] [(0,.cells [.mp 1,.mp 2,.mp 3,.mp 4] false),(1,eE),(2,fB),(3,bR),(4,bR)] [.slot 0,.cell 0 0,.cell 0 1,.cell 0 2,.cell 0 3] []
abbrev qH74:av:=av.mk [(0,.cS [.bH 5 .str,.hole .bool])] [(5,.arr .str false),(0,.cells [.mp 1,.mp 2,.mp 3,.mp 4] false),(1,eE),(2,fB),(3,bR),(4,bR)] [.part 0 0] []
noncomputable def Yu:Cx:=(aL [] [HR])
theorem Fe:Yu.Ok prog:=au trivial ⟨⟨tc,rfl⟩,trivial⟩
abbrev abm:av:=av.mk [(0,.c (.ptr 0 0)),(1,.c (.hole .str)),(11,.c (.mp 1))] [(0,.cells [.mp 1,.mp 2,.mp 3,.mp 4] false),(1,eE),(2,fB),(3,bR),(4,bR)] [] []
abbrev abn:aU:=[(.ret,av.mk [(4,.c (.bH 5 .str)),(5,.c (.hole .bool))] [(5,.arr .str false),(0,.cells [.mp 1,.mp 2,.mp 3,.mp 4] false),(1,eE),(2,fB),(3,bR),(4,bR)] [.slot 4] [])]
noncomputable def abo:D prog 50 none 6:=dO [] (pick (kd prog f74) [(0,false)]) 0
noncomputable def gH74_0:((ByteArray)×GG)->ByteArray×cR×cV×bg×bg×Unit->bG ((ByteArray×cR×cV×bg×bg×Unit) ⊕ ((Nat×Bool×List ByteArray×cR×cV×bg×bg×Unit))):=fun e (v1,m1,m2,m3,m4,_) =>
 .br (!(aR .str m1 v1)) (
 .ret (.inr ((0:Nat),false,[],m1,m2,m3,m4,()))) (
 .br ((az .str ((bs []),(0:Int),(bs []),(bs []),(0:Int)) m1 v1).2.1==(3:Int)) (
 .ret (.inr ((0:Nat),false,[],m1,m2,m3,m4,()))) (
 .br (az .str false m4 v1) (
 .ret (.inr ((0:Nat),false,[],m1,m2,m3,m4,()))) (
 .br ((az .str ((bs []),(0:Int),(bs []),(bs []),(0:Int)) m1 v1).2.1==(1:Int)) (
 .bd (FH76fix v1 m1 m2 m3 m4) fun y0 =>
 .ret (.inr (y0.1,true,y0.2.1,y0.2.2.1,y0.2.2.2.1,y0.2.2.2.2.1,y0.2.2.2.2.2.1,()))) (
 .nd (jP m1 m1) <|
 .ret (.inl ((az .str ((bs []),(0:Int),(bs []),(bs []),(0:Int)) m1 v1).2.2.1,m1,m2,m3,m4,()))))))
noncomputable def abp:sx prog 50 none 5:=aae mixed Yu Fe [0,1,2,3,4] rfl abm abn rfl ( [.op (some 8) none (.mv (.t 0)),.op (some 9) none (.ex gI.jg [.t 8]),.op (some 10) none (.nu 0 [false] (.t 9)),.op (some 11) none (.load false 1 (.t 10))]) 11 12 [13,14] (none) ( .str)  false ( .prod .str (.prod tI (.prod .str (.prod .str tI))))  true 0 rfl 6 rfl (abo) (fun e x=>ai (gH74_0 e x)) (fun e=>fun x=>by kernel_rfl)
noncomputable def Yv:D prog 50 none 5:=dO [.m abp] (kd prog f74) 0
noncomputable def FH74 (v1:ByteArray) (m1:cR) (m2:cV) (m3:bg) (m4:bg):bG (Nat×Bool×List ByteArray×cR×cV×bg×bg×Unit) :=
 .bd (.mp gH74_0 m1 (v1,m1,m2,m3,m4,())) fun z1 =>
 .sm z1 (fun z2 =>
 .ret ((0:Nat),false,[],z2.2.1,z2.2.2.1,z2.2.2.2.1,z2.2.2.2.2.1,())) fun z3 =>
 .ret (z3.1,z3.2.1,z3.2.2.1,z3.2.2.2.1,z3.2.2.2.2.1,z3.2.2.2.2.2.1,z3.2.2.2.2.2.2.1,())
theorem Vn:cw prog f74=some ⟨50,2,Yv.er,[.t 4,.t 5],[some (.list .str),some .bool]⟩:=by kernel_rfl
noncomputable def abq:Ht:=⟨74,pH74,qH74,(fun x=>ai (FH74 x.1 x.2.1 x.2.2.1 x.2.2.2.1 x.2.2.2.2.1))⟩
theorem Vo:abq.Ok prog:=bE mixed Fe rfl func74 Vn (enters_of func74 rfl rfl) Yv (by kernel_rfl) rfl rfl ⟨_,rfl⟩ rfl (pre:=[0,1,2,3,4]) rfl (fun x=>by kernel_rfl)

/- 103 -/
noncomputable def Yw:Cx:=(aL [] [])
theorem Ff:Yw.Ok prog:=au trivial trivial
abbrev abr:av:=av.mk [(0,.c (.hole (.list .str))),(1,.c (.hole .str)),(7,hI),(8,hI)] [] [] []
abbrev abt:aU:=[(.ret,av.mk [(4,hI)] [] [] []),(.exit 0,av.mk [] [] [] [])]
noncomputable def abu:D prog 19 none 0:=dO [] (pick (kd prog f103) [(0,false)]) 0
noncomputable def g103_0:List ByteArray×ByteArray×Int×Int×Unit->bG ((List ByteArray×ByteArray×Int×Int×Unit) ⊕ ((Int×Unit) ⊕ ((Unit)))):=fun (v0,v1,v7,v8,_) =>
 .br (decide (v8<v7)) (
 .nb v8 (((v0).length:Nat):Int) <|
 .br (seq v1 ((v0).getD (Int.toNat v8) (bs []))) (
 .ret (.inr <| .inl<|(v8,()))) (
 .ni (v8+(1:Int)) <|
 .ret (.inl (v0,v1,v7,(v8+(1:Int)),())))) (
 .ret (.inr <| .inr<|()))
noncomputable def abv:bw prog 19 none 0:=aW mixed Yw Ff [] rfl abr abt rfl (abu) (fun x=>ai (g103_0 x)) (fun x=>by kernel_rfl)
noncomputable def Yx:D prog 19 none 0:=dO [.l abv] (kd prog f103) 0
noncomputable def F103 (a0:List ByteArray) (a1:ByteArray):bG (Int×Unit) :=
 .bd (.it g103_0 (a0,a1,(((a0).length:Nat):Int),(0:Int),())) fun z0 =>
 .sm z0 (fun z1 =>
 .ret (z1.1,())) fun z2 =>
 .ret ((-1:Int),())
theorem Vp:cw prog f103=some ⟨19,2,Yx.er,[.t 4],[some tI]⟩:=by kernel_rfl
noncomputable def Yy:Ct:=⟨103,[.c (.hole (.list .str)),.c (.hole .str)],hI,fun x=>ai (F103 x.1 x.2.1)⟩
theorem QT:Yy.Ok prog:=cE mixed Ff func103 Vp (enters_of func103 rfl rfl) Yx (by kernel_rfl) rfl (fun x=>by kernel_rfl)

/- 75 -/
noncomputable def cx75:Cx:=(aL [Yy] [])
theorem Vq:cx75.Ok prog:=au ⟨QT,trivial⟩ trivial
noncomputable def dd75:D prog 9 none 0:=dO [] (kd prog f75) 0
noncomputable def F75 (a0:List ByteArray) (a1:ByteArray):bG (Bool×Unit) :=
 .bd (F103 a0 a1) fun y0 =>
 .ret ((decide ((0:Int)<=y0.1)),())
theorem abw:cw prog f75=some ⟨9,2,dd75.er,[.t 4],[some .bool]⟩:=by kernel_rfl
noncomputable def abx:Ct:=⟨75,[.c (.hole (.list .str)),.c (.hole .str)],.c (.hole .bool),fun x=>ai (F75 x.1 x.2.1)⟩
theorem Vr:abx.Ok prog:=cE mixed Vq func75 abw (enters_of func75 rfl rfl) dd75 (by kernel_rfl) rfl (fun x=>by kernel_rfl)

/- 32, lent -/
abbrev pH32:av:=av.mk [(0,.c (.ptr 0 0)),(1,.c (.hole .str))] [(0,.cells [.mp 1] false),(1,gq)] [.slot 0,.cell 0 0] []
abbrev qH32:av:=av.mk [(0,.cS [.hole tI,.hole tI])] [(0,.cells [.mp 1] false),(1,gq)] [] []
noncomputable def JZ:Cx:=(aL [abx] [Ah,E5,abq])
theorem HS:JZ.Ok prog:=au (wq:=[abx]) (hts:=[Ah,E5,abq]) ⟨Vr,trivial⟩ ⟨⟨nV,rfl⟩,⟨sZ,rfl⟩,⟨Vo,rfl⟩,trivial⟩
@[reducible] noncomputable def Vs:Go.AM.Fn:=⟨29,2,(dO [] (kd prog f73) 0:D prog 29 none 0).er,[.t 4,.cell 5 true 5,.t 6],[none,some tG,some tI]⟩
noncomputable def J1:Cx:=EI prog JZ 73 Vs (fun _=>dO [] (kd prog f73) 0)
theorem HT:J1.Ok prog:=qd mixed HS func73 (by kernel_rfl) (enters_of func73 rfl rfl) (fun _=>by kernel_rfl)
noncomputable def afK:Cx:=J1
theorem QU:afK.Ok prog:=HT
noncomputable def Yz:D prog 51 none 2:=dO [] (kd prog f32) 0
noncomputable def FH32 (v1:ByteArray) (m1:eR):bG (Int×Int×eR×Unit) :=
 .bd (FH54 m1) fun y0 =>
 .br y0.1 (
 .br (!((9:Int)==(0:Int))) (
 .ret ((0:Int),(9:Int),y0.2.1,())) (
 .br ((0:Int)==(3:Int)) (
 .ret ((0:Int),(18:Int),y0.2.1,())) (
 .no))) (
 .bd (FH66 y0.2.1) fun y1 =>
 .br (!(aR .str y1.2.1 v1)) (
 .br (!((5:Int)==(0:Int))) (
 .ret ((0:Int),(5:Int),y1.1,())) (
 .br ((0:Int)==(3:Int)) (
 .ret ((0:Int),(18:Int),y1.1,())) (
 .no))) (
 .br (!((0:Int)==(0:Int))) (
 .ret ((0:Int),(0:Int),y1.1,())) (
 .br ((az .str ((bs []),(0:Int),(bs []),(bs []),(0:Int)) y1.2.1 v1).2.1==(3:Int)) (
 .ret ((0:Int),(18:Int),y1.1,())) (
 .br (az .str false y1.2.2.2.2.1 v1) (
 .ret ((2:Int),(0:Int),y1.1,())) (
 .bd (FH74 v1 y1.2.1 y1.2.2.1 y1.2.2.2.1 y1.2.2.2.2.1) fun y2 =>
 .br (!y2.2.1) (
 .ret ((1:Int),(0:Int),y1.1,())) (
 .bd (F75 (((y2.2.2.1).drop (0:Nat)).take y2.1) v1) fun y3 =>
 .br (!y3.1) (
 .ret ((3:Int),(0:Int),y1.1,())) (
 .br (decide ((1:Int)<((y2.1:Nat):Int))) (
 .ret ((5:Int),(0:Int),y1.1,())) (
 .ret ((4:Int),(0:Int),y1.1,())))))))))
theorem Vt:cw prog f32=some ⟨51,2,Yz.er,[.t 4,.t 5],[some tI,some tI]⟩:=by kernel_rfl
noncomputable def aby:Ht:=⟨32,pH32,qH32,(fun x=>ai (FH32 x.1 x.2.1))⟩
theorem J2:aby.Ok prog:=bE mixed QU rfl func32 Vt (enters_of func32 rfl rfl) Yz (by kernel_rfl) rfl rfl ⟨_,rfl⟩ rfl (pre:=[0,1]) rfl (fun x=>by kernel_rfl)

/- 104, lent -/
abbrev QV:av:=av.mk [(0,.c .fG),(1,.c (.hole .str))] [] [] []
abbrev QW:av:=av.mk [(0,.c .any)] [] [] []
noncomputable def Mn:Cx:=(aL [] [])
theorem CL:Mn.Ok prog:=au trivial trivial
noncomputable def Bn:D prog 14 none 0:=dO [] (kd prog f104) 0
noncomputable def FH104_v1 (v1:ByteArray):bG (Unit) :=
 .no
theorem Fg:cw prog f104=some ⟨14,2,Bn.er,[.t 4],[some (.list .str)]⟩:=by kernel_rfl
noncomputable def Fh:Ht:=⟨104,QV,QW,(fun x=>ai (FH104_v1 x.1))⟩
theorem Fi:Fh.Ok prog:=bE mixed CL rfl func104 Fg (enters_of func104 rfl rfl) Bn (by kernel_rfl) rfl rfl ⟨_,rfl⟩ rfl (pre:=[]) rfl (fun x=>by kernel_rfl)

/- 76, lent -/
abbrev Vu:av:=av.mk [(0,.c .fG),(1,.c (.hole .str))] [] [] []
abbrev Vv:av:=av.mk [(0,.c .any)] [] [] []
noncomputable def QX:Cx:=(aL [] [Fh])
theorem Fj:QX.Ok prog:=au trivial ⟨⟨Fi,rfl⟩,trivial⟩
noncomputable def Fk:D prog 32 none 0:=dO [.x] (kd prog f76) 0
noncomputable def FH76_v1 (v1:ByteArray):bG (Unit) :=
 .bd (FH104_v1 v1) fun y0 =>
 .no
theorem HU:cw prog f76=some ⟨32,2,Fk.er,[.t 4],[some (.list .str)]⟩:=by kernel_rfl
noncomputable def CM:Ht:=⟨76,Vu,Vv,(fun x=>ai (FH76_v1 x.1))⟩
theorem HV:CM.Ok prog:=bE mixed Fj rfl func76 HU (enters_of func76 rfl rfl) Fk (by kernel_rfl) rfl rfl ⟨_,rfl⟩ rfl (pre:=[]) rfl (fun x=>by kernel_rfl)

/- 33, lent -/
abbrev pH33:av:=av.mk [(0,.c (.ptr 0 0)),(1,.c (.hole .str))] [(0,.cells [.mp 1] false),(1,gq)] [.slot 0,.cell 0 0] []
abbrev qH33:av:=av.mk [(0,.cS [.bH 2 .str,.hole tI])] [(2,.arr .str false),(0,.cells [.mp 1] false),(1,gq)] [.part 0 0] []
noncomputable def J3:Cx:=(aL [] [Ah,CM,E5,HR])
theorem HW:J3.Ok prog:=au (wq:=[]) (hts:=[Ah,CM,E5,HR]) trivial ⟨⟨nV,rfl⟩,⟨HV,rfl⟩,⟨sZ,rfl⟩,⟨tc,rfl⟩,trivial⟩
@[reducible] noncomputable def Vw:Go.AM.Fn:=⟨29,2,(dO [] (kd prog f73) 0:D prog 29 none 0).er,[.t 4,.cell 5 true 5,.t 6],[none,some tG,some tI]⟩
noncomputable def J4:Cx:=EI prog J3 73 Vw (fun _=>dO [] (kd prog f73) 0)
theorem HX:J4.Ok prog:=qd mixed HW func73 (by kernel_rfl) (enters_of func73 rfl rfl) (fun _=>by kernel_rfl)
noncomputable def afL:Cx:=J4
theorem QY:afL.Ok prog:=HX
noncomputable def YA:D prog 27 none 2:=dO [] (kd prog f33) 0
noncomputable def FH33 (v1:ByteArray) (m1:eR):bG (Nat×Int×List ByteArray×eR×Unit) :=
 .bd (FH54 m1) fun y0 =>
 .br y0.1 (
 .br (!((9:Int)==(0:Int))) (
 .ret ((0:Nat),(9:Int),[],y0.2.1,())) (
 .br (!((0:Int)==(1:Int))) (
 .ret ((0:Nat),(18:Int),[],y0.2.1,())) (
 .bd (FH76_v1 v1) fun y1 =>
 .no))) (
 .bd (FH66 y0.2.1) fun y2 =>
 .br (!(aR .str y2.2.1 v1)) (
 .br (!((5:Int)==(0:Int))) (
 .ret ((0:Nat),(5:Int),[],y2.1,())) (
 .br (!((0:Int)==(1:Int))) (
 .ret ((0:Nat),(18:Int),[],y2.1,())) (
 .bd (FH76_v1 v1) fun y3 =>
 .no))) (
 .br (!((0:Int)==(0:Int))) (
 .ret ((0:Nat),(0:Int),[],y2.1,())) (
 .br (!((az .str ((bs []),(0:Int),(bs []),(bs []),(0:Int)) y2.2.1 v1).2.1==(1:Int))) (
 .ret ((0:Nat),(18:Int),[],y2.1,())) (
 .bd (FH76fix v1 y2.2.1 y2.2.2.1 y2.2.2.2.1 y2.2.2.2.2.1) fun y4 =>
 .ret (y4.1,(0:Int),y4.2.1,y2.1,())))))
theorem Vx:cw prog f33=some ⟨27,2,YA.er,[.t 4,.t 5],[some (.list .str),some tI]⟩:=by kernel_rfl
noncomputable def abz:Ht:=⟨33,pH33,qH33,(fun x=>ai (FH33 x.1 x.2.1))⟩
theorem J5:abz.Ok prog:=bE mixed QY rfl func33 Vx (enters_of func33 rfl rfl) YA (by kernel_rfl) rfl rfl ⟨_,rfl⟩ rfl (pre:=[0,1]) rfl (fun x=>by kernel_rfl)

/- 40, lent -/
abbrev pH40:av:=av.mk [(0,.c (.ptr 0 0)),(1,.c (.hole .str)),(2,hI)] [(0,.cells [.mp 1] false),(1,gq)] [.slot 0,.cell 0 0] []
abbrev qH40:av:=av.mk [(0,.c (.hole .bool))] [(0,.cells [.mp 1] false),(1,gq)] [] []
noncomputable def afM:Cx:=(aL [] [aby])
theorem QZ:afM.Ok prog:=au trivial ⟨⟨J2,rfl⟩,trivial⟩
noncomputable def YB:D prog 22 none 2:=dO [] (kd prog f40) 0
noncomputable def FH40 (v1:ByteArray) (v2:Int) (m1:eR):bG (Bool×eR×Unit) :=
 .bd (FH32 v1 m1) fun y0 =>
 .br (y0.2.1==(0:Int)) (
 .ret ((y0.1==v2),y0.2.2.1,())) (
 .ret (false,y0.2.2.1,()))
theorem Vy:cw prog f40=some ⟨22,3,YB.er,[.t 6],[some .bool]⟩:=by kernel_rfl
noncomputable def ht40:Ht:=⟨40,pH40,qH40,(fun x=>ai (FH40 x.1 x.2.1 x.2.2.1))⟩
theorem Vz:ht40.Ok prog:=bE mixed QZ rfl func40 Vy (enters_of func40 rfl rfl) YB (by kernel_rfl) rfl rfl ⟨_,rfl⟩ rfl (pre:=[0,1]) rfl (fun x=>by kernel_rfl)

/- 100, lent -/
abbrev afO:av:=av.mk [(0,.c (.mp 0)),(1,hI)] [(0,nU)] [.slot 0] []
abbrev afP:av:=av.mk [(0,.c .any)] [(0,nU)] [] []
noncomputable def abA:Cx:=(aL [] [])
theorem Mo:abA.Ok prog:=au trivial trivial
noncomputable def Q2:D prog 7 none 1:=dO [] (kd prog f100) 0
noncomputable def FH100 (v1:Int) (m0:List (Int×Unit)):bG ((List (Int×Unit))×Unit) :=
 .ret ((bq (.int .i64) m0 v1 ()),())
theorem Q3:cw prog f100=some ⟨7,2,Q2.er,[],[]⟩:=by kernel_rfl
noncomputable def Q4:Ht:=⟨100,afO,afP,(fun x=>ai (FH100 x.1 x.2.1))⟩
theorem Fl:Q4.Ok prog:=bE mixed Mo rfl func100 Q3 (enters_of func100 rfl rfl) Q2 (by kernel_rfl) rfl rfl ⟨_,rfl⟩ rfl (pre:=[0]) rfl (fun x=>by kernel_rfl)

/- 79, lent -/
abbrev pH79:av:=av.mk [(0,.c (.ptr 0 0))] [(0,.cells [.mp 1,.mp 2,.mp 3,.mp 4] false),(1,eE),(2,fB),(3,bR),(4,bR)] [.slot 0,.cell 0 0,.cell 0 1,.cell 0 2,.cell 0 3] []
abbrev qH79:av:=av.mk [(0,.fn 106 [] [.ptr 5 0])] [(5,.cells [.ptr 0 0] false),(0,.cells [.mp 1,.mp 2,.mp 3,.mp 4] false),(1,eE),(2,fB),(3,bR),(4,bR)] [.part 0 0] []
noncomputable def afQ:Cx:=(aL [] [])
theorem Q5:afQ.Ok prog:=au trivial trivial
noncomputable def YC:D prog 4 none 5:=dO [] (kd prog f79) 0
noncomputable def FH79 (m1:cR) (m2:cV) (m3:bg) (m4:bg):bG (cR×cV×bg×bg×Unit) :=
 .ret (m1,m2,m3,m4,())
theorem VA:cw prog f79=some ⟨4,1,YC.er,[.t 2],[none]⟩:=by kernel_rfl
noncomputable def VB:Ht:=⟨79,pH79,qH79,(fun x=>ai (FH79 x.1 x.2.1 x.2.2.1 x.2.2.2.1))⟩
theorem CN:VB.Ok prog:=bE mixed Q5 rfl func79 VA (enters_of func79 rfl rfl) YC (by kernel_rfl) rfl rfl ⟨_,rfl⟩ rfl (pre:=[0,1,2,3,4]) rfl (fun x=>by kernel_rfl)

/- 68 -/
noncomputable def cx68:Cx:=(aL [] [])
theorem VC:cx68.Ok prog:=au trivial trivial
noncomputable def dd68:D prog 10 none 0:=dO [] (kd prog f68) 0
noncomputable def F68 (a0:GG) (a1:ByteArray):bG (Int×Unit) :=
 .br (!(seq a0.2.2.2.1 a1)) (
 .ret ((0:Int),())) (
 .ret (a0.2.2.2.2,()))
theorem abB:cw prog f68=some ⟨10,2,dd68.er,[.t 3],[some tI]⟩:=by kernel_rfl
noncomputable def ct68:Ct:=⟨68,[.c (.hole tG),.c (.gx .str)],hI,fun x=>ai (F68 x.1 x.2.1)⟩
theorem VD:ct68.Ok prog:=cE mixed VC func68 abB (enters_of func68 rfl rfl) dd68 (by kernel_rfl) rfl (fun x=>by kernel_rfl)

/- 120, lent -/
abbrev afT:av:=av.mk [(0,.c (.mp 0))] [(0,nU)] [.slot 0] []
abbrev afU:av:=av.mk [(0,.fn 132 [] [.ptr 1 0])] [(1,.cells [.mp 0] false),(0,nU)] [.part 0 0] []
noncomputable def abC:Cx:=(aL [] [])
theorem Mp:abC.Ok prog:=au trivial trivial
noncomputable def Q6:D prog 4 none 1:=dO [] (kd prog f120) 0
noncomputable def FH120 (m0:List (Int×Unit)):bG ((List (Int×Unit))×Unit) :=
 .ret (m0,())
theorem Q7:cw prog f120=some ⟨4,1,Q6.er,[.t 2],[none]⟩:=by kernel_rfl
noncomputable def YD:Ht:=⟨120,afT,afU,(fun x=>ai (FH120 x.1))⟩
theorem Q8:YD.Ok prog:=bE mixed Mp rfl func120 Q7 (enters_of func120 rfl rfl) Q6 (by kernel_rfl) rfl rfl ⟨_,rfl⟩ rfl (pre:=[0]) rfl (fun x=>by kernel_rfl)

/- 101, lent -/
abbrev afV:av:=av.mk [(0,.c (.mp 0))] [(0,nU)] [.slot 0] []
abbrev afW:av:=av.mk [(0,.fn 132 [] [.ptr 1 0])] [(1,.cells [.mp 0] false),(0,nU)] [.part 0 0] []
noncomputable def abD:Cx:=(aL [] [YD])
theorem Mq:abD.Ok prog:=au trivial ⟨⟨Q8,rfl⟩,trivial⟩
noncomputable def Q9:D prog 5 none 1:=dO [] (kd prog f101) 0
noncomputable def FH101 (m0:List (Int×Unit)):bG ((List (Int×Unit))×Unit) :=
 .bd (FH120 m0) fun y0 =>
 .ret (y0.1,())
theorem Ra:cw prog f101=some ⟨5,1,Q9.er,[.t 2],[none]⟩:=by kernel_rfl
noncomputable def Rb:Ht:=⟨101,afV,afW,(fun x=>ai (FH101 x.1))⟩
theorem Fm:Rb.Ok prog:=bE mixed Mq rfl func101 Ra (enters_of func101 rfl rfl) Q9 (by kernel_rfl) rfl rfl ⟨_,rfl⟩ rfl (pre:=[0]) rfl (fun x=>by kernel_rfl)

/- 122, by hand -/
abbrev afX:av:=av.mk [(0,.c (.bH 0 tI))] [(0,.arr tI false)] [.slot 0] []
abbrev afY:av:=av.mk [(0,.c .any)] [(0,.arr tI false)] [] []
noncomputable def FH122 (nW:Nat) (b0:List Int):bG (List Int×Unit) :=
 .of (vN (.int .i64) b0 nW)
noncomputable def Rc:Ht:=⟨122,afX,afY,(fun x=>ai (FH122 x.1 x.2.1))⟩
theorem Re:Rc.Ok prog:=fun x y h=>PG (ρ:=yM) aat (enters_of func122 rfl rfl) (xs:=x.2.1) (n:=x.1) (y:=y) h

/- 102, lent -/
abbrev afZ:av:=av.mk [(0,.fn 132 [] [.ptr 0 0])] [(0,.cells [.mp 1] false),(1,nU)] [.part 0 0,.cell 0 0] []
abbrev af0:av:=av.mk [(0,.c (.bH 2 tI))] [(2,.arr tI false),(0,.cells [.mp 1] false),(1,nU)] [.slot 0] []
noncomputable def tg:Cx:=(aL [] [Rc])
theorem pn:tg.Ok prog:=au (wq:=[]) (hts:=[Rc]) trivial ⟨⟨Re,rfl⟩,trivial⟩
noncomputable def mS:D prog 13 (some 4) 7:=dO [] (pick (kd prog f133) [(0,false)]) 0
noncomputable def mT:D prog 13 (some 4) 7:=dO [] (pick (kd prog f133) [(0,true)]) 0
noncomputable def iw:Cx:=Af tg (fun kz=>Pw kz tg eu 4 7 [7] (mS) (mT))
theorem jw:(iw).Ok prog:=j4 pn (fun h=>nQ mixed pn h)
abbrev rA:av:=av.mk [(0,.c (.yl 4)),(4,.c (.mp 1))] [(4,.loop .ready none 3 [(2,.c (.ptr 2 0)),(4,.c .cg),(6,.fn 132 [] [.ptr 0 0])] [7] (.bf [.op (some 5) none (.mv (.t 7))]) (.block 1 (.bf [.op (some 8) none (.load false 1 (.t 2)),.op (some 9) none (.mv (.t 5)),.op (some 10) none (.eG tI [.t 9]),.op (some 11) none (.append 1 (.t 8) (.t 10)),.op none none (.store 1 (.t 2) (.t 11))])) 13),(1,nU),(3,.iH),(2,.cells [.bH 5 tI] false),(0,.cells [.mp 1] false),(5,.arr tI false)] [.cell 2 0] []
noncomputable def rB:D prog 14 none 7:=dO [] (pick (kd prog f132) [(0,false)]) 0
noncomputable def gH102f121f133_0i_0:((Int)×(Unit))->(List (Int×Unit))×Nat×List Int×Unit->bG ((List (Int×Unit))×Nat×List Int×Unit):=fun e (m1,kZ,b5,_) =>
 .nd (decide ((kZ+(((((e.1::[])).drop (0:Nat)).take (1:Nat))).length)<bp)) <|
 .nd (jP m1 m1) <|
 .ret (m1,(kZ+(((((e.1::[])).drop (0:Nat)).take (1:Nat))).length),((((b5).drop (0:Nat)).take kZ)++((((e.1::[])).drop (0:Nat)).take (1:Nat))),())
noncomputable def rC:sx prog 14 none 5:=wA mixed iw jw [0,1,2,3,4] rfl rA ( [.op (some 4) none (.load false 1 (.t 1))]) 4 5 [6,7] (some 8) ( .int .i64)  false ( .unit)  true 0 rfl 7 rfl (rB) (fun e x=>ai (gH102f121f133_0i_0 e x)) (fun e=>fun x=>by kernel_rfl)
abbrev vQ:av:=av.mk [(2,.c (.ptr 2 0)),(4,.c .cg),(6,.fn 132 [] [.ptr 0 0])] [(2,.cells [.cg] false),(0,.cells [.mp 1] false),(1,nU)] [.slot 2] []
abbrev vR:aU:=[(.normal,av.mk [(2,.c (.ptr 2 0))] [(2,.cells [.bH 3 tI] false),(0,.cells [.mp 1] false),(1,nU),(3,.arr tI false)] [.slot 2,.cell 2 0] [])]
noncomputable def mU:D prog 14 none 5:=dO [.m rC] (kd prog f132) 0
theorem uG:cw prog f132=some ⟨14,2,(mU).er,[],[]⟩:=by kernel_rfl
noncomputable def ow:gM prog 13 none 2:=sL mixed iw jw [0,1] rfl vQ vR ( .t 6) [7] rfl (mS).er (mT).er 132 func132 (uG) (enters_of func132 rfl rfl) 5 rfl (mU) rfl
@[reducible] noncomputable def Rf:Go.AM.Fn:=⟨13,2,(dO [.r ow] (kd prog f133) 0:D prog 13 none 2).er,[.t 4],[some tL]⟩
noncomputable def Fo:Cx:=Bc prog tg 133 Rf 2 (dO [.r ow] (kd prog f133) 0)
theorem Fp:Fo.Ok prog:=sK mixed pn func133 (by kernel_rfl) (enters_of func133 rfl rfl) rfl
@[reducible] noncomputable def Rg:Go.AM.Fn:=⟨5,1,(dO [] (kd prog f121) 0:D prog 5 none 0).er,[.t 2],[some tL]⟩
noncomputable def Fq:Cx:=EI prog Fo 121 Rg (fun _=>dO [] (kd prog f121) 0)
theorem Fs:Fq.Ok prog:=qd mixed Fp func121 (by kernel_rfl) (enters_of func121 rfl rfl) (fun _=>by kernel_rfl)
noncomputable def abE:Cx:=Fq
theorem Mr:abE.Ok prog:=Fs
noncomputable def Rh:D prog 9 none 2:=dO [] (kd prog f102) 0
noncomputable def FH102 (m1:List (Int×Unit)):bG (Nat×List Int×(List (Int×Unit))×Unit) :=
 .an m1 fun l0 =>
 .bd (.fm gH102f121f133_0i_0 l0 (m1,(0:Nat),[],())) fun z1 =>
 .bd (FH122 z1.2.1 z1.2.2.1) fun y2 =>
 .ret (z1.2.1,y2.1,z1.1,())
theorem Ri:cw prog f102=some ⟨9,1,Rh.er,[.t 2],[some tL]⟩:=by kernel_rfl
noncomputable def Rj:Ht:=⟨102,afZ,af0,(fun x=>ai (FH102 x.1))⟩
theorem Ft:Rj.Ok prog:=bE mixed Mr rfl func102 Ri (enters_of func102 rfl rfl) Rh (by kernel_rfl) rfl rfl ⟨_,rfl⟩ rfl (pre:=[0,1]) rfl (fun x=>by kernel_rfl)

/- 67, lent -/
abbrev pH67:av:=av.mk [(0,.c (.ptr 0 0)),(1,.fn 68 [] [.ptr 1 0])] [(0,.cells [.mp 2,.mp 3,.mp 4,.mp 5] false),(1,.cells [.hole .str] false),(2,eE),(3,fB),(4,bR),(5,bR)] [.slot 0,.part 1 0,.cell 0 0,.cell 0 1,.cell 0 2,.cell 0 3] []
abbrev qH67:av:=av.mk [(0,.c (.bH 6 tI))] [(6,.arr tI false),(0,.cells [.mp 2,.mp 3,.mp 4,.mp 5] false),(2,eE),(3,fB),(4,bR),(5,bR),(1,.cells [.hole .str] false)] [.slot 0] []
noncomputable def Bo:Cx:=(aL [ct68] [Q4,VB,Qo,Qq,HR,Rb,Rj])
theorem mV:Bo.Ok prog:=au ⟨VD,trivial⟩ ⟨⟨Fl,rfl⟩,⟨CN,rfl⟩,⟨wH,rfl⟩,⟨wJ,rfl⟩,⟨tc,rfl⟩,⟨Fm,rfl⟩,⟨Ft,rfl⟩,trivial⟩
noncomputable def yW:D prog 48 (some 26) 29:=dO [] (pick (kd prog f67) [(0,true),(0,false),(0,false)]) 0
noncomputable def yX:D prog 48 (some 26) 29:=dO [] (pick (kd prog f67) [(0,true),(0,false),(0,true)]) 0
noncomputable def pq:Cx:=Af Bo (fun kz=>Pw kz Bo eu 26 29 [37] (yW) (yX))
theorem pz:(pq).Ok prog:=j4 mV (fun h=>nQ mixed mV h)
abbrev CO:av:=av.mk [(0,.c (.yl 26)),(4,.c (.mp 24))] [(26,.loop .ready none 11 [(2,.c (.ptr 6 0)),(3,.c (.ptr 7 0)),(5,.c (.ptr 8 0)),(8,.c (.ptr 21 0)),(11,.c (.ptr 22 0)),(21,.c (.bH 20 .str)),(22,hI),(23,hI),(36,.fn 132 [] [.ptr 23 0])] [37] (.bf [.op (some 12) none (.mv (.t 37))]) (.block 5 (.bf [.op (some 38) none (.load false 1 (.t 8)),.op (some 39) none (.mv (.t 12)),.op (some 40) none (.load false 1 (.t 11)),.op (some 41) none (.bin .add (.t 39) (.t 40)),.call (some 42) none (.c (.fn 100 [] [])) [.t 38,.t 41] [none,some tI]])) 48),(24,nU),(11,.iH),(6,.cells [.ptr 0 0] false),(0,.cells [.mp 2,.mp 3,.mp 4,.mp 5] false),(2,eE),(3,fB),(4,bR),(5,bR),(7,.cells [.fn 68 .nil (.cons (.ptr 1 0) .nil)] false),(1,.cells [.hole .str] false),(8,.cells [.mp 24] false),(21,.cells [.mp 27] false),(22,.cells [.hole tI] false),(20,.arr .str false),(23,.cells [.mp 24] false),(9,.cells [.ptr 0 0] false),(12,.loop .busy none 11 [(2,.c (.ptr 6 0)),(3,.c (.ptr 7 0)),(4,.c .cg),(5,.c (.ptr 8 0)),(17,.fn 106 [] [.ptr 9 0])] [18,19] (.bf [.op (some 7) none (.mv (.t 19))]) (.block 1 (.seq (.bf [.op (some 20) none (.ex (gI.jh tI false .unit true) []),.op (some 8) none (.alloc [.cT]),.op none none (.store 1 (.t 8) (.t 20))]) (.seq (.seq (.bf [.op (some 21) none (.mv (.t 7)),.op (some 22) none (.len (.t 21)),.op (some 23) none (.mv (.c (.int .i64 (Int.ofNat 0))))]) (.block 2 (.loop (.seq (.bf [.op (some 24) none (.bin .lss (.t 23) (.t 22))]) (.seq (.cond (.t 24) .skip (.exit 2)) (.seq (.block 3 (.seq (.bf [.op (some 25) none (.idx 1 (.t 21) (.t 23)),.op (some 26) none (.load false 1 (.t 25)),.op (some 10) none (.mv (.t 26))]) (.seq (.draw [[],[],[1],[1,2],[1,2,3],[],[1,2,3,4,5],[0,1,2,3,4,5,6],[],[0,1,2,3,4,5,6,7,8]] [.op (some 27) none (.load false 1 (.t 3)),.op (some 28) none (.load false 1 (.t 2)),.op (some 29) none (.ex gI.jg [.t 28]),.op (some 30) none (.nu 0 [false] (.t 29)),.op (some 31) none (.load false 1 (.t 30)),.op (some 32) none (.mv (.t 10)),.op (some 33) none (.ex (gI.gJ .str false tG true false) [.t 31,.t 32]),.call (some 34) none (.t 27) [.t 33] [some tG],.op (some 11) none (.alloc [.int .i64 (Int.ofNat 0)]),.op none none (.store 1 (.t 11) (.t 34))]) (.seq (.bf [.op (some 35) none (.load false 1 (.t 5)),.call (some 36) none (.c (.fn 101 [] [])) [.t 35] [none]]) (.block 4 (.bM (.t 36) [37] (.bf [.op (some 12) none (.mv (.t 37))]) (.block 5 (.bf [.op (some 38) none (.load false 1 (.t 8)),.op (some 39) none (.mv (.t 12)),.op (some 40) none (.load false 1 (.t 11)),.op (some 41) none (.bin .add (.t 39) (.t 40)),.call (some 42) none (.c (.fn 100 [] [])) [.t 38,.t 41] [none,some tI]])))))))) (.bf [.op (some 43) none (.bin .add (.t 23) (.c (.int .i64 (Int.ofNat 1)))),.op (some 23) none (.mv (.t 43))]))))))) (.bf [.op (some 44) none (.load false 1 (.t 8)),.op none none (.store 1 (.t 5) (.t 44))])))) 48),(13,.arr .str false),(27,nU)] [.cell 21 0] []
noncomputable def CQ:D prog 14 none 29:=dO [] (pick (kd prog f132) [(0,false)]) 0
noncomputable def gH67_0b_2i_0:((Int)×(Unit))->Nat×Int×Int×(List (Int×Unit))×cR×cV×bg×bg×ByteArray×Int×List ByteArray×List ByteArray×(List (Int×Unit))×Unit->bG (Nat×Int×Int×(List (Int×Unit))×cR×cV×bg×bg×ByteArray×Int×List ByteArray×List ByteArray×(List (Int×Unit))×Unit):=fun e (abF,w22,w23,m24,m2,m3,m4,m5,rD,Fu,qn,jA,m27,_) =>
 .ni (e.1+Fu) <|
 .bd (FH100 (e.1+Fu) m27) fun y7 =>
 .nd (jP m24 m24) <|
 .ret (abF,w22,w23,m24,m2,m3,m4,m5,rD,Fu,qn,jA,y7.1,())
noncomputable def CR:sx prog 14 none 27:=CE mixed pq pz [0,1,2,3,4,5,6,7,8,9,10,11,12,13,14,15,16,17,18,19,20,21,22,23,24,25,26] rfl CO ( [.op (some 4) none (.load false 1 (.t 1))]) 4 5 [6,7] (some 8) ( .int .i64)  false ( .unit)  true 0 rfl 29 rfl (CQ) (fun e x=>ai (gH67_0b_2i_0 e x)) (fun e=>fun x=>by kernel_rfl)
abbrev Ms:av:=av.mk [(2,.c (.ptr 6 0)),(3,.c (.ptr 7 0)),(5,.c (.ptr 8 0)),(8,.c (.ptr 21 0)),(11,.c (.ptr 22 0)),(21,.c (.bH 20 .str)),(22,hI),(23,hI),(36,.fn 132 [] [.ptr 23 0])] [(6,.cells [.ptr 0 0] false),(7,.cells [.fn 68 .nil (.cons (.ptr 1 0) .nil)] false),(8,.cells [.mp 24] false),(21,.cells [.mp 25] false),(22,.cells [.hole tI] false),(20,.arr .str false),(23,.cells [.mp 24] false),(0,.cells [.mp 2,.mp 3,.mp 4,.mp 5] false),(2,eE),(3,fB),(4,bR),(5,bR),(1,.cells [.hole .str] false),(9,.cells [.ptr 0 0] false),(11,.iH),(12,.loop .busy none 11 [(2,.c (.ptr 6 0)),(3,.c (.ptr 7 0)),(4,.c .cg),(5,.c (.ptr 8 0)),(17,.fn 106 [] [.ptr 9 0])] [18,19] (.bf [.op (some 7) none (.mv (.t 19))]) (.block 1 (.seq (.bf [.op (some 20) none (.ex (gI.jh tI false .unit true) []),.op (some 8) none (.alloc [.cT]),.op none none (.store 1 (.t 8) (.t 20))]) (.seq (.seq (.bf [.op (some 21) none (.mv (.t 7)),.op (some 22) none (.len (.t 21)),.op (some 23) none (.mv (.c (.int .i64 (Int.ofNat 0))))]) (.block 2 (.loop (.seq (.bf [.op (some 24) none (.bin .lss (.t 23) (.t 22))]) (.seq (.cond (.t 24) .skip (.exit 2)) (.seq (.block 3 (.seq (.bf [.op (some 25) none (.idx 1 (.t 21) (.t 23)),.op (some 26) none (.load false 1 (.t 25)),.op (some 10) none (.mv (.t 26))]) (.seq (.draw [[],[],[1],[1,2],[1,2,3],[],[1,2,3,4,5],[0,1,2,3,4,5,6],[],[0,1,2,3,4,5,6,7,8]] [.op (some 27) none (.load false 1 (.t 3)),.op (some 28) none (.load false 1 (.t 2)),.op (some 29) none (.ex gI.jg [.t 28]),.op (some 30) none (.nu 0 [false] (.t 29)),.op (some 31) none (.load false 1 (.t 30)),.op (some 32) none (.mv (.t 10)),.op (some 33) none (.ex (gI.gJ .str false tG true false) [.t 31,.t 32]),.call (some 34) none (.t 27) [.t 33] [some tG],.op (some 11) none (.alloc [.int .i64 (Int.ofNat 0)]),.op none none (.store 1 (.t 11) (.t 34))]) (.seq (.bf [.op (some 35) none (.load false 1 (.t 5)),.call (some 36) none (.c (.fn 101 [] [])) [.t 35] [none]]) (.block 4 (.bM (.t 36) [37] (.bf [.op (some 12) none (.mv (.t 37))]) (.block 5 (.bf [.op (some 38) none (.load false 1 (.t 8)),.op (some 39) none (.mv (.t 12)),.op (some 40) none (.load false 1 (.t 11)),.op (some 41) none (.bin .add (.t 39) (.t 40)),.call (some 42) none (.c (.fn 100 [] [])) [.t 38,.t 41] [none,some tI]])))))))) (.bf [.op (some 43) none (.bin .add (.t 23) (.c (.int .i64 (Int.ofNat 1)))),.op (some 23) none (.mv (.t 43))]))))))) (.bf [.op (some 44) none (.load false 1 (.t 8)),.op none none (.store 1 (.t 5) (.t 44))])))) 48),(13,.arr .str false),(24,nU),(25,nU)] [.slot 8,.slot 11,.part 36 0,.cell 8 0,.cell 21 0] []
abbrev Mt:aU:=[(.normal,av.mk [(2,.c (.ptr 6 0)),(3,.c (.ptr 7 0)),(5,.c (.ptr 8 0)),(8,.c (.ptr 21 0)),(21,.c (.bH 20 .str)),(22,hI),(23,hI)] [(6,.cells [.ptr 0 0] false),(7,.cells [.fn 68 .nil (.cons (.ptr 1 0) .nil)] false),(8,.cells [.mp 22] false),(21,.cells [.mp 23] false),(20,.arr .str false),(0,.cells [.mp 2,.mp 3,.mp 4,.mp 5] false),(2,eE),(3,fB),(4,bR),(5,bR),(1,.cells [.hole .str] false),(9,.cells [.ptr 0 0] false),(11,.iH),(12,.loop .busy none 11 [(2,.c (.ptr 6 0)),(3,.c (.ptr 7 0)),(4,.c .cg),(5,.c (.ptr 8 0)),(17,.fn 106 [] [.ptr 9 0])] [18,19] (.bf [.op (some 7) none (.mv (.t 19))]) (.block 1 (.seq (.bf [.op (some 20) none (.ex (gI.jh tI false .unit true) []),.op (some 8) none (.alloc [.cT]),.op none none (.store 1 (.t 8) (.t 20))]) (.seq (.seq (.bf [.op (some 21) none (.mv (.t 7)),.op (some 22) none (.len (.t 21)),.op (some 23) none (.mv (.c (.int .i64 (Int.ofNat 0))))]) (.block 2 (.loop (.seq (.bf [.op (some 24) none (.bin .lss (.t 23) (.t 22))]) (.seq (.cond (.t 24) .skip (.exit 2)) (.seq (.block 3 (.seq (.bf [.op (some 25) none (.idx 1 (.t 21) (.t 23)),.op (some 26) none (.load false 1 (.t 25)),.op (some 10) none (.mv (.t 26))]) (.seq (.draw [[],[],[1],[1,2],[1,2,3],[],[1,2,3,4,5],[0,1,2,3,4,5,6],[],[0,1,2,3,4,5,6,7,8]] [.op (some 27) none (.load false 1 (.t 3)),.op (some 28) none (.load false 1 (.t 2)),.op (some 29) none (.ex gI.jg [.t 28]),.op (some 30) none (.nu 0 [false] (.t 29)),.op (some 31) none (.load false 1 (.t 30)),.op (some 32) none (.mv (.t 10)),.op (some 33) none (.ex (gI.gJ .str false tG true false) [.t 31,.t 32]),.call (some 34) none (.t 27) [.t 33] [some tG],.op (some 11) none (.alloc [.int .i64 (Int.ofNat 0)]),.op none none (.store 1 (.t 11) (.t 34))]) (.seq (.bf [.op (some 35) none (.load false 1 (.t 5)),.call (some 36) none (.c (.fn 101 [] [])) [.t 35] [none]]) (.block 4 (.bM (.t 36) [37] (.bf [.op (some 12) none (.mv (.t 37))]) (.block 5 (.bf [.op (some 38) none (.load false 1 (.t 8)),.op (some 39) none (.mv (.t 12)),.op (some 40) none (.load false 1 (.t 11)),.op (some 41) none (.bin .add (.t 39) (.t 40)),.call (some 42) none (.c (.fn 100 [] [])) [.t 38,.t 41] [none,some tI]])))))))) (.bf [.op (some 43) none (.bin .add (.t 23) (.c (.int .i64 (Int.ofNat 1)))),.op (some 23) none (.mv (.t 43))]))))))) (.bf [.op (some 44) none (.load false 1 (.t 8)),.op none none (.store 1 (.t 5) (.t 44))])))) 48),(13,.arr .str false),(22,nU),(23,nU)] [.slot 8,.cell 8 0,.cell 21 0] [])]
noncomputable def yY:D prog 14 none 27:=dO [.m CR] (kd prog f132) 0
theorem HY:cw prog f132=some ⟨14,2,(yY).er,[],[]⟩:=by kernel_rfl
noncomputable def gH67_0b_2:Nat×Int×Int×Int×List ByteArray×cR×cV×bg×bg×ByteArray×List ByteArray×(List (Int×Unit))×(List (Int×Unit))×Unit->bG ((Nat×Int×Int×List ByteArray×cR×cV×bg×bg×ByteArray×List ByteArray×(List (Int×Unit))×(List (Int×Unit))×Unit)):=fun (yZ,v22,v23,Fu,qn,m2,m3,m4,m5,rD,jA,m24,m25,_) =>
 .bd (.mq gH67_0b_2i_0 m24 (yZ,v22,v23,m24,m2,m3,m4,m5,rD,Fu,qn,jA,m25,())) fun z8 =>
 .ret ((yZ,v22,v23,z8.2.2.2.2.2.2.2.2.2.2.1,z8.2.2.2.2.1,z8.2.2.2.2.2.1,z8.2.2.2.2.2.2.1,z8.2.2.2.2.2.2.2.1,z8.2.2.2.2.2.2.2.2.1,z8.2.2.2.2.2.2.2.2.2.2.2.1,z8.2.2.2.1,z8.2.2.2.2.2.2.2.2.2.2.2.2.1,()))
noncomputable def Mv:gM prog 48 (some 12) 21:=sH mixed pq pz [0,1,2,3,4,5,6,7,8,9,10,11,12,13,14,15,16,17,18,19,20] rfl Ms Mt ( .t 36) [37] rfl (yW).er (yX).er 132 func132 (HY) (enters_of func132 rfl rfl) 27 rfl (yY) rfl (fun x=>ai (gH67_0b_2 x)) (fun x=>by kernel_rfl)
abbrev Mw:av:=av.mk [(2,.c (.ptr 6 0)),(3,.c (.ptr 7 0)),(5,.c (.ptr 8 0)),(8,.c (.ptr 21 0)),(21,.c (.bH 20 .str)),(22,hI),(23,hI)] [(6,.cells [.ptr 0 0] false),(7,.cells [.fn 68 .nil (.cons (.ptr 1 0) .nil)] false),(8,.cells [.mp 22] false),(21,.cells [.mp 23] false),(20,.arr .str false),(0,.cells [.mp 2,.mp 3,.mp 4,.mp 5] false),(2,eE),(3,fB),(4,bR),(5,bR),(1,.cells [.hole .str] false),(9,.cells [.ptr 0 0] false),(11,.iH),(12,.loop .busy none 11 [(2,.c (.ptr 6 0)),(3,.c (.ptr 7 0)),(4,.c .cg),(5,.c (.ptr 8 0)),(17,.fn 106 [] [.ptr 9 0])] [18,19] (.bf [.op (some 7) none (.mv (.t 19))]) (.block 1 (.seq (.bf [.op (some 20) none (.ex (gI.jh tI false .unit true) []),.op (some 8) none (.alloc [.cT]),.op none none (.store 1 (.t 8) (.t 20))]) (.seq (.seq (.bf [.op (some 21) none (.mv (.t 7)),.op (some 22) none (.len (.t 21)),.op (some 23) none (.mv (.c (.int .i64 (Int.ofNat 0))))]) (.block 2 (.loop (.seq (.bf [.op (some 24) none (.bin .lss (.t 23) (.t 22))]) (.seq (.cond (.t 24) .skip (.exit 2)) (.seq (.block 3 (.seq (.bf [.op (some 25) none (.idx 1 (.t 21) (.t 23)),.op (some 26) none (.load false 1 (.t 25)),.op (some 10) none (.mv (.t 26))]) (.seq (.draw [[],[],[1],[1,2],[1,2,3],[],[1,2,3,4,5],[0,1,2,3,4,5,6],[],[0,1,2,3,4,5,6,7,8]] [.op (some 27) none (.load false 1 (.t 3)),.op (some 28) none (.load false 1 (.t 2)),.op (some 29) none (.ex gI.jg [.t 28]),.op (some 30) none (.nu 0 [false] (.t 29)),.op (some 31) none (.load false 1 (.t 30)),.op (some 32) none (.mv (.t 10)),.op (some 33) none (.ex (gI.gJ .str false tG true false) [.t 31,.t 32]),.call (some 34) none (.t 27) [.t 33] [some tG],.op (some 11) none (.alloc [.int .i64 (Int.ofNat 0)]),.op none none (.store 1 (.t 11) (.t 34))]) (.seq (.bf [.op (some 35) none (.load false 1 (.t 5)),.call (some 36) none (.c (.fn 101 [] [])) [.t 35] [none]]) (.block 4 (.bM (.t 36) [37] (.bf [.op (some 12) none (.mv (.t 37))]) (.block 5 (.bf [.op (some 38) none (.load false 1 (.t 8)),.op (some 39) none (.mv (.t 12)),.op (some 40) none (.load false 1 (.t 11)),.op (some 41) none (.bin .add (.t 39) (.t 40)),.call (some 42) none (.c (.fn 100 [] [])) [.t 38,.t 41] [none,some tI]])))))))) (.bf [.op (some 43) none (.bin .add (.t 23) (.c (.int .i64 (Int.ofNat 1)))),.op (some 23) none (.mv (.t 43))]))))))) (.bf [.op (some 44) none (.load false 1 (.t 8)),.op none none (.store 1 (.t 5) (.t 44))])))) 48),(13,.arr .str false),(22,nU),(23,nU)] [.slot 8,.cell 8 0,.cell 21 0] []
abbrev Mx:aU:=[(.exit 2,av.mk [(5,.c (.ptr 8 0)),(8,.c (.ptr 21 0))] [(8,.cells [.mp 22] false),(21,.cells [.mp 23] false),(0,.cells [.mp 2,.mp 3,.mp 4,.mp 5] false),(2,eE),(3,fB),(4,bR),(5,bR),(1,.cells [.hole .str] false),(6,.cells [.ptr 0 0] false),(7,.cells [.fn 68 .nil (.cons (.ptr 1 0) .nil)] false),(9,.cells [.ptr 0 0] false),(11,.iH),(12,.loop .busy none 11 [(2,.c (.ptr 6 0)),(3,.c (.ptr 7 0)),(4,.c .cg),(5,.c (.ptr 8 0)),(17,.fn 106 [] [.ptr 9 0])] [18,19] (.bf [.op (some 7) none (.mv (.t 19))]) (.block 1 (.seq (.bf [.op (some 20) none (.ex (gI.jh tI false .unit true) []),.op (some 8) none (.alloc [.cT]),.op none none (.store 1 (.t 8) (.t 20))]) (.seq (.seq (.bf [.op (some 21) none (.mv (.t 7)),.op (some 22) none (.len (.t 21)),.op (some 23) none (.mv (.c (.int .i64 (Int.ofNat 0))))]) (.block 2 (.loop (.seq (.bf [.op (some 24) none (.bin .lss (.t 23) (.t 22))]) (.seq (.cond (.t 24) .skip (.exit 2)) (.seq (.block 3 (.seq (.bf [.op (some 25) none (.idx 1 (.t 21) (.t 23)),.op (some 26) none (.load false 1 (.t 25)),.op (some 10) none (.mv (.t 26))]) (.seq (.draw [[],[],[1],[1,2],[1,2,3],[],[1,2,3,4,5],[0,1,2,3,4,5,6],[],[0,1,2,3,4,5,6,7,8]] [.op (some 27) none (.load false 1 (.t 3)),.op (some 28) none (.load false 1 (.t 2)),.op (some 29) none (.ex gI.jg [.t 28]),.op (some 30) none (.nu 0 [false] (.t 29)),.op (some 31) none (.load false 1 (.t 30)),.op (some 32) none (.mv (.t 10)),.op (some 33) none (.ex (gI.gJ .str false tG true false) [.t 31,.t 32]),.call (some 34) none (.t 27) [.t 33] [some tG],.op (some 11) none (.alloc [.int .i64 (Int.ofNat 0)]),.op none none (.store 1 (.t 11) (.t 34))]) (.seq (.bf [.op (some 35) none (.load false 1 (.t 5)),.call (some 36) none (.c (.fn 101 [] [])) [.t 35] [none]]) (.block 4 (.bM (.t 36) [37] (.bf [.op (some 12) none (.mv (.t 37))]) (.block 5 (.bf [.op (some 38) none (.load false 1 (.t 8)),.op (some 39) none (.mv (.t 12)),.op (some 40) none (.load false 1 (.t 11)),.op (some 41) none (.bin .add (.t 39) (.t 40)),.call (some 42) none (.c (.fn 100 [] [])) [.t 38,.t 41] [none,some tI]])))))))) (.bf [.op (some 43) none (.bin .add (.t 23) (.c (.int .i64 (Int.ofNat 1)))),.op (some 23) none (.mv (.t 43))]))))))) (.bf [.op (some 44) none (.load false 1 (.t 8)),.op none none (.store 1 (.t 5) (.t 44))])))) 48),(13,.arr .str false),(20,.arr .str false),(22,nU),(23,nU)] [.slot 8,.cell 8 0,.cell 21 0] [])]
noncomputable def My:D prog 48 (some 12) 21:=dO [.r Mv] (pick (kd prog f67) [(0,true),(0,false)]) 0
noncomputable def gH67_0b_1:Nat×Int×Int×List ByteArray×cR×cV×bg×bg×ByteArray×List ByteArray×(List (Int×Unit))×(List (Int×Unit))×Unit->bG ((Nat×Int×Int×List ByteArray×cR×cV×bg×bg×ByteArray×List ByteArray×(List (Int×Unit))×(List (Int×Unit))×Unit) ⊕ ((cR×cV×bg×bg×ByteArray×List ByteArray×List ByteArray×(List (Int×Unit))×(List (Int×Unit))×Unit))):=fun (yZ,v22,v23,qn,m2,m3,m4,m5,rD,jA,m22,m23,_) =>
 .br (decide (v23<v22)) (
 .nb v23 ((yZ:Nat):Int) <|
 .nd (decide (((0:Nat)+(Int.toNat v23))<(qn).length)) <|
 .bd (F68 ((az .str ((bs []),(0:Int),(bs []),(bs []),(0:Int)) m2 ((qn).getD ((0:Nat)+(Int.toNat v23)) (bs []))).1,(az .str ((bs []),(0:Int),(bs []),(bs []),(0:Int)) m2 ((qn).getD ((0:Nat)+(Int.toNat v23)) (bs []))).2.1,(az .str ((bs []),(0:Int),(bs []),(bs []),(0:Int)) m2 ((qn).getD ((0:Nat)+(Int.toNat v23)) (bs []))).2.2.1,(az .str ((bs []),(0:Int),(bs []),(bs []),(0:Int)) m2 ((qn).getD ((0:Nat)+(Int.toNat v23)) (bs []))).2.2.2.1,(az .str ((bs []),(0:Int),(bs []),(bs []),(0:Int)) m2 ((qn).getD ((0:Nat)+(Int.toNat v23)) (bs []))).2.2.2.2) rD) fun y5 =>
 .bd (FH101 m22) fun y6 =>
 .bd (gH67_0b_2 (yZ,v22,v23,y5.1,qn,m2,m3,m4,m5,rD,jA,y6.1,m23,())) fun z9 =>
 .ni (z9.2.2.1+(1:Int)) <|
 .ret (.inl (z9.1,z9.2.1,(z9.2.2.1+(1:Int)),z9.2.2.2.1,z9.2.2.2.2.1,z9.2.2.2.2.2.1,z9.2.2.2.2.2.2.1,z9.2.2.2.2.2.2.2.1,z9.2.2.2.2.2.2.2.2.1,z9.2.2.2.2.2.2.2.2.2.1,z9.2.2.2.2.2.2.2.2.2.2.1,z9.2.2.2.2.2.2.2.2.2.2.2.1,()))) (
 .ret (.inr (m2,m3,m4,m5,rD,jA,qn,m22,m23,())))
noncomputable def Mz:bw prog 48 (some 12) 21:=aW mixed Bo mV [0,1,2,3,4,5,6,7,8,9,10,11,12,13,14,15,16,17,18,19,20] rfl Mw Mx rfl (My) (fun x=>ai (gH67_0b_1 x)) (fun x=>by kernel_rfl)
noncomputable def J6:D prog 48 (some 12) 21:=dO [] (pick (kd prog f67) [(0,false)]) 0
noncomputable def J7:D prog 48 (some 12) 21:=dO [.l Mz] (pick (kd prog f67) [(0,true)]) 0
noncomputable def ze:Cx:=Af Bo (fun kz=>Pw kz Bo eu 12 21 [18,19] (J6) (J7))
theorem vr:(ze).Ok prog:=j4 mV (fun h=>nQ mixed mV h)
abbrev MA:av:=av.mk [(0,.c (.yl 12)),(1,.c (.ptr 9 0)),(10,.c (.bH 13 .str)),(11,hI),(12,hI)] [(12,.loop .ready none 11 [(2,.c (.ptr 6 0)),(3,.c (.ptr 7 0)),(4,.c .cg),(5,.c (.ptr 8 0)),(17,.fn 106 [] [.ptr 9 0])] [18,19] (.bf [.op (some 7) none (.mv (.t 19))]) (.block 1 (.seq (.bf [.op (some 20) none (.ex (gI.jh tI false .unit true) []),.op (some 8) none (.alloc [.cT]),.op none none (.store 1 (.t 8) (.t 20))]) (.seq (.seq (.bf [.op (some 21) none (.mv (.t 7)),.op (some 22) none (.len (.t 21)),.op (some 23) none (.mv (.c (.int .i64 (Int.ofNat 0))))]) (.block 2 (.loop (.seq (.bf [.op (some 24) none (.bin .lss (.t 23) (.t 22))]) (.seq (.cond (.t 24) .skip (.exit 2)) (.seq (.block 3 (.seq (.bf [.op (some 25) none (.idx 1 (.t 21) (.t 23)),.op (some 26) none (.load false 1 (.t 25)),.op (some 10) none (.mv (.t 26))]) (.seq (.draw [[],[],[1],[1,2],[1,2,3],[],[1,2,3,4,5],[0,1,2,3,4,5,6],[],[0,1,2,3,4,5,6,7,8]] [.op (some 27) none (.load false 1 (.t 3)),.op (some 28) none (.load false 1 (.t 2)),.op (some 29) none (.ex gI.jg [.t 28]),.op (some 30) none (.nu 0 [false] (.t 29)),.op (some 31) none (.load false 1 (.t 30)),.op (some 32) none (.mv (.t 10)),.op (some 33) none (.ex (gI.gJ .str false tG true false) [.t 31,.t 32]),.call (some 34) none (.t 27) [.t 33] [some tG],.op (some 11) none (.alloc [.int .i64 (Int.ofNat 0)]),.op none none (.store 1 (.t 11) (.t 34))]) (.seq (.bf [.op (some 35) none (.load false 1 (.t 5)),.call (some 36) none (.c (.fn 101 [] [])) [.t 35] [none]]) (.block 4 (.bM (.t 36) [37] (.bf [.op (some 12) none (.mv (.t 37))]) (.block 5 (.bf [.op (some 38) none (.load false 1 (.t 8)),.op (some 39) none (.mv (.t 12)),.op (some 40) none (.load false 1 (.t 11)),.op (some 41) none (.bin .add (.t 39) (.t 40)),.call (some 42) none (.c (.fn 100 [] [])) [.t 38,.t 41] [none,some tI]])))))))) (.bf [.op (some 43) none (.bin .add (.t 23) (.c (.int .i64 (Int.ofNat 1)))),.op (some 23) none (.mv (.t 43))]))))))) (.bf [.op (some 44) none (.load false 1 (.t 8)),.op none none (.store 1 (.t 5) (.t 44))])))) 48),(9,.cells [.ptr 0 0] false),(13,.arr .str false),(11,.iH),(6,.cells [.ptr 0 0] false),(0,.cells [.mp 2,.mp 3,.mp 4,.mp 5] false),(2,eE),(3,fB),(4,bR),(5,bR),(7,.cells [.fn 68 .nil (.cons (.ptr 1 0) .nil)] false),(1,.cells [.hole .str] false),(8,.cells [.mp 14] false),(14,nU)] [.slot 10,.cell 8 0] []
abbrev MB:aU:=[(.exit 0,av.mk [] [(0,.cells [.mp 2,.mp 3,.mp 4,.mp 5] false),(2,eE),(3,fB),(4,bR),(5,bR),(1,.cells [.hole .str] false),(6,.cells [.ptr 0 0] false),(7,.cells [.fn 68 .nil (.cons (.ptr 1 0) .nil)] false),(8,.cells [.mp 13] false),(9,.cells [.ptr 0 0] false),(11,.iH),(12,.loop .ready none 11 [(2,.c (.ptr 6 0)),(3,.c (.ptr 7 0)),(4,.c .cg),(5,.c (.ptr 8 0)),(17,.fn 106 [] [.ptr 9 0])] [18,19] (.bf [.op (some 7) none (.mv (.t 19))]) (.block 1 (.seq (.bf [.op (some 20) none (.ex (gI.jh tI false .unit true) []),.op (some 8) none (.alloc [.cT]),.op none none (.store 1 (.t 8) (.t 20))]) (.seq (.seq (.bf [.op (some 21) none (.mv (.t 7)),.op (some 22) none (.len (.t 21)),.op (some 23) none (.mv (.c (.int .i64 (Int.ofNat 0))))]) (.block 2 (.loop (.seq (.bf [.op (some 24) none (.bin .lss (.t 23) (.t 22))]) (.seq (.cond (.t 24) .skip (.exit 2)) (.seq (.block 3 (.seq (.bf [.op (some 25) none (.idx 1 (.t 21) (.t 23)),.op (some 26) none (.load false 1 (.t 25)),.op (some 10) none (.mv (.t 26))]) (.seq (.draw [[],[],[1],[1,2],[1,2,3],[],[1,2,3,4,5],[0,1,2,3,4,5,6],[],[0,1,2,3,4,5,6,7,8]] [.op (some 27) none (.load false 1 (.t 3)),.op (some 28) none (.load false 1 (.t 2)),.op (some 29) none (.ex gI.jg [.t 28]),.op (some 30) none (.nu 0 [false] (.t 29)),.op (some 31) none (.load false 1 (.t 30)),.op (some 32) none (.mv (.t 10)),.op (some 33) none (.ex (gI.gJ .str false tG true false) [.t 31,.t 32]),.call (some 34) none (.t 27) [.t 33] [some tG],.op (some 11) none (.alloc [.int .i64 (Int.ofNat 0)]),.op none none (.store 1 (.t 11) (.t 34))]) (.seq (.bf [.op (some 35) none (.load false 1 (.t 5)),.call (some 36) none (.c (.fn 101 [] [])) [.t 35] [none]]) (.block 4 (.bM (.t 36) [37] (.bf [.op (some 12) none (.mv (.t 37))]) (.block 5 (.bf [.op (some 38) none (.load false 1 (.t 8)),.op (some 39) none (.mv (.t 12)),.op (some 40) none (.load false 1 (.t 11)),.op (some 41) none (.bin .add (.t 39) (.t 40)),.call (some 42) none (.c (.fn 100 [] [])) [.t 38,.t 41] [none,some tI]])))))))) (.bf [.op (some 43) none (.bin .add (.t 23) (.c (.int .i64 (Int.ofNat 1)))),.op (some 23) none (.mv (.t 43))]))))))) (.bf [.op (some 44) none (.load false 1 (.t 8)),.op none none (.store 1 (.t 5) (.t 44))])))) 48),(13,nU)] [.cell 8 0] [])]
noncomputable def MC:D prog 34 none 13:=dO [] (pick (kd prog f106) [(0,false)]) 0
noncomputable def gH67_0i_0:Nat×Int×Int×List ByteArray×cR×cV×bg×bg×ByteArray×(List (Int×Unit))×Unit->bG ((Nat×Int×Int×List ByteArray×cR×cV×bg×bg×ByteArray×(List (Int×Unit))×Unit) ⊕ ((cR×cV×bg×bg×ByteArray×(List (Int×Unit))×Unit))):=fun (mW,v11,v12,jA,m2,m3,m4,m5,rD,m14,_) =>
 .br (decide (v12<v11)) (
 .nb v12 ((mW:Nat):Int) <|
 .nd (decide (((0:Nat)+(Int.toNat v12))<(jA).length)) <|
 .br ((az .str ((bs []),(0:Int),(bs []),(bs []),(0:Int)) m2 ((jA).getD ((0:Nat)+(Int.toNat v12)) (bs []))).2.1==(1:Int)) (
 .bd (FH76fix ((jA).getD ((0:Nat)+(Int.toNat v12)) (bs [])) m2 m3 m4 m5) fun y4 =>
 .bd (.it gH67_0b_1 (y4.1,((y4.1:Nat):Int),(0:Int),y4.2.1,y4.2.2.1,y4.2.2.2.1,y4.2.2.2.2.1,y4.2.2.2.2.2.1,rD,jA,m14,[],())) fun wK =>
 .ni (v12+(1:Int)) <|
 .ret (.inl (mW,v11,(v12+(1:Int)),wK.2.2.2.2.2.1,wK.1,wK.2.1,wK.2.2.1,wK.2.2.2.1,wK.2.2.2.2.1,wK.2.2.2.2.2.2.2.2.1,()))) (
 .ni (v12+(1:Int)) <|
 .ret (.inl (mW,v11,(v12+(1:Int)),jA,m2,m3,m4,m5,rD,m14,())))) (
 .ret (.inr (m2,m3,m4,m5,rD,m14,())))
noncomputable def MD:bw prog 34 none 13:=aW mixed ze vr [0,1,2,3,4,5,6,7,8,9,10,11,12] rfl MA MB rfl (MC) (fun x=>ai (gH67_0i_0 x)) (fun x=>by kernel_rfl)
abbrev abG:av:=av.mk [(2,.c (.ptr 6 0)),(3,.c (.ptr 7 0)),(4,.c .cg),(5,.c (.ptr 8 0)),(17,.fn 106 [] [.ptr 9 0])] [(6,.cells [.ptr 0 0] false),(7,.cells [.fn 68 .nil (.cons (.ptr 1 0) .nil)] false),(8,.cells [.mp 10] false),(9,.cells [.ptr 0 0] false),(0,.cells [.mp 2,.mp 3,.mp 4,.mp 5] false),(2,eE),(3,fB),(4,bR),(5,bR),(1,.cells [.hole .str] false),(10,nU)] [.slot 2,.slot 3,.slot 5,.part 17 0,.cell 8 0] []
abbrev abH:aU:=[(.normal,av.mk [(5,.c (.ptr 6 0))] [(6,.cells [.mp 7] false),(0,.cells [.mp 2,.mp 3,.mp 4,.mp 5] false),(2,eE),(3,fB),(4,bR),(5,bR),(1,.cells [.hole .str] false),(7,nU)] [.slot 5,.cell 6 0] [])]
noncomputable def J8:D prog 34 none 13:=dO [.l MD] (kd prog f106) 0
theorem VE:cw prog f106=some ⟨34,2,(J8).er,[],[]⟩:=by kernel_rfl
noncomputable def gH67_0:cR×cV×bg×bg×ByteArray×(List (Int×Unit))×Unit->bG ((cR×cV×bg×bg×ByteArray×(List (Int×Unit))×Unit)):=fun (m2,m3,m4,m5,rD,m10,_) =>
 .bd (FH95 m2) fun y2 =>
 .bd (FH81 y2.1) fun y3 =>
 .bd (.it gH67_0i_0 (y3.1,((y3.1:Nat):Int),(0:Int),y3.2.1,y3.2.2.1,m3,m4,m5,rD,m10,())) fun Bp =>
 .ret ((Bp.1,Bp.2.1,Bp.2.2.1,Bp.2.2.2.1,Bp.2.2.2.2.1,Bp.2.2.2.2.2.1,()))
noncomputable def abI:gM prog 48 none 6:=sH mixed ze vr [0,1,2,3,4,5] rfl abG abH ( .t 17) [18,19] rfl (J6).er (J7).er 106 func106 (VE) (enters_of func106 rfl rfl) 13 rfl (J8) rfl (fun x=>ai (gH67_0 x)) (fun x=>by kernel_rfl)
noncomputable def YE:D prog 48 none 6:=dO [.r abI] (kd prog f67) 0
noncomputable def FH67 (rD:ByteArray) (m2:cR) (m3:cV) (m4:bg) (m5:bg):bG (Nat×List Int×cR×cV×bg×bg×ByteArray×Unit) :=
 .bd (FH100 (0:Int) []) fun y0 =>
 .bd (FH79 m2 m3 m4 m5) fun y1 =>
 .bd (gH67_0 (y1.1,y1.2.1,y1.2.2.1,y1.2.2.2.1,rD,y0.1,())) fun z12 =>
 .bd (FH101 z12.2.2.2.2.2.1) fun Dz =>
 .bd (FH102 Dz.1) fun Rk =>
 .ret (Rk.1,Rk.2.1,z12.1,z12.2.1,z12.2.2.1,z12.2.2.2.1,z12.2.2.2.2.1,())
theorem VF:cw prog f67=some ⟨48,2,YE.er,[.t 4],[some tL]⟩:=by kernel_rfl
noncomputable def ht67:Ht:=⟨67,pH67,qH67,(fun x=>ai (FH67 x.1 x.2.1 x.2.2.1 x.2.2.2.1 x.2.2.2.2.1))⟩
theorem VG:ht67.Ok prog:=bE mixed mV rfl func67 VF (enters_of func67 rfl rfl) YE (by kernel_rfl) rfl rfl ⟨_,rfl⟩ rfl (pre:=[0,1,2,3,4,5]) rfl (fun x=>by kernel_rfl)

/- 23, lent -/
abbrev pH23:av:=av.mk [(0,.c (.ptr 0 0)),(1,.c (.hole .str))] [(0,.cells [.mp 1] false),(1,gq)] [.slot 0,.cell 0 0] []
abbrev qH23:av:=av.mk [(0,.cS [.bH 2 tI,.hole tI])] [(2,.arr tI false),(0,.cells [.mp 1] false),(1,gq)] [.part 0 0] []
noncomputable def af2:Cx:=(aL [Qb] [Ah,E5,ht67])
theorem Rl:af2.Ok prog:=au ⟨wD,trivial⟩ ⟨⟨nV,rfl⟩,⟨sZ,rfl⟩,⟨VG,rfl⟩,trivial⟩
noncomputable def YF:D prog 15 none 2:=dO [] (kd prog f23) 0
noncomputable def FH23 (v1:ByteArray) (m1:eR):bG (Nat×Int×List Int×eR×Unit) :=
 .bd (FH54 m1) fun y0 =>
 .br y0.1 (
 .ret ((0:Nat),(9:Int),[],y0.2.1,())) (
 .bd (F65 v1) fun y1 =>
 .br (!y1.1) (
 .ret ((0:Nat),(8:Int),[],y0.2.1,())) (
 .bd (FH66 y0.2.1) fun y2 =>
 .bd (FH67 v1 y2.2.1 y2.2.2.1 y2.2.2.2.1 y2.2.2.2.2.1) fun y3 =>
 .ret (y3.1,(0:Int),y3.2.1,y2.1,())))
theorem VH:cw prog f23=some ⟨15,2,YF.er,[.t 4,.t 5],[some tL,some tI]⟩:=by kernel_rfl
noncomputable def abJ:Ht:=⟨23,pH23,qH23,(fun x=>ai (FH23 x.1 x.2.1))⟩
theorem J9:abJ.Ok prog:=bE mixed Rl rfl func23 VH (enters_of func23 rfl rfl) YF (by kernel_rfl) rfl rfl ⟨_,rfl⟩ rfl (pre:=[0,1]) rfl (fun x=>by kernel_rfl)

/- 78 -/
noncomputable def cx78:Cx:=(aL [] [])
theorem VI:cx78.Ok prog:=au trivial trivial
noncomputable def dd78:D prog 5 none 0:=dO [] (kd prog f78) 0
noncomputable def F78 (a0:GG):bG (Int×Unit) :=
 .ret (a0.2.2.2.2,())
theorem abK:cw prog f78=some ⟨5,1,dd78.er,[.t 2],[some tI]⟩:=by kernel_rfl
noncomputable def ct78:Ct:=⟨78,[.c (.hole tG)],hI,fun x=>ai (F78 x.1)⟩
theorem VJ:ct78.Ok prog:=cE mixed VI func78 abK (enters_of func78 rfl rfl) dd78 (by kernel_rfl) rfl (fun x=>by kernel_rfl)

/- 67, lent -/
abbrev VK:av:=av.mk [(0,.c (.ptr 0 0)),(1,.c (.fn0 78))] [(0,.cells [.mp 1,.mp 2,.mp 3,.mp 4] false),(1,eE),(2,fB),(3,bR),(4,bR)] [.slot 0,.cell 0 0,.cell 0 1,.cell 0 2,.cell 0 3] []
abbrev VL:av:=av.mk [(0,.c (.bH 5 tI))] [(5,.arr tI false),(0,.cells [.mp 1,.mp 2,.mp 3,.mp 4] false),(1,eE),(2,fB),(3,bR),(4,bR)] [.slot 0] []
noncomputable def mX:Cx:=(aL [ct78] [Q4,VB,Qo,Qq,HR,Rb,Rj])
theorem gZ:mX.Ok prog:=au ⟨VJ,trivial⟩ ⟨⟨Fl,rfl⟩,⟨CN,rfl⟩,⟨wH,rfl⟩,⟨wJ,rfl⟩,⟨tc,rfl⟩,⟨Fm,rfl⟩,⟨Ft,rfl⟩,trivial⟩
noncomputable def qE:D prog 48 (some 25) 28:=dO [] (pick (kd prog f67) [(0,true),(0,false),(0,false)]) 0
noncomputable def qF:D prog 48 (some 25) 28:=dO [] (pick (kd prog f67) [(0,true),(0,false),(0,true)]) 0
noncomputable def k8:Cx:=Af mX (fun kz=>Pw kz mX eu 25 28 [37] (qE) (qF))
theorem lW:(k8).Ok prog:=j4 gZ (fun h=>nQ mixed gZ h)
abbrev vS:av:=av.mk [(0,.c (.yl 25)),(4,.c (.mp 23))] [(25,.loop .ready none 10 [(2,.c (.ptr 5 0)),(3,.c (.ptr 6 0)),(5,.c (.ptr 7 0)),(8,.c (.ptr 20 0)),(11,.c (.ptr 21 0)),(21,.c (.bH 19 .str)),(22,hI),(23,hI),(36,.fn 132 [] [.ptr 22 0])] [37] (.bf [.op (some 12) none (.mv (.t 37))]) (.block 5 (.bf [.op (some 38) none (.load false 1 (.t 8)),.op (some 39) none (.mv (.t 12)),.op (some 40) none (.load false 1 (.t 11)),.op (some 41) none (.bin .add (.t 39) (.t 40)),.call (some 42) none (.c (.fn 100 [] [])) [.t 38,.t 41] [none,some tI]])) 48),(23,nU),(10,.iH),(5,.cells [.ptr 0 0] false),(0,.cells [.mp 1,.mp 2,.mp 3,.mp 4] false),(1,eE),(2,fB),(3,bR),(4,bR),(6,.cells [.fn0 78] false),(7,.cells [.mp 23] false),(20,.cells [.mp 26] false),(21,.cells [.hole tI] false),(19,.arr .str false),(22,.cells [.mp 23] false),(8,.cells [.ptr 0 0] false),(11,.loop .busy none 10 [(2,.c (.ptr 5 0)),(3,.c (.ptr 6 0)),(4,.c .cg),(5,.c (.ptr 7 0)),(17,.fn 106 [] [.ptr 8 0])] [18,19] (.bf [.op (some 7) none (.mv (.t 19))]) (.block 1 (.seq (.bf [.op (some 20) none (.ex (gI.jh tI false .unit true) []),.op (some 8) none (.alloc [.cT]),.op none none (.store 1 (.t 8) (.t 20))]) (.seq (.seq (.bf [.op (some 21) none (.mv (.t 7)),.op (some 22) none (.len (.t 21)),.op (some 23) none (.mv (.c (.int .i64 (Int.ofNat 0))))]) (.block 2 (.loop (.seq (.bf [.op (some 24) none (.bin .lss (.t 23) (.t 22))]) (.seq (.cond (.t 24) .skip (.exit 2)) (.seq (.block 3 (.seq (.bf [.op (some 25) none (.idx 1 (.t 21) (.t 23)),.op (some 26) none (.load false 1 (.t 25)),.op (some 10) none (.mv (.t 26))]) (.seq (.draw [[],[],[1],[1,2],[1,2,3],[],[1,2,3,4,5],[0,1,2,3,4,5,6],[],[0,1,2,3,4,5,6,7,8]] [.op (some 27) none (.load false 1 (.t 3)),.op (some 28) none (.load false 1 (.t 2)),.op (some 29) none (.ex gI.jg [.t 28]),.op (some 30) none (.nu 0 [false] (.t 29)),.op (some 31) none (.load false 1 (.t 30)),.op (some 32) none (.mv (.t 10)),.op (some 33) none (.ex (gI.gJ .str false tG true false) [.t 31,.t 32]),.call (some 34) none (.t 27) [.t 33] [some tG],.op (some 11) none (.alloc [.int .i64 (Int.ofNat 0)]),.op none none (.store 1 (.t 11) (.t 34))]) (.seq (.bf [.op (some 35) none (.load false 1 (.t 5)),.call (some 36) none (.c (.fn 101 [] [])) [.t 35] [none]]) (.block 4 (.bM (.t 36) [37] (.bf [.op (some 12) none (.mv (.t 37))]) (.block 5 (.bf [.op (some 38) none (.load false 1 (.t 8)),.op (some 39) none (.mv (.t 12)),.op (some 40) none (.load false 1 (.t 11)),.op (some 41) none (.bin .add (.t 39) (.t 40)),.call (some 42) none (.c (.fn 100 [] [])) [.t 38,.t 41] [none,some tI]])))))))) (.bf [.op (some 43) none (.bin .add (.t 23) (.c (.int .i64 (Int.ofNat 1)))),.op (some 23) none (.mv (.t 43))]))))))) (.bf [.op (some 44) none (.load false 1 (.t 8)),.op none none (.store 1 (.t 5) (.t 44))])))) 48),(12,.arr .str false),(26,nU)] [.cell 20 0] []
noncomputable def vT:D prog 14 none 28:=dO [] (pick (kd prog f132) [(0,false)]) 0
noncomputable def gH67_v1_0b_2i_0:((Int)×(Unit))->Nat×Int×Int×(List (Int×Unit))×cR×cV×bg×bg×Int×List ByteArray×List ByteArray×(List (Int×Unit))×Unit->bG (Nat×Int×Int×(List (Int×Unit))×cR×cV×bg×bg×Int×List ByteArray×List ByteArray×(List (Int×Unit))×Unit):=fun e (abF,w22,w23,m23,m1,m2,m3,m4,Fv,NF,NG,m26,_) =>
 .ni (e.1+Fv) <|
 .bd (FH100 (e.1+Fv) m26) fun y7 =>
 .nd (jP m23 m23) <|
 .ret (abF,w22,w23,m23,m1,m2,m3,m4,Fv,NF,NG,y7.1,())
noncomputable def vU:sx prog 14 none 26:=CE mixed k8 lW [0,1,2,3,4,5,6,7,8,9,10,11,12,13,14,15,16,17,18,19,20,21,22,23,24,25] rfl vS ( [.op (some 4) none (.load false 1 (.t 1))]) 4 5 [6,7] (some 8) ( .int .i64)  false ( .unit)  true 0 rfl 28 rfl (vT) (fun e x=>ai (gH67_v1_0b_2i_0 e x)) (fun e=>fun x=>by kernel_rfl)
abbrev CS:av:=av.mk [(2,.c (.ptr 5 0)),(3,.c (.ptr 6 0)),(5,.c (.ptr 7 0)),(8,.c (.ptr 20 0)),(11,.c (.ptr 21 0)),(21,.c (.bH 19 .str)),(22,hI),(23,hI),(36,.fn 132 [] [.ptr 22 0])] [(5,.cells [.ptr 0 0] false),(6,.cells [.fn0 78] false),(7,.cells [.mp 23] false),(20,.cells [.mp 24] false),(21,.cells [.hole tI] false),(19,.arr .str false),(22,.cells [.mp 23] false),(0,.cells [.mp 1,.mp 2,.mp 3,.mp 4] false),(1,eE),(2,fB),(3,bR),(4,bR),(8,.cells [.ptr 0 0] false),(10,.iH),(11,.loop .busy none 10 [(2,.c (.ptr 5 0)),(3,.c (.ptr 6 0)),(4,.c .cg),(5,.c (.ptr 7 0)),(17,.fn 106 [] [.ptr 8 0])] [18,19] (.bf [.op (some 7) none (.mv (.t 19))]) (.block 1 (.seq (.bf [.op (some 20) none (.ex (gI.jh tI false .unit true) []),.op (some 8) none (.alloc [.cT]),.op none none (.store 1 (.t 8) (.t 20))]) (.seq (.seq (.bf [.op (some 21) none (.mv (.t 7)),.op (some 22) none (.len (.t 21)),.op (some 23) none (.mv (.c (.int .i64 (Int.ofNat 0))))]) (.block 2 (.loop (.seq (.bf [.op (some 24) none (.bin .lss (.t 23) (.t 22))]) (.seq (.cond (.t 24) .skip (.exit 2)) (.seq (.block 3 (.seq (.bf [.op (some 25) none (.idx 1 (.t 21) (.t 23)),.op (some 26) none (.load false 1 (.t 25)),.op (some 10) none (.mv (.t 26))]) (.seq (.draw [[],[],[1],[1,2],[1,2,3],[],[1,2,3,4,5],[0,1,2,3,4,5,6],[],[0,1,2,3,4,5,6,7,8]] [.op (some 27) none (.load false 1 (.t 3)),.op (some 28) none (.load false 1 (.t 2)),.op (some 29) none (.ex gI.jg [.t 28]),.op (some 30) none (.nu 0 [false] (.t 29)),.op (some 31) none (.load false 1 (.t 30)),.op (some 32) none (.mv (.t 10)),.op (some 33) none (.ex (gI.gJ .str false tG true false) [.t 31,.t 32]),.call (some 34) none (.t 27) [.t 33] [some tG],.op (some 11) none (.alloc [.int .i64 (Int.ofNat 0)]),.op none none (.store 1 (.t 11) (.t 34))]) (.seq (.bf [.op (some 35) none (.load false 1 (.t 5)),.call (some 36) none (.c (.fn 101 [] [])) [.t 35] [none]]) (.block 4 (.bM (.t 36) [37] (.bf [.op (some 12) none (.mv (.t 37))]) (.block 5 (.bf [.op (some 38) none (.load false 1 (.t 8)),.op (some 39) none (.mv (.t 12)),.op (some 40) none (.load false 1 (.t 11)),.op (some 41) none (.bin .add (.t 39) (.t 40)),.call (some 42) none (.c (.fn 100 [] [])) [.t 38,.t 41] [none,some tI]])))))))) (.bf [.op (some 43) none (.bin .add (.t 23) (.c (.int .i64 (Int.ofNat 1)))),.op (some 23) none (.mv (.t 43))]))))))) (.bf [.op (some 44) none (.load false 1 (.t 8)),.op none none (.store 1 (.t 5) (.t 44))])))) 48),(12,.arr .str false),(23,nU),(24,nU)] [.slot 8,.slot 11,.part 36 0,.cell 7 0,.cell 20 0] []
abbrev CT:aU:=[(.normal,av.mk [(2,.c (.ptr 5 0)),(3,.c (.ptr 6 0)),(5,.c (.ptr 7 0)),(8,.c (.ptr 20 0)),(21,.c (.bH 19 .str)),(22,hI),(23,hI)] [(5,.cells [.ptr 0 0] false),(6,.cells [.fn0 78] false),(7,.cells [.mp 21] false),(20,.cells [.mp 22] false),(19,.arr .str false),(0,.cells [.mp 1,.mp 2,.mp 3,.mp 4] false),(1,eE),(2,fB),(3,bR),(4,bR),(8,.cells [.ptr 0 0] false),(10,.iH),(11,.loop .busy none 10 [(2,.c (.ptr 5 0)),(3,.c (.ptr 6 0)),(4,.c .cg),(5,.c (.ptr 7 0)),(17,.fn 106 [] [.ptr 8 0])] [18,19] (.bf [.op (some 7) none (.mv (.t 19))]) (.block 1 (.seq (.bf [.op (some 20) none (.ex (gI.jh tI false .unit true) []),.op (some 8) none (.alloc [.cT]),.op none none (.store 1 (.t 8) (.t 20))]) (.seq (.seq (.bf [.op (some 21) none (.mv (.t 7)),.op (some 22) none (.len (.t 21)),.op (some 23) none (.mv (.c (.int .i64 (Int.ofNat 0))))]) (.block 2 (.loop (.seq (.bf [.op (some 24) none (.bin .lss (.t 23) (.t 22))]) (.seq (.cond (.t 24) .skip (.exit 2)) (.seq (.block 3 (.seq (.bf [.op (some 25) none (.idx 1 (.t 21) (.t 23)),.op (some 26) none (.load false 1 (.t 25)),.op (some 10) none (.mv (.t 26))]) (.seq (.draw [[],[],[1],[1,2],[1,2,3],[],[1,2,3,4,5],[0,1,2,3,4,5,6],[],[0,1,2,3,4,5,6,7,8]] [.op (some 27) none (.load false 1 (.t 3)),.op (some 28) none (.load false 1 (.t 2)),.op (some 29) none (.ex gI.jg [.t 28]),.op (some 30) none (.nu 0 [false] (.t 29)),.op (some 31) none (.load false 1 (.t 30)),.op (some 32) none (.mv (.t 10)),.op (some 33) none (.ex (gI.gJ .str false tG true false) [.t 31,.t 32]),.call (some 34) none (.t 27) [.t 33] [some tG],.op (some 11) none (.alloc [.int .i64 (Int.ofNat 0)]),.op none none (.store 1 (.t 11) (.t 34))]) (.seq (.bf [.op (some 35) none (.load false 1 (.t 5)),.call (some 36) none (.c (.fn 101 [] [])) [.t 35] [none]]) (.block 4 (.bM (.t 36) [37] (.bf [.op (some 12) none (.mv (.t 37))]) (.block 5 (.bf [.op (some 38) none (.load false 1 (.t 8)),.op (some 39) none (.mv (.t 12)),.op (some 40) none (.load false 1 (.t 11)),.op (some 41) none (.bin .add (.t 39) (.t 40)),.call (some 42) none (.c (.fn 100 [] [])) [.t 38,.t 41] [none,some tI]])))))))) (.bf [.op (some 43) none (.bin .add (.t 23) (.c (.int .i64 (Int.ofNat 1)))),.op (some 23) none (.mv (.t 43))]))))))) (.bf [.op (some 44) none (.load false 1 (.t 8)),.op none none (.store 1 (.t 5) (.t 44))])))) 48),(12,.arr .str false),(21,nU),(22,nU)] [.slot 8,.cell 7 0,.cell 20 0] [])]
noncomputable def qG:D prog 14 none 26:=dO [.m vU] (kd prog f132) 0
theorem Ai:cw prog f132=some ⟨14,2,(qG).er,[],[]⟩:=by kernel_rfl
noncomputable def gH67_v1_0b_2:Nat×Int×Int×Int×List ByteArray×cR×cV×bg×bg×List ByteArray×(List (Int×Unit))×(List (Int×Unit))×Unit->bG ((Nat×Int×Int×List ByteArray×cR×cV×bg×bg×List ByteArray×(List (Int×Unit))×(List (Int×Unit))×Unit)):=fun (yZ,v22,v23,Fv,NF,m1,m2,m3,m4,NG,m23,m24,_) =>
 .bd (.mq gH67_v1_0b_2i_0 m23 (yZ,v22,v23,m23,m1,m2,m3,m4,Fv,NF,NG,m24,())) fun z8 =>
 .ret ((yZ,v22,v23,z8.2.2.2.2.2.2.2.2.2.1,z8.2.2.2.2.1,z8.2.2.2.2.2.1,z8.2.2.2.2.2.2.1,z8.2.2.2.2.2.2.2.1,z8.2.2.2.2.2.2.2.2.2.2.1,z8.2.2.2.1,z8.2.2.2.2.2.2.2.2.2.2.2.1,()))
noncomputable def CU:gM prog 48 (some 11) 20:=sH mixed k8 lW [0,1,2,3,4,5,6,7,8,9,10,11,12,13,14,15,16,17,18,19] rfl CS CT ( .t 36) [37] rfl (qE).er (qF).er 132 func132 (Ai) (enters_of func132 rfl rfl) 26 rfl (qG) rfl (fun x=>ai (gH67_v1_0b_2 x)) (fun x=>by kernel_rfl)
abbrev CV:av:=av.mk [(2,.c (.ptr 5 0)),(3,.c (.ptr 6 0)),(5,.c (.ptr 7 0)),(8,.c (.ptr 20 0)),(21,.c (.bH 19 .str)),(22,hI),(23,hI)] [(5,.cells [.ptr 0 0] false),(6,.cells [.fn0 78] false),(7,.cells [.mp 21] false),(20,.cells [.mp 22] false),(19,.arr .str false),(0,.cells [.mp 1,.mp 2,.mp 3,.mp 4] false),(1,eE),(2,fB),(3,bR),(4,bR),(8,.cells [.ptr 0 0] false),(10,.iH),(11,.loop .busy none 10 [(2,.c (.ptr 5 0)),(3,.c (.ptr 6 0)),(4,.c .cg),(5,.c (.ptr 7 0)),(17,.fn 106 [] [.ptr 8 0])] [18,19] (.bf [.op (some 7) none (.mv (.t 19))]) (.block 1 (.seq (.bf [.op (some 20) none (.ex (gI.jh tI false .unit true) []),.op (some 8) none (.alloc [.cT]),.op none none (.store 1 (.t 8) (.t 20))]) (.seq (.seq (.bf [.op (some 21) none (.mv (.t 7)),.op (some 22) none (.len (.t 21)),.op (some 23) none (.mv (.c (.int .i64 (Int.ofNat 0))))]) (.block 2 (.loop (.seq (.bf [.op (some 24) none (.bin .lss (.t 23) (.t 22))]) (.seq (.cond (.t 24) .skip (.exit 2)) (.seq (.block 3 (.seq (.bf [.op (some 25) none (.idx 1 (.t 21) (.t 23)),.op (some 26) none (.load false 1 (.t 25)),.op (some 10) none (.mv (.t 26))]) (.seq (.draw [[],[],[1],[1,2],[1,2,3],[],[1,2,3,4,5],[0,1,2,3,4,5,6],[],[0,1,2,3,4,5,6,7,8]] [.op (some 27) none (.load false 1 (.t 3)),.op (some 28) none (.load false 1 (.t 2)),.op (some 29) none (.ex gI.jg [.t 28]),.op (some 30) none (.nu 0 [false] (.t 29)),.op (some 31) none (.load false 1 (.t 30)),.op (some 32) none (.mv (.t 10)),.op (some 33) none (.ex (gI.gJ .str false tG true false) [.t 31,.t 32]),.call (some 34) none (.t 27) [.t 33] [some tG],.op (some 11) none (.alloc [.int .i64 (Int.ofNat 0)]),.op none none (.store 1 (.t 11) (.t 34))]) (.seq (.bf [.op (some 35) none (.load false 1 (.t 5)),.call (some 36) none (.c (.fn 101 [] [])) [.t 35] [none]]) (.block 4 (.bM (.t 36) [37] (.bf [.op (some 12) none (.mv (.t 37))]) (.block 5 (.bf [.op (some 38) none (.load false 1 (.t 8)),.op (some 39) none (.mv (.t 12)),.op (some 40) none (.load false 1 (.t 11)),.op (some 41) none (.bin .add (.t 39) (.t 40)),.call (some 42) none (.c (.fn 100 [] [])) [.t 38,.t 41] [none,some tI]])))))))) (.bf [.op (some 43) none (.bin .add (.t 23) (.c (.int .i64 (Int.ofNat 1)))),.op (some 23) none (.mv (.t 43))]))))))) (.bf [.op (some 44) none (.load false 1 (.t 8)),.op none none (.store 1 (.t 5) (.t 44))])))) 48),(12,.arr .str false),(21,nU),(22,nU)] [.slot 8,.cell 7 0,.cell 20 0] []
abbrev CW:aU:=[(.exit 2,av.mk [(5,.c (.ptr 7 0)),(8,.c (.ptr 20 0))] [(7,.cells [.mp 21] false),(20,.cells [.mp 22] false),(0,.cells [.mp 1,.mp 2,.mp 3,.mp 4] false),(1,eE),(2,fB),(3,bR),(4,bR),(5,.cells [.ptr 0 0] false),(6,.cells [.fn0 78] false),(8,.cells [.ptr 0 0] false),(10,.iH),(11,.loop .busy none 10 [(2,.c (.ptr 5 0)),(3,.c (.ptr 6 0)),(4,.c .cg),(5,.c (.ptr 7 0)),(17,.fn 106 [] [.ptr 8 0])] [18,19] (.bf [.op (some 7) none (.mv (.t 19))]) (.block 1 (.seq (.bf [.op (some 20) none (.ex (gI.jh tI false .unit true) []),.op (some 8) none (.alloc [.cT]),.op none none (.store 1 (.t 8) (.t 20))]) (.seq (.seq (.bf [.op (some 21) none (.mv (.t 7)),.op (some 22) none (.len (.t 21)),.op (some 23) none (.mv (.c (.int .i64 (Int.ofNat 0))))]) (.block 2 (.loop (.seq (.bf [.op (some 24) none (.bin .lss (.t 23) (.t 22))]) (.seq (.cond (.t 24) .skip (.exit 2)) (.seq (.block 3 (.seq (.bf [.op (some 25) none (.idx 1 (.t 21) (.t 23)),.op (some 26) none (.load false 1 (.t 25)),.op (some 10) none (.mv (.t 26))]) (.seq (.draw [[],[],[1],[1,2],[1,2,3],[],[1,2,3,4,5],[0,1,2,3,4,5,6],[],[0,1,2,3,4,5,6,7,8]] [.op (some 27) none (.load false 1 (.t 3)),.op (some 28) none (.load false 1 (.t 2)),.op (some 29) none (.ex gI.jg [.t 28]),.op (some 30) none (.nu 0 [false] (.t 29)),.op (some 31) none (.load false 1 (.t 30)),.op (some 32) none (.mv (.t 10)),.op (some 33) none (.ex (gI.gJ .str false tG true false) [.t 31,.t 32]),.call (some 34) none (.t 27) [.t 33] [some tG],.op (some 11) none (.alloc [.int .i64 (Int.ofNat 0)]),.op none none (.store 1 (.t 11) (.t 34))]) (.seq (.bf [.op (some 35) none (.load false 1 (.t 5)),.call (some 36) none (.c (.fn 101 [] [])) [.t 35] [none]]) (.block 4 (.bM (.t 36) [37] (.bf [.op (some 12) none (.mv (.t 37))]) (.block 5 (.bf [.op (some 38) none (.load false 1 (.t 8)),.op (some 39) none (.mv (.t 12)),.op (some 40) none (.load false 1 (.t 11)),.op (some 41) none (.bin .add (.t 39) (.t 40)),.call (some 42) none (.c (.fn 100 [] [])) [.t 38,.t 41] [none,some tI]])))))))) (.bf [.op (some 43) none (.bin .add (.t 23) (.c (.int .i64 (Int.ofNat 1)))),.op (some 23) none (.mv (.t 43))]))))))) (.bf [.op (some 44) none (.load false 1 (.t 8)),.op none none (.store 1 (.t 5) (.t 44))])))) 48),(12,.arr .str false),(19,.arr .str false),(21,nU),(22,nU)] [.slot 8,.cell 7 0,.cell 20 0] [])]
noncomputable def CX:D prog 48 (some 11) 20:=dO [.r CU] (pick (kd prog f67) [(0,true),(0,false)]) 0
noncomputable def gH67_v1_0b_1:Nat×Int×Int×List ByteArray×cR×cV×bg×bg×List ByteArray×(List (Int×Unit))×(List (Int×Unit))×Unit->bG ((Nat×Int×Int×List ByteArray×cR×cV×bg×bg×List ByteArray×(List (Int×Unit))×(List (Int×Unit))×Unit) ⊕ ((cR×cV×bg×bg×List ByteArray×List ByteArray×(List (Int×Unit))×(List (Int×Unit))×Unit))):=fun (yZ,v22,v23,NF,m1,m2,m3,m4,NG,m21,m22,_) =>
 .br (decide (v23<v22)) (
 .nb v23 ((yZ:Nat):Int) <|
 .nd (decide (((0:Nat)+(Int.toNat v23))<(NF).length)) <|
 .bd (F78 ((az .str ((bs []),(0:Int),(bs []),(bs []),(0:Int)) m1 ((NF).getD ((0:Nat)+(Int.toNat v23)) (bs []))).1,(az .str ((bs []),(0:Int),(bs []),(bs []),(0:Int)) m1 ((NF).getD ((0:Nat)+(Int.toNat v23)) (bs []))).2.1,(az .str ((bs []),(0:Int),(bs []),(bs []),(0:Int)) m1 ((NF).getD ((0:Nat)+(Int.toNat v23)) (bs []))).2.2.1,(az .str ((bs []),(0:Int),(bs []),(bs []),(0:Int)) m1 ((NF).getD ((0:Nat)+(Int.toNat v23)) (bs []))).2.2.2.1,(az .str ((bs []),(0:Int),(bs []),(bs []),(0:Int)) m1 ((NF).getD ((0:Nat)+(Int.toNat v23)) (bs []))).2.2.2.2)) fun y5 =>
 .bd (FH101 m21) fun y6 =>
 .bd (gH67_v1_0b_2 (yZ,v22,v23,y5.1,NF,m1,m2,m3,m4,NG,y6.1,m22,())) fun z9 =>
 .ni (z9.2.2.1+(1:Int)) <|
 .ret (.inl (z9.1,z9.2.1,(z9.2.2.1+(1:Int)),z9.2.2.2.1,z9.2.2.2.2.1,z9.2.2.2.2.2.1,z9.2.2.2.2.2.2.1,z9.2.2.2.2.2.2.2.1,z9.2.2.2.2.2.2.2.2.1,z9.2.2.2.2.2.2.2.2.2.1,z9.2.2.2.2.2.2.2.2.2.2.1,()))) (
 .ret (.inr (m1,m2,m3,m4,NG,NF,m21,m22,())))
noncomputable def CY:bw prog 48 (some 11) 20:=aW mixed mX gZ [0,1,2,3,4,5,6,7,8,9,10,11,12,13,14,15,16,17,18,19] rfl CV CW rfl (CX) (fun x=>ai (gH67_v1_0b_1 x)) (fun x=>by kernel_rfl)
noncomputable def zf:D prog 48 (some 11) 20:=dO [] (pick (kd prog f67) [(0,false)]) 0
noncomputable def zg:D prog 48 (some 11) 20:=dO [.l CY] (pick (kd prog f67) [(0,true)]) 0
noncomputable def pE:Cx:=Af mX (fun kz=>Pw kz mX eu 11 20 [18,19] (zf) (zg))
theorem pF:(pE).Ok prog:=j4 gZ (fun h=>nQ mixed gZ h)
abbrev C0:av:=av.mk [(0,.c (.yl 11)),(1,.c (.ptr 8 0)),(10,.c (.bH 12 .str)),(11,hI),(12,hI)] [(11,.loop .ready none 10 [(2,.c (.ptr 5 0)),(3,.c (.ptr 6 0)),(4,.c .cg),(5,.c (.ptr 7 0)),(17,.fn 106 [] [.ptr 8 0])] [18,19] (.bf [.op (some 7) none (.mv (.t 19))]) (.block 1 (.seq (.bf [.op (some 20) none (.ex (gI.jh tI false .unit true) []),.op (some 8) none (.alloc [.cT]),.op none none (.store 1 (.t 8) (.t 20))]) (.seq (.seq (.bf [.op (some 21) none (.mv (.t 7)),.op (some 22) none (.len (.t 21)),.op (some 23) none (.mv (.c (.int .i64 (Int.ofNat 0))))]) (.block 2 (.loop (.seq (.bf [.op (some 24) none (.bin .lss (.t 23) (.t 22))]) (.seq (.cond (.t 24) .skip (.exit 2)) (.seq (.block 3 (.seq (.bf [.op (some 25) none (.idx 1 (.t 21) (.t 23)),.op (some 26) none (.load false 1 (.t 25)),.op (some 10) none (.mv (.t 26))]) (.seq (.draw [[],[],[1],[1,2],[1,2,3],[],[1,2,3,4,5],[0,1,2,3,4,5,6],[],[0,1,2,3,4,5,6,7,8]] [.op (some 27) none (.load false 1 (.t 3)),.op (some 28) none (.load false 1 (.t 2)),.op (some 29) none (.ex gI.jg [.t 28]),.op (some 30) none (.nu 0 [false] (.t 29)),.op (some 31) none (.load false 1 (.t 30)),.op (some 32) none (.mv (.t 10)),.op (some 33) none (.ex (gI.gJ .str false tG true false) [.t 31,.t 32]),.call (some 34) none (.t 27) [.t 33] [some tG],.op (some 11) none (.alloc [.int .i64 (Int.ofNat 0)]),.op none none (.store 1 (.t 11) (.t 34))]) (.seq (.bf [.op (some 35) none (.load false 1 (.t 5)),.call (some 36) none (.c (.fn 101 [] [])) [.t 35] [none]]) (.block 4 (.bM (.t 36) [37] (.bf [.op (some 12) none (.mv (.t 37))]) (.block 5 (.bf [.op (some 38) none (.load false 1 (.t 8)),.op (some 39) none (.mv (.t 12)),.op (some 40) none (.load false 1 (.t 11)),.op (some 41) none (.bin .add (.t 39) (.t 40)),.call (some 42) none (.c (.fn 100 [] [])) [.t 38,.t 41] [none,some tI]])))))))) (.bf [.op (some 43) none (.bin .add (.t 23) (.c (.int .i64 (Int.ofNat 1)))),.op (some 23) none (.mv (.t 43))]))))))) (.bf [.op (some 44) none (.load false 1 (.t 8)),.op none none (.store 1 (.t 5) (.t 44))])))) 48),(8,.cells [.ptr 0 0] false),(12,.arr .str false),(10,.iH),(5,.cells [.ptr 0 0] false),(0,.cells [.mp 1,.mp 2,.mp 3,.mp 4] false),(1,eE),(2,fB),(3,bR),(4,bR),(6,.cells [.fn0 78] false),(7,.cells [.mp 13] false),(13,nU)] [.slot 10,.cell 7 0] []
abbrev C1:aU:=[(.exit 0,av.mk [] [(0,.cells [.mp 1,.mp 2,.mp 3,.mp 4] false),(1,eE),(2,fB),(3,bR),(4,bR),(5,.cells [.ptr 0 0] false),(6,.cells [.fn0 78] false),(7,.cells [.mp 12] false),(8,.cells [.ptr 0 0] false),(10,.iH),(11,.loop .ready none 10 [(2,.c (.ptr 5 0)),(3,.c (.ptr 6 0)),(4,.c .cg),(5,.c (.ptr 7 0)),(17,.fn 106 [] [.ptr 8 0])] [18,19] (.bf [.op (some 7) none (.mv (.t 19))]) (.block 1 (.seq (.bf [.op (some 20) none (.ex (gI.jh tI false .unit true) []),.op (some 8) none (.alloc [.cT]),.op none none (.store 1 (.t 8) (.t 20))]) (.seq (.seq (.bf [.op (some 21) none (.mv (.t 7)),.op (some 22) none (.len (.t 21)),.op (some 23) none (.mv (.c (.int .i64 (Int.ofNat 0))))]) (.block 2 (.loop (.seq (.bf [.op (some 24) none (.bin .lss (.t 23) (.t 22))]) (.seq (.cond (.t 24) .skip (.exit 2)) (.seq (.block 3 (.seq (.bf [.op (some 25) none (.idx 1 (.t 21) (.t 23)),.op (some 26) none (.load false 1 (.t 25)),.op (some 10) none (.mv (.t 26))]) (.seq (.draw [[],[],[1],[1,2],[1,2,3],[],[1,2,3,4,5],[0,1,2,3,4,5,6],[],[0,1,2,3,4,5,6,7,8]] [.op (some 27) none (.load false 1 (.t 3)),.op (some 28) none (.load false 1 (.t 2)),.op (some 29) none (.ex gI.jg [.t 28]),.op (some 30) none (.nu 0 [false] (.t 29)),.op (some 31) none (.load false 1 (.t 30)),.op (some 32) none (.mv (.t 10)),.op (some 33) none (.ex (gI.gJ .str false tG true false) [.t 31,.t 32]),.call (some 34) none (.t 27) [.t 33] [some tG],.op (some 11) none (.alloc [.int .i64 (Int.ofNat 0)]),.op none none (.store 1 (.t 11) (.t 34))]) (.seq (.bf [.op (some 35) none (.load false 1 (.t 5)),.call (some 36) none (.c (.fn 101 [] [])) [.t 35] [none]]) (.block 4 (.bM (.t 36) [37] (.bf [.op (some 12) none (.mv (.t 37))]) (.block 5 (.bf [.op (some 38) none (.load false 1 (.t 8)),.op (some 39) none (.mv (.t 12)),.op (some 40) none (.load false 1 (.t 11)),.op (some 41) none (.bin .add (.t 39) (.t 40)),.call (some 42) none (.c (.fn 100 [] [])) [.t 38,.t 41] [none,some tI]])))))))) (.bf [.op (some 43) none (.bin .add (.t 23) (.c (.int .i64 (Int.ofNat 1)))),.op (some 23) none (.mv (.t 43))]))))))) (.bf [.op (some 44) none (.load false 1 (.t 8)),.op none none (.store 1 (.t 5) (.t 44))])))) 48),(12,nU)] [.cell 7 0] [])]
noncomputable def C2:D prog 34 none 12:=dO [] (pick (kd prog f106) [(0,false)]) 0
noncomputable def gH67_v1_0i_0:Nat×Int×Int×List ByteArray×cR×cV×bg×bg×(List (Int×Unit))×Unit->bG ((Nat×Int×Int×List ByteArray×cR×cV×bg×bg×(List (Int×Unit))×Unit) ⊕ ((cR×cV×bg×bg×(List (Int×Unit))×Unit))):=fun (mW,v11,v12,NG,m1,m2,m3,m4,m13,_) =>
 .br (decide (v12<v11)) (
 .nb v12 ((mW:Nat):Int) <|
 .nd (decide (((0:Nat)+(Int.toNat v12))<(NG).length)) <|
 .br ((az .str ((bs []),(0:Int),(bs []),(bs []),(0:Int)) m1 ((NG).getD ((0:Nat)+(Int.toNat v12)) (bs []))).2.1==(1:Int)) (
 .bd (FH76fix ((NG).getD ((0:Nat)+(Int.toNat v12)) (bs [])) m1 m2 m3 m4) fun y4 =>
 .bd (.it gH67_v1_0b_1 (y4.1,((y4.1:Nat):Int),(0:Int),y4.2.1,y4.2.2.1,y4.2.2.2.1,y4.2.2.2.2.1,y4.2.2.2.2.2.1,NG,m13,[],())) fun wK =>
 .ni (v12+(1:Int)) <|
 .ret (.inl (mW,v11,(v12+(1:Int)),wK.2.2.2.2.1,wK.1,wK.2.1,wK.2.2.1,wK.2.2.2.1,wK.2.2.2.2.2.2.2.1,()))) (
 .ni (v12+(1:Int)) <|
 .ret (.inl (mW,v11,(v12+(1:Int)),NG,m1,m2,m3,m4,m13,())))) (
 .ret (.inr (m1,m2,m3,m4,m13,())))
noncomputable def C3:bw prog 34 none 12:=aW mixed pE pF [0,1,2,3,4,5,6,7,8,9,10,11] rfl C0 C1 rfl (C2) (fun x=>ai (gH67_v1_0i_0 x)) (fun x=>by kernel_rfl)
abbrev ME:av:=av.mk [(2,.c (.ptr 5 0)),(3,.c (.ptr 6 0)),(4,.c .cg),(5,.c (.ptr 7 0)),(17,.fn 106 [] [.ptr 8 0])] [(5,.cells [.ptr 0 0] false),(6,.cells [.fn0 78] false),(7,.cells [.mp 9] false),(8,.cells [.ptr 0 0] false),(0,.cells [.mp 1,.mp 2,.mp 3,.mp 4] false),(1,eE),(2,fB),(3,bR),(4,bR),(9,nU)] [.slot 2,.slot 3,.slot 5,.part 17 0,.cell 7 0] []
abbrev MF:aU:=[(.normal,av.mk [(5,.c (.ptr 5 0))] [(5,.cells [.mp 6] false),(0,.cells [.mp 1,.mp 2,.mp 3,.mp 4] false),(1,eE),(2,fB),(3,bR),(4,bR),(6,nU)] [.slot 5,.cell 5 0] [])]
noncomputable def zi:D prog 34 none 12:=dO [.l C3] (kd prog f106) 0
theorem HZ:cw prog f106=some ⟨34,2,(zi).er,[],[]⟩:=by kernel_rfl
noncomputable def gH67_v1_0:cR×cV×bg×bg×(List (Int×Unit))×Unit->bG ((cR×cV×bg×bg×(List (Int×Unit))×Unit)):=fun (m1,m2,m3,m4,m9,_) =>
 .bd (FH95 m1) fun y2 =>
 .bd (FH81 y2.1) fun y3 =>
 .bd (.it gH67_v1_0i_0 (y3.1,((y3.1:Nat):Int),(0:Int),y3.2.1,y3.2.2.1,m2,m3,m4,m9,())) fun Bp =>
 .ret ((Bp.1,Bp.2.1,Bp.2.2.1,Bp.2.2.2.1,Bp.2.2.2.2.1,()))
noncomputable def MG:gM prog 48 none 5:=sH mixed pE pF [0,1,2,3,4] rfl ME MF ( .t 17) [18,19] rfl (zf).er (zg).er 106 func106 (HZ) (enters_of func106 rfl rfl) 12 rfl (zi) rfl (fun x=>ai (gH67_v1_0 x)) (fun x=>by kernel_rfl)
noncomputable def Fw:D prog 48 none 5:=dO [.r MG] (kd prog f67) 0
noncomputable def FH67_v1 (m1:cR) (m2:cV) (m3:bg) (m4:bg):bG (Nat×List Int×cR×cV×bg×bg×Unit) :=
 .bd (FH100 (0:Int) []) fun y0 =>
 .bd (FH79 m1 m2 m3 m4) fun y1 =>
 .bd (gH67_v1_0 (y1.1,y1.2.1,y1.2.2.1,y1.2.2.2.1,y0.1,())) fun z12 =>
 .bd (FH101 z12.2.2.2.2.1) fun Dz =>
 .bd (FH102 Dz.1) fun Rk =>
 .ret (Rk.1,Rk.2.1,z12.1,z12.2.1,z12.2.2.1,z12.2.2.2.1,())
theorem H6:cw prog f67=some ⟨48,2,Fw.er,[.t 4],[some tL]⟩:=by kernel_rfl
noncomputable def Ka:Ht:=⟨67,VK,VL,(fun x=>ai (FH67_v1 x.1 x.2.1 x.2.2.1 x.2.2.2.1))⟩
theorem H7:Ka.Ok prog:=bE mixed gZ rfl func67 H6 (enters_of func67 rfl rfl) Fw (by kernel_rfl) rfl rfl ⟨_,rfl⟩ rfl (pre:=[0,1,2,3,4]) rfl (fun x=>by kernel_rfl)

/- 72 -/
noncomputable def cx72:Cx:=(aL [] [])
theorem VM:cx72.Ok prog:=au trivial trivial
noncomputable def dd72:D prog 13 none 0:=dO [] (kd prog f72) 0
noncomputable def F72 (a0:List Int):bG ((Int×Int)×Unit) :=
 .nb (0:Int) (((a0).length:Nat):Int) <|
 .ni ((((a0).length:Nat):Int) - (1:Int)) <|
 .nb ((((a0).length:Nat):Int) - (1:Int)) (((a0).length:Nat):Int) <|
 .ret ((((a0).getD (Int.toNat (0:Int)) (0:Int)),((a0).getD (Int.toNat ((((a0).length:Nat):Int) - (1:Int))) (0:Int))),())
theorem abL:cw prog f72=some ⟨13,1,dd72.er,[.cell 2 true 2],[some (.prod tI tI)]⟩:=by kernel_rfl
noncomputable def abM:Ct:=⟨72,[hL],.c (.hole (.prod tI tI)),fun x=>ai (F72 x.1)⟩
theorem Kb:abM.Ok prog:=cE mixed VM func72 abL (enters_of func72 rfl rfl) dd72 (by kernel_rfl) rfl (fun x=>by kernel_rfl)

/- 37, lent -/
abbrev pH37:av:=av.mk [(0,.c (.ptr 0 0))] [(0,.cells [.mp 1] false),(1,gq)] [.slot 0,.cell 0 0] []
abbrev qH37:av:=av.mk [(0,.cS [.hole (.prod tI tI),.hole tI])] [(0,.cells [.mp 1] false),(1,gq)] [] []
noncomputable def af6:Cx:=(aL [abM] [Ah,E5,Ka])
theorem Rm:af6.Ok prog:=au ⟨Kb,trivial⟩ ⟨⟨nV,rfl⟩,⟨sZ,rfl⟩,⟨H7,rfl⟩,trivial⟩
noncomputable def YG:D prog 11 none 2:=dO [] (kd prog f37) 0
noncomputable def FH37 (m1:eR):bG ((Int×Int)×Int×eR×Unit) :=
 .bd (FH54 m1) fun y0 =>
 .br y0.1 (
 .ret (((0:Int),(0:Int)),(9:Int),y0.2.1,())) (
 .bd (FH66 y0.2.1) fun y1 =>
 .bd (FH67_v1 y1.2.1 y1.2.2.1 y1.2.2.2.1 y1.2.2.2.2.1) fun y2 =>
 .bd (F72 (((y2.2.1).drop (0:Nat)).take y2.1)) fun y3 =>
 .ret ((y3.1.1,y3.1.2),(0:Int),y1.1,()))
theorem VN:cw prog f37=some ⟨11,1,YG.er,[.cell 2 true 2,.t 3],[some (.prod tI tI),some tI]⟩:=by kernel_rfl
noncomputable def abN:Ht:=⟨37,pH37,qH37,(fun x=>ai (FH37 x.1))⟩
theorem Ke:abN.Ok prog:=bE mixed Rm rfl func37 VN (enters_of func37 rfl rfl) YG (by kernel_rfl) rfl rfl ⟨_,rfl⟩ rfl (pre:=[0,1]) rfl (fun x=>by kernel_rfl)

/- 25, lent -/
abbrev pH25:av:=av.mk [(0,.c (.ptr 0 0)),(1,.c (.hole .str))] [(0,.cells [.mp 1] false),(1,gq)] [.slot 0,.cell 0 0] []
abbrev qH25:av:=av.mk [(0,.cS [.hole (.prod tI tI),.hole tI])] [(0,.cells [.mp 1] false),(1,gq)] [] []
noncomputable def af7:Cx:=(aL [abM] [abJ])
theorem Rn:af7.Ok prog:=au ⟨Kb,trivial⟩ ⟨⟨J9,rfl⟩,trivial⟩
noncomputable def YH:D prog 20 none 2:=dO [] (kd prog f25) 0
noncomputable def FH25 (v1:ByteArray) (m1:eR):bG ((Int×Int)×Int×eR×Unit) :=
 .bd (FH23 v1 m1) fun y0 =>
 .br (!(y0.2.1==(0:Int))) (
 .ret (((0:Int),(0:Int)),y0.2.1,y0.2.2.2.1,())) (
 .bd (F72 (((y0.2.2.1).drop (0:Nat)).take y0.1)) fun y1 =>
 .ret ((y1.1.1,y1.1.2),(0:Int),y0.2.2.2.1,()))
theorem VO:cw prog f25=some ⟨20,2,YH.er,[.cell 4 true 2,.t 5],[some (.prod tI tI),some tI]⟩:=by kernel_rfl
noncomputable def ht25:Ht:=⟨25,pH25,qH25,(fun x=>ai (FH25 x.1 x.2.1))⟩
theorem VP:ht25.Ok prog:=bE mixed Rn rfl func25 VO (enters_of func25 rfl rfl) YH (by kernel_rfl) rfl rfl ⟨_,rfl⟩ rfl (pre:=[0,1]) rfl (fun x=>by kernel_rfl)

/- 36 -/
noncomputable def cx36:Cx:=(aL [] [])
theorem Kf:cx36.Ok prog:=au trivial trivial
abbrev aga:av:=av.mk [(0,.c (.hole (.list .str))),(1,.c (.hole (.list .str))),(5,hI)] [] [] []
abbrev agb:aU:=[(.ret,av.mk [(4,.c (.tf false))] [] [] []),(.exit 0,av.mk [] [] [] [])]
noncomputable def agc:D prog 26 none 0:=dO [] (pick (kd prog f36) [(0,false)]) 0
noncomputable def g36_0:List ByteArray×List ByteArray×Int×Unit->bG ((List ByteArray×List ByteArray×Int×Unit) ⊕ ((Unit) ⊕ ((Unit)))):=fun (v0,v1,v5,_) =>
 .br (decide (v5<(((v0).length:Nat):Int))) (
 .nb v5 (((v0).length:Nat):Int) <|
 .nb v5 (((v1).length:Nat):Int) <|
 .br (!(seq ((v0).getD (Int.toNat v5) (bs [])) ((v1).getD (Int.toNat v5) (bs [])))) (
 .ret (.inr <| .inl<|())) (
 .ni (v5+(1:Int)) <|
 .ret (.inl (v0,v1,(v5+(1:Int)),())))) (
 .ret (.inr <| .inr<|()))
noncomputable def agd:bw prog 26 none 0:=aW mixed cx36 Kf [] rfl aga agb rfl (agc) (fun x=>ai (g36_0 x)) (fun x=>by kernel_rfl)
noncomputable def dd36:D prog 26 none 0:=dO [.l agd] (kd prog f36) 0
noncomputable def F36 (a0:List ByteArray) (a1:List ByteArray):bG (Bool×Unit) :=
 .br (!((((a0).length:Nat):Int)==(((a1).length:Nat):Int))) (
 .ret (false,())) (
 .bd (.it g36_0 (a0,a1,(0:Int),())) fun z0 =>
 .sm z0 (fun z1 =>
 .ret (false,())) fun z2 =>
 .ret (true,()))
theorem abO:cw prog f36=some ⟨26,2,dd36.er,[.t 4],[some .bool]⟩:=by kernel_rfl
noncomputable def abP:Ct:=⟨36,[.c (.hole (.list .str)),.c (.hole (.list .str))],.c (.hole .bool),fun x=>ai (F36 x.1 x.2.1)⟩
theorem Kg:abP.Ok prog:=cE mixed Kf func36 abO (enters_of func36 rfl rfl) dd36 (by kernel_rfl) rfl (fun x=>by kernel_rfl)

/- 27 -/
noncomputable def cx27:Cx:=(aL [] [])
theorem Kh:cx27.Ok prog:=au trivial trivial
abbrev agh:av:=av.mk [(0,hL),(1,hL),(5,hI)] [] [] []
abbrev agi:aU:=[(.ret,av.mk [(4,.c (.tf false))] [] [] []),(.exit 0,av.mk [] [] [] [])]
noncomputable def agj:D prog 26 none 0:=dO [] (pick (kd prog f27) [(0,false)]) 0
noncomputable def g27_0:List Int×List Int×Int×Unit->bG ((List Int×List Int×Int×Unit) ⊕ ((Unit) ⊕ ((Unit)))):=fun (v0,v1,v5,_) =>
 .br (decide (v5<(((v0).length:Nat):Int))) (
 .nb v5 (((v0).length:Nat):Int) <|
 .nb v5 (((v1).length:Nat):Int) <|
 .br (!(((v0).getD (Int.toNat v5) (0:Int))==((v1).getD (Int.toNat v5) (0:Int)))) (
 .ret (.inr <| .inl<|())) (
 .ni (v5+(1:Int)) <|
 .ret (.inl (v0,v1,(v5+(1:Int)),())))) (
 .ret (.inr <| .inr<|()))
noncomputable def agk:bw prog 26 none 0:=aW mixed cx27 Kh [] rfl agh agi rfl (agj) (fun x=>ai (g27_0 x)) (fun x=>by kernel_rfl)
noncomputable def dd27:D prog 26 none 0:=dO [.l agk] (kd prog f27) 0
noncomputable def F27 (a0:List Int) (a1:List Int):bG (Bool×Unit) :=
 .br (!((((a0).length:Nat):Int)==(((a1).length:Nat):Int))) (
 .ret (false,())) (
 .bd (.it g27_0 (a0,a1,(0:Int),())) fun z0 =>
 .sm z0 (fun z1 =>
 .ret (false,())) fun z2 =>
 .ret (true,()))
theorem abQ:cw prog f27=some ⟨26,2,dd27.er,[.t 4],[some .bool]⟩:=by kernel_rfl
noncomputable def ct27:Ct:=⟨27,[hL,hL],.c (.hole .bool),fun x=>ai (F27 x.1 x.2.1)⟩
theorem VQ:ct27.Ok prog:=cE mixed Kh func27 abQ (enters_of func27 rfl rfl) dd27 (by kernel_rfl) rfl (fun x=>by kernel_rfl)

/- 80, lent -/
abbrev pH80:av:=av.mk [(0,.c (.mp 0)),(1,.c (.hole .str))] [(0,.map .str false .unit true)] [.slot 0] []
abbrev qH80:av:=av.mk [(0,.c .any)] [(0,.map .str false .unit true)] [] []
noncomputable def agn:Cx:=(aL [] [])
theorem Ro:agn.Ok prog:=au trivial trivial
noncomputable def YI:D prog 7 none 1:=dO [] (kd prog f80) 0
noncomputable def FH80 (v1:ByteArray) (m0:List (ByteArray×Unit)):bG ((List (ByteArray×Unit))×Unit) :=
 .ret ((bq .str m0 v1 ()),())
theorem VR:cw prog f80=some ⟨7,2,YI.er,[],[]⟩:=by kernel_rfl
noncomputable def ht80:Ht:=⟨80,pH80,qH80,(fun x=>ai (FH80 x.1 x.2.1))⟩
theorem VS:ht80.Ok prog:=bE mixed Ro rfl func80 VR (enters_of func80 rfl rfl) YI (by kernel_rfl) rfl rfl ⟨_,rfl⟩ rfl (pre:=[0]) rfl (fun x=>by kernel_rfl)

/- 108, lent -/
abbrev agp:av:=av.mk [(0,.c (.mp 0))] [(0,.map .str false .unit true)] [.slot 0] []
abbrev agq:av:=av.mk [(0,.fn 127 [] [.ptr 1 0])] [(1,.cells [.mp 0] false),(0,.map .str false .unit true)] [.part 0 0] []
noncomputable def abR:Cx:=(aL [] [])
theorem MH:abR.Ok prog:=au trivial trivial
noncomputable def Rp:D prog 4 none 1:=dO [] (kd prog f108) 0
noncomputable def FH108 (m0:List (ByteArray×Unit)):bG ((List (ByteArray×Unit))×Unit) :=
 .ret (m0,())
theorem Rq:cw prog f108=some ⟨4,1,Rp.er,[.t 2],[none]⟩:=by kernel_rfl
noncomputable def YJ:Ht:=⟨108,agp,agq,(fun x=>ai (FH108 x.1))⟩
theorem Rr:YJ.Ok prog:=bE mixed MH rfl func108 Rq (enters_of func108 rfl rfl) Rp (by kernel_rfl) rfl rfl ⟨_,rfl⟩ rfl (pre:=[0]) rfl (fun x=>by kernel_rfl)

/- 82, lent -/
abbrev pH82:av:=av.mk [(0,.c (.mp 0))] [(0,.map .str false .unit true)] [.slot 0] []
abbrev qH82:av:=av.mk [(0,.fn 127 [] [.ptr 1 0])] [(1,.cells [.mp 0] false),(0,.map .str false .unit true)] [.part 0 0] []
noncomputable def agr:Cx:=(aL [] [YJ])
theorem Rs:agr.Ok prog:=au trivial ⟨⟨Rr,rfl⟩,trivial⟩
noncomputable def YK:D prog 5 none 1:=dO [] (kd prog f82) 0
noncomputable def FH82 (m0:List (ByteArray×Unit)):bG ((List (ByteArray×Unit))×Unit) :=
 .bd (FH108 m0) fun y0 =>
 .ret (y0.1,())
theorem VT:cw prog f82=some ⟨5,1,YK.er,[.t 2],[none]⟩:=by kernel_rfl
noncomputable def ht82:Ht:=⟨82,pH82,qH82,(fun x=>ai (FH82 x.1))⟩
theorem VU:ht82.Ok prog:=bE mixed Rs rfl func82 VT (enters_of func82 rfl rfl) YK (by kernel_rfl) rfl rfl ⟨_,rfl⟩ rfl (pre:=[0]) rfl (fun x=>by kernel_rfl)

/- 81, lent -/
abbrev VV:av:=av.mk [(0,.fn 127 [] [.ptr 0 0])] [(0,.cells [.mp 1] false),(1,.map .str false .unit true)] [.part 0 0,.cell 0 0] []
abbrev VW:av:=av.mk [(0,.c (.bH 2 .str))] [(2,.arr .str false),(0,.cells [.mp 1] false),(1,.map .str false .unit true)] [.slot 0] []
noncomputable def nX:Cx:=(aL [] [Bh])
theorem mh:nX.Ok prog:=au (wq:=[]) (hts:=[Bh]) trivial ⟨⟨yR,rfl⟩,trivial⟩
noncomputable def k9:D prog 13 (some 4) 7:=dO [] (pick (kd prog f126) [(0,false)]) 0
noncomputable def lg:D prog 13 (some 4) 7:=dO [] (pick (kd prog f126) [(0,true)]) 0
noncomputable def gr:Cx:=Af nX (fun kz=>Pw kz nX eu 4 7 [7] (k9) (lg))
theorem iy:(gr).Ok prog:=j4 mh (fun h=>nQ mixed mh h)
abbrev pG:av:=av.mk [(0,.c (.yl 4)),(4,.c (.mp 1))] [(4,.loop .ready none 3 [(2,.c (.ptr 2 0)),(4,.c .cg),(6,.fn 127 [] [.ptr 0 0])] [7] (.bf [.op (some 5) none (.mv (.t 7))]) (.block 1 (.bf [.op (some 8) none (.load false 1 (.t 2)),.op (some 9) none (.mv (.t 5)),.op (some 10) none (.eG .str [.t 9]),.op (some 11) none (.append 1 (.t 8) (.t 10)),.op none none (.store 1 (.t 2) (.t 11))])) 13),(1,.map .str false .unit true),(3,.iH),(2,.cells [.bH 5 .str] false),(0,.cells [.mp 1] false),(5,.arr .str false)] [.cell 2 0] []
noncomputable def pH:D prog 14 none 7:=dO [] (pick (kd prog f127) [(0,false)]) 0
noncomputable def gH81_v1f107f126_0i_0:((ByteArray)×(Unit))->(List (ByteArray×Unit))×Nat×List ByteArray×Unit->bG ((List (ByteArray×Unit))×Nat×List ByteArray×Unit):=fun e (m1,kZ,b5,_) =>
 .nd (decide ((kZ+(((((e.1::[])).drop (0:Nat)).take (1:Nat))).length)<bp)) <|
 .nd (jP m1 m1) <|
 .ret (m1,(kZ+(((((e.1::[])).drop (0:Nat)).take (1:Nat))).length),((((b5).drop (0:Nat)).take kZ)++((((e.1::[])).drop (0:Nat)).take (1:Nat))),())
noncomputable def pI:sx prog 14 none 5:=wA mixed gr iy [0,1,2,3,4] rfl pG ( [.op (some 4) none (.load false 1 (.t 1))]) 4 5 [6,7] (some 8) ( .str)  false ( .unit)  true 0 rfl 7 rfl (pH) (fun e x=>ai (gH81_v1f107f126_0i_0 e x)) (fun e=>fun x=>by kernel_rfl)
abbrev th:av:=av.mk [(2,.c (.ptr 2 0)),(4,.c .cg),(6,.fn 127 [] [.ptr 0 0])] [(2,.cells [.cg] false),(0,.cells [.mp 1] false),(1,.map .str false .unit true)] [.slot 2] []
abbrev tj:aU:=[(.normal,av.mk [(2,.c (.ptr 2 0))] [(2,.cells [.bH 3 .str] false),(0,.cells [.mp 1] false),(1,.map .str false .unit true),(3,.arr .str false)] [.slot 2,.cell 2 0] [])]
noncomputable def lp:D prog 14 none 5:=dO [.m pI] (kd prog f127) 0
theorem rE:cw prog f127=some ⟨14,2,(lp).er,[],[]⟩:=by kernel_rfl
noncomputable def lX:gM prog 13 none 2:=sL mixed gr iy [0,1] rfl th tj ( .t 6) [7] rfl (k9).er (lg).er 127 func127 (rE) (enters_of func127 rfl rfl) 5 rfl (lp) rfl
@[reducible] noncomputable def H8:Go.AM.Fn:=⟨13,2,(dO [.r lX] (kd prog f126) 0:D prog 13 none 2).er,[.t 4],[some (.list .str)]⟩
noncomputable def zj:Cx:=Bc prog nX 126 H8 2 (dO [.r lX] (kd prog f126) 0)
theorem Aj:zj.Ok prog:=sK mixed mh func126 (by kernel_rfl) (enters_of func126 rfl rfl) rfl
@[reducible] noncomputable def H9:Go.AM.Fn:=⟨5,1,(dO [] (kd prog f107) 0:D prog 5 none 0).er,[.t 2],[some (.list .str)]⟩
noncomputable def zk:Cx:=EI prog zj 107 H9 (fun _=>dO [] (kd prog f107) 0)
theorem Ak:zk.Ok prog:=qd mixed Aj func107 (by kernel_rfl) (enters_of func107 rfl rfl) (fun _=>by kernel_rfl)
noncomputable def Rt:Cx:=zk
theorem Fx:Rt.Ok prog:=Ak
noncomputable def Fy:D prog 9 none 2:=dO [] (kd prog f81) 0
noncomputable def FH81_v1 (m1:List (ByteArray×Unit)):bG (Nat×List ByteArray×(List (ByteArray×Unit))×Unit) :=
 .an m1 fun l0 =>
 .bd (.fm gH81_v1f107f126_0i_0 l0 (m1,(0:Nat),[],())) fun z1 =>
 .bd (FH105 z1.2.1 z1.2.2.1) fun y2 =>
 .ret (z1.2.1,y2.1,z1.1,())
theorem Ia:cw prog f81=some ⟨9,1,Fy.er,[.t 2],[some (.list .str)]⟩:=by kernel_rfl
noncomputable def Ki:Ht:=⟨81,VV,VW,(fun x=>ai (FH81_v1 x.1))⟩
theorem Ib:Ki.Ok prog:=bE mixed Fx rfl func81 Ia (enters_of func81 rfl rfl) Fy (by kernel_rfl) rfl rfl ⟨_,rfl⟩ rfl (pre:=[0,1]) rfl (fun x=>by kernel_rfl)

/- 45, lent -/
abbrev pH45:av:=av.mk [(0,.c (.ptr 0 0))] [(0,.cells [.mp 1] false),(1,gq)] [.slot 0,.cell 0 0] []
abbrev qH45:av:=av.mk [(0,.c (.bH 2 .str))] [(2,.arr .str false),(0,.cells [.mp 1] false),(1,gq)] [.slot 0] []
noncomputable def Kj:Cx:=(aL [] [Ah,E5,VB,Qo,Qq,HR,ht80,ht82,Ki])
theorem tn:Kj.Ok prog:=au trivial ⟨⟨nV,rfl⟩,⟨sZ,rfl⟩,⟨CN,rfl⟩,⟨wH,rfl⟩,⟨wJ,rfl⟩,⟨tc,rfl⟩,⟨VS,rfl⟩,⟨VU,rfl⟩,⟨Ib,rfl⟩,trivial⟩
abbrev MJ:av:=av.mk [(3,.c (.ptr 2 0)),(4,.c (.ptr 3 0)),(18,.c (.bH 20 .str)),(19,hI),(20,hI)] [(2,.cells [.ptr 5 0] false),(3,.cells [.mp 21] false),(20,.arr .str false),(5,.cells [.mp 7,.mp 8,.mp 9,.mp 10] false),(7,eE),(8,fB),(9,bR),(10,bR),(0,.cells [.mp 1] false),(1,gq),(4,.cells [.ptr 5 0] false),(11,.iH),(12,.loop .busy none 11 [(2,.c .cg),(3,.c (.ptr 2 0)),(4,.c (.ptr 3 0)),(15,.fn 106 [] [.ptr 4 0])] [16,17] (.bf [.op (some 6) none (.mv (.t 17))]) (.block 1 (.seq (.bf [.op (some 18) none (.mv (.t 6)),.op (some 19) none (.len (.t 18)),.op (some 20) none (.mv (.c (.int .i64 (Int.ofNat 0))))]) (.block 2 (.loop (.seq (.bf [.op (some 21) none (.bin .lss (.t 20) (.t 19))]) (.seq (.cond (.t 21) .skip (.exit 2)) (.seq (.block 3 (.seq (.bf [.op (some 22) none (.idx 1 (.t 18) (.t 20)),.op (some 23) none (.load false 1 (.t 22)),.op (some 8) none (.mv (.t 23))]) (.seq (.draw [[],[],[1],[1,2],[1,2,3],[],[1,2,3,4,5],[1,2,3,4,5,6],[0,1,2,3,4,5,6,7]] [.op (some 24) none (.load false 1 (.t 4)),.op (some 25) none (.load false 1 (.t 3)),.op (some 26) none (.ex gI.jg [.t 25]),.op (some 27) none (.nu 0 [false] (.t 26)),.op (some 28) none (.load false 1 (.t 27)),.op (some 29) none (.mv (.t 8)),.op (some 30) none (.ex (gI.gJ .str false tG true false) [.t 28,.t 29]),.op (some 31) none (.field false 3 1 (.t 30))]) (.bf [.call (some 32) none (.c (.fn 80 [] [])) [.t 24,.t 31] [none,some .str]])))) (.bf [.op (some 33) none (.bin .add (.t 20) (.c (.int .i64 (Int.ofNat 1)))),.op (some 20) none (.mv (.t 33))])))))))) 37),(13,.arr .str false),(21,.map .str false .unit true)] [.cell 3 0] []
abbrev MK:aU:=[(.exit 2,av.mk [] [(0,.cells [.mp 1] false),(1,gq),(2,.cells [.ptr 5 0] false),(5,.cells [.mp 7,.mp 8,.mp 9,.mp 10] false),(7,eE),(8,fB),(9,bR),(10,bR),(3,.cells [.mp 21] false),(4,.cells [.ptr 5 0] false),(11,.iH),(12,.loop .busy none 11 [(2,.c .cg),(3,.c (.ptr 2 0)),(4,.c (.ptr 3 0)),(15,.fn 106 [] [.ptr 4 0])] [16,17] (.bf [.op (some 6) none (.mv (.t 17))]) (.block 1 (.seq (.bf [.op (some 18) none (.mv (.t 6)),.op (some 19) none (.len (.t 18)),.op (some 20) none (.mv (.c (.int .i64 (Int.ofNat 0))))]) (.block 2 (.loop (.seq (.bf [.op (some 21) none (.bin .lss (.t 20) (.t 19))]) (.seq (.cond (.t 21) .skip (.exit 2)) (.seq (.block 3 (.seq (.bf [.op (some 22) none (.idx 1 (.t 18) (.t 20)),.op (some 23) none (.load false 1 (.t 22)),.op (some 8) none (.mv (.t 23))]) (.seq (.draw [[],[],[1],[1,2],[1,2,3],[],[1,2,3,4,5],[1,2,3,4,5,6],[0,1,2,3,4,5,6,7]] [.op (some 24) none (.load false 1 (.t 4)),.op (some 25) none (.load false 1 (.t 3)),.op (some 26) none (.ex gI.jg [.t 25]),.op (some 27) none (.nu 0 [false] (.t 26)),.op (some 28) none (.load false 1 (.t 27)),.op (some 29) none (.mv (.t 8)),.op (some 30) none (.ex (gI.gJ .str false tG true false) [.t 28,.t 29]),.op (some 31) none (.field false 3 1 (.t 30))]) (.bf [.call (some 32) none (.c (.fn 80 [] [])) [.t 24,.t 31] [none,some .str]])))) (.bf [.op (some 33) none (.bin .add (.t 20) (.c (.int .i64 (Int.ofNat 1)))),.op (some 20) none (.mv (.t 33))])))))))) 37),(13,.arr .str false),(20,.arr .str false),(21,.map .str false .unit true)] [.cell 3 0] [])]
noncomputable def ML:D prog 37 (some 12) 21:=dO [] (pick (kd prog f45) [(0,true),(0,false)]) 0
noncomputable def gH45_0b_1:Nat×Int×Int×List ByteArray×cR×cV×bg×bg×eR×List ByteArray×(List (ByteArray×Unit))×Unit->bG ((Nat×Int×Int×List ByteArray×cR×cV×bg×bg×eR×List ByteArray×(List (ByteArray×Unit))×Unit) ⊕ ((eR×cR×cV×bg×bg×List ByteArray×List ByteArray×(List (ByteArray×Unit))×Unit))):=fun (nv18,Vl,v20,qn,m7,m8,m9,m10,m1,jA,m21,_) =>
 .br (decide (v20<Vl)) (
 .nb v20 ((nv18:Nat):Int) <|
 .nd (decide (((0:Nat)+(Int.toNat v20))<(qn).length)) <|
 .bd (FH80 (az .str ((bs []),(0:Int),(bs []),(bs []),(0:Int)) m7 ((qn).getD ((0:Nat)+(Int.toNat v20)) (bs []))).2.2.2.1 m21) fun y6 =>
 .ni (v20+(1:Int)) <|
 .ret (.inl (nv18,Vl,(v20+(1:Int)),qn,m7,m8,m9,m10,m1,jA,y6.1,()))) (
 .ret (.inr (m1,m7,m8,m9,m10,jA,qn,m21,())))
noncomputable def MM:bw prog 37 (some 12) 21:=aW mixed Kj tn [0,1,2,3,4,5,6,7,8,9,10,11,12,13,14,15,16,17,18,19,20] rfl MJ MK rfl (ML) (fun x=>ai (gH45_0b_1 x)) (fun x=>by kernel_rfl)
noncomputable def Kk:D prog 37 (some 12) 21:=dO [] (pick (kd prog f45) [(0,false)]) 0
noncomputable def Kl:D prog 37 (some 12) 21:=dO [.l MM] (pick (kd prog f45) [(0,true)]) 0
noncomputable def zm:Cx:=Af Kj (fun kz=>Pw kz Kj eu 12 21 [16,17] (Kk) (Kl))
theorem vu:(zm).Ok prog:=j4 tn (fun h=>nQ mixed tn h)
abbrev MN:av:=av.mk [(0,.c (.yl 12)),(1,.c (.ptr 4 0)),(10,.c (.bH 13 .str)),(11,hI),(12,hI)] [(12,.loop .ready none 11 [(2,.c .cg),(3,.c (.ptr 2 0)),(4,.c (.ptr 3 0)),(15,.fn 106 [] [.ptr 4 0])] [16,17] (.bf [.op (some 6) none (.mv (.t 17))]) (.block 1 (.seq (.bf [.op (some 18) none (.mv (.t 6)),.op (some 19) none (.len (.t 18)),.op (some 20) none (.mv (.c (.int .i64 (Int.ofNat 0))))]) (.block 2 (.loop (.seq (.bf [.op (some 21) none (.bin .lss (.t 20) (.t 19))]) (.seq (.cond (.t 21) .skip (.exit 2)) (.seq (.block 3 (.seq (.bf [.op (some 22) none (.idx 1 (.t 18) (.t 20)),.op (some 23) none (.load false 1 (.t 22)),.op (some 8) none (.mv (.t 23))]) (.seq (.draw [[],[],[1],[1,2],[1,2,3],[],[1,2,3,4,5],[1,2,3,4,5,6],[0,1,2,3,4,5,6,7]] [.op (some 24) none (.load false 1 (.t 4)),.op (some 25) none (.load false 1 (.t 3)),.op (some 26) none (.ex gI.jg [.t 25]),.op (some 27) none (.nu 0 [false] (.t 26)),.op (some 28) none (.load false 1 (.t 27)),.op (some 29) none (.mv (.t 8)),.op (some 30) none (.ex (gI.gJ .str false tG true false) [.t 28,.t 29]),.op (some 31) none (.field false 3 1 (.t 30))]) (.bf [.call (some 32) none (.c (.fn 80 [] [])) [.t 24,.t 31] [none,some .str]])))) (.bf [.op (some 33) none (.bin .add (.t 20) (.c (.int .i64 (Int.ofNat 1)))),.op (some 20) none (.mv (.t 33))])))))))) 37),(4,.cells [.ptr 5 0] false),(13,.arr .str false),(11,.iH),(2,.cells [.ptr 5 0] false),(5,.cells [.mp 7,.mp 8,.mp 9,.mp 10] false),(7,eE),(8,fB),(9,bR),(10,bR),(3,.cells [.mp 14] false),(0,.cells [.mp 1] false),(1,gq),(14,.map .str false .unit true)] [.slot 10,.cell 3 0] []
abbrev MO:aU:=[(.exit 0,av.mk [] [(0,.cells [.mp 1] false),(1,gq),(2,.cells [.ptr 5 0] false),(5,.cells [.mp 7,.mp 8,.mp 9,.mp 10] false),(7,eE),(8,fB),(9,bR),(10,bR),(3,.cells [.mp 13] false),(4,.cells [.ptr 5 0] false),(11,.iH),(12,.loop .ready none 11 [(2,.c .cg),(3,.c (.ptr 2 0)),(4,.c (.ptr 3 0)),(15,.fn 106 [] [.ptr 4 0])] [16,17] (.bf [.op (some 6) none (.mv (.t 17))]) (.block 1 (.seq (.bf [.op (some 18) none (.mv (.t 6)),.op (some 19) none (.len (.t 18)),.op (some 20) none (.mv (.c (.int .i64 (Int.ofNat 0))))]) (.block 2 (.loop (.seq (.bf [.op (some 21) none (.bin .lss (.t 20) (.t 19))]) (.seq (.cond (.t 21) .skip (.exit 2)) (.seq (.block 3 (.seq (.bf [.op (some 22) none (.idx 1 (.t 18) (.t 20)),.op (some 23) none (.load false 1 (.t 22)),.op (some 8) none (.mv (.t 23))]) (.seq (.draw [[],[],[1],[1,2],[1,2,3],[],[1,2,3,4,5],[1,2,3,4,5,6],[0,1,2,3,4,5,6,7]] [.op (some 24) none (.load false 1 (.t 4)),.op (some 25) none (.load false 1 (.t 3)),.op (some 26) none (.ex gI.jg [.t 25]),.op (some 27) none (.nu 0 [false] (.t 26)),.op (some 28) none (.load false 1 (.t 27)),.op (some 29) none (.mv (.t 8)),.op (some 30) none (.ex (gI.gJ .str false tG true false) [.t 28,.t 29]),.op (some 31) none (.field false 3 1 (.t 30))]) (.bf [.call (some 32) none (.c (.fn 80 [] [])) [.t 24,.t 31] [none,some .str]])))) (.bf [.op (some 33) none (.bin .add (.t 20) (.c (.int .i64 (Int.ofNat 1)))),.op (some 20) none (.mv (.t 33))])))))))) 37),(13,.map .str false .unit true)] [.cell 3 0] [])]
noncomputable def MP:D prog 34 none 13:=dO [] (pick (kd prog f106) [(0,false)]) 0
noncomputable def gH45_0i_0:Nat×Int×Int×List ByteArray×cR×cV×bg×bg×eR×(List (ByteArray×Unit))×Unit->bG ((Nat×Int×Int×List ByteArray×cR×cV×bg×bg×eR×(List (ByteArray×Unit))×Unit) ⊕ ((eR×cR×cV×bg×bg×(List (ByteArray×Unit))×Unit))):=fun (mW,v11,v12,jA,m7,m8,m9,m10,m1,m14,_) =>
 .br (decide (v12<v11)) (
 .nb v12 ((mW:Nat):Int) <|
 .nd (decide (((0:Nat)+(Int.toNat v12))<(jA).length)) <|
 .br ((az .str ((bs []),(0:Int),(bs []),(bs []),(0:Int)) m7 ((jA).getD ((0:Nat)+(Int.toNat v12)) (bs []))).2.1==(1:Int)) (
 .bd (FH76fix ((jA).getD ((0:Nat)+(Int.toNat v12)) (bs [])) m7 m8 m9 m10) fun y5 =>
 .bd (.it gH45_0b_1 (y5.1,((y5.1:Nat):Int),(0:Int),y5.2.1,y5.2.2.1,y5.2.2.2.1,y5.2.2.2.2.1,y5.2.2.2.2.2.1,m1,jA,m14,())) fun z7 =>
 .ni (v12+(1:Int)) <|
 .ret (.inl (mW,v11,(v12+(1:Int)),z7.2.2.2.2.2.1,z7.2.1,z7.2.2.1,z7.2.2.2.1,z7.2.2.2.2.1,z7.1,z7.2.2.2.2.2.2.2.1,()))) (
 .ni (v12+(1:Int)) <|
 .ret (.inl (mW,v11,(v12+(1:Int)),jA,m7,m8,m9,m10,m1,m14,())))) (
 .ret (.inr (m1,m7,m8,m9,m10,m14,())))
noncomputable def MQ:bw prog 34 none 13:=aW mixed zm vu [0,1,2,3,4,5,6,7,8,9,10,11,12] rfl MN MO rfl (MP) (fun x=>ai (gH45_0i_0 x)) (fun x=>by kernel_rfl)
abbrev abS:av:=av.mk [(2,.c .cg),(3,.c (.ptr 2 0)),(4,.c (.ptr 3 0)),(15,.fn 106 [] [.ptr 4 0])] [(2,.cells [.ptr 5 0] false),(3,.cells [.mp 6] false),(4,.cells [.ptr 5 0] false),(0,.cells [.mp 1] false),(1,gq),(5,.cells [.mp 7,.mp 8,.mp 9,.mp 10] false),(6,.map .str false .unit true),(7,eE),(8,fB),(9,bR),(10,bR)] [.slot 3,.slot 4,.part 15 0,.cell 2 0,.cell 3 0,.cell 5 0,.cell 5 1,.cell 5 2,.cell 5 3] []
abbrev abT:aU:=[(.normal,av.mk [(4,.c (.ptr 2 0))] [(2,.cells [.mp 3] false),(0,.cells [.mp 1] false),(1,gq),(3,.map .str false .unit true)] [.slot 4,.cell 2 0] [])]
noncomputable def Km:D prog 34 none 13:=dO [.l MQ] (kd prog f106) 0
theorem VX:cw prog f106=some ⟨34,2,(Km).er,[],[]⟩:=by kernel_rfl
noncomputable def gH45_0:eR×(List (ByteArray×Unit))×cR×cV×bg×bg×Unit->bG ((eR×(List (ByteArray×Unit))×Unit)):=fun (m1,m6,m7,m8,m9,m10,_) =>
 .bd (FH95 m7) fun y3 =>
 .bd (FH81 y3.1) fun y4 =>
 .bd (.it gH45_0i_0 (y4.1,((y4.1:Nat):Int),(0:Int),y4.2.1,y4.2.2.1,m8,m9,m10,m1,m6,())) fun z8 =>
 .ret ((z8.1,z8.2.2.2.2.2.1,()))
noncomputable def abU:gM prog 37 none 2:=sH mixed zm vu [0,1] rfl abS abT ( .t 15) [16,17] rfl (Kk).er (Kl).er 106 func106 (VX) (enters_of func106 rfl rfl) 13 rfl (Km) rfl (fun x=>ai (gH45_0 x)) (fun x=>by kernel_rfl)
noncomputable def YL:D prog 37 none 2:=dO [.r abU] (kd prog f45) 0
noncomputable def FH45 (m1:eR):bG (Nat×List ByteArray×eR×Unit) :=
 .bd (FH54 m1) fun y0 =>
 .br y0.1 (
 .ret ((0:Nat),[],y0.2.1,())) (
 .bd (FH66 y0.2.1) fun y1 =>
 .bd (FH79 y1.2.1 y1.2.2.1 y1.2.2.2.1 y1.2.2.2.2.1) fun y2 =>
 .bd (gH45_0 (y1.1,[],y2.1,y2.2.1,y2.2.2.1,y2.2.2.2.1,())) fun z9 =>
 .bd (FH82 z9.2.1) fun SN =>
 .bd (FH81_v1 SN.1) fun SO =>
 .ret (SO.1,SO.2.1,z9.1,()))
theorem VY:cw prog f45=some ⟨37,1,YL.er,[.t 2],[some (.list .str)]⟩:=by kernel_rfl
noncomputable def abV:Ht:=⟨45,pH45,qH45,(fun x=>ai (FH45 x.1))⟩
theorem Kn:abV.Ok prog:=bE mixed tn rfl func45 VY (enters_of func45 rfl rfl) YL (by kernel_rfl) rfl rfl ⟨_,rfl⟩ rfl (pre:=[0,1]) rfl (fun x=>by kernel_rfl)

/- 17 -/
noncomputable def cx17:Cx:=(aL [ct46,abP,ct27] [ht29,abz,abJ,abN,ht25,abV,ht40,U2])
theorem VZ:cx17.Ok prog:=au ⟨UB,Kg,VQ,trivial⟩ ⟨⟨UQ,rfl⟩,⟨J5,rfl⟩,⟨J9,rfl⟩,⟨Ke,rfl⟩,⟨VP,rfl⟩,⟨Kn,rfl⟩,⟨Vz,rfl⟩,⟨CK,rfl⟩,trivial⟩
noncomputable def dd17:D prog 130 none 0:=dO [] (kd prog f17) 0
noncomputable def F17:bG (Bool×Unit) :=
 .bd (F46) fun y0 =>
 .nd (decide ((0:Int)<=(0:Int))) <|
 .nd (decide ((0:Int)<=(6:Int))) <|
 .nd (decide ((6:Int)<=(((y0.1).length:Nat):Int))) <|
 .bd (FH29 (((y0.1).drop (Int.toNat (0:Int))).take ((Int.toNat (6:Int)) - (Int.toNat (0:Int))))) fun y1 =>
 .bd (F46) fun y2 =>
 .nd (decide ((0:Int)<=(0:Int))) <|
 .nd (decide ((0:Int)<=(7:Int))) <|
 .nd (decide ((7:Int)<=(((y2.1).length:Nat):Int))) <|
 .bd (FH29 (((y2.1).drop (Int.toNat (0:Int))).take ((Int.toNat (7:Int)) - (Int.toNat (0:Int))))) fun y3 =>
 .bd (F46) fun y4 =>
 .bd (FH29 y4.1) fun y5 =>
 .bd (FH33 (bs [116,49]) y1.1) fun y6 =>
 .bd (FH23 (bs [97,110,97]) y6.2.2.2.1) fun y7 =>
 .bd (FH23 (bs [97,110,97]) y3.1) fun y8 =>
 .bd (FH37 y7.2.2.2.1) fun y9 =>
 .bd (FH25 (bs [99,121]) y5.1) fun SN =>
 .br (y6.2.1==(0:Int)) (
 .br (y7.2.1==(0:Int)) (
 .br (y8.2.1==(0:Int)) (
 .br (y9.2.1==(0:Int)) (
 .br (SN.2.1==(0:Int)) (
 .bd (F36 (((y6.2.2.1).drop (0:Nat)).take y6.1) (((((bs [99,50])::((bs [99,51])::[]))).drop (0:Nat)).take (2:Nat))) fun SO =>
 .br SO.1 (
 .bd (F27 (((y7.2.2.1).drop (0:Nat)).take y7.1) (((((0:Int)::((41:Int)::[]))).drop (0:Nat)).take (2:Nat))) fun SQ =>
 .br SQ.1 (
 .bd (F27 (((y8.2.2.1).drop (0:Nat)).take y8.1) (((((41:Int)::[])).drop (0:Nat)).take (1:Nat))) fun Dz =>
 .br Dz.1 (
 .br ((y9.1.1==(65:Int))&&((y9.1.2==(66:Int))&&true)) (
 .br ((SN.1.1==(0:Int))&&((SN.1.2==(40:Int))&&true)) (
 .bd (FH45 y9.2.2.1) fun Rk =>
 .bd (F36 (((Rk.2.1).drop (0:Nat)).take Rk.1) (((((bs [97,110,97])::((bs [98,101,110])::((bs [99,121])::[])))).drop (0:Nat)).take (3:Nat))) fun y15 =>
 .br y15.1 (
 .bd (FH40 (bs [116,49]) (3:Int) Rk.2.2.1) fun y16 =>
 .br y16.1 (
 .bd (FH40 (bs [116,50]) (4:Int) y16.2.1) fun y17 =>
 .br y17.1 (
 .bd (FH40 (bs [99,51]) (5:Int) y17.2.1) fun y18 =>
 .br y18.1 (
 .bd (FH40 (bs [119,49]) (1:Int) y18.2.1) fun y19 =>
 .br y19.1 (
 .bd (FH40 (bs [99,50]) (2:Int) y8.2.2.2.1) fun y20 =>
 .br y20.1 (
 .bd (FH40 (bs [99,51]) (4:Int) y20.2.1) fun y21 =>
 .br y21.1 (
 .bd (FH40 (bs [99,50]) (5:Int) SN.2.2.1) fun y22 =>
 .br y22.1 (
 .bd (FH47 y22.2.1) fun y23 =>
 .ret ((((y23.1:Nat):Int)==(8:Int)),())) (
 .ret (false,()))) (
 .ret (false,()))) (
 .ret (false,()))) (
 .ret (false,()))) (
 .ret (false,()))) (
 .ret (false,()))) (
 .ret (false,()))) (
 .ret (false,()))) (
 .ret (false,()))) (
 .ret (false,()))) (
 .ret (false,()))) (
 .ret (false,()))) (
 .ret (false,()))) (
 .ret (false,()))) (
 .ret (false,()))) (
 .ret (false,()))) (
 .ret (false,()))) (
 .ret (false,()))
theorem abW:cw prog f17=some ⟨130,0,dd17.er,[.t 0],[some .bool]⟩:=by kernel_rfl
noncomputable def ct17:Ct:=⟨17,[],.c (.hole .bool),fun x=>ai (F17)⟩
theorem V0:ct17.Ok prog:=cE mixed VZ func17 abW (enters_of func17 rfl rfl) dd17 (by kernel_rfl) rfl (fun x=>by kernel_rfl)

/- 16 -/
noncomputable def cx16:Cx:=(aL [] [])
theorem Ko:cx16.Ok prog:=au trivial trivial
abbrev agx:av:=av.mk [(0,.c (.hole (.list tG))),(3,hI)] [] [] []
abbrev agy:aU:=[(.ret,av.mk [(2,.c (.tf true))] [] [] []),(.exit 0,av.mk [] [] [] [])]
noncomputable def agz:D prog 35 none 0:=dO [] (pick (kd prog f16) [(0,false)]) 0
noncomputable def g16_0:bJ×Int×Unit->bG ((bJ×Int×Unit) ⊕ ((Unit) ⊕ ((Unit)))):=fun (v0,v3,_) =>
 .br (decide (v3<(((v0).length:Nat):Int))) (
 .nb v3 (((v0).length:Nat):Int) <|
 .br (decide ((60:Int)<((((v0).getD (Int.toNat v3) ((bs []),(0:Int),(bs []),(bs []),(0:Int))).1.size:Nat):Int))) (
 .ret (.inr <| .inl<|())) (
 .nb v3 (((v0).length:Nat):Int) <|
 .br (decide ((60:Int)<((((v0).getD (Int.toNat v3) ((bs []),(0:Int),(bs []),(bs []),(0:Int))).2.2.1.size:Nat):Int))) (
 .ret (.inr <| .inl<|())) (
 .nb v3 (((v0).length:Nat):Int) <|
 .br (decide ((60:Int)<((((v0).getD (Int.toNat v3) ((bs []),(0:Int),(bs []),(bs []),(0:Int))).2.2.2.1.size:Nat):Int))) (
 .ret (.inr <| .inl<|())) (
 .ni (v3+(1:Int)) <|
 .ret (.inl (v0,(v3+(1:Int)),())))))) (
 .ret (.inr <| .inr<|()))
noncomputable def agA:bw prog 35 none 0:=aW mixed cx16 Ko [] rfl agx agy rfl (agz) (fun x=>ai (g16_0 x)) (fun x=>by kernel_rfl)
noncomputable def dd16:D prog 35 none 0:=dO [.l agA] (kd prog f16) 0
noncomputable def F16 (a0:bJ):bG (Bool×Unit) :=
 .bd (.it g16_0 (a0,(0:Int),())) fun z0 =>
 .sm z0 (fun z1 =>
 .ret (true,())) fun z2 =>
 .ret (false,())
theorem abX:cw prog f16=some ⟨35,1,dd16.er,[.t 2],[some .bool]⟩:=by kernel_rfl
noncomputable def ct16:Ct:=⟨16,[.c (.hole (.list tG))],.c (.hole .bool),fun x=>ai (F16 x.1)⟩
theorem V1:ct16.Ok prog:=cE mixed Ko func16 abX (enters_of func16 rfl rfl) dd16 (by kernel_rfl) rfl (fun x=>by kernel_rfl)

/- 19, lent -/
abbrev pH19:av:=av.mk [] [] [] []
abbrev qH19:av:=av.mk [(0,.c (.ptr 0 0))] [(0,.cells [.tf true,.cg] false)] [.slot 0] []
noncomputable def agD:Cx:=(aL [] [])
theorem Ru:agD.Ok prog:=au trivial trivial
noncomputable def YM:D prog 3 none 0:=dO [] (kd prog f19) 0
noncomputable def FH19:bG (Unit) :=
 .ret ()
theorem V2:cw prog f19=some ⟨3,0,YM.er,[.t 0],[none]⟩:=by kernel_rfl
noncomputable def ht19:Ht:=⟨19,pH19,qH19,(fun x=>ai (FH19))⟩
theorem V3:ht19.Ok prog:=bE mixed Ru rfl func19 V2 (enters_of func19 rfl rfl) YM (by kernel_rfl) rfl rfl ⟨_,rfl⟩ rfl (pre:=[]) rfl (fun x=>by kernel_rfl)

/- 90 -/
noncomputable def cx90:Cx:=(aL [] [])
theorem V4:cx90.Ok prog:=au trivial trivial
noncomputable def dd90:D prog 15 none 0:=dO [] (kd prog f90) 0
noncomputable def F90 (a0:Int) (a1:Int) (a2:Int):bG (Bool×Unit) :=
 .br (decide (a1<=a0)) (
 .ret ((decide (a0<=a2)),())) (
 .ret (false,()))
theorem abY:cw prog f90=some ⟨15,3,dd90.er,[.t 6],[some .bool]⟩:=by kernel_rfl
noncomputable def ct90:Ct:=⟨90,[hI,hI,hI],.c (.hole .bool),fun x=>ai (F90 x.1 x.2.1 x.2.2.1)⟩
theorem V5:ct90.Ok prog:=cE mixed V4 func90 abY (enters_of func90 rfl rfl) dd90 (by kernel_rfl) rfl (fun x=>by kernel_rfl)

/- 69 -/
noncomputable def cx69:Cx:=(aL [] [])
theorem Kq:cx69.Ok prog:=au trivial trivial
abbrev agI:av:=av.mk [(0,.c (.hole .str)),(3,hI)] [] [] []
abbrev agJ:aU:=[(.ret,av.mk [(2,.c (.tf false))] [] [] []),(.exit 0,av.mk [] [] [] [])]
noncomputable def agK:D prog 50 none 0:=dO [] (pick (kd prog f69) [(0,false)]) 0
noncomputable def g69_0:ByteArray×Int×Unit->bG ((ByteArray×Int×Unit) ⊕ ((Unit) ⊕ ((Unit)))):=fun (v0,v3,_) =>
 .br (decide (v3<((v0.size:Nat):Int))) (
 .nb v3 ((v0.size:Nat):Int) <|
 .br (decide ((97:Int)<=(tQ v0 (Int.toNat v3)))) (
 .nb v3 ((v0.size:Nat):Int) <|
 .nb v3 ((v0.size:Nat):Int) <|
 .br (decide ((48:Int)<=(tQ v0 (Int.toNat v3)))) (
 .nb v3 ((v0.size:Nat):Int) <|
 .br (!(decide ((tQ v0 (Int.toNat v3))<=(122:Int)))) (
 .br (!(decide ((tQ v0 (Int.toNat v3))<=(57:Int)))) (
 .ret (.inr <| .inl<|())) (
 .br (v3==(0:Int)) (
 .ret (.inr <| .inl<|())) (
 .ni (v3+(1:Int)) <|
 .ret (.inl (v0,(v3+(1:Int)),()))))) (
 .ni (v3+(1:Int)) <|
 .ret (.inl (v0,(v3+(1:Int)),())))) (
 .br (!(decide ((tQ v0 (Int.toNat v3))<=(122:Int)))) (
 .ret (.inr <| .inl<|())) (
 .ni (v3+(1:Int)) <|
 .ret (.inl (v0,(v3+(1:Int)),()))))) (
 .nb v3 ((v0.size:Nat):Int) <|
 .br (decide ((48:Int)<=(tQ v0 (Int.toNat v3)))) (
 .nb v3 ((v0.size:Nat):Int) <|
 .br (!(decide ((tQ v0 (Int.toNat v3))<=(57:Int)))) (
 .ret (.inr <| .inl<|())) (
 .br (v3==(0:Int)) (
 .ret (.inr <| .inl<|())) (
 .ni (v3+(1:Int)) <|
 .ret (.inl (v0,(v3+(1:Int)),()))))) (
 .ret (.inr <| .inl<|())))) (
 .ret (.inr <| .inr<|()))
noncomputable def agL:bw prog 50 none 0:=aW mixed cx69 Kq [] rfl agI agJ rfl (agK) (fun x=>ai (g69_0 x)) (fun x=>by kernel_rfl)
noncomputable def dd69:D prog 50 none 0:=dO [.l agL] (kd prog f69) 0
noncomputable def F69 (a0:ByteArray):bG (Bool×Unit) :=
 .br (((a0.size:Nat):Int)==(0:Int)) (
 .ret (false,())) (
 .br (decide ((10:Int)<((a0.size:Nat):Int))) (
 .ret (false,())) (
 .bd (.it g69_0 (a0,(0:Int),())) fun z0 =>
 .sm z0 (fun z1 =>
 .ret (false,())) fun z2 =>
 .ret (true,())))
theorem abZ:cw prog f69=some ⟨50,1,dd69.er,[.t 2],[some .bool]⟩:=by kernel_rfl
noncomputable def ct69:Ct:=⟨69,[.c (.hole .str)],.c (.hole .bool),fun x=>ai (F69 x.1)⟩
theorem V6:ct69.Ok prog:=cE mixed Kq func69 abZ (enters_of func69 rfl rfl) dd69 (by kernel_rfl) rfl (fun x=>by kernel_rfl)

/- 58 -/
noncomputable def cx58:Cx:=(aL [ct90,ct69] [])
theorem V7:cx58.Ok prog:=au ⟨V5,V6,trivial⟩ trivial
noncomputable def dd58:D prog 45 none 0:=dO [] (kd prog f58) 0
noncomputable def F58 (a0:GG):bG (Int×Unit) :=
 .bd (F90 a0.2.1 (1:Int) (3:Int)) fun y0 =>
 .br (!y0.1) (
 .ret ((18:Int),())) (
 .bd (F69 a0.1) fun y1 =>
 .br (!y1.1) (
 .ret ((8:Int),())) (
 .jx (
 .br (a0.2.1==(1:Int)) (
 .br (!(seq a0.2.2.1 (bs []))) (
 .ret (.inr ((22:Int),()))) (
 .ret (.inl (a0.1,a0.2.1,a0.2.2.1,a0.2.2.2.1,a0.2.2.2.2,())))) (
 .bd (F69 a0.2.2.1) fun y4 =>
 .br (!y4.1) (
 .ret (.inr ((8:Int),()))) (
 .br (seq a0.2.2.1 a0.1) (
 .ret (.inr ((22:Int),()))) (
 .ret (.inl (a0.1,a0.2.1,a0.2.2.1,a0.2.2.2.1,a0.2.2.2.2,())))))) fun j3 =>
 .br (j3.2.1==(3:Int)) (
 .br (!(seq j3.2.2.2.1 (bs []))) (
 .ret ((22:Int),())) (
 .br (!(j3.2.2.2.2.1==(0:Int))) (
 .ret ((22:Int),())) (
 .ret ((0:Int),())))) (
 .bd (F69 j3.2.2.2.1) fun y5 =>
 .br (!y5.1) (
 .ret ((8:Int),())) (
 .bd (F90 j3.2.2.2.2.1 (-1000:Int) (1000:Int)) fun y6 =>
 .br (!y6.1) (
 .ret ((2:Int),())) (
 .ret ((0:Int),()))))))
theorem ab0:cw prog f58=some ⟨45,1,dd58.er,[.t 2],[some tI]⟩:=by kernel_rfl
noncomputable def ct58:Ct:=⟨58,[.c (.hole tG)],hI,fun x=>ai (F58 x.1)⟩
theorem V8:ct58.Ok prog:=cE mixed V7 func58 ab0 (enters_of func58 rfl rfl) dd58 (by kernel_rfl) rfl (fun x=>Eq.trans (b:=ai (flat (F58 x.1))) (by kernel_rfl) yF)

/- 91 -/
noncomputable def cx91:Cx:=(aL [] [])
theorem V9:cx91.Ok prog:=au trivial trivial
noncomputable def dd91:D prog 54 none 0:=dO [] (kd prog f91) 0
noncomputable def F91 (a0:GG) (a1:GG):bG (Bool×Unit) :=
 .br (!(seq a0.1 a1.1)) (
 .ret ((slt a0.1 a1.1),())) (
 .br (!(a0.2.1==a1.2.1)) (
 .ret ((decide (a0.2.1<a1.2.1)),())) (
 .br (!(seq a0.2.2.1 a1.2.2.1)) (
 .ret ((slt a0.2.2.1 a1.2.2.1),())) (
 .br (!(seq a0.2.2.2.1 a1.2.2.2.1)) (
 .ret ((slt a0.2.2.2.1 a1.2.2.2.1),())) (
 .ret ((decide (a0.2.2.2.2<a1.2.2.2.2)),())))))
theorem ab1:cw prog f91=some ⟨54,2,dd91.er,[.t 4],[some .bool]⟩:=by kernel_rfl
noncomputable def ct91:Ct:=⟨91,[.c (.hole tG),.c (.hole tG)],.c (.hole .bool),fun x=>ai (F91 x.1 x.2.1)⟩
theorem Wa:ct91.Ok prog:=cE mixed V9 func91 ab1 (enters_of func91 rfl rfl) dd91 (by kernel_rfl) rfl (fun x=>by kernel_rfl)

/- 59 -/
noncomputable def cx59:Cx:=(aL [ct91] [])
theorem Kr:cx59.Ok prog:=au ⟨Wa,trivial⟩ trivial
abbrev agT:av:=av.mk [(0,.c (.hole (.list tG))),(3,.c (.ptr 0 0)),(5,hI)] [(0,.cells [.hole .str,.hole tI,.hole .str,.hole .str,.hole tI] false)] [.slot 3] []
abbrev agU:aU:=[(.exit 0,av.mk [(0,.c (.hole (.list tG))),(3,.c (.ptr 0 0)),(5,hI)] [(0,.cells [.hole .str,.hole tI,.hole .str,.hole .str,.hole tI] false)] [.slot 3] [])]
noncomputable def agV:D prog 45 none 0:=dO [] (pick (kd prog f59) [(0,false)]) 0
noncomputable def g59_0:bJ×Int×ByteArray×Int×ByteArray×ByteArray×Int×Unit->bG ((bJ×Int×ByteArray×Int×ByteArray×ByteArray×Int×Unit) ⊕ ((bJ×Int×ByteArray×Int×ByteArray×ByteArray×Int×Unit))):=fun (v0,v5,Wb,fC,Wc,Wd,We,_) =>
 .br (decide (v5<(((v0).length:Nat):Int))) (
 .nb v5 (((v0).length:Nat):Int) <|
 .bd (F91 (((v0).getD (Int.toNat v5) ((bs []),(0:Int),(bs []),(bs []),(0:Int))).1,((v0).getD (Int.toNat v5) ((bs []),(0:Int),(bs []),(bs []),(0:Int))).2.1,((v0).getD (Int.toNat v5) ((bs []),(0:Int),(bs []),(bs []),(0:Int))).2.2.1,((v0).getD (Int.toNat v5) ((bs []),(0:Int),(bs []),(bs []),(0:Int))).2.2.2.1,((v0).getD (Int.toNat v5) ((bs []),(0:Int),(bs []),(bs []),(0:Int))).2.2.2.2) (Wb,fC,Wc,Wd,We)) fun y0 =>
 .br y0.1 (
 .ni (v5+(1:Int)) <|
 .ret (.inl (v0,(v5+(1:Int)),Wb,fC,Wc,Wd,We,()))) (
 .ret (.inr (v0,v5,Wb,fC,Wc,Wd,We,())))) (
 .ret (.inr (v0,v5,Wb,fC,Wc,Wd,We,())))
noncomputable def agW:bw prog 45 none 0:=aW mixed cx59 Kr [] rfl agT agU rfl (agV) (fun x=>ai (g59_0 x)) (fun x=>by kernel_rfl)
noncomputable def dd59:D prog 45 none 0:=dO [.l agW] (kd prog f59) 0
noncomputable def F59 (a0:bJ) (a1:GG):bG (bJ×Unit) :=
 .bd (.it g59_0 (a0,(0:Int),a1.1,a1.2.1,a1.2.2.1,a1.2.2.2.1,a1.2.2.2.2,())) fun z1 =>
 .br (decide (z1.2.1<(((z1.1).length:Nat):Int))) (
 .nb z1.2.1 (((z1.1).length:Nat):Int) <|
 .br ((seq ((z1.1).getD (Int.toNat z1.2.1) ((bs []),(0:Int),(bs []),(bs []),(0:Int))).1 z1.2.2.1)&&((((z1.1).getD (Int.toNat z1.2.1) ((bs []),(0:Int),(bs []),(bs []),(0:Int))).2.1==z1.2.2.2.1)&&((seq ((z1.1).getD (Int.toNat z1.2.1) ((bs []),(0:Int),(bs []),(bs []),(0:Int))).2.2.1 z1.2.2.2.2.1)&&((seq ((z1.1).getD (Int.toNat z1.2.1) ((bs []),(0:Int),(bs []),(bs []),(0:Int))).2.2.2.1 z1.2.2.2.2.2.1)&&((((z1.1).getD (Int.toNat z1.2.1) ((bs []),(0:Int),(bs []),(bs []),(0:Int))).2.2.2.2==z1.2.2.2.2.2.2.1)&&true))))) (
 .ret (z1.1,())) (
 .nd (decide ((0:Int)<=(0:Int))) <|
 .nd (decide ((0:Int)<=z1.2.1)) <|
 .nd (decide (z1.2.1<=(((z1.1).length:Nat):Int))) <|
 .nd (decide (((0:Nat)+((((z1.1).drop (Int.toNat (0:Int))).take ((Int.toNat z1.2.1) - (Int.toNat (0:Int))))).length)<bp)) <|
 .nd (decide ((((0:Nat)+((((z1.1).drop (Int.toNat (0:Int))).take ((Int.toNat z1.2.1) - (Int.toNat (0:Int))))).length)+((((((z1.2.2.1,z1.2.2.2.1,z1.2.2.2.2.1,z1.2.2.2.2.2.1,z1.2.2.2.2.2.2.1)::[])).drop (0:Nat)).take (1:Nat))).length)<bp)) <|
 .nd (decide ((0:Int)<=z1.2.1)) <|
 .nd (decide (z1.2.1<=(((z1.1).length:Nat):Int))) <|
 .nd (decide ((((z1.1).length:Nat):Int)<=(((z1.1).length:Nat):Int))) <|
 .nd (decide (((((0:Nat)+((((z1.1).drop (Int.toNat (0:Int))).take ((Int.toNat z1.2.1) - (Int.toNat (0:Int))))).length)+((((((z1.2.2.1,z1.2.2.2.1,z1.2.2.2.2.1,z1.2.2.2.2.2.1,z1.2.2.2.2.2.2.1)::[])).drop (0:Nat)).take (1:Nat))).length)+((((z1.1).drop (Int.toNat z1.2.1)).take ((Int.toNat (((z1.1).length:Nat):Int)) - (Int.toNat z1.2.1)))).length)<bp)) <|
 .ret (((((((((((((((([]).drop (0:Nat)).take (0:Nat))++(((z1.1).drop (Int.toNat (0:Int))).take ((Int.toNat z1.2.1) - (Int.toNat (0:Int)))))).drop (0:Nat)).take ((0:Nat)+((((z1.1).drop (Int.toNat (0:Int))).take ((Int.toNat z1.2.1) - (Int.toNat (0:Int))))).length))++(((((z1.2.2.1,z1.2.2.2.1,z1.2.2.2.2.1,z1.2.2.2.2.2.1,z1.2.2.2.2.2.2.1)::[])).drop (0:Nat)).take (1:Nat)))).drop (0:Nat)).take (((0:Nat)+((((z1.1).drop (Int.toNat (0:Int))).take ((Int.toNat z1.2.1) - (Int.toNat (0:Int))))).length)+((((((z1.2.2.1,z1.2.2.2.1,z1.2.2.2.2.1,z1.2.2.2.2.2.1,z1.2.2.2.2.2.2.1)::[])).drop (0:Nat)).take (1:Nat))).length))++(((z1.1).drop (Int.toNat z1.2.1)).take ((Int.toNat (((z1.1).length:Nat):Int)) - (Int.toNat z1.2.1))))).drop (0:Nat)).take ((((0:Nat)+((((z1.1).drop (Int.toNat (0:Int))).take ((Int.toNat z1.2.1) - (Int.toNat (0:Int))))).length)+((((((z1.2.2.1,z1.2.2.2.1,z1.2.2.2.2.1,z1.2.2.2.2.2.1,z1.2.2.2.2.2.2.1)::[])).drop (0:Nat)).take (1:Nat))).length)+((((z1.1).drop (Int.toNat z1.2.1)).take ((Int.toNat (((z1.1).length:Nat):Int)) - (Int.toNat z1.2.1)))).length)),()))) (
 .nd (decide ((0:Int)<=(0:Int))) <|
 .nd (decide ((0:Int)<=z1.2.1)) <|
 .nd (decide (z1.2.1<=(((z1.1).length:Nat):Int))) <|
 .nd (decide (((0:Nat)+((((z1.1).drop (Int.toNat (0:Int))).take ((Int.toNat z1.2.1) - (Int.toNat (0:Int))))).length)<bp)) <|
 .nd (decide ((((0:Nat)+((((z1.1).drop (Int.toNat (0:Int))).take ((Int.toNat z1.2.1) - (Int.toNat (0:Int))))).length)+((((((z1.2.2.1,z1.2.2.2.1,z1.2.2.2.2.1,z1.2.2.2.2.2.1,z1.2.2.2.2.2.2.1)::[])).drop (0:Nat)).take (1:Nat))).length)<bp)) <|
 .nd (decide ((0:Int)<=z1.2.1)) <|
 .nd (decide (z1.2.1<=(((z1.1).length:Nat):Int))) <|
 .nd (decide ((((z1.1).length:Nat):Int)<=(((z1.1).length:Nat):Int))) <|
 .nd (decide (((((0:Nat)+((((z1.1).drop (Int.toNat (0:Int))).take ((Int.toNat z1.2.1) - (Int.toNat (0:Int))))).length)+((((((z1.2.2.1,z1.2.2.2.1,z1.2.2.2.2.1,z1.2.2.2.2.2.1,z1.2.2.2.2.2.2.1)::[])).drop (0:Nat)).take (1:Nat))).length)+((((z1.1).drop (Int.toNat z1.2.1)).take ((Int.toNat (((z1.1).length:Nat):Int)) - (Int.toNat z1.2.1)))).length)<bp)) <|
 .ret (((((((((((((((([]).drop (0:Nat)).take (0:Nat))++(((z1.1).drop (Int.toNat (0:Int))).take ((Int.toNat z1.2.1) - (Int.toNat (0:Int)))))).drop (0:Nat)).take ((0:Nat)+((((z1.1).drop (Int.toNat (0:Int))).take ((Int.toNat z1.2.1) - (Int.toNat (0:Int))))).length))++(((((z1.2.2.1,z1.2.2.2.1,z1.2.2.2.2.1,z1.2.2.2.2.2.1,z1.2.2.2.2.2.2.1)::[])).drop (0:Nat)).take (1:Nat)))).drop (0:Nat)).take (((0:Nat)+((((z1.1).drop (Int.toNat (0:Int))).take ((Int.toNat z1.2.1) - (Int.toNat (0:Int))))).length)+((((((z1.2.2.1,z1.2.2.2.1,z1.2.2.2.2.1,z1.2.2.2.2.2.1,z1.2.2.2.2.2.2.1)::[])).drop (0:Nat)).take (1:Nat))).length))++(((z1.1).drop (Int.toNat z1.2.1)).take ((Int.toNat (((z1.1).length:Nat):Int)) - (Int.toNat z1.2.1))))).drop (0:Nat)).take ((((0:Nat)+((((z1.1).drop (Int.toNat (0:Int))).take ((Int.toNat z1.2.1) - (Int.toNat (0:Int))))).length)+((((((z1.2.2.1,z1.2.2.2.1,z1.2.2.2.2.1,z1.2.2.2.2.2.1,z1.2.2.2.2.2.2.1)::[])).drop (0:Nat)).take (1:Nat))).length)+((((z1.1).drop (Int.toNat z1.2.1)).take ((Int.toNat (((z1.1).length:Nat):Int)) - (Int.toNat z1.2.1)))).length)),()))
theorem ab2:cw prog f59=some ⟨45,2,dd59.er,[.t 4],[some (.list tG)]⟩:=by kernel_rfl
noncomputable def ct59:Ct:=⟨59,[.c (.hole (.list tG)),.c (.hole tG)],.c (.hole (.list tG)),fun x=>ai (F59 x.1 x.2.1)⟩
theorem Wg:ct59.Ok prog:=cE mixed Kr func59 ab2 (enters_of func59 rfl rfl) dd59 (by kernel_rfl) rfl (fun x=>by kernel_rfl)

/- 71 -/
noncomputable def cx71:Cx:=(aL [] [])
theorem Ks:cx71.Ok prog:=au trivial trivial
abbrev ag0:av:=av.mk [(0,.c (.hole (.list tG))),(3,.c (.bH 0 tG)),(4,hI)] [(0,.arr tG false)] [.slot 3] []
abbrev ag1:aU:=[(.exit 0,av.mk [(3,.c (.bH 0 tG))] [(0,.arr tG false)] [.slot 3] [])]
noncomputable def ag2:D prog 35 none 0:=dO [] (pick (kd prog f71) [(0,false)]) 0
noncomputable def g71_0:bJ×Nat×Int×bJ×Unit->bG ((bJ×Nat×Int×bJ×Unit) ⊕ ((Nat×bJ×Unit))):=fun (v0,gu,v4,b0,_) =>
 .br (decide (v4<(((v0).length:Nat):Int))) (
 .br (v4==(0:Int)) (
 .nb v4 (((v0).length:Nat):Int) <|
 .nd (decide ((gu+((((((((v0).getD (Int.toNat v4) ((bs []),(0:Int),(bs []),(bs []),(0:Int))).1,((v0).getD (Int.toNat v4) ((bs []),(0:Int),(bs []),(bs []),(0:Int))).2.1,((v0).getD (Int.toNat v4) ((bs []),(0:Int),(bs []),(bs []),(0:Int))).2.2.1,((v0).getD (Int.toNat v4) ((bs []),(0:Int),(bs []),(bs []),(0:Int))).2.2.2.1,((v0).getD (Int.toNat v4) ((bs []),(0:Int),(bs []),(bs []),(0:Int))).2.2.2.2)::[])).drop (0:Nat)).take (1:Nat))).length)<bp)) <|
 .ni (v4+(1:Int)) <|
 .ret (.inl (v0,(gu+((((((((v0).getD (Int.toNat v4) ((bs []),(0:Int),(bs []),(bs []),(0:Int))).1,((v0).getD (Int.toNat v4) ((bs []),(0:Int),(bs []),(bs []),(0:Int))).2.1,((v0).getD (Int.toNat v4) ((bs []),(0:Int),(bs []),(bs []),(0:Int))).2.2.1,((v0).getD (Int.toNat v4) ((bs []),(0:Int),(bs []),(bs []),(0:Int))).2.2.2.1,((v0).getD (Int.toNat v4) ((bs []),(0:Int),(bs []),(bs []),(0:Int))).2.2.2.2)::[])).drop (0:Nat)).take (1:Nat))).length),(v4+(1:Int)),((((b0).drop (0:Nat)).take gu)++(((((((v0).getD (Int.toNat v4) ((bs []),(0:Int),(bs []),(bs []),(0:Int))).1,((v0).getD (Int.toNat v4) ((bs []),(0:Int),(bs []),(bs []),(0:Int))).2.1,((v0).getD (Int.toNat v4) ((bs []),(0:Int),(bs []),(bs []),(0:Int))).2.2.1,((v0).getD (Int.toNat v4) ((bs []),(0:Int),(bs []),(bs []),(0:Int))).2.2.2.1,((v0).getD (Int.toNat v4) ((bs []),(0:Int),(bs []),(bs []),(0:Int))).2.2.2.2)::[])).drop (0:Nat)).take (1:Nat))),()))) (
 .nb v4 (((v0).length:Nat):Int) <|
 .ni (v4 - (1:Int)) <|
 .nb (v4 - (1:Int)) (((v0).length:Nat):Int) <|
 .br (!(seq ((v0).getD (Int.toNat v4) ((bs []),(0:Int),(bs []),(bs []),(0:Int))).1 ((v0).getD (Int.toNat (v4 - (1:Int))) ((bs []),(0:Int),(bs []),(bs []),(0:Int))).1)) (
 .nb v4 (((v0).length:Nat):Int) <|
 .nd (decide ((gu+((((((((v0).getD (Int.toNat v4) ((bs []),(0:Int),(bs []),(bs []),(0:Int))).1,((v0).getD (Int.toNat v4) ((bs []),(0:Int),(bs []),(bs []),(0:Int))).2.1,((v0).getD (Int.toNat v4) ((bs []),(0:Int),(bs []),(bs []),(0:Int))).2.2.1,((v0).getD (Int.toNat v4) ((bs []),(0:Int),(bs []),(bs []),(0:Int))).2.2.2.1,((v0).getD (Int.toNat v4) ((bs []),(0:Int),(bs []),(bs []),(0:Int))).2.2.2.2)::[])).drop (0:Nat)).take (1:Nat))).length)<bp)) <|
 .ni (v4+(1:Int)) <|
 .ret (.inl (v0,(gu+((((((((v0).getD (Int.toNat v4) ((bs []),(0:Int),(bs []),(bs []),(0:Int))).1,((v0).getD (Int.toNat v4) ((bs []),(0:Int),(bs []),(bs []),(0:Int))).2.1,((v0).getD (Int.toNat v4) ((bs []),(0:Int),(bs []),(bs []),(0:Int))).2.2.1,((v0).getD (Int.toNat v4) ((bs []),(0:Int),(bs []),(bs []),(0:Int))).2.2.2.1,((v0).getD (Int.toNat v4) ((bs []),(0:Int),(bs []),(bs []),(0:Int))).2.2.2.2)::[])).drop (0:Nat)).take (1:Nat))).length),(v4+(1:Int)),((((b0).drop (0:Nat)).take gu)++(((((((v0).getD (Int.toNat v4) ((bs []),(0:Int),(bs []),(bs []),(0:Int))).1,((v0).getD (Int.toNat v4) ((bs []),(0:Int),(bs []),(bs []),(0:Int))).2.1,((v0).getD (Int.toNat v4) ((bs []),(0:Int),(bs []),(bs []),(0:Int))).2.2.1,((v0).getD (Int.toNat v4) ((bs []),(0:Int),(bs []),(bs []),(0:Int))).2.2.2.1,((v0).getD (Int.toNat v4) ((bs []),(0:Int),(bs []),(bs []),(0:Int))).2.2.2.2)::[])).drop (0:Nat)).take (1:Nat))),()))) (
 .ni (v4+(1:Int)) <|
 .ret (.inl (v0,gu,(v4+(1:Int)),b0,()))))) (
 .ret (.inr (gu,b0,())))
noncomputable def ag3:bw prog 35 none 0:=aW mixed cx71 Ks [] rfl ag0 ag1 rfl (ag2) (fun x=>ai (g71_0 x)) (fun x=>by kernel_rfl)
noncomputable def dd71:D prog 35 none 0:=dO [.l ag3] (kd prog f71) 0
noncomputable def F71 (a0:bJ):bG (bJ×Unit) :=
 .bd (.it g71_0 (a0,(0:Nat),(0:Int),[],())) fun z0 =>
 .ret ((((z0.2.1).drop (0:Nat)).take z0.1),())
theorem ab3:cw prog f71=some ⟨35,1,dd71.er,[.t 2],[some (.list tG)]⟩:=by kernel_rfl
noncomputable def Rv:Ct:=⟨71,[.c (.hole (.list tG))],.c (.hole (.list tG)),fun x=>ai (F71 x.1)⟩
theorem wL:Rv.Ok prog:=cE mixed Ks func71 ab3 (enters_of func71 rfl rfl) dd71 (by kernel_rfl) rfl (fun x=>by kernel_rfl)

/- 116 -/
noncomputable def YN:Cx:=(aL [] [])
theorem Fz:YN.Ok prog:=au trivial trivial
abbrev ab4:av:=av.mk [(0,.c (.hole (.list tG))),(1,.c (.hole .str)),(5,hI)] [] [] []
abbrev ab5:aU:=[(.ret,av.mk [(4,.c (.tf true))] [] [] []),(.exit 0,av.mk [] [] [] [])]
noncomputable def ab6:D prog 27 none 0:=dO [] (pick (kd prog f116) [(0,false)]) 0
noncomputable def g116_0:bJ×ByteArray×Int×Unit->bG ((bJ×ByteArray×Int×Unit) ⊕ ((Unit) ⊕ ((Unit)))):=fun (v0,v1,v5,_) =>
 .br (decide (v5<(((v0).length:Nat):Int))) (
 .nb v5 (((v0).length:Nat):Int) <|
 .br (seq ((v0).getD (Int.toNat v5) ((bs []),(0:Int),(bs []),(bs []),(0:Int))).1 v1) (
 .nb v5 (((v0).length:Nat):Int) <|
 .br (!(((v0).getD (Int.toNat v5) ((bs []),(0:Int),(bs []),(bs []),(0:Int))).2.1==(3:Int))) (
 .ret (.inr <| .inl<|())) (
 .ni (v5+(1:Int)) <|
 .ret (.inl (v0,v1,(v5+(1:Int)),())))) (
 .ni (v5+(1:Int)) <|
 .ret (.inl (v0,v1,(v5+(1:Int)),())))) (
 .ret (.inr <| .inr<|()))
noncomputable def ab7:bw prog 27 none 0:=aW mixed YN Fz [] rfl ab4 ab5 rfl (ab6) (fun x=>ai (g116_0 x)) (fun x=>by kernel_rfl)
noncomputable def YO:D prog 27 none 0:=dO [.l ab7] (kd prog f116) 0
noncomputable def F116 (a0:bJ) (a1:ByteArray):bG (Bool×Unit) :=
 .bd (.it g116_0 (a0,a1,(0:Int),())) fun z0 =>
 .sm z0 (fun z1 =>
 .ret (true,())) fun z2 =>
 .ret (false,())
theorem Wh:cw prog f116=some ⟨27,2,YO.er,[.t 4],[some .bool]⟩:=by kernel_rfl
noncomputable def YP:Ct:=⟨116,[.c (.hole (.list tG)),.c (.hole .str)],.c (.hole .bool),fun x=>ai (F116 x.1 x.2.1)⟩
theorem Rw:YP.Ok prog:=cE mixed Fz func116 Wh (enters_of func116 rfl rfl) YO (by kernel_rfl) rfl (fun x=>by kernel_rfl)

/- 117 -/
noncomputable def YQ:Cx:=(aL [] [])
theorem FA:YQ.Ok prog:=au trivial trivial
abbrev ab8:av:=av.mk [(0,.c (.hole (.list tG))),(1,.c (.hole .str)),(5,hI)] [] [] []
abbrev ab9:aU:=[(.ret,av.mk [(4,.c (.tf true))] [] [] []),(.exit 0,av.mk [] [] [] [])]
noncomputable def acd:D prog 27 none 0:=dO [] (pick (kd prog f117) [(0,false)]) 0
noncomputable def g117_0:bJ×ByteArray×Int×Unit->bG ((bJ×ByteArray×Int×Unit) ⊕ ((Unit) ⊕ ((Unit)))):=fun (v0,v1,v5,_) =>
 .br (decide (v5<(((v0).length:Nat):Int))) (
 .nb v5 (((v0).length:Nat):Int) <|
 .br (((v0).getD (Int.toNat v5) ((bs []),(0:Int),(bs []),(bs []),(0:Int))).2.1==(3:Int)) (
 .nb v5 (((v0).length:Nat):Int) <|
 .br (seq ((v0).getD (Int.toNat v5) ((bs []),(0:Int),(bs []),(bs []),(0:Int))).2.2.1 v1) (
 .ret (.inr <| .inl<|())) (
 .ni (v5+(1:Int)) <|
 .ret (.inl (v0,v1,(v5+(1:Int)),())))) (
 .ni (v5+(1:Int)) <|
 .ret (.inl (v0,v1,(v5+(1:Int)),())))) (
 .ret (.inr <| .inr<|()))
noncomputable def ace:bw prog 27 none 0:=aW mixed YQ FA [] rfl ab8 ab9 rfl (acd) (fun x=>ai (g117_0 x)) (fun x=>by kernel_rfl)
noncomputable def YR:D prog 27 none 0:=dO [.l ace] (kd prog f117) 0
noncomputable def F117 (a0:bJ) (a1:ByteArray):bG (Bool×Unit) :=
 .bd (.it g117_0 (a0,a1,(0:Int),())) fun z0 =>
 .sm z0 (fun z1 =>
 .ret (true,())) fun z2 =>
 .ret (false,())
theorem Wi:cw prog f117=some ⟨27,2,YR.er,[.t 4],[some .bool]⟩:=by kernel_rfl
noncomputable def YS:Ct:=⟨117,[.c (.hole (.list tG)),.c (.hole .str)],.c (.hole .bool),fun x=>ai (F117 x.1 x.2.1)⟩
theorem Rx:YS.Ok prog:=cE mixed FA func117 Wi (enters_of func117 rfl rfl) YR (by kernel_rfl) rfl (fun x=>by kernel_rfl)

/- 94, lent -/
abbrev lq:av:=av.mk [(0,.c (.hole (.list tG))),(1,.c (.bH 0 tI)),(2,hI)] [(0,.arr tI false)] [.slot 1] []
abbrev lu:av:=av.mk [(0,.c (.bH 1 tI))] [(1,.arr tI false),(0,.arr tI false)] [.slot 0] []
noncomputable def Ry (rec:lq.T->Option lu.T):Cx:=(aL [] [⟨94,lq,lu,rec⟩])
theorem FB (rec:lq.T->Option lu.T) (h:Ht.Ok prog ⟨94,lq,lu,rec⟩):(Ry rec).Ok prog:=au trivial ⟨⟨h,rfl⟩,trivial⟩
abbrev Ic:av:=av.mk [(0,.c (.hole (.list tG))),(1,.c (.bH 0 tI)),(2,hI),(7,.c (.bH 1 tI)),(8,hI)] [(0,.arr tI false),(1,.arr tI false)] [.slot 7] []
abbrev Ie:aU:=[(.exit 0,av.mk [(7,.c (.bH 1 tI))] [(1,.arr tI false),(0,.arr tI false)] [.slot 7] [])]
noncomputable def Rz (rec:lq.T->Option lu.T) (h:Ht.Ok prog ⟨94,lq,lu,rec⟩):D prog 62 none 1:=dO [] (pick (kd prog f94) [(0,false)]) 0
noncomputable def gH94_0:bJ×Nat×Int×Nat×Int×List Int×List Int×Unit->Tr lq.T lu.T ((bJ×Nat×Int×Nat×Int×List Int×List Int×Unit) ⊕ ((Nat×List Int×List Int×Unit))):=fun (v0,NH,v2,C4,v8,b0,b1,_) =>
 .br (decide (v8<(((v0).length:Nat):Int))) (
 .nb v8 (((v0).length:Nat):Int) <|
 .br (((v0).getD (Int.toNat v8) ((bs []),(0:Int),(bs []),(bs []),(0:Int))).2.1==(2:Int)) (
 .nb v8 (((v0).length:Nat):Int) <|
 .nb v2 (((v0).length:Nat):Int) <|
 .br (seq ((v0).getD (Int.toNat v8) ((bs []),(0:Int),(bs []),(bs []),(0:Int))).2.2.1 ((v0).getD (Int.toNat v2) ((bs []),(0:Int),(bs []),(bs []),(0:Int))).1) (
 .nb v8 ((NH:Nat):Int) <|
 .nd (decide (((0:Nat)+(Int.toNat v8))<(b0).length)) <|
 .br (decide ((2:Int)<((b0).getD ((0:Nat)+(Int.toNat v8)) (0:Int)))) (
 .bd (.rc (v0,NH,v8,b0,())) fun y0 =>
 .nd (decide ((C4+((((y0.2.1).drop (0:Nat)).take y0.1)).length)<bp)) <|
 .ni (v8+(1:Int)) <|
 .ret (.inl (v0,NH,v2,(C4+((((y0.2.1).drop (0:Nat)).take y0.1)).length),(v8+(1:Int)),y0.2.2.1,((((b1).drop (0:Nat)).take C4)++(((y0.2.1).drop (0:Nat)).take y0.1)),()))) (
 .ni (v8+(1:Int)) <|
 .ret (.inl (v0,NH,v2,C4,(v8+(1:Int)),b0,b1,())))) (
 .ni (v8+(1:Int)) <|
 .ret (.inl (v0,NH,v2,C4,(v8+(1:Int)),b0,b1,())))) (
 .ni (v8+(1:Int)) <|
 .ret (.inl (v0,NH,v2,C4,(v8+(1:Int)),b0,b1,())))) (
 .ret (.inr (C4,b1,b0,())))
theorem acf (rec:lq.T->Option lu.T) (h:Ht.Ok prog ⟨94,lq,lu,rec⟩):∀x,oV (iK (Ic.T ⊕ Ie.T)) (Ry rec) eu [0] Ic Ie (Rz rec h) (fun y=>some (.inl y)) (fun b=>some (.inr b)) x=run rec (gH94_0 x):=fun x=>by kernel_rfl
noncomputable def acg (rec:lq.T->Option lu.T) (h:Ht.Ok prog ⟨94,lq,lu,rec⟩):bw prog 62 none 1:=aW mixed (Ry rec) (FB rec h) [0] rfl Ic Ie rfl (Rz rec h) (fun x=>run rec (gH94_0 x)) (acf rec h)
noncomputable def YT (rec:lq.T->Option lu.T) (h:Ht.Ok prog ⟨94,lq,lu,rec⟩):D prog 62 none 1:=dO [.l (acg rec h)] (kd prog f94) 0
noncomputable def FH94 (v0:bJ) (NH:Nat) (v2:Int) (b0:List Int):Tr lq.T lu.T (Nat×List Int×List Int×Unit) :=
 .nb v2 ((NH:Nat):Int) <|
 .nd (decide (((0:Nat)+(Int.toNat v2))<(b0).length)) <|
 .br (((b0).getD ((0:Nat)+(Int.toNat v2)) (0:Int))==(4:Int)) (
 .ret ((1:Nat),(v2::[]),b0,())) (
 .nb v2 ((NH:Nat):Int) <|
 .nd (decide (((0:Nat)+(Int.toNat v2))<(b0).length)) <|
 .br (((b0).getD ((0:Nat)+(Int.toNat v2)) (0:Int))==(5:Int)) (
 .ret ((1:Nat),(v2::[]),b0,())) (
 .bd (.it gH94_0 (v0,NH,v2,(0:Nat),(0:Int),b0,[],())) fun z1 =>
 .ret (z1.1,z1.2.1,z1.2.2.1,())))
theorem Wj (rec:lq.T->Option lu.T) (h:Ht.Ok prog ⟨94,lq,lu,rec⟩):cw prog f94=some ⟨62,3,(YT rec h).er,[.t 6],[some tL]⟩:=by kernel_rfl
theorem MR (rec:lq.T->Option lu.T) (h:Ht.Ok prog ⟨94,lq,lu,rec⟩):Ht.Ok prog ⟨94,lq,lu,(fun x=>run rec (FH94 x.1 x.2.1 x.2.2.1 x.2.2.2.1))⟩:=bE mixed (FB rec h) rfl func94 (Wj rec h) (enters_of func94 rfl rfl) (YT rec h) (by kernel_rfl) rfl rfl ⟨_,rfl⟩ rfl (pre:=[0]) rfl (fun x=>by kernel_rfl)
noncomputable def FH94fix (v0:bJ) (NH:Nat) (v2:Int) (b0:List Int):bG (Nat×List Int×List Int×Unit):=.fx (A1:=lq.T) (B1:=lu.T) (fun x=>FH94 x.1 x.2.1 x.2.2.1 x.2.2.2.1) (v0,NH,v2,b0,())
noncomputable def ht94:Ht:=⟨94,lq,lu,fun x=>ai (FH94fix x.1 x.2.1 x.2.2.1 x.2.2.2.1)⟩
theorem Wk:ht94.Ok prog:=CA (F:=fun rec x=>run rec (FH94 x.1 x.2.1 x.2.2.1 x.2.2.2.1)) (fun rec h=>MR rec h)

/- 92 -/
noncomputable def vV:Cx:=(aL [YP,YS] [ht94])
theorem iz:vV.Ok prog:=au ⟨Rw,Rx,trivial⟩ ⟨⟨Wk,rfl⟩,trivial⟩
abbrev ag6:av:=av.mk [(0,.c (.hole (.list tG))),(3,.c (.bH 0 tI)),(4,hI)] [(0,.arr tI false)] [.slot 3] []
abbrev ag7:aU:=[(.exit 0,av.mk [(0,.c (.hole (.list tG))),(3,.c (.bH 0 tI))] [(0,.arr tI false)] [.slot 3] [])]
noncomputable def ag8:D prog 294 none 0:=dO [] (pick (kd prog f92) [(0,false)]) 0
noncomputable def g92_0:bJ×Nat×Int×List Int×Unit->bG ((bJ×Nat×Int×List Int×Unit) ⊕ ((bJ×Nat×List Int×Unit))):=fun (v0,gu,v4,b0,_) =>
 .br (decide (v4<(((v0).length:Nat):Int))) (
 .nb v4 ((gu:Nat):Int) <|
 .nd (decide (((0:Nat)+(Int.toNat v4))<(b0).length)) <|
 .ni (v4+(1:Int)) <|
 .ret (.inl (v0,gu,(v4+(1:Int)),((b0).set ((0:Nat)+(Int.toNat v4)) (1:Int)),()))) (
 .ret (.inr (v0,gu,b0,())))
noncomputable def ag9:bw prog 294 none 0:=aW mixed vV iz [] rfl ag6 ag7 rfl (ag8) (fun x=>ai (g92_0 x)) (fun x=>by kernel_rfl)
abbrev aha:av:=av.mk [(0,.c (.hole (.list tG))),(3,.c (.bH 0 tI)),(5,hI),(6,hI),(7,hI),(42,.c (.hole (.list tG))),(43,.c (.hole (.list tG))),(44,hI),(47,.c (.hole .str)),(48,.c (.hole .bool)),(49,.c (.hole .bool))] [(0,.arr tI false)] [.slot 3] []
abbrev ahb:aU:=[(.exit 4,av.mk [(0,.c (.hole (.list tG))),(3,.c (.bH 0 tI)),(5,hI),(6,hI),(42,.c (.hole (.list tG))),(43,.c (.hole (.list tG))),(44,hI),(47,.c (.hole .str)),(48,.c (.hole .bool)),(49,.c (.hole .bool))] [(0,.arr tI false)] [.slot 3] [])]
noncomputable def ahc:D prog 294 none 0:=dO [] (pick (kd prog f92) [(1,false),(0,false)]) 0
noncomputable def g92_2:bJ×Nat×Int×Int×Int×bJ×bJ×Int×ByteArray×Bool×Bool×List Int×Unit->bG ((bJ×Nat×Int×Int×Int×bJ×bJ×Int×ByteArray×Bool×Bool×List Int×Unit) ⊕ ((bJ×Nat×Int×Int×bJ×bJ×Int×ByteArray×Bool×Bool×List Int×Unit))):=fun (v0,gu,v5,v6,v7,RA,RB,v44,RC,RD,v49,b0,_) =>
 .br (decide (v7<(((v0).length:Nat):Int))) (
 .br (!(v7==v5)) (
 .nb v7 (((v0).length:Nat):Int) <|
 .br (((v0).getD (Int.toNat v7) ((bs []),(0:Int),(bs []),(bs []),(0:Int))).2.1==(2:Int)) (
 .nb v7 (((v0).length:Nat):Int) <|
 .nb v5 (((v0).length:Nat):Int) <|
 .br (seq ((v0).getD (Int.toNat v7) ((bs []),(0:Int),(bs []),(bs []),(0:Int))).2.2.1 ((v0).getD (Int.toNat v5) ((bs []),(0:Int),(bs []),(bs []),(0:Int))).2.2.1) (
 .nb v7 (((v0).length:Nat):Int) <|
 .bd (F117 v0 ((v0).getD (Int.toNat v7) ((bs []),(0:Int),(bs []),(bs []),(0:Int))).1) fun y2 =>
 .br y2.1 (
 .ni (v6+(1:Int)) <|
 .ni (v7+(1:Int)) <|
 .ret (.inl (v0,gu,v5,(v6+(1:Int)),(v7+(1:Int)),RA,RB,v44,RC,RD,v49,b0,()))) (
 .ni (v7+(1:Int)) <|
 .ret (.inl (v0,gu,v5,v6,(v7+(1:Int)),RA,RB,v44,RC,RD,v49,b0,())))) (
 .ni (v7+(1:Int)) <|
 .ret (.inl (v0,gu,v5,v6,(v7+(1:Int)),RA,RB,v44,RC,RD,v49,b0,())))) (
 .ni (v7+(1:Int)) <|
 .ret (.inl (v0,gu,v5,v6,(v7+(1:Int)),RA,RB,v44,RC,RD,v49,b0,())))) (
 .ni (v7+(1:Int)) <|
 .ret (.inl (v0,gu,v5,v6,(v7+(1:Int)),RA,RB,v44,RC,RD,v49,b0,())))) (
 .ret (.inr (v0,gu,v5,v6,RA,RB,v44,RC,RD,v49,b0,())))
noncomputable def ahd:bw prog 294 none 0:=aW mixed vV iz [] rfl aha ahb rfl (ahc) (fun x=>ai (g92_2 x)) (fun x=>by kernel_rfl)
abbrev ahe:av:=av.mk [(0,.c (.hole (.list tG))),(3,.c (.bH 0 tI)),(5,hI)] [(0,.arr tI false)] [.slot 3] []
abbrev ahf:aU:=[(.exit 2,av.mk [(0,.c (.hole (.list tG))),(3,.c (.bH 0 tI))] [(0,.arr tI false)] [.slot 3] [])]
noncomputable def ahg:D prog 294 none 0:=dO [.l ahd] (pick (kd prog f92) [(1,false)]) 0
noncomputable def g92_1:bJ×Nat×Int×List Int×Unit->bG ((bJ×Nat×Int×List Int×Unit) ⊕ ((bJ×Nat×List Int×Unit))):=fun (v0,gu,v5,b0,_) =>
 .br (decide (v5<(((v0).length:Nat):Int))) (
 .nb v5 (((v0).length:Nat):Int) <|
 .br (!(((v0).getD (Int.toNat v5) ((bs []),(0:Int),(bs []),(bs []),(0:Int))).2.1==(2:Int))) (
 .ni (v5+(1:Int)) <|
 .ret (.inl (v0,gu,(v5+(1:Int)),b0,()))) (
 .nb v5 (((v0).length:Nat):Int) <|
 .bd (F116 v0 ((v0).getD (Int.toNat v5) ((bs []),(0:Int),(bs []),(bs []),(0:Int))).2.2.1) fun y1 =>
 .br (!y1.1) (
 .ni (v5+(1:Int)) <|
 .ret (.inl (v0,gu,(v5+(1:Int)),b0,()))) (
 .bd (.it g92_2 (v0,gu,v5,(0:Int),(0:Int),v0,v0,v5,((v0).getD (Int.toNat v5) ((bs []),(0:Int),(bs []),(bs []),(0:Int))).2.2.1,y1.1,(!y1.1),b0,())) fun z3 =>
 .br (z3.2.2.2.1==(1:Int)) (
 .nb z3.2.2.1 (((z3.1).length:Nat):Int) <|
 .bd (F117 z3.1 ((z3.1).getD (Int.toNat z3.2.2.1) ((bs []),(0:Int),(bs []),(bs []),(0:Int))).1) fun y4 =>
 .br (!y4.1) (
 .nb z3.2.2.1 ((z3.2.1:Nat):Int) <|
 .nd (decide (((0:Nat)+(Int.toNat z3.2.2.1))<(z3.2.2.2.2.2.2.2.2.2.2.1).length)) <|
 .ni (z3.2.2.1+(1:Int)) <|
 .ret (.inl (z3.1,z3.2.1,(z3.2.2.1+(1:Int)),((z3.2.2.2.2.2.2.2.2.2.2.1).set ((0:Nat)+(Int.toNat z3.2.2.1)) (2:Int)),()))) (
 .ni (z3.2.2.1+(1:Int)) <|
 .ret (.inl (z3.1,z3.2.1,(z3.2.2.1+(1:Int)),z3.2.2.2.2.2.2.2.2.2.2.1,())))) (
 .ni (z3.2.2.1+(1:Int)) <|
 .ret (.inl (z3.1,z3.2.1,(z3.2.2.1+(1:Int)),z3.2.2.2.2.2.2.2.2.2.2.1,())))))) (
 .ret (.inr (v0,gu,b0,())))
noncomputable def ahh:bw prog 294 none 0:=aW mixed vV iz [] rfl ahe ahf rfl (ahg) (fun x=>ai (g92_1 x)) (fun x=>by kernel_rfl)
abbrev RE:av:=av.mk [(0,.c (.hole (.list tG))),(3,.c (.bH 0 tI)),(8,.c (.bH 1 .bool)),(9,hI),(10,hI),(11,hI)] [(0,.arr tI false),(1,.arr .bool false)] [.slot 3,.slot 8] []
abbrev RG:aU:=[(.exit 10,av.mk [(0,.c (.hole (.list tG))),(3,.c (.bH 0 tI)),(8,.c (.bH 1 .bool)),(9,hI),(10,hI)] [(0,.arr tI false),(1,.arr .bool false)] [.slot 3,.slot 8] [])]
noncomputable def YU:D prog 294 none 0:=dO [] (pick (kd prog f92) [(2,false),(0,false),(0,false)]) 0
noncomputable def g92_5:bJ×Nat×Nat×Int×Int×Int×List Int×List Bool×Unit->bG ((bJ×Nat×Nat×Int×Int×Int×List Int×List Bool×Unit) ⊕ ((bJ×Nat×Nat×Int×Int×List Int×List Bool×Unit))):=fun (v0,gu,mA,v9,v10,v11,b0,b1,_) =>
 .br (decide (v11<(((v0).length:Nat):Int))) (
 .nb v10 (((v0).length:Nat):Int) <|
 .br (!(((v0).getD (Int.toNat v10) ((bs []),(0:Int),(bs []),(bs []),(0:Int))).2.1==(2:Int))) (
 .ni (v11+(1:Int)) <|
 .ret (.inl (v0,gu,mA,v9,v10,(v11+(1:Int)),b0,b1,()))) (
 .nb v11 (((v0).length:Nat):Int) <|
 .br (((v0).getD (Int.toNat v11) ((bs []),(0:Int),(bs []),(bs []),(0:Int))).2.1==(3:Int)) (
 .ni (v11+(1:Int)) <|
 .ret (.inl (v0,gu,mA,v9,v10,(v11+(1:Int)),b0,b1,()))) (
 .nb v11 (((v0).length:Nat):Int) <|
 .nb v10 (((v0).length:Nat):Int) <|
 .br (!(seq ((v0).getD (Int.toNat v11) ((bs []),(0:Int),(bs []),(bs []),(0:Int))).1 ((v0).getD (Int.toNat v10) ((bs []),(0:Int),(bs []),(bs []),(0:Int))).2.2.1)) (
 .ni (v11+(1:Int)) <|
 .ret (.inl (v0,gu,mA,v9,v10,(v11+(1:Int)),b0,b1,()))) (
 .jx (
 .nb v11 ((gu:Nat):Int) <|
 .nd (decide (((0:Nat)+(Int.toNat v11))<(b0).length)) <|
 .br (((b0).getD ((0:Nat)+(Int.toNat v11)) (0:Int))==(2:Int)) (
 .nb v10 ((gu:Nat):Int) <|
 .nd (decide (((0:Nat)+(Int.toNat v10))<(b0).length)) <|
 .ret (.inl (v0,gu,mA,v9,v10,v11,v0,v11,((v0).getD (Int.toNat v11) ((bs []),(0:Int),(bs []),(bs []),(0:Int))).2.1,(((v0).getD (Int.toNat v11) ((bs []),(0:Int),(bs []),(bs []),(0:Int))).2.1==(3:Int)),v0,v11,((v0).getD (Int.toNat v11) ((bs []),(0:Int),(bs []),(bs []),(0:Int))).1,v0,v10,((v0).getD (Int.toNat v10) ((bs []),(0:Int),(bs []),(bs []),(0:Int))).2.2.1,(!(seq ((v0).getD (Int.toNat v11) ((bs []),(0:Int),(bs []),(bs []),(0:Int))).1 ((v0).getD (Int.toNat v10) ((bs []),(0:Int),(bs []),(bs []),(0:Int))).2.2.1)),((b0).set ((0:Nat)+(Int.toNat v10)) (2:Int)),b1,()))) (
 .ret (.inl (v0,gu,mA,v9,v10,v11,v0,v11,((v0).getD (Int.toNat v11) ((bs []),(0:Int),(bs []),(bs []),(0:Int))).2.1,(((v0).getD (Int.toNat v11) ((bs []),(0:Int),(bs []),(bs []),(0:Int))).2.1==(3:Int)),v0,v11,((v0).getD (Int.toNat v11) ((bs []),(0:Int),(bs []),(bs []),(0:Int))).1,v0,v10,((v0).getD (Int.toNat v10) ((bs []),(0:Int),(bs []),(bs []),(0:Int))).2.2.1,(!(seq ((v0).getD (Int.toNat v11) ((bs []),(0:Int),(bs []),(bs []),(0:Int))).1 ((v0).getD (Int.toNat v10) ((bs []),(0:Int),(bs []),(bs []),(0:Int))).2.2.1)),b0,b1,())))) fun j6 =>
 .nb j6.2.2.2.2.1 ((j6.2.2.1:Nat):Int) <|
 .nd (decide (((0:Nat)+(Int.toNat j6.2.2.2.2.1))<(j6.2.2.2.2.2.2.2.2.2.2.2.2.2.2.2.2.2.2.1).length)) <|
 .br ((j6.2.2.2.2.2.2.2.2.2.2.2.2.2.2.2.2.2.2.1).getD ((0:Nat)+(Int.toNat j6.2.2.2.2.1)) false) (
 .nb j6.2.2.2.2.1 ((j6.2.2.1:Nat):Int) <|
 .nd (decide (((0:Nat)+(Int.toNat j6.2.2.2.2.1))<(j6.2.2.2.2.2.2.2.2.2.2.2.2.2.2.2.2.2.2.1).length)) <|
 .ni (j6.2.2.2.2.2.1+(1:Int)) <|
 .ret (.inl (j6.1,j6.2.1,j6.2.2.1,j6.2.2.2.1,j6.2.2.2.2.1,(j6.2.2.2.2.2.1+(1:Int)),j6.2.2.2.2.2.2.2.2.2.2.2.2.2.2.2.2.2.1,((j6.2.2.2.2.2.2.2.2.2.2.2.2.2.2.2.2.2.2.1).set ((0:Nat)+(Int.toNat j6.2.2.2.2.1)) true),()))) (
 .nb j6.2.2.2.2.2.1 ((j6.2.2.1:Nat):Int) <|
 .nd (decide (((0:Nat)+(Int.toNat j6.2.2.2.2.2.1))<(j6.2.2.2.2.2.2.2.2.2.2.2.2.2.2.2.2.2.2.1).length)) <|
 .br ((j6.2.2.2.2.2.2.2.2.2.2.2.2.2.2.2.2.2.2.1).getD ((0:Nat)+(Int.toNat j6.2.2.2.2.2.1)) false) (
 .nb j6.2.2.2.2.1 ((j6.2.1:Nat):Int) <|
 .nd (decide (((0:Nat)+(Int.toNat j6.2.2.2.2.1))<(j6.2.2.2.2.2.2.2.2.2.2.2.2.2.2.2.2.2.1).length)) <|
 .nb j6.2.2.2.2.1 ((j6.2.2.1:Nat):Int) <|
 .nd (decide (((0:Nat)+(Int.toNat j6.2.2.2.2.1))<(j6.2.2.2.2.2.2.2.2.2.2.2.2.2.2.2.2.2.2.1).length)) <|
 .ni (j6.2.2.2.2.2.1+(1:Int)) <|
 .ret (.inl (j6.1,j6.2.1,j6.2.2.1,j6.2.2.2.1,j6.2.2.2.2.1,(j6.2.2.2.2.2.1+(1:Int)),j6.2.2.2.2.2.2.2.2.2.2.2.2.2.2.2.2.2.1,((j6.2.2.2.2.2.2.2.2.2.2.2.2.2.2.2.2.2.2.1).set ((0:Nat)+(Int.toNat j6.2.2.2.2.1)) (!(((j6.2.2.2.2.2.2.2.2.2.2.2.2.2.2.2.2.2.1).getD ((0:Nat)+(Int.toNat j6.2.2.2.2.1)) (0:Int))==(2:Int)))),()))) (
 .nb j6.2.2.2.2.1 ((j6.2.2.1:Nat):Int) <|
 .nd (decide (((0:Nat)+(Int.toNat j6.2.2.2.2.1))<(j6.2.2.2.2.2.2.2.2.2.2.2.2.2.2.2.2.2.2.1).length)) <|
 .ni (j6.2.2.2.2.2.1+(1:Int)) <|
 .ret (.inl (j6.1,j6.2.1,j6.2.2.1,j6.2.2.2.1,j6.2.2.2.2.1,(j6.2.2.2.2.2.1+(1:Int)),j6.2.2.2.2.2.2.2.2.2.2.2.2.2.2.2.2.2.1,((j6.2.2.2.2.2.2.2.2.2.2.2.2.2.2.2.2.2.2.1).set ((0:Nat)+(Int.toNat j6.2.2.2.2.1)) false),())))))))) (
 .ret (.inr (v0,gu,mA,v9,v10,b0,b1,())))
theorem ahi:∀x,oV (iK (RE.T ⊕ RG.T)) vV eu [] RE RG (YU) (fun y=>some (.inl y)) (fun b=>some (.inr b)) x=ai (g92_5 x):=fun x=>Eq.trans (b:=ai (flat (g92_5 x))) (by kernel_rfl) yF
noncomputable def ahj:bw prog 294 none 0:=aW mixed vV iz [] rfl RE RG rfl (YU) (fun x=>ai (g92_5 x)) (ahi)
abbrev ahk:av:=av.mk [(0,.c (.hole (.list tG))),(3,.c (.bH 0 tI)),(8,.c (.bH 1 .bool)),(9,hI),(10,hI)] [(0,.arr tI false),(1,.arr .bool false)] [.slot 3,.slot 8] []
abbrev ahl:aU:=[(.exit 8,av.mk [(0,.c (.hole (.list tG))),(3,.c (.bH 0 tI)),(8,.c (.bH 1 .bool)),(9,hI)] [(0,.arr tI false),(1,.arr .bool false)] [.slot 3,.slot 8] [])]
noncomputable def ahm:D prog 294 none 0:=dO [.l ahj] (pick (kd prog f92) [(2,false),(0,false)]) 0
noncomputable def g92_4:bJ×Nat×Nat×Int×Int×List Int×List Bool×Unit->bG ((bJ×Nat×Nat×Int×Int×List Int×List Bool×Unit) ⊕ ((bJ×Nat×Nat×Int×List Int×List Bool×Unit))):=fun (v0,gu,mA,v9,v10,b0,b1,_) =>
 .br (decide (v10<(((v0).length:Nat):Int))) (
 .nb v10 ((mA:Nat):Int) <|
 .nd (decide (((0:Nat)+(Int.toNat v10))<(b1).length)) <|
 .br ((b1).getD ((0:Nat)+(Int.toNat v10)) false) (
 .nb v10 ((mA:Nat):Int) <|
 .nd (decide (((0:Nat)+(Int.toNat v10))<(b1).length)) <|
 .bd (.it g92_5 (v0,gu,mA,v9,v10,(0:Int),b0,((b1).set ((0:Nat)+(Int.toNat v10)) true),())) fun z7 =>
 .ni (z7.2.2.2.2.1+(1:Int)) <|
 .ret (.inl (z7.1,z7.2.1,z7.2.2.1,z7.2.2.2.1,(z7.2.2.2.2.1+(1:Int)),z7.2.2.2.2.2.1,z7.2.2.2.2.2.2.1,()))) (
 .nb v10 (((v0).length:Nat):Int) <|
 .nb v10 ((mA:Nat):Int) <|
 .nd (decide (((0:Nat)+(Int.toNat v10))<(b1).length)) <|
 .bd (.it g92_5 (v0,gu,mA,v9,v10,(0:Int),b0,((b1).set ((0:Nat)+(Int.toNat v10)) (((v0).getD (Int.toNat v10) ((bs []),(0:Int),(bs []),(bs []),(0:Int))).2.1==(1:Int))),())) fun z8 =>
 .ni (z8.2.2.2.2.1+(1:Int)) <|
 .ret (.inl (z8.1,z8.2.1,z8.2.2.1,z8.2.2.2.1,(z8.2.2.2.2.1+(1:Int)),z8.2.2.2.2.2.1,z8.2.2.2.2.2.2.1,())))) (
 .ret (.inr (v0,gu,mA,v9,b0,b1,())))
noncomputable def ahn:bw prog 294 none 0:=aW mixed vV iz [] rfl ahk ahl rfl (ahm) (fun x=>ai (g92_4 x)) (fun x=>by kernel_rfl)
abbrev aho:av:=av.mk [(0,.c (.hole (.list tG))),(3,.c (.bH 0 tI)),(8,.c (.bH 1 .bool)),(9,hI)] [(0,.arr tI false),(1,.arr .bool false)] [.slot 3,.slot 8] []
abbrev ahp:aU:=[(.exit 6,av.mk [(0,.c (.hole (.list tG))),(3,.c (.bH 0 tI)),(8,.c (.bH 1 .bool))] [(0,.arr tI false),(1,.arr .bool false)] [.slot 3,.slot 8] [])]
noncomputable def ahq:D prog 294 none 0:=dO [.l ahn] (pick (kd prog f92) [(2,false)]) 0
noncomputable def g92_3:bJ×Nat×Nat×Int×List Int×List Bool×Unit->bG ((bJ×Nat×Nat×Int×List Int×List Bool×Unit) ⊕ ((bJ×Nat×Nat×List Int×List Bool×Unit))):=fun (v0,gu,mA,v9,b0,b1,_) =>
 .br (decide (v9<=(((v0).length:Nat):Int))) (
 .bd (.it g92_4 (v0,gu,mA,v9,(0:Int),b0,b1,())) fun z9 =>
 .ni (z9.2.2.2.1+(1:Int)) <|
 .ret (.inl (z9.1,z9.2.1,z9.2.2.1,(z9.2.2.2.1+(1:Int)),z9.2.2.2.2.1,z9.2.2.2.2.2.1,()))) (
 .ret (.inr (v0,gu,mA,b0,b1,())))
noncomputable def ahr:bw prog 294 none 0:=aW mixed vV iz [] rfl aho ahp rfl (ahq) (fun x=>ai (g92_3 x)) (fun x=>by kernel_rfl)
abbrev ahs:av:=av.mk [(0,.c (.hole (.list tG))),(3,.c (.bH 0 tI)),(8,.c (.bH 1 .bool)),(12,hI),(13,hI),(210,.c (.bH 0 tI)),(211,hI),(213,hI),(214,.c (.hole .bool))] [(0,.arr tI false),(1,.arr .bool false)] [.slot 3,.slot 8] []
abbrev aht:aU:=[(.exit 14,av.mk [(0,.c (.hole (.list tG))),(3,.c (.bH 0 tI)),(8,.c (.bH 1 .bool)),(12,hI),(210,.c (.bH 0 tI)),(211,hI),(213,hI),(214,.c (.hole .bool))] [(0,.arr tI false),(1,.arr .bool false)] [.slot 3,.slot 8] [])]
noncomputable def ahu:D prog 294 none 0:=dO [] (pick (kd prog f92) [(3,false),(0,false)]) 0
noncomputable def g92_7:bJ×Nat×Nat×Int×Int×Nat×Int×Int×Bool×List Int×List Bool×Unit->bG ((bJ×Nat×Nat×Int×Int×Nat×Int×Int×Bool×List Int×List Bool×Unit) ⊕ ((bJ×Nat×Nat×Int×Nat×Int×Int×Bool×List Int×List Bool×Unit))):=fun (v0,gu,mA,v12,Al,Bq,uH,uI,uJ,b0,b1,_) =>
 .br (decide (Al<(((v0).length:Nat):Int))) (
 .nb Al ((mA:Nat):Int) <|
 .nd (decide (((0:Nat)+(Int.toNat Al))<(b1).length)) <|
 .br ((b1).getD ((0:Nat)+(Int.toNat Al)) false) (
 .nb Al ((gu:Nat):Int) <|
 .nd (decide (((0:Nat)+(Int.toNat Al))<(b0).length)) <|
 .br (!(((b0).getD ((0:Nat)+(Int.toNat Al)) (0:Int))==(2:Int))) (
 .nb Al (((v0).length:Nat):Int) <|
 .br (((v0).getD (Int.toNat Al) ((bs []),(0:Int),(bs []),(bs []),(0:Int))).2.1==(2:Int)) (
 .nb Al (((v0).length:Nat):Int) <|
 .nb v12 (((v0).length:Nat):Int) <|
 .br (seq ((v0).getD (Int.toNat Al) ((bs []),(0:Int),(bs []),(bs []),(0:Int))).2.2.1 ((v0).getD (Int.toNat v12) ((bs []),(0:Int),(bs []),(bs []),(0:Int))).1) (
 .nb v12 ((gu:Nat):Int) <|
 .nd (decide (((0:Nat)+(Int.toNat v12))<(b0).length)) <|
 .ni (Al+(1:Int)) <|
 .ret (.inl (v0,gu,mA,v12,(Al+(1:Int)),Bq,uH,uI,uJ,((b0).set ((0:Nat)+(Int.toNat v12)) (3:Int)),b1,()))) (
 .ni (Al+(1:Int)) <|
 .ret (.inl (v0,gu,mA,v12,(Al+(1:Int)),Bq,uH,uI,uJ,b0,b1,())))) (
 .ni (Al+(1:Int)) <|
 .ret (.inl (v0,gu,mA,v12,(Al+(1:Int)),Bq,uH,uI,uJ,b0,b1,())))) (
 .ni (Al+(1:Int)) <|
 .ret (.inl (v0,gu,mA,v12,(Al+(1:Int)),Bq,uH,uI,uJ,b0,b1,())))) (
 .ni (Al+(1:Int)) <|
 .ret (.inl (v0,gu,mA,v12,(Al+(1:Int)),Bq,uH,uI,uJ,b0,b1,())))) (
 .ret (.inr (v0,gu,mA,v12,Bq,uH,uI,uJ,b0,b1,())))
noncomputable def ahv:bw prog 294 none 0:=aW mixed vV iz [] rfl ahs aht rfl (ahu) (fun x=>ai (g92_7 x)) (fun x=>by kernel_rfl)
abbrev ahw:av:=av.mk [(0,.c (.hole (.list tG))),(3,.c (.bH 0 tI)),(8,.c (.bH 1 .bool)),(12,hI)] [(0,.arr tI false),(1,.arr .bool false)] [.slot 3,.slot 8] []
abbrev ahx:aU:=[(.exit 12,av.mk [(0,.c (.hole (.list tG))),(3,.c (.bH 0 tI))] [(0,.arr tI false)] [.slot 3] [])]
noncomputable def ahy:D prog 294 none 0:=dO [.l ahv] (pick (kd prog f92) [(3,false)]) 0
noncomputable def g92_6:bJ×Nat×Nat×Int×List Int×List Bool×Unit->bG ((bJ×Nat×Nat×Int×List Int×List Bool×Unit) ⊕ ((bJ×Nat×List Int×Unit))):=fun (v0,gu,mA,v12,b0,b1,_) =>
 .br (decide (v12<(((v0).length:Nat):Int))) (
 .nb v12 ((mA:Nat):Int) <|
 .nd (decide (((0:Nat)+(Int.toNat v12))<(b1).length)) <|
 .br (!((b1).getD ((0:Nat)+(Int.toNat v12)) false)) (
 .ni (v12+(1:Int)) <|
 .ret (.inl (v0,gu,mA,(v12+(1:Int)),b0,b1,()))) (
 .nb v12 ((gu:Nat):Int) <|
 .nd (decide (((0:Nat)+(Int.toNat v12))<(b0).length)) <|
 .br (((b0).getD ((0:Nat)+(Int.toNat v12)) (0:Int))==(2:Int)) (
 .ni (v12+(1:Int)) <|
 .ret (.inl (v0,gu,mA,(v12+(1:Int)),b0,b1,()))) (
 .nb v12 ((gu:Nat):Int) <|
 .nd (decide (((0:Nat)+(Int.toNat v12))<(b0).length)) <|
 .bd (.it g92_7 (v0,gu,mA,v12,(0:Int),gu,v12,((b0).getD ((0:Nat)+(Int.toNat v12)) (0:Int)),(((b0).getD ((0:Nat)+(Int.toNat v12)) (0:Int))==(2:Int)),((b0).set ((0:Nat)+(Int.toNat v12)) (4:Int)),b1,())) fun Bp =>
 .ni (Bp.2.2.2.1+(1:Int)) <|
 .ret (.inl (Bp.1,Bp.2.1,Bp.2.2.1,(Bp.2.2.2.1+(1:Int)),Bp.2.2.2.2.2.2.2.2.1,Bp.2.2.2.2.2.2.2.2.2.1,()))))) (
 .ret (.inr (v0,gu,b0,())))
noncomputable def ahz:bw prog 294 none 0:=aW mixed vV iz [] rfl ahw ahx rfl (ahy) (fun x=>ai (g92_6 x)) (fun x=>by kernel_rfl)
abbrev ahA:av:=av.mk [(0,.c (.hole (.list tG))),(3,.c (.bH 0 tI)),(14,hI),(15,.c (.bH 1 tI)),(16,hI)] [(0,.arr tI false),(1,.arr tI false)] [.slot 3,.slot 15] []
abbrev ahB:aU:=[(.exit 18,av.mk [(0,.c (.hole (.list tG))),(3,.c (.bH 0 tI)),(14,hI)] [(0,.arr tI false)] [.slot 3] [])]
noncomputable def ahC:D prog 294 none 0:=dO [] (pick (kd prog f92) [(4,false),(0,false)]) 0
noncomputable def g92_9:bJ×Nat×Int×Nat×Int×List Int×List Int×Unit->bG ((bJ×Nat×Int×Nat×Int×List Int×List Int×Unit) ⊕ ((bJ×Nat×Int×List Int×Unit))):=fun (v0,gu,oz,Wl,CI,b0,b1,_) =>
 .br (decide (CI<((Wl:Nat):Int))) (
 .br (decide ((1:Int)<((Wl:Nat):Int))) (
 .nb CI ((Wl:Nat):Int) <|
 .nd (decide (((0:Nat)+(Int.toNat CI))<(b1).length)) <|
 .nb ((b1).getD ((0:Nat)+(Int.toNat CI)) (0:Int)) ((gu:Nat):Int) <|
 .nd (decide (((0:Nat)+(Int.toNat ((b1).getD ((0:Nat)+(Int.toNat CI)) (0:Int))))<(b0).length)) <|
 .ni (CI+(1:Int)) <|
 .ret (.inl (v0,gu,oz,Wl,(CI+(1:Int)),((b0).set ((0:Nat)+(Int.toNat ((b1).getD ((0:Nat)+(Int.toNat CI)) (0:Int)))) (5:Int)),b1,()))) (
 .ret (.inr (v0,gu,oz,b0,())))) (
 .ret (.inr (v0,gu,oz,b0,())))
noncomputable def ahD:bw prog 294 none 0:=aW mixed vV iz [] rfl ahA ahB rfl (ahC) (fun x=>ai (g92_9 x)) (fun x=>by kernel_rfl)
abbrev ahE:av:=av.mk [(0,.c (.hole (.list tG))),(3,.c (.bH 0 tI)),(14,hI)] [(0,.arr tI false)] [.slot 3] []
abbrev ahF:aU:=[(.exit 16,av.mk [(3,.c (.bH 0 tI))] [(0,.arr tI false)] [.slot 3] [])]
noncomputable def ahG:D prog 294 none 0:=dO [.l ahD] (pick (kd prog f92) [(4,false)]) 0
noncomputable def g92_8:bJ×Nat×Int×List Int×Unit->bG ((bJ×Nat×Int×List Int×Unit) ⊕ ((Nat×List Int×Unit))):=fun (v0,gu,oz,b0,_) =>
 .br (decide (oz<(((v0).length:Nat):Int))) (
 .nb oz (((v0).length:Nat):Int) <|
 .br (!(((v0).getD (Int.toNat oz) ((bs []),(0:Int),(bs []),(bs []),(0:Int))).2.1==(1:Int))) (
 .ni (oz+(1:Int)) <|
 .ret (.inl (v0,gu,(oz+(1:Int)),b0,()))) (
 .bd (FH94fix v0 gu oz b0) fun Dz =>
 .bd (.it g92_9 (v0,gu,oz,Dz.1,(0:Int),Dz.2.2.1,Dz.2.1,())) fun Wm =>
 .ni (Wm.2.2.1+(1:Int)) <|
 .ret (.inl (Wm.1,Wm.2.1,(Wm.2.2.1+(1:Int)),Wm.2.2.2.1,())))) (
 .ret (.inr (gu,b0,())))
noncomputable def ahH:bw prog 294 none 0:=aW mixed vV iz [] rfl ahE ahF rfl (ahG) (fun x=>ai (g92_8 x)) (fun x=>by kernel_rfl)
noncomputable def dd92:D prog 294 none 0:=dO [.l ag9,.l ahh,.l ahr,.l ahz,.l ahH] (kd prog f92) 0
noncomputable def F92 (a0:bJ):bG (List Int×Unit) :=
 .nb (((a0).length:Nat):Int) ((bp:Nat):Int) <|
 .bd (.it g92_0 (a0,(Int.toNat (((a0).length:Nat):Int)),(0:Int),(List.replicate (Int.toNat (((a0).length:Nat):Int)) (0:Int)),())) fun z0 =>
 .bd (.it g92_1 (z0.1,z0.2.1,(0:Int),z0.2.2.1,())) fun z5 =>
 .nb (((z5.1).length:Nat):Int) ((bp:Nat):Int) <|
 .bd (.it g92_3 (z5.1,z5.2.1,(Int.toNat (((z5.1).length:Nat):Int)),(0:Int),z5.2.2.1,(List.replicate (Int.toNat (((z5.1).length:Nat):Int)) false),())) fun wK =>
 .bd (.it g92_6 (wK.1,wK.2.1,wK.2.2.1,(0:Int),wK.2.2.2.1,wK.2.2.2.2.1,())) fun z12 =>
 .bd (.it g92_8 (z12.1,z12.2.1,(0:Int),z12.2.2.1,())) fun z15 =>
 .ret ((((z15.2.1).drop (0:Nat)).take z15.1),())
theorem ach:cw prog f92=some ⟨294,1,dd92.er,[.t 2],[some tL]⟩:=by kernel_rfl
noncomputable def RH:Ct:=⟨92,[.c (.hole (.list tG))],hL,fun x=>ai (F92 x.1)⟩
theorem wM:RH.Ok prog:=cE mixed iz func92 ach (enters_of func92 rfl rfl) dd92 (by kernel_rfl) rfl (fun x=>by kernel_rfl)

end Go.Proofs.Tryz

