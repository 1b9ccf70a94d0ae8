/- Functions of the program as functions of data, part 1; printed by a program of mine. -/
import Derived.Test.YthemjfloiapaaaaGreatP13
import Derived.Test.YthemjfloiapaaaaGreatProg
set_option linter.unusedSectionVars false
set_option linter.unusedVariables false
set_option linter.unusedSimpArgs false
open Go.AM
namespace Go.Proofs.Tryz
set_option maxRecDepth 100000
set_option synthInstance.maxSize 4000
set_option synthInstance.maxHeartbeats 400000
set_option synthInstance.maxSize 4000
set_option synthInstance.maxHeartbeats 400000
theorem mixed : prog.follows .mixedOrders = true := by kernel_rfl
abbrev tG : Ty := .prod .str (.prod tI (.prod .str (.prod .str tI)))
abbrev GG := ByteArray × Int × ByteArray × ByteArray × Int
abbrev bP : BP := .map .str false .bool false
abbrev eZ : BP := .map .str false (.list .str) false
abbrev eo : BP := .map .str false tG true
abbrev dy : BP := .map tG true .bool false
abbrev nF : BP := .map tI false .unit true
abbrev cB := List (GG × Bool)
abbrev bg := List (ByteArray × Bool)
abbrev cT := List (ByteArray × List ByteArray)
abbrev cO := List (ByteArray × GG)
abbrev bq := List GG
abbrev oo (n : Nat) (i : I) : fe := .op (some n) none i
abbrev om (n k : Nat) : fe := .op (some n) none (.mv (.t k))
abbrev ol (n k : Nat) : fe := .op (some n) none (.load false 1 (.t k))
abbrev og (n k : Nat) (b : Bool) (i : I) : fe := .op (some n) (some (k, b)) i
abbrev ki (n : Nat) : O := .c (.int .i64 (Int.ofNat n))
abbrev hzI : SP := .c (.hole (.int .i64))
abbrev hzL : SP := .c (.hole (.list (.int .i64)))
abbrev hzM : SP := .c (.hole (.list (.list (.int .i64))))

/- 130 -/
noncomputable def aeH:Cx:=(aK [] [])
theorem PU:aeH.Ok prog:=aq trivial trivial
noncomputable def XX:D prog 6 none 0:=dO [] (kd prog f130) 0
noncomputable def F130 (a0:ByteArray):bG (Bool×Unit) :=
 .ret ((!(seq a0 a0)),())
theorem Un:cn prog f130=some ⟨6,1,XX.er,[.t 2],[some .bool]⟩:=by kernel_rfl
noncomputable def XY:Ct:=⟨130,[.c (.hole .str)],.c (.hole .bool),fun x=>ai (F130 x.1)⟩
theorem PV:XY.Ok prog:=cA mixed PU func130 Un (enters_of func130 rfl rfl) XX (by kernel_rfl) rfl (fun x=>by kernel_rfl)

/- 113 -/
noncomputable def aeI:Cx:=(aK [XY] [])
theorem PW:aeI.Ok prog:=aq ⟨PV,trivial⟩ trivial
noncomputable def XZ:D prog 20 none 0:=dO [] (kd prog f113) 0
noncomputable def F113 (a0:ByteArray) (a1:ByteArray):bG (Int×Unit) :=
 .bd (F130 a0) fun y0 =>
 .bd (F130 a1) fun y1 =>
 .br y0.1 (
 .br y1.1 (
 .ret ((0:Int),())) (
 .ret ((-1:Int),()))) (
 .br y1.1 (
 .ret ((1:Int),())) (
 .br (slt a0 a1) (
 .ret ((-1:Int),())) (
 .br (!(Gn (slt a0 a1) true (seq a0 a1))) (
 .ret ((1:Int),())) (
 .ret ((0:Int),())))))
theorem Uo:cn prog f113=some ⟨20,2,XZ.er,[.t 4],[some tI]⟩:=by kernel_rfl
noncomputable def X0:Ct:=⟨113,[.c (.hole .str),.c (.hole .str)],hI,fun x=>ai (F113 x.1 x.2.1)⟩
theorem PX:X0.Ok prog:=cA mixed PW func113 Uo (enters_of func113 rfl rfl) XZ (by kernel_rfl) rfl (fun x=>by kernel_rfl)

/- 131 -/
noncomputable def aeJ:Cx:=(aK [] [])
theorem PY:aeJ.Ok prog:=aq trivial trivial
noncomputable def X1:D prog 6 none 0:=dO [] (kd prog f131) 0
noncomputable def F131 (a0:Int):bG (Bool×Unit) :=
 .ret ((!(a0==a0)),())
theorem Uq:cn prog f131=some ⟨6,1,X1.er,[.t 2],[some .bool]⟩:=by kernel_rfl
noncomputable def X2:Ct:=⟨131,[hI],.c (.hole .bool),fun x=>ai (F131 x.1)⟩
theorem PZ:X2.Ok prog:=cA mixed PY func131 Uq (enters_of func131 rfl rfl) X1 (by kernel_rfl) rfl (fun x=>by kernel_rfl)

/- 114 -/
noncomputable def aeK:Cx:=(aK [X2] [])
theorem P0:aeK.Ok prog:=aq ⟨PZ,trivial⟩ trivial
noncomputable def X3:D prog 20 none 0:=dO [] (kd prog f114) 0
noncomputable def F114 (a0:Int) (a1:Int):bG (Int×Unit) :=
 .bd (F131 a0) fun y0 =>
 .bd (F131 a1) fun y1 =>
 .br y0.1 (
 .br y1.1 (
 .ret ((0:Int),())) (
 .ret ((-1:Int),()))) (
 .br y1.1 (
 .ret ((1:Int),())) (
 .br (decide (a0<a1)) (
 .ret ((-1:Int),())) (
 .br (decide (a1<a0)) (
 .ret ((1:Int),())) (
 .ret ((0:Int),())))))
theorem Ur:cn prog f114=some ⟨20,2,X3.er,[.t 4],[some tI]⟩:=by kernel_rfl
noncomputable def X4:Ct:=⟨114,[hI,hI],hI,fun x=>ai (F114 x.1 x.2.1)⟩
theorem P3:X4.Ok prog:=cA mixed P0 func114 Ur (enters_of func114 rfl rfl) X3 (by kernel_rfl) rfl (fun x=>by kernel_rfl)

/- 112 -/
noncomputable def X5:Cx:=(aK [] [])
theorem EH:X5.Ok prog:=aq trivial trivial
abbrev aaB:au:=au.mk [(3,hI),(6,hL),(7,hI),(8,hI)] [] [] []
abbrev aaC:aU:=[(.ret,au.mk [(2,hI)] [] [] []),(.exit 0,au.mk [(3,hI)] [] [] [])]
noncomputable def aaD:D prog 18 none 0:=dO [] (pick (kd prog f112) [(0,false)]) 0
noncomputable def g112_0:Int×List Int×Int×Int×Unit->bG ((Int×List Int×Int×Int×Unit) ⊕ ((Int×Unit) ⊕ ((Int×Unit)))):=fun (v3,v6,v7,v8,_) =>
 .br (decide (v8<v7)) (
 .nb v8 (((v6).length:Nat):Int) <|
 .br (!(((v6).getD (Int.toNat v8) (0:Int))==v3)) (
 .ret (.inr <| .inl<|(((v6).getD (Int.toNat v8) (0:Int)),()))) (
 .ni (v8+(1:Int)) <|
 .ret (.inl (v3,v6,v7,(v8+(1:Int)),())))) (
 .ret (.inr <| .inr<|(v3,())))
noncomputable def aaE:bu prog 18 none 0:=aV mixed X5 EH [] rfl aaB aaC rfl (aaD) (fun x=>ai (g112_0 x)) (fun x=>by kernel_rfl)
noncomputable def X6:D prog 18 none 0:=dO [.l aaE] (kd prog f112) 0
noncomputable def F112 (a0:List Int):bG (Int×Unit) :=
 .bd (.it g112_0 ((0:Int),a0,(((a0).length:Nat):Int),(0:Int),())) fun z0 =>
 .sm z0 (fun z1 =>
 .ret (z1.1,())) fun z2 =>
 .ret (z2.1,())
theorem Us:cn prog f112=some ⟨18,1,X6.er,[.t 2],[some tI]⟩:=by kernel_rfl
noncomputable def X7:Ct:=⟨112,[hL],hI,fun x=>ai (F112 x.1)⟩
theorem P4:X7.Ok prog:=cA mixed EH func112 Us (enters_of func112 rfl rfl) X6 (by kernel_rfl) rfl (fun x=>by kernel_rfl)

/- 85 -/
noncomputable def cx85:Cx:=(aK [X0,X4,X7] [])
theorem Ut:cx85.Ok prog:=aq ⟨PX,P3,P4,trivial⟩ trivial
noncomputable def dd85:D prog 35 none 0:=dO [] (kd prog f85) 0
noncomputable def F85 (a0:GG) (a1:GG):bG (Int×Unit) :=
 .br ((seq a0.1 a1.1)&&((a0.2.1==a1.2.1)&&((seq a0.2.2.1 a1.2.2.1)&&((seq a0.2.2.2.1 a1.2.2.2.1)&&((a0.2.2.2.2==a1.2.2.2.2)&&true))))) (
 .ret ((0:Int),())) (
 .bd (F113 a0.1 a1.1) fun y0 =>
 .bd (F114 a0.2.1 a1.2.1) fun y1 =>
 .bd (F113 a0.2.2.1 a1.2.2.1) fun y2 =>
 .bd (F113 a0.2.2.2.1 a1.2.2.2.1) fun y3 =>
 .bd (F114 a0.2.2.2.2 a1.2.2.2.2) fun y4 =>
 .bd (F112 ((((y0.1::(y1.1::(y2.1::(y3.1::(y4.1::[])))))).drop (0:Nat)).take (5:Nat))) fun y5 =>
 .ret (y5.1,()))
theorem aaF:cn prog f85=some ⟨35,2,dd85.er,[.t 4],[some tI]⟩:=by kernel_rfl
noncomputable def ct85:Ct:=⟨85,[.c (.hole tG),.c (.hole tG)],hI,fun x=>ai (F85 x.1 x.2.1)⟩
theorem Uu:ct85.Ok prog:=cA mixed Ut func85 aaF (enters_of func85 rfl rfl) dd85 (by kernel_rfl) rfl (fun x=>by kernel_rfl)

/- 50 -/
noncomputable def cx50:Cx:=(aK [] [])
theorem Uv:cx50.Ok prog:=aq trivial trivial
noncomputable def dd50:D prog 11 none 0:=dO [] (kd prog f50) 0
noncomputable def F50 (a0:ByteArray) (a1:ByteArray) (a2:Int):bG (GG×Unit) :=
 .ret ((a0,(1:Int),(bs []),a1,a2),())
theorem aaG:cn prog f50=some ⟨11,3,dd50.er,[.cell 6 true 5],[some tG]⟩:=by kernel_rfl
noncomputable def ct50:Ct:=⟨50,[.c (.hole .str),.c (.hole .str),hI],.c (.hole tG),fun x=>ai (F50 x.1 x.2.1 x.2.2.1)⟩
theorem Uw:ct50.Ok prog:=cA mixed Uv func50 aaG (enters_of func50 rfl rfl) dd50 (by kernel_rfl) rfl (fun x=>by kernel_rfl)

/- 42 -/
noncomputable def cx42:Cx:=(aK [] [])
theorem Ux:cx42.Ok prog:=aq trivial trivial
noncomputable def dd42:D prog 14 none 0:=dO [] (kd prog f42) 0
noncomputable def F42 (a0:ByteArray) (a1:ByteArray) (a2:ByteArray) (a3:Int):bG (GG×Unit) :=
 .ret ((a0,(2:Int),a1,a2,a3),())
theorem aaH:cn prog f42=some ⟨14,4,dd42.er,[.cell 8 true 5],[some tG]⟩:=by kernel_rfl
noncomputable def ct42:Ct:=⟨42,[.c (.hole .str),.c (.hole .str),.c (.hole .str),hI],.c (.hole tG),fun x=>ai (F42 x.1 x.2.1 x.2.2.1 x.2.2.2.1)⟩
theorem Uy:ct42.Ok prog:=cA mixed Ux func42 aaH (enters_of func42 rfl rfl) dd42 (by kernel_rfl) rfl (fun x=>by kernel_rfl)

/- 39 -/
noncomputable def cx39:Cx:=(aK [] [])
theorem Uz:cx39.Ok prog:=aq trivial trivial
noncomputable def dd39:D prog 8 none 0:=dO [] (kd prog f39) 0
noncomputable def F39 (a0:ByteArray) (a1:ByteArray):bG (GG×Unit) :=
 .ret ((a0,(3:Int),a1,(bs []),(0:Int)),())
theorem aaI:cn prog f39=some ⟨8,2,dd39.er,[.cell 4 true 5],[some tG]⟩:=by kernel_rfl
noncomputable def ct39:Ct:=⟨39,[.c (.hole .str),.c (.hole .str)],.c (.hole tG),fun x=>ai (F39 x.1 x.2.1)⟩
theorem UA:ct39.Ok prog:=cA mixed Uz func39 aaI (enters_of func39 rfl rfl) dd39 (by kernel_rfl) rfl (fun x=>by kernel_rfl)

/- 46 -/
noncomputable def cx46:Cx:=(aK [ct50,ct42,ct39] [])
theorem UB:cx46.Ok prog:=aq ⟨Uw,Uy,UA,trivial⟩ trivial
noncomputable def dd46:D prog 10 none 0:=dO [] (kd prog f46) 0
noncomputable def F46:bG (bq×Unit) :=
 .bd (F50 (bs [116,49]) (bs [97,110,97]) (40:Int)) fun y0 =>
 .bd (F50 (bs [116,50]) (bs [98,101,110]) (25:Int)) fun y1 =>
 .bd (F42 (bs [99,49]) (bs [116,49]) (bs [97,110,97]) (42:Int)) fun y2 =>
 .bd (F42 (bs [99,50]) (bs [116,49]) (bs [99,121]) (40:Int)) fun y3 =>
 .bd (F42 (bs [99,51]) (bs [99,49]) (bs [97,110,97]) (41:Int)) fun y4 =>
 .bd (F42 (bs [119,49]) (bs [120,57]) (bs [98,101,110]) (5:Int)) fun y5 =>
 .bd (F39 (bs [114,49]) (bs [99,49])) fun y6 =>
 .bd (F39 (bs [114,50]) (bs [99,50])) fun y7 =>
 .ret ((((((y0.1.1,y0.1.2.1,y0.1.2.2.1,y0.1.2.2.2.1,y0.1.2.2.2.2)::((y1.1.1,y1.1.2.1,y1.1.2.2.1,y1.1.2.2.2.1,y1.1.2.2.2.2)::((y2.1.1,y2.1.2.1,y2.1.2.2.1,y2.1.2.2.2.1,y2.1.2.2.2.2)::((y3.1.1,y3.1.2.1,y3.1.2.2.1,y3.1.2.2.2.1,y3.1.2.2.2.2)::((y4.1.1,y4.1.2.1,y4.1.2.2.1,y4.1.2.2.2.1,y4.1.2.2.2.2)::((y5.1.1,y5.1.2.1,y5.1.2.2.1,y5.1.2.2.2.1,y5.1.2.2.2.2)::((y6.1.1,y6.1.2.1,y6.1.2.2.1,y6.1.2.2.2.1,y6.1.2.2.2.2)::((y7.1.1,y7.1.2.1,y7.1.2.2.1,y7.1.2.2.2.1,y7.1.2.2.2.2)::[]))))))))).drop (0:Nat)).take (8:Nat)),())
theorem aaJ:cn prog f46=some ⟨10,0,dd46.er,[.t 0],[some (.list tG)]⟩:=by kernel_rfl
noncomputable def ct46:Ct:=⟨46,[],.c (.hole (.list tG)),fun x=>ai (F46)⟩
theorem UC:ct46.Ok prog:=cA mixed UB func46 aaJ (enters_of func46 rfl rfl) dd46 (by kernel_rfl) rfl (fun x=>by kernel_rfl)

/- 18, lent -/
abbrev pH18:au:=au.mk [] [] [] []
abbrev qH18:au:=au.mk [(0,.c (.ptr 0 0))] [(0,.cells [.mp 1] false),(1,dy)] [.slot 0,.cell 0 0] []
noncomputable def aeU:Cx:=(aK [] [])
theorem P5:aeU.Ok prog:=aq trivial trivial
noncomputable def X8:D prog 4 none 0:=dO [] (kd prog f18) 0
noncomputable def FH18:bG (cB×Unit) :=
 .ret ([],())
theorem UD:cn prog f18=some ⟨4,0,X8.er,[.t 0],[none]⟩:=by kernel_rfl
noncomputable def ht18:Ht:=⟨18,pH18,qH18,(fun x=>ai (FH18))⟩
theorem UE:ht18.Ok prog:=bA mixed P5 rfl func18 UD (enters_of func18 rfl rfl) X8 (by kernel_rfl) rfl rfl ⟨_,rfl⟩ rfl (pre:=[]) rfl (fun x=>by kernel_rfl)

/- 54, lent -/
abbrev pH54:au:=au.mk [(0,.c (.ptr 0 0))] [(0,.cells [.mp 1] false),(1,dy)] [.slot 0,.cell 0 0] []
abbrev qH54:au:=au.mk [(0,.c (.hole .bool))] [(0,.cells [.mp 1] false),(1,dy)] [] []
noncomputable def aeW:Cx:=(aK [] [])
theorem P6:aeW.Ok prog:=aq trivial trivial
noncomputable def X9:D prog 12 none 2:=dO [] (kd prog f54) 0
noncomputable def FH54 (m1:cB):bG (Bool×cB×Unit) :=
 .ret (false,m1,())
theorem UF:cn prog f54=some ⟨12,1,X9.er,[.t 2],[some .bool]⟩:=by kernel_rfl
noncomputable def yB:Ht:=⟨54,pH54,qH54,(fun x=>ai (FH54 x.1))⟩
theorem lH:yB.Ok prog:=bA mixed P6 rfl func54 UF (enters_of func54 rfl rfl) X9 (by kernel_rfl) rfl rfl ⟨_,rfl⟩ rfl (pre:=[0,1]) rfl (fun x=>by kernel_rfl)

/- 65 -/
noncomputable def cx65:Cx:=(aK [] [])
theorem JC:cx65.Ok prog:=aq trivial trivial
abbrev aeY:au:=au.mk [(0,.c (.hole .str)),(6,.c (.hole (.list (.int .u8)))),(7,hI),(8,hI)] [] [] []
abbrev aeZ:aU:=[(.ret,au.mk [(2,.c (.tf false))] [] [] []),(.exit 0,au.mk [(0,.c (.hole .str))] [] [] [])]
noncomputable def ae0:D prog 40 none 0:=dO [] (pick (kd prog f65) [(0,false)]) 0
noncomputable def g65_0:ByteArray×List Int×Int×Int×Unit->bG ((ByteArray×List Int×Int×Int×Unit) ⊕ ((Unit) ⊕ ((ByteArray×Unit)))):=fun (v0,v6,v7,v8,_) =>
 .br (decide (v8<v7)) (
 .nb v8 (((v6).length:Nat):Int) <|
 .br (decide (((v6).getD (Int.toNat v8) (0:Int))<(97:Int))) (
 .br (v8==(0:Int)) (
 .ret (.inr <| .inl<|())) (
 .br (decide (((v6).getD (Int.toNat v8) (0:Int))<(48:Int))) (
 .ret (.inr <| .inl<|())) (
 .br (decide ((57:Int)<((v6).getD (Int.toNat v8) (0:Int)))) (
 .ret (.inr <| .inl<|())) (
 .ni (v8+(1:Int)) <|
 .ret (.inl (v0,v6,v7,(v8+(1:Int)),())))))) (
 .br (decide ((122:Int)<((v6).getD (Int.toNat v8) (0:Int)))) (
 .br (v8==(0:Int)) (
 .ret (.inr <| .inl<|())) (
 .br (decide (((v6).getD (Int.toNat v8) (0:Int))<(48:Int))) (
 .ret (.inr <| .inl<|())) (
 .br (decide ((57:Int)<((v6).getD (Int.toNat v8) (0:Int)))) (
 .ret (.inr <| .inl<|())) (
 .ni (v8+(1:Int)) <|
 .ret (.inl (v0,v6,v7,(v8+(1:Int)),())))))) (
 .ni (v8+(1:Int)) <|
 .ret (.inl (v0,v6,v7,(v8+(1:Int)),()))))) (
 .ret (.inr <| .inr<|(v0,())))
noncomputable def ae1:bu prog 40 none 0:=aV mixed cx65 JC [] rfl aeY aeZ rfl (ae0) (fun x=>ai (g65_0 x)) (fun x=>by kernel_rfl)
noncomputable def dd65:D prog 40 none 0:=dO [.l ae1] (kd prog f65) 0
noncomputable def F65 (a0:ByteArray):bG (Bool×Unit) :=
 .bd (.it g65_0 (a0,(fu a0),((((fu a0)).length:Nat):Int),(0:Int),())) fun z0 =>
 .sm z0 (fun z1 =>
 .ret (false,())) fun z2 =>
 .br (decide ((0:Int)<((z2.1.size:Nat):Int))) (
 .ret ((decide (((z2.1.size:Nat):Int)<=(10:Int))),())) (
 .ret (false,()))
theorem aaK:cn prog f65=some ⟨40,1,dd65.er,[.t 2],[some .bool]⟩:=by kernel_rfl
noncomputable def P7:Ct:=⟨65,[.c (.hole .str)],.c (.hole .bool),fun x=>ai (F65 x.1)⟩
theorem vY:P7.Ok prog:=cA mixed JC func65 aaK (enters_of func65 rfl rfl) dd65 (by kernel_rfl) rfl (fun x=>by kernel_rfl)

/- 87 -/
noncomputable def cx87:Cx:=(aK [P7] [])
theorem UG:cx87.Ok prog:=aq ⟨vY,trivial⟩ trivial
noncomputable def dd87:D prog 27 none 0:=dO [] (kd prog f87) 0
noncomputable def F87 (a0:GG):bG (Int×Unit) :=
 .br (a0.2.1==(1:Int)) (
 .br (!(seq a0.2.2.1 (bs []))) (
 .ret ((22:Int),())) (
 .br (a0.2.1==(1:Int)) (
 .ret ((0:Int),())) (
 .bd (F65 a0.2.2.1) fun y0 =>
 .br (!y0.1) (
 .ret ((8:Int),())) (
 .br (seq a0.2.2.1 a0.1) (
 .ret ((22:Int),())) (
 .ret ((0:Int),())))))) (
 .br (a0.2.1==(1:Int)) (
 .ret ((0:Int),())) (
 .bd (F65 a0.2.2.1) fun y1 =>
 .br (!y1.1) (
 .ret ((8:Int),())) (
 .br (seq a0.2.2.1 a0.1) (
 .ret ((22:Int),())) (
 .ret ((0:Int),())))))
theorem aaL:cn prog f87=some ⟨27,1,dd87.er,[.t 2],[some tI]⟩:=by kernel_rfl
noncomputable def ct87:Ct:=⟨87,[.c (.hole tG)],hI,fun x=>ai (F87 x.1)⟩
theorem UH:ct87.Ok prog:=cA mixed UG func87 aaL (enters_of func87 rfl rfl) dd87 (by kernel_rfl) rfl (fun x=>by kernel_rfl)

/- 88 -/
noncomputable def cx88:Cx:=(aK [P7] [])
theorem UI:cx88.Ok prog:=aq ⟨vY,trivial⟩ trivial
noncomputable def dd88:D prog 35 none 0:=dO [] (kd prog f88) 0
noncomputable def F88 (a0:GG):bG (Int×Unit) :=
 .br (a0.2.1==(3:Int)) (
 .br (!(seq a0.2.2.2.1 (bs []))) (
 .ret ((22:Int),())) (
 .br (!(a0.2.2.2.2==(0:Int))) (
 .ret ((22:Int),())) (
 .br (a0.2.1==(3:Int)) (
 .ret ((0:Int),())) (
 .bd (F65 a0.2.2.2.1) fun y0 =>
 .br (!y0.1) (
 .ret ((8:Int),())) (
 .br (decide (a0.2.2.2.2<(-1000:Int))) (
 .ret ((2:Int),())) (
 .br (decide ((1000:Int)<a0.2.2.2.2)) (
 .ret ((2:Int),())) (
 .ret ((0:Int),())))))))) (
 .br (a0.2.1==(3:Int)) (
 .ret ((0:Int),())) (
 .bd (F65 a0.2.2.2.1) fun y1 =>
 .br (!y1.1) (
 .ret ((8:Int),())) (
 .br (decide (a0.2.2.2.2<(-1000:Int))) (
 .ret ((2:Int),())) (
 .br (decide ((1000:Int)<a0.2.2.2.2)) (
 .ret ((2:Int),())) (
 .ret ((0:Int),()))))))
theorem aaM:cn prog f88=some ⟨35,1,dd88.er,[.t 2],[some tI]⟩:=by kernel_rfl
noncomputable def ct88:Ct:=⟨88,[.c (.hole tG)],hI,fun x=>ai (F88 x.1)⟩
theorem UJ:ct88.Ok prog:=cA mixed UI func88 aaM (enters_of func88 rfl rfl) dd88 (by kernel_rfl) rfl (fun x=>by kernel_rfl)

/- 86 -/
noncomputable def cx86:Cx:=(aK [] [])
theorem JD:cx86.Ok prog:=aq trivial trivial
abbrev ae8:au:=au.mk [(3,hI),(6,hL),(7,hI),(8,hI)] [] [] []
abbrev ae9:aU:=[(.ret,au.mk [(2,hI)] [] [] []),(.exit 0,au.mk [(3,hI)] [] [] [])]
noncomputable def afa:D prog 18 none 0:=dO [] (pick (kd prog f86) [(0,false)]) 0
noncomputable def g86_0:Int×List Int×Int×Int×Unit->bG ((Int×List Int×Int×Int×Unit) ⊕ ((Int×Unit) ⊕ ((Int×Unit)))):=fun (v3,v6,v7,v8,_) =>
 .br (decide (v8<v7)) (
 .nb v8 (((v6).length:Nat):Int) <|
 .br (!(((v6).getD (Int.toNat v8) (0:Int))==v3)) (
 .ret (.inr <| .inl<|(((v6).getD (Int.toNat v8) (0:Int)),()))) (
 .ni (v8+(1:Int)) <|
 .ret (.inl (v3,v6,v7,(v8+(1:Int)),())))) (
 .ret (.inr <| .inr<|(v3,())))
noncomputable def afb:bu prog 18 none 0:=aV mixed cx86 JD [] rfl ae8 ae9 rfl (afa) (fun x=>ai (g86_0 x)) (fun x=>by kernel_rfl)
noncomputable def dd86:D prog 18 none 0:=dO [.l afb] (kd prog f86) 0
noncomputable def F86 (a0:List Int):bG (Int×Unit) :=
 .bd (.it g86_0 ((0:Int),a0,(((a0).length:Nat):Int),(0:Int),())) fun z0 =>
 .sm z0 (fun z1 =>
 .ret (z1.1,())) fun z2 =>
 .ret (z2.1,())
theorem aaN:cn prog f86=some ⟨18,1,dd86.er,[.t 2],[some tI]⟩:=by kernel_rfl
noncomputable def ct86:Ct:=⟨86,[hL],hI,fun x=>ai (F86 x.1)⟩
theorem UK:ct86.Ok prog:=cA mixed JD func86 aaN (enters_of func86 rfl rfl) dd86 (by kernel_rfl) rfl (fun x=>by kernel_rfl)

/- 55 -/
noncomputable def cx55:Cx:=(aK [P7,ct87,ct88,ct86] [])
theorem UL:cx55.Ok prog:=aq ⟨vY,UH,UJ,UK,trivial⟩ trivial
noncomputable def dd55:D prog 23 none 0:=dO [] (kd prog f55) 0
noncomputable def F55 (a0:GG):bG (Int×Unit) :=
 .br (decide (a0.2.1<(1:Int))) (
 .ret ((18:Int),())) (
 .br (decide ((3:Int)<a0.2.1)) (
 .ret ((18:Int),())) (
 .bd (F65 a0.1) fun y0 =>
 .br (!y0.1) (
 .ret ((8:Int),())) (
 .bd (F87 (a0.1,a0.2.1,a0.2.2.1,a0.2.2.2.1,a0.2.2.2.2)) fun y1 =>
 .bd (F88 (a0.1,a0.2.1,a0.2.2.1,a0.2.2.2.1,a0.2.2.2.2)) fun y2 =>
 .bd (F86 ((((y1.1::(y2.1::[]))).drop (0:Nat)).take (2:Nat))) fun y3 =>
 .ret (y3.1,()))))
theorem aaO:cn prog f55=some ⟨23,1,dd55.er,[.t 2],[some tI]⟩:=by kernel_rfl
noncomputable def ct55:Ct:=⟨55,[.c (.hole tG)],hI,fun x=>ai (F55 x.1)⟩
theorem UM:ct55.Ok prog:=cA mixed UL func55 aaO (enters_of func55 rfl rfl) dd55 (by kernel_rfl) rfl (fun x=>by kernel_rfl)

/- 89, by hand -/
abbrev pH89:au:=au.mk [(0,.c (.mp 0))] [(0,dy)] [.slot 0] []
abbrev qH89:au:=au.mk [(0,.c (.mp 1))] [(1,dy),(0,dy)] [.slot 0] []
noncomputable def FH89 (m0:cB):bG (cB×cB×Unit) :=
 .ret (m0,m0,())
noncomputable def aaP:Ht:=⟨89,pH89,qH89,(fun x=>ai (FH89 x.1))⟩
theorem JE:aaP.Ok prog:=fun x y h=>by
  have h':some (x.1,x.1,())=some y:=h
  cases h'
  exact Ey (ρ:=A3) aeG (enters_of func89 rfl rfl)

/- 193, lent -/
abbrev afg:au:=au.mk [(0,.c (.hole tG))] [] [] []
abbrev afh:au:=au.mk [(0,.c (.bI 0 tG))] [(0,.arr tG false)] [.slot 0] []
noncomputable def aaQ:Cx:=(aK [] [])
theorem LL:aaQ.Ok prog:=aq trivial trivial
noncomputable def P8:D prog 5 none 0:=dO [] (kd prog f193) 0
noncomputable def FH193 (v0:GG):bG (Nat×bq×Unit) :=
 .ret ((1:Nat),((v0.1,v0.2.1,v0.2.2.1,v0.2.2.2.1,v0.2.2.2.2)::[]),())
theorem P9:cn prog f193=some ⟨5,1,P8.er,[.t 2],[some (.list tG)]⟩:=by kernel_rfl
noncomputable def Yc:Ht:=⟨193,afg,afh,(fun x=>ai (FH193 x.1))⟩
theorem Qa:Yc.Ok prog:=bA mixed LL rfl func193 P9 (enters_of func193 rfl rfl) P8 (by kernel_rfl) rfl rfl ⟨_,rfl⟩ rfl (pre:=[]) rfl (fun x=>by kernel_rfl)

/- 56, lent -/
abbrev pH56:au:=au.mk [(0,.c (.ptr 0 0)),(1,.c (.D6 33 true (.cons (.hole .str) (.cons (.hole tI) (.cons (.hole .str) (.cons (.hole .str) (.cons (.hole tI) .nil)))))))] [(0,.cells [.mp 1] false),(1,dy)] [.slot 0,.cell 0 0] []
abbrev qH56:au:=au.mk [(0,hI)] [(0,.cells [.mp 2] false),(2,dy)] [.cell 0 0] []
noncomputable def Yd:Cx:=(aK [] [aaP,Yc])
theorem EI:Yd.Ok prog:=aq trivial ⟨⟨JE,rfl⟩,⟨Qa,rfl⟩,trivial⟩
abbrev aaR:au:=au.mk [(0,.c (.ptr 0 0)),(5,.c (.mp 2)),(14,.c (.bI 3 tG)),(15,hI),(16,hI)] [(0,.cells [.mp 1] false),(2,dy),(3,.arr tG false),(1,dy)] [.slot 5,.slot 14] []
abbrev aaS:aU:=[(.exit 0,au.mk [(0,.c (.ptr 0 0)),(5,.c (.mp 2))] [(0,.cells [.mp 1] false),(2,dy),(1,dy)] [.slot 5] [])]
noncomputable def aaT:D prog 30 none 2:=dO [] (pick (kd prog f56) [(0,false)]) 0
noncomputable def gH56_0:Nat×Int×Int×cB×bq×cB×Unit->bG ((Nat×Int×Int×cB×bq×cB×Unit) ⊕ ((cB×cB×Unit))):=fun (Qb,v15,qY,m2,b3,m1,_) =>
 .br (decide (qY<v15)) (
 .nb qY ((Qb:Nat):Int) <|
 .nd (decide (((0:Nat)+(Int.toNat qY))<(b3).length)) <|
 .ni (qY+(1:Int)) <|
 .ret (.inl (Qb,v15,(qY+(1:Int)),(bn (.prod .str (.prod (.int .i64) (.prod .str (.prod .str (.int .i64))))) m2 (((b3).getD ((0:Nat)+(Int.toNat qY)) ((bs []),(0:Int),(bs []),(bs []),(0:Int))).1,((b3).getD ((0:Nat)+(Int.toNat qY)) ((bs []),(0:Int),(bs []),(bs []),(0:Int))).2.1,((b3).getD ((0:Nat)+(Int.toNat qY)) ((bs []),(0:Int),(bs []),(bs []),(0:Int))).2.2.1,((b3).getD ((0:Nat)+(Int.toNat qY)) ((bs []),(0:Int),(bs []),(bs []),(0:Int))).2.2.2.1,((b3).getD ((0:Nat)+(Int.toNat qY)) ((bs []),(0:Int),(bs []),(bs []),(0:Int))).2.2.2.2) true),b3,m1,()))) (
 .ret (.inr (m2,m1,())))
noncomputable def aaU:bu prog 30 none 2:=aV mixed Yd EI [0,1] rfl aaR aaS rfl (aaT) (fun x=>ai (gH56_0 x)) (fun x=>by kernel_rfl)
noncomputable def Ye:D prog 30 none 2:=dO [.l aaU] (kd prog f56) 0
noncomputable def FH56 (v1c0:ByteArray) (v1c1:Int) (v1c2:ByteArray) (v1c3:ByteArray) (v1c4:Int) (m1:cB):bG (Int×cB×Unit) :=
 .bd (FH89 m1) fun y0 =>
 .bd (FH193 (v1c0,v1c1,v1c2,v1c3,v1c4)) fun y1 =>
 .bd (.it gH56_0 (y1.1,((y1.1:Nat):Int),(0:Int),y0.1,y1.2.1,y0.2.1,())) fun z2 =>
 .br (decide ((60:Int)<(((z2.1).length:Nat):Int))) (
 .ret ((15:Int),z2.2.1,())) (
 .ret ((0:Int),z2.1,()))
theorem UN:cn prog f56=some ⟨30,2,Ye.er,[.t 4],[some tI]⟩:=by kernel_rfl
noncomputable def ht56:Ht:=⟨56,pH56,qH56,(fun x=>ai (FH56 x.1 x.2.1 x.2.2.1 x.2.2.2.1 x.2.2.2.2.1 x.2.2.2.2.2.1))⟩
theorem UO:ht56.Ok prog:=bA mixed EI rfl func56 UN (enters_of func56 rfl rfl) Ye (by kernel_rfl) rfl rfl ⟨_,rfl⟩ rfl (pre:=[0,1]) rfl (fun x=>by kernel_rfl)

/- 20, lent -/
abbrev pH20:au:=au.mk [(0,.c (.ptr 0 0)),(1,.c (.hole tG))] [(0,.cells [.mp 1] false),(1,dy)] [.slot 0,.cell 0 0] []
abbrev qH20:au:=au.mk [(0,hI)] [(0,.cells [.mp 2] false),(2,dy)] [.cell 0 0] []
noncomputable def afk:Cx:=(aK [ct55] [yB,ht56])
theorem Qc:afk.Ok prog:=aq ⟨UM,trivial⟩ ⟨⟨lH,rfl⟩,⟨UO,rfl⟩,trivial⟩
noncomputable def Yf:D prog 17 none 2:=dO [] (kd prog f20) 0
noncomputable def FH20 (v1:GG) (m1:cB):bG (Int×cB×Unit) :=
 .bd (FH54 m1) fun y0 =>
 .br y0.1 (
 .ret ((9:Int),y0.2.1,())) (
 .bd (F55 (v1.1,v1.2.1,v1.2.2.1,v1.2.2.2.1,v1.2.2.2.2)) fun y1 =>
 .br (!(y1.1==(0:Int))) (
 .ret (y1.1,y0.2.1,())) (
 .bd (FH56 v1.1 v1.2.1 v1.2.2.1 v1.2.2.2.1 v1.2.2.2.2 y0.2.1) fun y2 =>
 .ret (y2.1,y2.2.1,())))
theorem UP:cn prog f20=some ⟨17,2,Yf.er,[.t 4],[some tI]⟩:=by kernel_rfl
noncomputable def ht20:Ht:=⟨20,pH20,qH20,(fun x=>ai (FH20 x.1 x.2.1))⟩
theorem UQ:ht20.Ok prog:=bA mixed Qc rfl func20 UP (enters_of func20 rfl rfl) Yf (by kernel_rfl) rfl rfl ⟨_,rfl⟩ rfl (pre:=[0,1]) rfl (fun x=>by kernel_rfl)

/- 29, lent -/
abbrev pH29:au:=au.mk [(0,.c (.hole (.list tG)))] [] [] []
abbrev qH29:au:=au.mk [(0,.c (.ptr 0 0))] [(0,.cells [.mp 1] false),(1,dy)] [.slot 0,.cell 0 0] []
noncomputable def Yg:Cx:=(aK [] [ht18,ht20])
theorem EJ:Yg.Ok prog:=aq trivial ⟨⟨UE,rfl⟩,⟨UQ,rfl⟩,trivial⟩
abbrev aaV:au:=au.mk [(0,.c (.hole (.list tG))),(3,.c (.ptr 0 0)),(4,hI)] [(0,.cells [.mp 1] false),(1,dy)] [.slot 3,.cell 0 0] []
abbrev aaW:aU:=[(.exit 0,au.mk [(3,.c (.ptr 0 0))] [(0,.cells [.mp 1] false),(1,dy)] [.slot 3,.cell 0 0] [])]
noncomputable def aaX:D prog 19 none 0:=dO [] (pick (kd prog f29) [(0,false)]) 0
noncomputable def gH29_0:bq×Int×cB×Unit->bG ((bq×Int×cB×Unit) ⊕ ((cB×Unit))):=fun (v0,v4,m1,_) =>
 .br (decide (v4<(((v0).length:Nat):Int))) (
 .nb v4 (((v0).length:Nat):Int) <|
 .bd (FH20 (((v0).getD (Int.toNat v4) ((bs []),(0:Int),(bs []),(bs []),(0:Int))).1,((v0).getD (Int.toNat v4) ((bs []),(0:Int),(bs []),(bs []),(0:Int))).2.1,((v0).getD (Int.toNat v4) ((bs []),(0:Int),(bs []),(bs []),(0:Int))).2.2.1,((v0).getD (Int.toNat v4) ((bs []),(0:Int),(bs []),(bs []),(0:Int))).2.2.2.1,((v0).getD (Int.toNat v4) ((bs []),(0:Int),(bs []),(bs []),(0:Int))).2.2.2.2) m1) fun y1 =>
 .ni (v4+(1:Int)) <|
 .ret (.inl (v0,(v4+(1:Int)),y1.2.1,()))) (
 .ret (.inr (m1,())))
noncomputable def aaY:bu prog 19 none 0:=aV mixed Yg EJ [] rfl aaV aaW rfl (aaX) (fun x=>ai (gH29_0 x)) (fun x=>by kernel_rfl)
noncomputable def Yh:D prog 19 none 0:=dO [.l aaY] (kd prog f29) 0
noncomputable def FH29 (v0:bq):bG (cB×Unit) :=
 .bd (FH18) fun y0 =>
 .bd (.it gH29_0 (v0,(0:Int),y0.1,())) fun z2 =>
 .ret (z2.1,())
theorem UR:cn prog f29=some ⟨19,1,Yh.er,[.t 2],[none]⟩:=by kernel_rfl
noncomputable def aaZ:Ht:=⟨29,pH29,qH29,(fun x=>ai (FH29 x.1))⟩
theorem JF:aaZ.Ok prog:=bA mixed EJ rfl func29 UR (enters_of func29 rfl rfl) Yh (by kernel_rfl) rfl rfl ⟨_,rfl⟩ rfl (pre:=[]) rfl (fun x=>by kernel_rfl)

/- 84, lent -/
abbrev pH84:au:=au.mk [(0,.c (.mp 0))] [(0,dy)] [.slot 0] []
abbrev qH84:au:=au.mk [(0,.fn 111 [] [.ptr 1 0])] [(1,.cells [.mp 0] false),(0,dy)] [.part 0 0] []
noncomputable def afm:Cx:=(aK [] [])
theorem Qd:afm.Ok prog:=aq trivial trivial
noncomputable def Yi:D prog 4 none 1:=dO [] (kd prog f84) 0
noncomputable def FH84 (m0:cB):bG (cB×Unit) :=
 .ret (m0,())
theorem US:cn prog f84=some ⟨4,1,Yi.er,[.t 2],[none]⟩:=by kernel_rfl
noncomputable def ht84:Ht:=⟨84,pH84,qH84,(fun x=>ai (FH84 x.1))⟩
theorem UT:ht84.Ok prog:=bA mixed Qd rfl func84 US (enters_of func84 rfl rfl) Yi (by kernel_rfl) rfl rfl ⟨_,rfl⟩ rfl (pre:=[0]) rfl (fun x=>by kernel_rfl)

/- 110, by hand -/
abbrev afo:au:=au.mk [(0,.c (.bI 0 tG)),(1,.c (.fn0 85))] [(0,.arr tG false)] [.slot 0] []
abbrev afp:au:=au.mk [(0,.c .any)] [(0,.arr tG false)] [] []
noncomputable def FH110 (nG:Nat) (b0:bq):bG (bq×Unit) :=
 .of (vp (.prod .str (.prod (.int .i64) (.prod .str (.prod .str (.int .i64))))) b0 nG)
noncomputable def Qe:Ht:=⟨110,afo,afp,(fun x=>ai (FH110 x.1 x.2.1))⟩
theorem vZ (a b:ByteArray):(seq a b=true)↔a=b:=by
  unfold seq
  rw [beq_iff_eq,Go.ByteArray.toList_eq,Go.ByteArray.toList_eq]
  obtain ⟨a⟩:=a;obtain ⟨b⟩:=b
  simp
def nO (a b:ByteArray):Int:=if slt a b=true then -1 else if a=b then 0 else 1
def qk (a b:Int):Int:=if a<b then -1 else if b<a then 1 else 0
def pW : List Int → Int
 |[]=>0
 |a::r=>if a=0 then pW r else a
theorem afq (a:ByteArray):ai (F130 a)=some (false,()):=by
  have:seq a a=true:=(vZ a a).2 rfl
  simp [F130,aa,this]
theorem afr (a:Int):ai (F131 a)=some (false,()):=by simp [F131,aa]
theorem afs (a b:ByteArray):ai (F113 a b)=some (nO a b,()):=by
  simp only [F113,ay,ah,aa,afq,aF,EG,jM,nO]
  cases h:slt a b
  · by_cases he : a = b
    · subst he;simp [(vZ a a).2 rfl]
    · have : seq a b = false := by rw [← Bool.not_eq_true]; exact fun h => he ((vZ a b).1 h)
      simp [this,he]
  · simp
theorem aft (a b:Int):ai (F114 a b)=some (qk a b,()):=by
  simp only [F114,ay,ah,aa,afr,aF,EG,aI,qk]
  repeat' split
  all_goals rfl
theorem afu (l:List Int) (hl:l.length<=1000):ai (F112 l)=some (pW l,()):=by
  simp only [F112,ay,bf,aa]
  refine bind_eq (aO l (fun k (_:Unit)=>((0:Int),l,((l.length:Nat):Int),(k:Int),())) (fun _ r=>if pW r=0 then .inr (0,()) else .inl (pW r,())) (fun _ _=>True) ?_ ?_ (s:=()) trivial) ?_
  · rintro pre x post _ hx -
    have hlen:l.length=pre.length+(post.length+1):=by rw [hx];simp
    have hd:l.getD pre.length 0=x:=by rw [hx];exact aR rfl
    have i1:bR (pre.length:Int) ((l.length:Nat):Int)=true:=aQ (by omega) (by omega)
    have r1:cN .i64 ((pre.length:Int)+1)=true:=aC (by omega) (by omega)
    simp only [g112_0,ah,aH,aG,aS,aa,Int.toNat_natCast,hd,i1,r1,af,aI,bB,aY]
    rw [if_pos (by omega)]
    by_cases h:x=0
    · left
      refine ⟨(),?_,trivial,by simp [pW,h]⟩
      rw [if_pos h];rfl
    · right
      rw [if_neg h]
      have:pW (x::post)=x:=by simp [pW,h]
      rw [this,if_neg h]
  · rintro _ _
    simp only [g112_0,ah,aI,aa]
    rw [if_neg (by omega)]
    simp [pW]
  · by_cases h : pW l = 0
    · rw [if_pos h,h];rfl
    · rw [if_neg h];rfl
abbrev Qf:Ty:=.prod .str (.prod tI (.prod .str (.prod .str tI)))
def yC (a b:Qf.den):Int:=pW [nO a.1 b.1,qk a.2.1 b.2.1,nO a.2.2.1 b.2.2.1,nO a.2.2.2.1 b.2.2.2.1,qk a.2.2.2.2 b.2.2.2.2]
theorem we {a b:ByteArray}:nO a b=0↔a=b:=by
  unfold nO
  split
  · rename_i h
    constructor
    · intro h';omega
    · rintro rfl
      have:ff .str a a=true:=h
      rw [Jy (t:=.str) rfl] at this;cases this
  · split<;>simp_all
theorem Cv {a b:Int}:qk a b=0↔a=b:=by
  unfold qk
  repeat' split
  all_goals omega
theorem UU {a b:ByteArray}:nO a b<0↔ff .str a b=true:=by
  unfold nO
  split
  · rename_i h;simp only [ff];exact ⟨fun _=>h,fun _=>by omega⟩
  · rename_i h
    constructor
    · intro h';split at h'<;>omega
    · intro h';exact absurd h' h
theorem UW {a b:Int}:qk a b<0↔ff tI a b=true:=by
  have e:ff tI a b=decide (a<b):=rfl
  rw [e,decide_eq_true_eq]
  unfold qk
  repeat' split
  all_goals omega
theorem aa0 {c:Int} {r:List Int}:pW (c::r)<0↔c<0\/(c=0/\pW r<0):=by
  simp only [pW]
  split<;>omega
theorem UX (a b:Qf.den):decide (yC a b<0)=ff Qf a b:=by
  have hS:∀x y:ByteArray,dQ .str x y=true↔x=y:=fun x y=>⟨fun h=>bQ h,fun h=>by subst h;exact kK (t:=.str) x rfl⟩
  have hI:∀x y:Int,dQ tI x y=true↔x=y:=fun x y=>⟨fun h=>bQ (t:=tI) h,fun h=>by subst h;exact kK (t:=tI) x rfl⟩
  rw [Bool.eq_iff_iff,decide_eq_true_eq]
  show _↔(ff .str a.1 b.1||(dQ .str a.1 b.1&&(ff tI a.2.1 b.2.1||(dQ tI a.2.1 b.2.1&&(ff .str a.2.2.1 b.2.2.1||(dQ .str a.2.2.1 b.2.2.1&&(ff .str a.2.2.2.1 b.2.2.2.1||(dQ .str a.2.2.2.1 b.2.2.2.1&&ff tI a.2.2.2.2 b.2.2.2.2))))))))=true
  have e:pW []<0↔False:=by simp [pW]
  unfold yC
  simp only [aa0,e,and_false,or_false,we,Cv,UU,UW,Bool.or_eq_true,Bool.and_eq_true,hS,hI]
theorem wq85 (a b:Qf.den):ai (F85 a b)=some (yC a b,()):=by
  have hq:∀x y:ByteArray,(x.toList=y.toList)↔x=y:=fun x y=>by rw [<-vZ];unfold seq;rw [beq_iff_eq]
  simp only [F85,ah,ay,aa,afs,aft,aF,jM]
  split
  · rename_i h
    simp only [Bool.and_eq_true,beq_iff_eq,and_true,hq] at h
    obtain ⟨h1,h2,h3,h4,h5⟩:=h
    have:yC a b=0:=by
      unfold yC
      simp only [pW,we.2 h1,Cv.2 h2,we.2 h3,we.2 h4,Cv.2 h5,if_true]
    rw [this]
  · exact bind_eq (afu [nO a.1 b.1,qk a.2.1 b.2.1,nO a.2.2.1 b.2.2.1,nO a.2.2.2.1 b.2.2.2.1,qk a.2.2.2.2 b.2.2.2.2] (by simp)) rfl
theorem Qg:Qe.Ok prog:=fun x y h =>
  Uj (ρ := yA) aaA (enters_of func110 rfl rfl) (g := 85) (t := Qf) (ks := [.s, .i, .s, .s, .i]) rfl (by decide) (fun w => isAgg33 w) (fun w => sizeOf33 w) yC
    (fun a b=>Uu (a,b,()) (yC a b,()) (wq85 a b)) UX (xs:=x.2.1) (n:=x.1) (y:=y) h

/- 83, lent -/
abbrev pH83:au:=au.mk [(0,.fn 111 [] [.ptr 0 0]),(1,.c (.fn0 85))] [(0,.cells [.mp 1] false),(1,dy)] [.part 0 0,.cell 0 0] []
abbrev qH83:au:=au.mk [(0,.c (.bI 2 tG))] [(2,.arr tG false),(0,.cells [.mp 1] false),(1,dy)] [.slot 0] []
noncomputable def wg:Cx:=(aK [] [Qe])
theorem qK:wg.Ok prog:=aq (vS:=[]) (hts:=[Qe]) trivial ⟨⟨Qg,rfl⟩,trivial⟩
noncomputable def nP:D prog 13 (some 4) 8:=dO [] (pick (kd prog f128) [(0,false)]) 0
noncomputable def nQ:D prog 13 (some 4) 8:=dO [] (pick (kd prog f128) [(0,true)]) 0
noncomputable def iV:Cx:=zS wg (fun kz=>Pr kz wg dZ 4 8 [7] (nP) (nQ))
theorem jN:(iV).Ok prog:=jT qK (fun h=>nB mixed qK h)
abbrev sq:au:=au.mk [(0,.c (.yl 4)),(4,.c (.mp 1))] [(4,.loop .ready none 3 [(2,.c (.ptr 2 0)),(4,.c .bZ),(6,.fn 111 [] [.ptr 0 0])] [7] (.aZ [.op (some 5) none (.alloc [.str (ByteArray.mk (Array.mk [])),.int .i64 (Int.ofNat 0),.str (ByteArray.mk (Array.mk [])),.str (ByteArray.mk (Array.mk [])),.int .i64 (Int.ofNat 0)]),.op none none (.store 5 (.t 5) (.t 7))]) (.block 1 (.aZ [.op (some 8) none (.load false 1 (.t 2)),.op (some 9) none (.load true 5 (.t 5)),.op (some 10) none (.ew tG [.t 9]),.op (some 11) none (.append 5 (.t 8) (.t 10)),.op none none (.store 1 (.t 2) (.t 11))])) 13),(1,dy),(3,.iF),(2,.cells [.bI 5 tG] false),(0,.cells [.mp 1] false),(5,.arr tG false)] [.cell 2 0] []
noncomputable def sr:D prog 14 none 7:=dO [] (pick (kd prog f111) [(0,false)]) 0
noncomputable def gH83f109f128_0i_0:((GG)×(Bool))->cB×Nat×bq×Unit->bG (cB×Nat×bq×Unit):=fun e (m1,kO,b5,_) =>
 .nd (decide ((kO+((((((e.1.1,e.1.2.1,e.1.2.2.1,e.1.2.2.2.1,e.1.2.2.2.2)::[])).drop (0:Nat)).take (1:Nat))).length)<bp)) <|
 .nd (jK m1 m1) <|
 .ret (m1,(kO+((((((e.1.1,e.1.2.1,e.1.2.2.1,e.1.2.2.2.1,e.1.2.2.2.2)::[])).drop (0:Nat)).take (1:Nat))).length),((((b5).drop (0:Nat)).take kO)++(((((e.1.1,e.1.2.1,e.1.2.2.1,e.1.2.2.2.1,e.1.2.2.2.2)::[])).drop (0:Nat)).take (1:Nat))),())
noncomputable def su:rP prog 14 none 5:=vV mixed iV jN [0,1,2,3,4] rfl sq ( [.op (some 4) none (.load false 1 (.t 1))]) 4 5 [6,7] (some 8) ( .prod .str (.prod tI (.prod .str (.prod .str tI))))  true ( .bool)  false 0 rfl 7 rfl (sr) (fun e x=>ai (gH83f109f128_0i_0 e x)) (fun e=>fun x=>by kernel_rfl)
abbrev yD:au:=au.mk [(2,.c (.ptr 2 0)),(4,.c .bZ),(6,.fn 111 [] [.ptr 0 0])] [(2,.cells [.bZ] false),(0,.cells [.mp 1] false),(1,dy)] [.slot 2] []
abbrev yE:aU:=[(.normal,au.mk [(2,.c (.ptr 2 0))] [(2,.cells [.bI 3 tG] false),(0,.cells [.mp 1] false),(1,dy),(3,.arr tG false)] [.slot 2,.cell 2 0] [])]
noncomputable def nR:D prog 14 none 5:=dO [.m su] (kd prog f111) 0
theorem vq:cn prog f111=some ⟨14,2,(nR).er,[],[]⟩:=by kernel_rfl
noncomputable def oJ:gE prog 13 none 2:=sg mixed iV jN [0,1] rfl yD yE ( .t 6) [7] rfl (nP).er (nQ).er 111 func111 (vq) (enters_of func111 rfl rfl) 5 rfl (nR) rfl
@[reducible] noncomputable def UY:Go.AM.Fn:=⟨13,2,(dO [.r oJ] (kd prog f128) 0:D prog 13 none 2).er,[.t 4],[some (.list tG)]⟩
noncomputable def JG:Cx:=AX prog wg 128 UY 2 (dO [.r oJ] (kd prog f128) 0)
theorem Hu:JG.Ok prog:=r9 mixed qK func128 (by kernel_rfl) (enters_of func128 rfl rfl) rfl
@[reducible] noncomputable def UZ:Go.AM.Fn:=⟨5,1,(dO [] (kd prog f109) 0:D prog 5 none 0).er,[.t 2],[some (.list tG)]⟩
noncomputable def JH:Cx:=Et prog JG 109 UZ (fun _=>dO [] (kd prog f109) 0)
theorem Hv:JH.Ok prog:=pN mixed Hu func109 (by kernel_rfl) (enters_of func109 rfl rfl) (fun _=>by kernel_rfl)
noncomputable def afv:Cx:=JH
theorem Qh:afv.Ok prog:=Hv
noncomputable def Yj:D prog 12 none 2:=dO [] (kd prog f83) 0
noncomputable def FH83 (m1:cB):bG (Nat×bq×cB×Unit) :=
 .an m1 fun l0 =>
 .bd (.fm gH83f109f128_0i_0 l0 (m1,(0:Nat),[],())) fun z1 =>
 .bd (FH110 z1.2.1 z1.2.2.1) fun y2 =>
 .ret (z1.2.1,y2.1,z1.1,())
theorem U0:cn prog f83=some ⟨12,2,Yj.er,[.t 4],[some (.list tG)]⟩:=by kernel_rfl
noncomputable def ht83:Ht:=⟨83,pH83,qH83,(fun x=>ai (FH83 x.1))⟩
theorem U1:ht83.Ok prog:=bA mixed Qh rfl func83 U0 (enters_of func83 rfl rfl) Yj (by kernel_rfl) rfl rfl ⟨_,rfl⟩ rfl (pre:=[0,1]) rfl (fun x=>by kernel_rfl)

/- 47, lent -/
abbrev pH47:au:=au.mk [(0,.c (.ptr 0 0))] [(0,.cells [.mp 1] false),(1,dy)] [.slot 0,.cell 0 0] []
abbrev qH47:au:=au.mk [(0,.c (.bI 2 tG))] [(2,.arr tG false),(0,.cells [.mp 1] false),(1,dy)] [.slot 0] []
noncomputable def afx:Cx:=(aK [] [yB,ht84,ht83])
theorem Qi:afx.Ok prog:=aq trivial ⟨⟨lH,rfl⟩,⟨UT,rfl⟩,⟨U1,rfl⟩,trivial⟩
noncomputable def Yk:D prog 11 none 2:=dO [] (kd prog f47) 0
noncomputable def FH47 (m1:cB):bG (Nat×bq×cB×Unit) :=
 .bd (FH54 m1) fun y0 =>
 .br y0.1 (
 .ret ((0:Nat),[],y0.2.1,())) (
 .bd (FH84 y0.2.1) fun y1 =>
 .bd (FH83 y1.1) fun y2 =>
 .ret (y2.1,y2.2.1,y2.2.2.1,()))
theorem U2:cn prog f47=some ⟨11,1,Yk.er,[.t 2],[some (.list tG)]⟩:=by kernel_rfl
noncomputable def Qj:Ht:=⟨47,pH47,qH47,(fun x=>ai (FH47 x.1))⟩
theorem wh:Qj.Ok prog:=bA mixed Qi rfl func47 U2 (enters_of func47 rfl rfl) Yk (by kernel_rfl) rfl rfl ⟨_,rfl⟩ rfl (pre:=[0,1]) rfl (fun x=>by kernel_rfl)

/- 95, lent -/
abbrev pH95:au:=au.mk [(0,.c (.mp 0))] [(0,eo)] [.slot 0] []
abbrev qH95:au:=au.mk [(0,.fn 118 [] [.ptr 1 0])] [(1,.cells [.mp 0] false),(0,eo)] [.part 0 0] []
noncomputable def afy:Cx:=(aK [] [])
theorem Qk:afy.Ok prog:=aq trivial trivial
noncomputable def Yl:D prog 4 none 1:=dO [] (kd prog f95) 0
noncomputable def FH95 (m0:cO):bG (cO×Unit) :=
 .ret (m0,())
theorem U3:cn prog f95=some ⟨4,1,Yl.er,[.t 2],[none]⟩:=by kernel_rfl
noncomputable def Ql:Ht:=⟨95,pH95,qH95,(fun x=>ai (FH95 x.1))⟩
theorem wj:Ql.Ok prog:=bA mixed Qk rfl func95 U3 (enters_of func95 rfl rfl) Yl (by kernel_rfl) rfl rfl ⟨_,rfl⟩ rfl (pre:=[0]) rfl (fun x=>by kernel_rfl)

/- 105, by hand -/
abbrev afz:au:=au.mk [(0,.c (.bI 0 .str))] [(0,.arr .str false)] [.slot 0] []
abbrev afA:au:=au.mk [(0,.c .any)] [(0,.arr .str false)] [] []
noncomputable def FH105 (nG:Nat) (b0:List ByteArray):bG (List ByteArray×Unit) :=
 .of (vp .str b0 nG)
noncomputable def A4:Ht:=⟨105,afz,afA,(fun x=>ai (FH105 x.1 x.2.1))⟩
theorem yF:A4.Ok prog:=fun x y h=>PD (ρ:=yy) aay (enters_of func105 rfl rfl) (xs:=x.2.1) (n:=x.1) (y:=y) h

/- 81, lent -/
abbrev pH81:au:=au.mk [(0,.fn 118 [] [.ptr 0 0])] [(0,.cells [.mp 1] false),(1,eo)] [.part 0 0,.cell 0 0] []
abbrev qH81:au:=au.mk [(0,.c (.bI 2 .str))] [(2,.arr .str false),(0,.cells [.mp 1] false),(1,eo)] [.slot 0] []
noncomputable def wk:Cx:=(aK [] [A4])
theorem qL:wk.Ok prog:=aq (vS:=[]) (hts:=[A4]) trivial ⟨⟨yF,rfl⟩,trivial⟩
noncomputable def nS:D prog 13 (some 4) 7:=dO [] (pick (kd prog f126) [(0,false)]) 0
noncomputable def nT:D prog 13 (some 4) 7:=dO [] (pick (kd prog f126) [(0,true)]) 0
noncomputable def iW:Cx:=zS wk (fun kz=>Pr kz wk dZ 4 7 [7] (nS) (nT))
theorem jO:(iW).Ok prog:=jT qL (fun h=>nB mixed qL h)
abbrev sv:au:=au.mk [(0,.c (.yl 4)),(4,.c (.mp 1))] [(4,.loop .ready none 3 [(2,.c (.ptr 2 0)),(4,.c .bZ),(6,.fn 118 [] [.ptr 0 0])] [7] (.aZ [.op (some 5) none (.mv (.t 7))]) (.block 1 (.aZ [.op (some 8) none (.load false 1 (.t 2)),.op (some 9) none (.mv (.t 5)),.op (some 10) none (.ew .str [.t 9]),.op (some 11) none (.append 1 (.t 8) (.t 10)),.op none none (.store 1 (.t 2) (.t 11))])) 13),(1,eo),(3,.iF),(2,.cells [.bI 5 .str] false),(0,.cells [.mp 1] false),(5,.arr .str false)] [.cell 2 0] []
noncomputable def sw:D prog 14 none 7:=dO [] (pick (kd prog f118) [(0,false)]) 0
noncomputable def gH81f107f126_0i_0:((ByteArray)×GG)->cO×Nat×List ByteArray×Unit->bG (cO×Nat×List ByteArray×Unit):=fun e (m1,kO,b5,_) =>
 .nd (decide ((kO+(((((e.1::[])).drop (0:Nat)).take (1:Nat))).length)<bp)) <|
 .nd (jK m1 m1) <|
 .ret (m1,(kO+(((((e.1::[])).drop (0:Nat)).take (1:Nat))).length),((((b5).drop (0:Nat)).take kO)++((((e.1::[])).drop (0:Nat)).take (1:Nat))),())
noncomputable def sx:rP prog 14 none 5:=vV mixed iW jO [0,1,2,3,4] rfl sv ( [.op (some 4) none (.load false 1 (.t 1))]) 4 5 [6,7] (some 8) ( .str)  false ( .prod .str (.prod tI (.prod .str (.prod .str tI))))  true 0 rfl 7 rfl (sw) (fun e x=>ai (gH81f107f126_0i_0 e x)) (fun e=>fun x=>by kernel_rfl)
abbrev yG:au:=au.mk [(2,.c (.ptr 2 0)),(4,.c .bZ),(6,.fn 118 [] [.ptr 0 0])] [(2,.cells [.bZ] false),(0,.cells [.mp 1] false),(1,eo)] [.slot 2] []
abbrev yH:aU:=[(.normal,au.mk [(2,.c (.ptr 2 0))] [(2,.cells [.bI 3 .str] false),(0,.cells [.mp 1] false),(1,eo),(3,.arr .str false)] [.slot 2,.cell 2 0] [])]
noncomputable def nU:D prog 14 none 5:=dO [.m sx] (kd prog f118) 0
theorem vr:cn prog f118=some ⟨14,2,(nU).er,[],[]⟩:=by kernel_rfl
noncomputable def oK:gE prog 13 none 2:=sg mixed iW jO [0,1] rfl yG yH ( .t 6) [7] rfl (nS).er (nT).er 118 func118 (vr) (enters_of func118 rfl rfl) 5 rfl (nU) rfl
@[reducible] noncomputable def U4:Go.AM.Fn:=⟨13,2,(dO [.r oK] (kd prog f126) 0:D prog 13 none 2).er,[.t 4],[some (.list .str)]⟩
noncomputable def JI:Cx:=AX prog wk 126 U4 2 (dO [.r oK] (kd prog f126) 0)
theorem Hw:JI.Ok prog:=r9 mixed qL func126 (by kernel_rfl) (enters_of func126 rfl rfl) rfl
@[reducible] noncomputable def U5:Go.AM.Fn:=⟨5,1,(dO [] (kd prog f107) 0:D prog 5 none 0).er,[.t 2],[some (.list .str)]⟩
noncomputable def JJ:Cx:=Et prog JI 107 U5 (fun _=>dO [] (kd prog f107) 0)
theorem Hx:JJ.Ok prog:=pN mixed Hw func107 (by kernel_rfl) (enters_of func107 rfl rfl) (fun _=>by kernel_rfl)
noncomputable def afB:Cx:=JJ
theorem Qm:afB.Ok prog:=Hx
noncomputable def Ym:D prog 9 none 2:=dO [] (kd prog f81) 0
noncomputable def FH81 (m1:cO):bG (Nat×List ByteArray×cO×Unit) :=
 .an m1 fun l0 =>
 .bd (.fm gH81f107f126_0i_0 l0 (m1,(0:Nat),[],())) fun z1 =>
 .bd (FH105 z1.2.1 z1.2.2.1) fun y2 =>
 .ret (z1.2.1,y2.1,z1.1,())
theorem U6:cn prog f81=some ⟨9,1,Ym.er,[.t 2],[some (.list .str)]⟩:=by kernel_rfl
noncomputable def Qn:Ht:=⟨81,pH81,qH81,(fun x=>ai (FH81 x.1))⟩
theorem wm:Qn.Ok prog:=bA mixed Qm rfl func81 U6 (enters_of func81 rfl rfl) Ym (by kernel_rfl) rfl rfl ⟨_,rfl⟩ rfl (pre:=[0,1]) rfl (fun x=>by kernel_rfl)

/- 98, lent -/
abbrev pH98:au:=au.mk [(0,.c (.hole (.list .str)))] [] [] []
abbrev qH98:au:=au.mk [(0,.c (.bI 0 .str))] [(0,.arr .str false)] [.slot 0] []
noncomputable def afC:Cx:=(aK [] [])
theorem Qo:afC.Ok prog:=aq trivial trivial
noncomputable def Yn:D prog 8 none 0:=dO [] (kd prog f98) 0
noncomputable def FH98 (v0:List ByteArray):bG (Nat×List ByteArray×Unit) :=
 .br ((((v0).length:Nat):Int)==(0:Int)) (
 .am inferInstance (
 .ret ((0:Nat),[],())) (
 .nd (decide (((0:Nat)+(v0).length)<bp)) <|
 .ret (((0:Nat)+(v0).length),(((([]).drop (0:Nat)).take (0:Nat))++v0),()))) (
 .nd (decide (((0:Nat)+(v0).length)<bp)) <|
 .ret (((0:Nat)+(v0).length),(((([]).drop (0:Nat)).take (0:Nat))++v0),()))
theorem U7:cn prog f98=some ⟨8,1,Yn.er,[.t 2],[some (.list .str)]⟩:=by kernel_rfl
noncomputable def aa1:Ht:=⟨98,pH98,qH98,(fun x=>ai (FH98 x.1))⟩
theorem JK:aa1.Ok prog:=bA mixed Qo rfl func98 U7 (enters_of func98 rfl rfl) Yn (by kernel_rfl) rfl rfl ⟨_,rfl⟩ rfl (pre:=[]) rfl (fun x=>by kernel_rfl)

/- 99, lent -/
abbrev pH99:au:=au.mk [(0,.c (.hole .str)),(1,.c (.ptr 0 0))] [(0,.cells [.ptr 1 0] false),(1,.cells [.mp 2,.mp 3,.mp 4,.mp 5] false),(2,eo),(3,eZ),(4,bP),(5,bP)] [.slot 1,.cell 0 0,.cell 1 0,.cell 1 1,.cell 1 2,.cell 1 3] []
abbrev qH99:au:=au.mk [(0,.c (.hole .bool))] [(0,.cells [.ptr 1 0] false),(1,.cells [.mp 2,.mp 3,.mp 4,.mp 5] false),(2,eo),(3,eZ),(4,bP),(5,bP)] [] []
noncomputable def afD:Cx:=(aK [] [])
theorem Qp:afD.Ok prog:=aq trivial trivial
noncomputable def Yo:D prog 11 none 6:=dO [] (kd prog f99) 0
noncomputable def FH99 (v0:ByteArray) (m2:cO) (m3:cT) (m4:bg) (m5:bg):bG (Bool×cO×cT×bg×bg×Unit) :=
 .ret ((!(aA .str false m4 v0)),m2,m3,m4,m5,())
theorem U8:cn prog f99=some ⟨11,2,Yo.er,[.t 3],[some .bool]⟩:=by kernel_rfl
noncomputable def aa2:Ht:=⟨99,pH99,qH99,(fun x=>ai (FH99 x.1 x.2.1 x.2.2.1 x.2.2.2.1 x.2.2.2.2.1))⟩
theorem JL:aa2.Ok prog:=bA mixed Qp rfl func99 U8 (enters_of func99 rfl rfl) Yo (by kernel_rfl) rfl rfl ⟨_,rfl⟩ rfl (pre:=[0,1,2,3,4,5]) rfl (fun x=>by kernel_rfl)

/- 119, lent -/
abbrev afE:au:=au.mk [(0,.c (.bI 0 .str)),(1,.fn 99 [] [.ptr 1 0])] [(0,.arr .str false),(1,.cells [.ptr 2 0] false),(2,.cells [.mp 3,.mp 4,.mp 5,.mp 6] false),(3,eo),(4,eZ),(5,bP),(6,bP)] [.slot 0,.part 1 0,.cell 1 0,.cell 2 0,.cell 2 1,.cell 2 2,.cell 2 3] []
abbrev afF:au:=au.mk [(0,hI)] [(1,.cells [.ptr 2 0] false),(2,.cells [.mp 3,.mp 4,.mp 5,.mp 6] false),(3,eo),(4,eZ),(5,bP),(6,bP),(0,.arr .str false)] [] []
noncomputable def Qq:Cx:=(aK [] [aa2])
theorem A5:Qq.Ok prog:=aq trivial ⟨⟨JL,rfl⟩,trivial⟩
abbrev U9:au:=au.mk [(0,.c (.bI 0 .str)),(1,.fn 99 [] [.ptr 1 0]),(7,hI),(8,hI)] [(0,.arr .str false),(1,.cells [.ptr 2 0] false),(2,.cells [.mp 3,.mp 4,.mp 5,.mp 6] false),(3,eo),(4,eZ),(5,bP),(6,bP)] [] []
abbrev Va:aU:=[(.ret,au.mk [(4,hI)] [(1,.cells [.ptr 2 0] false),(2,.cells [.mp 3,.mp 4,.mp 5,.mp 6] false),(3,eo),(4,eZ),(5,bP),(6,bP),(0,.arr .str false)] [] []),(.exit 0,au.mk [] [(1,.cells [.ptr 2 0] false),(2,.cells [.mp 3,.mp 4,.mp 5,.mp 6] false),(3,eo),(4,eZ),(5,bP),(6,bP),(0,.arr .str false)] [] [])]
noncomputable def Vb:D prog 19 none 7:=dO [] (pick (kd prog f119) [(0,false)]) 0
noncomputable def gH119_0:Nat×Int×Int×List ByteArray×cO×cT×bg×bg×Unit->bG ((Nat×Int×Int×List ByteArray×cO×cT×bg×bg×Unit) ⊕ ((Int×cO×cT×bg×bg×List ByteArray×Unit) ⊕ ((cO×cT×bg×bg×List ByteArray×Unit)))):=fun (nG,v7,v8,b0,m3,m4,m5,m6,_) =>
 .br (decide (v8<v7)) (
 .nb v8 ((nG:Nat):Int) <|
 .nd (decide (((0:Nat)+(Int.toNat v8))<(b0).length)) <|
 .bd (FH99 ((b0).getD ((0:Nat)+(Int.toNat v8)) (bs [])) m3 m4 m5 m6) fun y0 =>
 .br y0.1 (
 .ret (.inr <| .inl<|(v8,y0.2.1,y0.2.2.1,y0.2.2.2.1,y0.2.2.2.2.1,b0,()))) (
 .ni (v8+(1:Int)) <|
 .ret (.inl (nG,v7,(v8+(1:Int)),b0,y0.2.1,y0.2.2.1,y0.2.2.2.1,y0.2.2.2.2.1,())))) (
 .ret (.inr <| .inr<|(m3,m4,m5,m6,b0,())))
noncomputable def Vc:bu prog 19 none 7:=aV mixed Qq A5 [0,1,2,3,4,5,6] rfl U9 Va rfl (Vb) (fun x=>ai (gH119_0 x)) (fun x=>by kernel_rfl)
noncomputable def Qr:D prog 19 none 7:=dO [.l Vc] (kd prog f119) 0
noncomputable def FH119 (nG:Nat) (b0:List ByteArray) (m3:cO) (m4:cT) (m5:bg) (m6:bg):bG (Int×cO×cT×bg×bg×List ByteArray×Unit) :=
 .bd (.it gH119_0 (nG,((nG:Nat):Int),(0:Int),b0,m3,m4,m5,m6,())) fun z1 =>
 .sm z1 (fun z2 =>
 .ret (z2.1,z2.2.1,z2.2.2.1,z2.2.2.2.1,z2.2.2.2.2.1,z2.2.2.2.2.2.1,())) fun z3 =>
 .ret ((-1:Int),z3.1,z3.2.1,z3.2.2.1,z3.2.2.2.1,z3.2.2.2.2.1,())
theorem Qs:cn prog f119=some ⟨19,2,Qr.er,[.t 4],[some tI]⟩:=by kernel_rfl
noncomputable def Yp:Ht:=⟨119,afE,afF,(fun x=>ai (FH119 x.1 x.2.1 x.2.2.1 x.2.2.2.1 x.2.2.2.2.1 x.2.2.2.2.2.1))⟩
theorem Qt:Yp.Ok prog:=bA mixed A5 rfl func119 Qs (enters_of func119 rfl rfl) Qr (by kernel_rfl) rfl rfl ⟨_,rfl⟩ rfl (pre:=[0,1,2,3,4,5,6]) rfl (fun x=>by kernel_rfl)

/- 97, lent -/
abbrev pH97:au:=au.mk [(0,.c (.bI 0 .str)),(1,.fn 99 [] [.ptr 1 0])] [(0,.arr .str false),(1,.cells [.ptr 2 0] false),(2,.cells [.mp 3,.mp 4,.mp 5,.mp 6] false),(3,eo),(4,eZ),(5,bP),(6,bP)] [.slot 0,.part 1 0,.cell 1 0,.cell 2 0,.cell 2 1,.cell 2 2,.cell 2 3] []
abbrev qH97:au:=au.mk [(0,.c (.SO 0 .str))] [(0,.arr .str false),(1,.cells [.ptr 2 0] false),(2,.cells [.mp 3,.mp 4,.mp 5,.mp 6] false),(3,eo),(4,eZ),(5,bP),(6,bP)] [] []
noncomputable def Yq:Cx:=(aK [] [Yp,aa2])
theorem EK:Yq.Ok prog:=aq trivial ⟨⟨Qt,rfl⟩,⟨JL,rfl⟩,trivial⟩
abbrev aa3:au:=au.mk [(0,.c (.bI 0 .str)),(1,.fn 99 [] [.ptr 1 0]),(5,hI),(6,hI)] [(0,.arr .str false),(1,.cells [.ptr 2 0] false),(2,.cells [.mp 3,.mp 4,.mp 5,.mp 6] false),(3,eo),(4,eZ),(5,bP),(6,bP)] [] []
abbrev aa4:aU:=[(.exit 0,au.mk [(0,.c (.bI 0 .str)),(5,hI)] [(0,.arr .str false),(1,.cells [.ptr 2 0] false),(2,.cells [.mp 3,.mp 4,.mp 5,.mp 6] false),(3,eo),(4,eZ),(5,bP),(6,bP)] [] [])]
noncomputable def aa5:D prog 42 none 7:=dO [] (pick (kd prog f97) [(0,false)]) 0
noncomputable def gH97_0:Nat×Int×Int×List ByteArray×cO×cT×bg×bg×Unit->bG ((Nat×Int×Int×List ByteArray×cO×cT×bg×bg×Unit) ⊕ ((Nat×Int×List ByteArray×cO×cT×bg×bg×Unit))):=fun (nG,v5,v6,b0,m3,m4,m5,m6,_) =>
 .br (decide (v6<((nG:Nat):Int))) (
 .nb v6 ((nG:Nat):Int) <|
 .nd (decide (((0:Nat)+(Int.toNat v6))<(b0).length)) <|
 .bd (FH99 ((b0).getD ((0:Nat)+(Int.toNat v6)) (bs [])) m3 m4 m5 m6) fun y1 =>
 .br (!y1.1) (
 .nb v5 ((nG:Nat):Int) <|
 .nd (decide (((0:Nat)+(Int.toNat v5))<(b0).length)) <|
 .ni (v5+(1:Int)) <|
 .ni (v6+(1:Int)) <|
 .ret (.inl (nG,(v5+(1:Int)),(v6+(1:Int)),((b0).set ((0:Nat)+(Int.toNat v5)) ((b0).getD ((0:Nat)+(Int.toNat v6)) (bs []))),y1.2.1,y1.2.2.1,y1.2.2.2.1,y1.2.2.2.2.1,()))) (
 .ni (v6+(1:Int)) <|
 .ret (.inl (nG,v5,(v6+(1:Int)),b0,y1.2.1,y1.2.2.1,y1.2.2.2.1,y1.2.2.2.2.1,())))) (
 .ret (.inr (nG,v5,b0,m3,m4,m5,m6,())))
noncomputable def aa6:bu prog 42 none 7:=aV mixed Yq EK [0,1,2,3,4,5,6] rfl aa3 aa4 rfl (aa5) (fun x=>ai (gH97_0 x)) (fun x=>by kernel_rfl)
noncomputable def Yr:D prog 42 none 7:=dO [.l aa6] (kd prog f97) 0
noncomputable def FH97 (nG:Nat) (b0:List ByteArray) (m3:cO) (m4:cT) (m5:bg) (m6:bg):bG (Nat×Nat×List ByteArray×cO×cT×bg×bg×Unit) :=
 .bd (FH119 nG b0 m3 m4 m5 m6) fun y0 =>
 .br (y0.1==(-1:Int)) (
 .ret ((0:Nat),nG,y0.2.2.2.2.2.1,y0.2.1,y0.2.2.1,y0.2.2.2.1,y0.2.2.2.2.1,())) (
 .ni (y0.1+(1:Int)) <|
 .bd (.it gH97_0 (nG,y0.1,(y0.1+(1:Int)),y0.2.2.2.2.2.1,y0.2.1,y0.2.2.1,y0.2.2.2.1,y0.2.2.2.2.1,())) fun z2 =>
 .nd (decide ((0:Int)<=z2.2.1)) <|
 .nd (decide (z2.2.1<=((z2.1:Nat):Int))) <|
 .nd (decide (((z2.1:Nat):Int)<=((z2.1:Nat):Int))) <|
 .nd (decide ((0:Int)<=(0:Int))) <|
 .nd (decide ((0:Int)<=z2.2.1)) <|
 .nd (decide (z2.2.1<=((z2.1:Nat):Int))) <|
 .ret (((0:Nat)+(Int.toNat (0:Int))),((Int.toNat z2.2.1) - (Int.toNat (0:Int))),(Bs (bs []) z2.2.2.1 ((0:Nat)+(Int.toNat z2.2.1)) ((Int.toNat ((z2.1:Nat):Int)) - (Int.toNat z2.2.1))),z2.2.2.2.1,z2.2.2.2.2.1,z2.2.2.2.2.2.1,z2.2.2.2.2.2.2.1,()))
theorem Vd:cn prog f97=some ⟨42,2,Yr.er,[.t 4],[some (.list .str)]⟩:=by kernel_rfl
noncomputable def ht97:Ht:=⟨97,pH97,qH97,(fun x=>ai (FH97 x.1 x.2.1 x.2.2.1 x.2.2.2.1 x.2.2.2.2.1 x.2.2.2.2.2.1))⟩
theorem Ve:ht97.Ok prog:=bA mixed EK rfl func97 Vd (enters_of func97 rfl rfl) Yr (by kernel_rfl) rfl rfl ⟨_,rfl⟩ rfl (pre:=[0,1,2,3,4,5,6]) rfl (fun x=>by kernel_rfl)

/- 96, lent -/
abbrev kP:au:=au.mk [(0,.c (.hole .str)),(1,.c (.ptr 0 0)),(2,.c (.ptr 1 0))] [(0,.cells [.ptr 2 0] false),(1,.cells [.fn 96 .nil (.cons (.ptr 0 0) (.cons (.ptr 1 0) .nil))] false),(2,.cells [.mp 3,.mp 4,.mp 5,.mp 6] false),(3,eo),(4,eZ),(5,bP),(6,bP)] [.slot 1,.slot 2,.cell 0 0,.cell 2 0,.cell 2 1,.cell 2 2,.cell 2 3] []
abbrev kQ:au:=au.mk [(0,.c .any)] [(0,.cells [.ptr 2 0] false),(2,.cells [.mp 3,.mp 4,.mp 5,.mp 6] false),(3,eo),(4,eZ),(5,bP),(6,bP),(1,.cells [.fn 96 .nil (.cons (.ptr 0 0) (.cons (.ptr 1 0) .nil))] false)] [] []
noncomputable def Qu (rec:kP.T->Option kQ.T):Cx:=(aK [] [⟨96,kP,kQ,rec⟩])
theorem EL (rec:kP.T->Option kQ.T) (h:Ht.Ok prog ⟨96,kP,kQ,rec⟩):(Qu rec).Ok prog:=aq trivial ⟨⟨h,rfl⟩,trivial⟩
abbrev Hy:au:=au.mk [(2,.c (.ptr 1 0)),(22,.c (.hole (.list .str))),(23,hI),(24,hI)] [(1,.cells [.fn 96 .nil (.cons (.ptr 0 0) (.cons (.ptr 1 0) .nil))] false),(0,.cells [.ptr 2 0] false),(2,.cells [.mp 3,.mp 4,.mp 5,.mp 6] false),(3,eo),(4,eZ),(5,bP),(6,bP)] [] []
abbrev Hz:aU:=[(.exit 0,au.mk [] [(0,.cells [.ptr 2 0] false),(2,.cells [.mp 3,.mp 4,.mp 5,.mp 6] false),(3,eo),(4,eZ),(5,bP),(6,bP),(1,.cells [.fn 96 .nil (.cons (.ptr 0 0) (.cons (.ptr 1 0) .nil))] false)] [] [])]
noncomputable def Qv (rec:kP.T->Option kQ.T) (h:Ht.Ok prog ⟨96,kP,kQ,rec⟩):D prog 32 none 7:=dO [] (pick (kd prog f96) [(0,false)]) 0
noncomputable def gH96_0:List ByteArray×Int×Int×cO×cT×bg×bg×Unit->Tr kP.T kQ.T ((List ByteArray×Int×Int×cO×cT×bg×bg×Unit) ⊕ ((cO×cT×bg×bg×Unit))):=fun (v22,v23,v24,m3,m4,m5,m6,_) =>
 .br (decide (v24<v23)) (
 .nb v24 (((v22).length:Nat):Int) <|
 .bd (.rc (((v22).getD (Int.toNat v24) (bs [])),m3,m4,m5,m6,())) fun y0 =>
 .ni (v24+(1:Int)) <|
 .ret (.inl (v22,v23,(v24+(1:Int)),y0.1,y0.2.1,y0.2.2.1,y0.2.2.2.1,()))) (
 .ret (.inr (m3,m4,m5,m6,())))
theorem aa7 (rec:kP.T->Option kQ.T) (h:Ht.Ok prog ⟨96,kP,kQ,rec⟩):∀x,oF (iL (Hy.T ⊕ Hz.T)) (Qu rec) dZ [0,1,2,3,4,5,6] Hy Hz (Qv rec h) (fun y=>some (.inl y)) (fun b=>some (.inr b)) x=run rec (gH96_0 x):=fun x=>by kernel_rfl
noncomputable def aa8 (rec:kP.T->Option kQ.T) (h:Ht.Ok prog ⟨96,kP,kQ,rec⟩):bu prog 32 none 7:=aV mixed (Qu rec) (EL rec h) [0,1,2,3,4,5,6] rfl Hy Hz rfl (Qv rec h) (fun x=>run rec (gH96_0 x)) (aa7 rec h)
noncomputable def Ys (rec:kP.T->Option kQ.T) (h:Ht.Ok prog ⟨96,kP,kQ,rec⟩):D prog 32 none 7:=dO [.l (aa8 rec h)] (kd prog f96) 0
noncomputable def FH96 (v0:ByteArray) (m3:cO) (m4:cT) (m5:bg) (m6:bg):Tr kP.T kQ.T (cO×cT×bg×bg×Unit) :=
 .br (aA .str false m6 v0) (
 .ret (m3,m4,m5,m6,())) (
 .bd (.it gH96_0 ((aA .str [] m4 v0),((((aA .str [] m4 v0)).length:Nat):Int),(0:Int),m3,m4,m5,(bn .str m6 v0 true),())) fun z1 =>
 .ret (z1.1,z1.2.1,z1.2.2.1,z1.2.2.2.1,()))
theorem Vf (rec:kP.T->Option kQ.T) (h:Ht.Ok prog ⟨96,kP,kQ,rec⟩):cn prog f96=some ⟨32,3,(Ys rec h).er,[],[]⟩:=by kernel_rfl
theorem LM (rec:kP.T->Option kQ.T) (h:Ht.Ok prog ⟨96,kP,kQ,rec⟩):Ht.Ok prog ⟨96,kP,kQ,(fun x=>run rec (FH96 x.1 x.2.1 x.2.2.1 x.2.2.2.1 x.2.2.2.2.1))⟩:=bA mixed (EL rec h) rfl func96 (Vf rec h) (enters_of func96 rfl rfl) (Ys rec h) (by kernel_rfl) rfl rfl ⟨_,rfl⟩ rfl (pre:=[0,1,2,3,4,5,6]) rfl (fun x=>by kernel_rfl)
noncomputable def FH96fix (v0:ByteArray) (m3:cO) (m4:cT) (m5:bg) (m6:bg):bG (cO×cT×bg×bg×Unit):=.fx (A1:=kP.T) (B1:=kQ.T) (fun x=>FH96 x.1 x.2.1 x.2.2.1 x.2.2.2.1 x.2.2.2.2.1) (v0,m3,m4,m5,m6,())
noncomputable def ht96:Ht:=⟨96,kP,kQ,fun x=>ai (FH96fix x.1 x.2.1 x.2.2.1 x.2.2.2.1 x.2.2.2.2.1)⟩
theorem Vg:ht96.Ok prog:=Cm (F:=fun rec x=>run rec (FH96 x.1 x.2.1 x.2.2.1 x.2.2.2.1 x.2.2.2.2.1)) (fun rec h=>LM rec h)

/- 66, lent -/
abbrev pH66:au:=au.mk [(0,.c (.ptr 0 0))] [(0,.cells [.mp 1] false),(1,dy)] [.slot 0,.cell 0 0] []
abbrev qH66:au:=au.mk [(0,.c (.ptr 2 0))] [(2,.cells [.mp 3,.mp 4,.mp 5,.mp 6] false),(0,.cells [.mp 1] false),(1,dy),(3,eo),(4,eZ),(5,bP),(6,bP)] [.slot 0,.cell 2 0,.cell 2 1,.cell 2 2,.cell 2 3] []
noncomputable def JM:Cx:=(aK [] [Qj,Ql,Qn,aa1,ht97,ht96])
theorem sy:JM.Ok prog:=aq trivial ⟨⟨wh,rfl⟩,⟨wj,rfl⟩,⟨wm,rfl⟩,⟨JK,rfl⟩,⟨Ve,rfl⟩,⟨Vg,rfl⟩,trivial⟩
abbrev aa9:au:=au.mk [(3,.c (.ptr 2 0)),(26,.c (.bI 3 tG)),(27,hI),(28,hI)] [(2,.cells [.ptr 4 0] false),(3,.arr tG false),(0,.cells [.mp 1] false),(1,dy),(4,.cells [.mp 5,.mp 6,.mp 7,.mp 8] false),(5,eo),(6,eZ),(7,bP),(8,bP)] [.slot 3,.slot 26,.cell 2 0,.cell 4 0,.cell 4 1,.cell 4 2,.cell 4 3] []
abbrev aba:aU:=[(.exit 0,au.mk [(3,.c (.ptr 2 0))] [(2,.cells [.ptr 3 0] false),(0,.cells [.mp 1] false),(1,dy),(3,.cells [.mp 4,.mp 5,.mp 6,.mp 7] false),(4,eo),(5,eZ),(6,bP),(7,bP)] [.slot 3,.cell 2 0,.cell 3 0,.cell 3 1,.cell 3 2,.cell 3 3] [])]
noncomputable def abb:D prog 148 none 2:=dO [] (pick (kd prog f66) [(0,false)]) 0
noncomputable def gH66_0:Nat×Int×Int×bq×cB×cO×cT×bg×bg×Unit->bG ((Nat×Int×Int×bq×cB×cO×cT×bg×bg×Unit) ⊕ ((cB×cO×cT×bg×bg×Unit))):=fun (abc,v27,v28,b3,m1,m5,m6,m7,m8,_) =>
 .br (decide (v28<v27)) (
 .nb v28 ((abc:Nat):Int) <|
 .nd (decide (((0:Nat)+(Int.toNat v28))<(b3).length)) <|
 .br (!(aT .str m5 ((b3).getD ((0:Nat)+(Int.toNat v28)) ((bs []),(0:Int),(bs []),(bs []),(0:Int))).1)) (
 .ni (v28+(1:Int)) <|
 .ret (.inl (abc,v27,(v28+(1:Int)),b3,m1,(bn .str m5 ((b3).getD ((0:Nat)+(Int.toNat v28)) ((bs []),(0:Int),(bs []),(bs []),(0:Int))).1 (((b3).getD ((0:Nat)+(Int.toNat v28)) ((bs []),(0:Int),(bs []),(bs []),(0:Int))).1,((b3).getD ((0:Nat)+(Int.toNat v28)) ((bs []),(0:Int),(bs []),(bs []),(0:Int))).2.1,((b3).getD ((0:Nat)+(Int.toNat v28)) ((bs []),(0:Int),(bs []),(bs []),(0:Int))).2.2.1,((b3).getD ((0:Nat)+(Int.toNat v28)) ((bs []),(0:Int),(bs []),(bs []),(0:Int))).2.2.2.1,((b3).getD ((0:Nat)+(Int.toNat v28)) ((bs []),(0:Int),(bs []),(bs []),(0:Int))).2.2.2.2)),m6,m7,m8,()))) (
 .ni (v28+(1:Int)) <|
 .ret (.inl (abc,v27,(v28+(1:Int)),b3,m1,m5,m6,m7,m8,())))) (
 .ret (.inr (m1,m5,m6,m7,m8,())))
noncomputable def abd:bu prog 148 none 2:=aV mixed JM sy [0,1] rfl aa9 aba rfl (abb) (fun x=>ai (gH66_0 x)) (fun x=>by kernel_rfl)
abbrev qM:au:=au.mk [(3,.c (.ptr 2 0)),(57,.c (.bI 3 .str)),(58,hI),(59,hI)] [(2,.cells [.ptr 4 0] false),(3,.arr .str false),(0,.cells [.mp 1] false),(1,dy),(4,.cells [.mp 5,.mp 6,.mp 7,.mp 8] false),(5,eo),(6,eZ),(7,bP),(8,bP)] [.slot 3,.slot 57,.cell 2 0,.cell 4 0,.cell 4 1,.cell 4 2,.cell 4 3] []
abbrev ud:aU:=[(.exit 2,au.mk [(3,.c (.ptr 2 0))] [(2,.cells [.ptr 3 0] false),(0,.cells [.mp 1] false),(1,dy),(3,.cells [.mp 4,.mp 5,.mp 6,.mp 7] false),(4,eo),(5,eZ),(6,bP),(7,bP)] [.slot 3,.cell 2 0,.cell 3 0,.cell 3 1,.cell 3 2,.cell 3 3] [])]
noncomputable def abe:D prog 148 none 2:=dO [] (pick (kd prog f66) [(1,false)]) 0
noncomputable def gH66_1:Nat×Int×Int×List ByteArray×cB×cO×cT×bg×bg×Unit->bG ((Nat×Int×Int×List ByteArray×cB×cO×cT×bg×bg×Unit) ⊕ ((cB×cO×cT×bg×bg×Unit))):=fun (dW,v58,v59,b3,m1,m5,m6,m7,m8,_) =>
 .br (decide (v59<v58)) (
 .nb v59 ((dW:Nat):Int) <|
 .nd (decide (((0:Nat)+(Int.toNat v59))<(b3).length)) <|
 .br ((aA .str ((bs []),(0:Int),(bs []),(bs []),(0:Int)) m5 ((b3).getD ((0:Nat)+(Int.toNat v59)) (bs []))).2.1==(3:Int)) (
 .ni (v59+(1:Int)) <|
 .ret (.inl (dW,v58,(v59+(1:Int)),b3,m1,m5,m6,(bn .str m7 (aA .str ((bs []),(0:Int),(bs []),(bs []),(0:Int)) m5 ((b3).getD ((0:Nat)+(Int.toNat v59)) (bs []))).2.2.1 true),m8,()))) (
 .br ((aA .str ((bs []),(0:Int),(bs []),(bs []),(0:Int)) m5 ((b3).getD ((0:Nat)+(Int.toNat v59)) (bs []))).2.1==(2:Int)) (
 .nd (decide (((aA .str [] m6 (aA .str ((bs []),(0:Int),(bs []),(bs []),(0:Int)) m5 ((b3).getD ((0:Nat)+(Int.toNat v59)) (bs []))).2.2.1)).length+1<bp)) <|
 .ni (v59+(1:Int)) <|
 .ret (.inl (dW,v58,(v59+(1:Int)),b3,m1,m5,(bn .str m6 (aA .str ((bs []),(0:Int),(bs []),(bs []),(0:Int)) m5 ((b3).getD ((0:Nat)+(Int.toNat v59)) (bs []))).2.2.1 ((aA .str [] m6 (aA .str ((bs []),(0:Int),(bs []),(bs []),(0:Int)) m5 ((b3).getD ((0:Nat)+(Int.toNat v59)) (bs []))).2.2.1)++(((b3).getD ((0:Nat)+(Int.toNat v59)) (bs []))::[]))),m7,m8,()))) (
 .ni (v59+(1:Int)) <|
 .ret (.inl (dW,v58,(v59+(1:Int)),b3,m1,m5,m6,m7,m8,()))))) (
 .ret (.inr (m1,m5,m6,m7,m8,())))
/-! The loop in which lists grow that lie in a map, by hand. -/
abbrev ue:Ty:=.prod .str (.prod tI (.prod .str (.prod .str tI)))
def gH (b3:List ByteArray) (m1:List (ue.den×Bool)) (m5:List (ByteArray×ue.den)) (m7 m8:bg):av :=
 [(2,.cells [.ptr 4 0] false),(3,.arr .str b3 false),(0,.cells [.mp 1] false),(1,.map ue true .bool false m1),(4,.cells [.mp 5,.mp 6,.mp 7,.mp 8] false),(5,.map .str false ue true m5),(7,.map .str false .bool false m7),(8,.map .str false .bool false m8)]
def yI (dW:Nat) (v58 v59:Int):Env:=[(3,.ptr 2 0),(57,.sl 3 .str 0 dW),(58,.int .i64 v58),(59,.int .i64 v59)]
def I66 (x:qM.T):St:=⟨yI x.1 x.2.1 x.2.2.1,⟨9,gH x.2.2.2.1 x.2.2.2.2.1 x.2.2.2.2.2.1 x.2.2.2.2.2.2.2.1 x.2.2.2.2.2.2.2.2.1⟩,[]⟩
def HA:C:=.aZ [.op (some 97) none (.bin .add (.t 59) (.c (.int .i64 (Int.ofNat 1)))),.op (some 59) none (.mv (.t 97))]
def abf : C := .draw [[], [0], [0, 1], [0, 1, 2], [], [4], [0, 1, 2, 3, 4, 5]]
 [.op (some 73) none (.load false 1 (.t 3)),.op (some 74) none (.ex .je [.t 73]),.op (some 75) none (.mT 2 [true,true,false] (.t 74)),.op (some 76) none (.load false 1 (.t 75)),.op (some 77) none (.mT 2 [true,true,false] (.t 10)),.op (some 78) none (.load false 1 (.t 77)),
 .op none none (.ex (.iE .str false .bool false) [.t 76,.t 78,.c (.tf true)])]
def in66 : C := .block 4 (.seq (.aZ [.op (some 72) none (.bin .eql (.t 70) (.c (.int .i64 (Int.ofNat 3)))), .op (some 71) none (.mv (.t 72))])
 (.cond (.t 71) abf (.seq (.aZ [.op (some 80) none (.bin .eql (.t 70) (.c (.int .i64 (Int.ofNat 2)))),.op (some 79) none (.mv (.t 80))]) (.cond (.t 79) (.draw nE EB) .skip))))
def Yt : C := .seq (.block 3 (.seq (.aZ [.op (some 61) none (.idx 1 (.t 57) (.t 59)), .op (some 62) none (.load false 1 (.t 61)), .op (some 9) none (.mv (.t 62))])
 (.seq (.aZ [.op (some 63) none (.load false 1 (.t 3)),.op (some 64) none (.ex .je [.t 63]),.op (some 65) none (.mT 0 [false] (.t 64)),.op (some 66) none (.load false 1 (.t 65)),.op (some 67) none (.mv (.t 9)),
 .op (some 68) none (.ex (.gz .str false ue true false) [.t 66,.t 67]),.op (some 10) none (.alloc [.str ⟨⟨[]⟩⟩,.int .i64 (Int.ofNat 0),.str ⟨⟨[]⟩⟩,.str ⟨⟨[]⟩⟩,.int .i64 (Int.ofNat 0)]),.op none none (.store 5 (.t 10) (.t 68))])
 (.seq (.aZ [.op (some 69) none (.mT 1 [true,false] (.t 10)),.op (some 70) none (.load false 1 (.t 69))]) in66)))) HA
def c66:C:=.seq (.aZ [.op (some 60) none (.bin .lss (.t 59) (.t 58))]) (.seq (.cond (.t 60) .skip (.exit 2)) Yt)
theorem afJ {dW : Nat} {v58 v59 : Int} {b3 : List ByteArray} {m1 : List (ue.den × Bool)} {m5 : List (ByteArray × ue.den)} {m7 m8 : bg} {env : Env} {nx : Nat} {bl : av}
    (h3:get 3 env = .ptr 2 0) (h57:get 57 env = .sl 3 .str 0 dW) (h58:get 58 env = .int .i64 v58) (h59:get 59 env = .int .i64 v59) (hb:∀p∈gH b3 m1 m5 m7 m8,az p.1 bl=some p.2) :
    jw 2 (List.range 9) ⟨env,⟨nx,bl⟩,[]⟩ ⟨yI dW v58 v59,⟨9,gH b3 m1 m5 m7 m8⟩,[]⟩:=by
  refine LK (by omega) rfl rfl rfl (fun p hp=>?_) (fun p hp=>?_)
  · simp only [yI, List.mem_cons, List.not_mem_nil, or_false] at hp
    rcases hp with rfl|rfl|rfl|rfl
    · rw [h3];exact .ptr 2 2 0 rfl
    · rw [h57];exact .sl 3 3 .str 0 dW rfl
    · rw [h58];exact .int _ _
    · rw [h59];exact .int _ _
  · have hg := hb p hp
    simp only [gH,List.mem_cons,List.not_mem_nil,or_false] at hp
    rcases hp with rfl|rfl|rfl|rfl|rfl|rfl|rfl|rfl
    · exact ⟨by omega,2,rfl,_,hg,.cons (.ptr 4 4 0 rfl) .nil⟩
    · exact ⟨by omega,3,rfl,.inl hg⟩
    · exact ⟨by omega,0,rfl,_,hg,.cons (.mp 1 1 rfl) .nil⟩
    · exact ⟨by omega,1,rfl,hg⟩
    · exact ⟨by omega,4,rfl,_,hg,.cons (.mp 5 5 rfl) (.cons (.mp 6 6 rfl) (.cons (.mp 7 7 rfl) (.cons (.mp 8 8 rfl) .nil)))⟩
    · exact ⟨by omega,5,rfl,hg⟩
    · exact ⟨by omega,7,rfl,hg⟩
    · exact ⟨by omega,8,rfl,hg⟩
def P66:qM.T ⊕ ud.T->Ex->St->cT->Prop:=GRnd 6 2 I66 (fun x=>x.2.2.2.2.2.2.1) (ud.st 2) (fun b=>b.2.2.1)
theorem Qw {dW : Nat} {v58 v59 : Int} {b3 : List ByteArray} {m1 : List (ue.den × Bool)} {m5 : List (ByteArray × ue.den)} {m6 : cT} {m7 m8 : bg} {env : Env} {nx : Nat} {bl : av} (u : Unit) (hi : cN .i64 (v59 + 1) = true)
    (h3:get 3 env = .ptr 2 0) (h57:get 57 env = .sl 3 .str 0 dW) (h58:get 58 env = .int .i64 v58) (h59:get 59 env = .int .i64 v59) (hb:∀p∈gH b3 m1 m5 m7 m8,az p.1 bl=some p.2) :
    gC prog 148 none 6 HA ⟨env,⟨nx,bl⟩,[]⟩ m6 (P66 (.inl (dW,v58,v59+1,b3,m1,m5,m6,m7,m8,u))):=by
  refine ED (env':=(59,.int .i64 (v59+1))::(97,.int .i64 (v59+1))::env) (Gg:=nx) (bS:=bl) (ms':=[]) mixed (fun _=>rfl) (fun base=>?_) ⟨rfl,rfl,List.range 9,rfl,afJ h3 h57 h58 rfl hb⟩
  refine Eq.trans (b:=need (cN .i64 (v59+1)) (some (Ex.normal,(59,.int .i64 (v59+1))::(97,.int .i64 (v59+1))::env,nx,bl,[]))) ?_ (by rw [iS hi])
  have h1:XA dZ (.bin .add (.t 59) (.c (.int .i64 (Int.ofNat 1)))) env bl nx=some ([cN .i64 (v59+1)],.int .i64 (v59+1),[]):=by
    show (match (O.t 59).ev env,(O.c (V.int .i64 (Int.ofNat 1))).ev env with
      | .int k a,.int k' b=>_
      | .str a,.str b=>_
      |_,_=>_)=_
    rw [show (O.t 59).ev env = .int .i64 v59 from h59]
    rfl
  show (match XA dZ (.bin .add (.t 59) (.c (.int .i64 (Int.ofNat 1)))) env bl nx with
    |some (ob,v,u)=>_
    |none=>_)=_
  rw [h1]
  rfl
def JN (dW:Nat) (v58 v59:Int):Env:=(60,.tf true)::(60,.bool (decide (v59<v58)))::yI dW v58 v59
def sA (dW:Nat) (v58 v59:Int) (id:ByteArray) (m:ue.den):Env :=
 (70,.int .i64 m.2.1)::(69,.ptr 9 1)::(10,.ptr 9 0)::(68,.agg [.str m.1,.int .i64 m.2.1,.str m.2.2.1,.str m.2.2.2.1,.int .i64 m.2.2.2.2])::(67,.str id)::(66,.mp 5)::(65,.ptr 4 0)::(64,.ptr 4 0)::(63,.ptr 4 0) ::
 (9,.str id)::(62,.str id)::(61,.ep 3 .str (0+Int.toNat v59) [])::JN dW v58 v59
/-- Up to the switch. -/
theorem yJ {dW : Nat} {v58 v59 : Int} {b3 : List ByteArray} {m1 : List (ue.den × Bool)} {m5 : List (ByteArray × ue.den)} {m6 : cT} {m7 m8 : bg} {Q R : Ex → St → cT → Prop}
    (iO:bR v59 (dW:Int)=true) (fh:decide (0+Int.toNat v59<b3.length)=true) {id:ByteArray} {m:ue.den} (hid:id=b3.getD (0+Int.toNat v59) (bs [])) (hm:m=aA .str (bs [],(0:Int),bs [],bs [],(0:Int)) m5 id)
    (hin:gC prog 148 none 6 in66 ⟨sA dW v58 v59 id m,⟨10,(9,.cells [.str m.1,.int .i64 m.2.1,.str m.2.2.1,.str m.2.2.2.1,.int .i64 m.2.2.2.2] false)::gH b3 m1 m5 m7 m8⟩,[]⟩ m6 fun e S' es'=>e = .normal/\R .normal S' es')
    (h18:∀S' es',R .normal S' es'->gC prog 148 none 6 HA S' es' Q):gC prog 148 none 6 Yt ⟨JN dW v58 v59,⟨9,gH b3 m1 m5 m7 m8⟩,[]⟩ m6 Q:=by
  subst hm;subst hid
  refine JA (Q1:=fun e S' es'=>e = .normal/\R .normal S' es') (fun _ _ h=>by cases h) (vX (Q1:=fun e S' es'=>e = .normal/\R .normal S' es') ?_ (fun _ _ h=>h) (fun i _ _ h=>by cases h.1) (fun _ _ h=>by cases h.1)) (fun S' es' hq=>h18 _ _ hq.2) (fun i S' es' hq=>by cases hq.1) (fun S' es' hq=>by cases hq.1)
  generalize hE3:((9,V.str (b3.getD (0+Int.toNat v59) (bs [])))::(62,V.str (b3.getD (0+Int.toNat v59) (bs [])))::(61,V.ep 3 .str (0+Int.toNat v59) [])::JN dW v58 v59:Env)=e3
  refine gv (env':=e3) (Gg:=9) (bS:=gH b3 m1 m5 m7 m8) (ms':=[]) mixed (fun base=>Eq.trans (b:=need (bR v59 (dW:Int)) (need (decide (0+Int.toNat v59<b3.length)) (some (Ex.normal,e3,9,gH b3 m1 m5 m7 m8,[])))) (by subst hE3;kernel_rfl) (by rw [iS iO,iS fh])) ?_
  subst hE3
  refine gv (Gg := 10) (ms' := []) (bS := (9, .cells [.str (aA .str (bs [], (0 : Int), bs [], bs [], (0 : Int)) m5 (b3.getD (0 + Int.toNat v59) (bs []))).1, .int .i64 (aA .str (bs [], (0 : Int), bs [], bs [], (0 : Int)) m5 (b3.getD (0 + Int.toNat v59) (bs []))).2.1, .str (aA .str (bs [], (0 : Int), bs [], bs [], (0 : Int)) m5 (b3.getD (0 + Int.toNat v59) (bs []))).2.2.1, .str (aA .str (bs [], (0 : Int), bs [], bs [], (0 : Int)) m5 (b3.getD (0 + Int.toNat v59) (bs []))).2.2.2.1, .int .i64 (aA .str (bs [], (0 : Int), bs [], bs [], (0 : Int)) m5 (b3.getD (0 + Int.toNat v59) (bs []))).2.2.2.2] false) :: gH b3 m1 m5 m7 m8)
    (env':=(sA dW v58 v59 (b3.getD (0+Int.toNat v59) (bs [])) (aA .str (bs [],(0:Int),bs [],bs [],(0:Int)) m5 (b3.getD (0+Int.toNat v59) (bs [])))).drop 2) mixed (fun base=>by kernel_rfl) ?_
  exact gv (Gg:=10) (ms':=[]) mixed (fun base=>by kernel_rfl) hin
theorem abg:∀(x:qM.T) (r:qM.T ⊕ ud.T),ai (gH66_1 x)=some r->gC prog 148 none 6 c66 (I66 x) x.2.2.2.2.2.2.1 (P66 r):=by
  rintro ⟨dW,v58,v59,b3,m1,m5,m6,m7,m8,u⟩ r hr
  have hr:k9 (decide (v59<v58)) _ _=some r:=hr
  rcases iU hr with ⟨hlt,hr⟩|⟨hlt,hr⟩
  · obtain ⟨iO, hr⟩ := cW hr
    obtain ⟨fh,hr⟩:=cW hr
    refine gv (env':=(60,.bool (decide (v59<v58)))::yI dW v58 v59) (Gg:=9) (bS:=gH b3 m1 m5 m7 m8) (ms':=[]) mixed (fun base=>by kernel_rfl) ?_
    refine JA (Q1:=fun e S' es'=>e = .normal/\S'=⟨JN dW v58 v59,⟨9,gH b3 m1 m5 m7 m8⟩,[]⟩/\es'=m6) (fun _ _ h=>by cases h) (qJ (t:=true) (by show V.bool _=_;rw [hlt]) (ED mixed (fun _=>rfl) (fun base=>by kernel_rfl) ⟨rfl,rfl,rfl⟩)) (fun S' es' hq=>?_) (fun i S' es' hq=>by cases hq.1) (fun S' es' hq=>by cases hq.1)
    obtain ⟨-,rfl,rfl⟩:=hq
    obtain ⟨id,hid⟩:∃id,id=b3.getD (0+Int.toNat v59) (bs []):=⟨_,rfl⟩
    obtain ⟨m,hm⟩:∃m,m=aA .str (bs [],(0:Int),bs [],bs [],(0:Int)) m5 id:=⟨_,rfl⟩
    rw [<-hid,<-hm] at hr
    have hr:k9 (m.2.1==3) _ _=some r:=hr
    rcases iU hr with ⟨h3,hr⟩|⟨h3,hr⟩
    · obtain ⟨hi, hr⟩ := cW hr
      cases hr
      refine yJ (R:=fun _ S' Gc=>Gc=es'/\S'=⟨(78,.str m.2.2.1)::(77,.ptr 9 2)::(76,.mp 7)::(75,.ptr 4 2)::(74,.ptr 4 0)::(73,.ptr 4 0)::(71,.tf true)::(71,.bool (m.2.1==3))::(72,.bool (m.2.1==3))::sA dW v58 v59 id m,⟨17,(7,.map .str false .bool false (bn .str m7 m.2.2.1 true))::(9,.cells [.str m.1,.int .i64 m.2.1,.str m.2.2.1,.str m.2.2.2.1,.int .i64 m.2.2.2.2] false)::bF 7 (gH b3 m1 m5 m7 m8)⟩,[]⟩) iO fh hid hm ?_ ?_
      · refine vX (Q1 := fun e S' Gc => e = .normal ∧ (Gc = es' ∧ S' = _)) ?_ (fun _ _ h => h) (fun i _ _ h => by cases h.1) (fun _ _ h => by cases h.1)
        refine gv (env':=(71,.bool (m.2.1==3))::(72,.bool (m.2.1==3))::sA dW v58 v59 id m) (Gg:=10) (ms':=[]) (bS:=(9,.cells [.str m.1,.int .i64 m.2.1,.str m.2.2.1,.str m.2.2.2.1,.int .i64 m.2.2.2.2] false)::gH b3 m1 m5 m7 m8) mixed (fun base=>by kernel_rfl) ?_
        refine qJ (t:=true) (by show V.bool _=_;rw [h3]) ?_
        exact ED mixed (fun _=>rfl) (fun base=>by kernel_rfl) ⟨rfl,rfl,rfl⟩
      · rintro S' Gc ⟨rfl, rfl⟩
        refine Qw u hi rfl rfl rfl rfl fun p hp=>?_
        simp only [gH,List.mem_cons,List.not_mem_nil,or_false] at hp
        rcases hp with rfl|rfl|rfl|rfl|rfl|rfl|rfl|rfl<;>rfl
    · have hr : k9 (m.2.1 == 2) _ _ = some r := hr
      rcases iU hr with ⟨h2,hr⟩|⟨h2,hr⟩
      · obtain ⟨lS, hr⟩ := cW hr
        obtain ⟨hi,hr⟩:=cW hr
        cases hr
        refine yJ (R:=fun _ S' Gc=>Gc=bn .str es' m.2.2.1 (aA .str [] es' m.2.2.1++[id])/\S'=⟨yI dW v58 v59,⟨28,gH b3 m1 m5 m7 m8⟩,[]⟩) iO fh hid hm ?_ ?_
        · refine vX (Q1 := fun e S' Gc => e = .normal ∧ (Gc = _ ∧ S' = _)) ?_ (fun _ _ h => h) (fun i _ _ h => by cases h.1) (fun _ _ h => by cases h.1)
          refine gv (env':=(71,.bool (m.2.1==3))::(72,.bool (m.2.1==3))::sA dW v58 v59 id m) (Gg:=10) (ms':=[]) (bS:=(9,.cells [.str m.1,.int .i64 m.2.1,.str m.2.2.1,.str m.2.2.2.1,.int .i64 m.2.2.2.2] false)::gH b3 m1 m5 m7 m8) mixed (fun base=>by kernel_rfl) ?_
          refine qJ (t:=false) (by show V.bool _=_;rw [h3]) ?_
          refine gv (env':=(79,.bool (m.2.1==2))::(80,.bool (m.2.1==2))::(71,.tf false)::(71,.bool (m.2.1==3))::(72,.bool (m.2.1==3))::sA dW v58 v59 id m) (Gg:=10) (ms':=[]) (bS:=(9,.cells [.str m.1,.int .i64 m.2.1,.str m.2.2.1,.str m.2.2.2.1,.int .i64 m.2.2.2.2] false)::gH b3 m1 m5 m7 m8) mixed (fun base=>by kernel_rfl) ?_
          refine qJ (t:=true) (by show V.bool _=_;rw [h2]) ?_
          refine PK (PR (c2:=2) (c4:=4) (c9:=9) (k:=m.2.2.1) (x:=id) (env':=yI dW v58 v59) (bS:=gH b3 m1 m5 m7 m8) mixed rfl rfl rfl rfl rfl rfl (of_decide_eq_true lS) (fun i B hB=>?_) (fun t=>?_)) fun e S' Gc hq=>⟨hq.1,hq.2.2,hq.2.1⟩
          · have hm := dD hB
            simp only [gH,List.mem_cons,List.not_mem_nil,or_false,Prod.mk.injEq] at hm
            rcases hm with ⟨rfl,rfl⟩|⟨rfl,rfl⟩|⟨rfl,rfl⟩|⟨rfl,rfl⟩|⟨rfl,rfl⟩|⟨rfl,rfl⟩|⟨rfl,rfl⟩|⟨rfl,rfl⟩<;>rfl
          · by_cases ht : t = 3 ∨ t = 57 ∨ t = 58 ∨ t = 59
            · rcases ht with rfl|rfl|rfl|rfl<;>exact .inr ⟨rfl,by omega⟩
            · refine .inl (get_none ?_)
              simp only [yI,List.map_cons,List.map_nil,List.mem_cons,List.not_mem_nil,or_false]
              omega
        · rintro S' Gc ⟨rfl, rfl⟩
          refine Qw u hi rfl rfl rfl rfl fun p hp=>?_
          simp only [gH,List.mem_cons,List.not_mem_nil,or_false] at hp
          rcases hp with rfl|rfl|rfl|rfl|rfl|rfl|rfl|rfl<;>rfl
      · obtain ⟨hi, hr⟩ := cW hr
        cases hr
        refine yJ (R:=fun _ S' Gc=>Gc=es'/\S'=⟨(79,.tf false)::(79,.bool (m.2.1==2))::(80,.bool (m.2.1==2))::(71,.tf false)::(71,.bool (m.2.1==3))::(72,.bool (m.2.1==3))::sA dW v58 v59 id m,⟨10,(9,.cells [.str m.1,.int .i64 m.2.1,.str m.2.2.1,.str m.2.2.2.1,.int .i64 m.2.2.2.2] false)::gH b3 m1 m5 m7 m8⟩,[]⟩) iO fh hid hm ?_ ?_
        · refine vX (Q1 := fun e S' Gc => e = .normal ∧ (Gc = es' ∧ S' = _)) ?_ (fun _ _ h => h) (fun i _ _ h => by cases h.1) (fun _ _ h => by cases h.1)
          refine gv (env':=(71,.bool (m.2.1==3))::(72,.bool (m.2.1==3))::sA dW v58 v59 id m) (Gg:=10) (ms':=[]) (bS:=(9,.cells [.str m.1,.int .i64 m.2.1,.str m.2.2.1,.str m.2.2.2.1,.int .i64 m.2.2.2.2] false)::gH b3 m1 m5 m7 m8) mixed (fun base=>by kernel_rfl) ?_
          refine qJ (t:=false) (by show V.bool _=_;rw [h3]) ?_
          refine gv (env':=(79,.bool (m.2.1==2))::(80,.bool (m.2.1==2))::(71,.tf false)::(71,.bool (m.2.1==3))::(72,.bool (m.2.1==3))::sA dW v58 v59 id m) (Gg:=10) (ms':=[]) (bS:=(9,.cells [.str m.1,.int .i64 m.2.1,.str m.2.2.1,.str m.2.2.2.1,.int .i64 m.2.2.2.2] false)::gH b3 m1 m5 m7 m8) mixed (fun base=>by kernel_rfl) ?_
          refine qJ (t:=false) (by show V.bool _=_;rw [h2]) ?_
          exact ED mixed (fun _=>rfl) (fun base=>by kernel_rfl) ⟨rfl,rfl,rfl⟩
        · rintro S' Gc ⟨rfl, rfl⟩
          refine Qw u hi rfl rfl rfl rfl fun p hp=>?_
          simp only [gH,List.mem_cons,List.not_mem_nil,or_false] at hp
          rcases hp with rfl|rfl|rfl|rfl|rfl|rfl|rfl|rfl<;>rfl
  · cases hr
    refine gv (env':=(60,.bool (decide (v59<v58)))::yI dW v58 v59) (Gg:=9) (bS:=gH b3 m1 m5 m7 m8) (ms':=[]) mixed (fun base=>by kernel_rfl) ?_
    refine JA (Q1:=fun e S' es'=>e = .exit 2/\S'=⟨(60,.tf false)::(60,.bool (decide (v59<v58)))::yI dW v58 v59,⟨9,gH b3 m1 m5 m7 m8⟩,[]⟩/\es'=m6) (fun _ _ h=>by cases h) (qJ (t:=false) (by show V.bool _=_;rw [hlt]) ?_) (fun S' es' hq=>by cases hq.1) (fun i S' es' hq=>?_) (fun S' es' hq=>by cases hq.1)
    · exact ED mixed (fun _=>rfl) (fun base=>by kernel_rfl) ⟨rfl,rfl,rfl⟩
    · obtain ⟨h1, rfl, rfl⟩ := hq
      cases h1
      refine ⟨by simp,rfl,by show 6<9;omega,rfl,?_⟩
      obtain ⟨b',π,h1,h2,h3⟩:=aU.dM (base:=2) (xs:=ud) (e:=.exit 2) (k:=fun x=>some x) (r:=(m1,m5,es',m7,m8,u)) (env:=(60,.tf false)::(60,.bool (decide (v59<v58)))::yI dW v58 v59) (nx:=9) (bl:=(6,.map .str false (.list .str) false es')::bF 6 (gH b3 m1 m5 m7 m8)) (ms:=[]) (by kernel_rfl)
      cases h1
      exact ⟨π,h3⟩
noncomputable def abh:bu prog 148 none 2 where
  c:=(abe).er
  run kz env nx bl ms K:=qM.rd kz.no [0,1] 2 env nx bl ms fun x=>kz.nd x.2.2.2.2.2.2.1.isEmpty (kz.bd (iter (fun x=>ai (gH66_1 x)) x) fun b=>ud.go kz 2 b K)
  ok:=by
    intro X env nx bl ms K r h Q hQ
    obtain ⟨x,π,h1,h2⟩:=au.dM (base:=2) (show au.rd none (List.range 2) 2 qM _ _ _ _ _=some r from h)
    obtain ⟨hemp,h1⟩:=cW h1
    obtain ⟨b,h3,h4⟩:=pJ h1
    have h5:=aU.AL h4
    intro body hbody Y ι μ a w ho hb hR
    have qX:=h2.rep hb hR
    obtain ⟨dW,v58,v59,b3,m1,m5,m6,m7,m8,u⟩:=x
    have hm:m6=[]:=List.isEmpty_iff.1 hemp
    subst hm
    have qW:∀id B,az id (gH b3 m1 m5 m7 m8)=some B->az id (qM.st 2 (dW,v58,v59,b3,m1,m5,[],m7,m8,u)).H.bl=some B/\id≠6:=by
      intro id B hB
      have hm:=dD hB
      simp only [gH,List.mem_cons,List.not_mem_nil,or_false,Prod.mk.injEq] at hm
      rcases hm with ⟨rfl,rfl⟩|⟨rfl,rfl⟩|⟨rfl,rfl⟩|⟨rfl,rfl⟩|⟨rfl,rfl⟩|⟨rfl,rfl⟩|⟨rfl,rfl⟩|⟨rfl,rfl⟩<;>exact ⟨rfl,by omega⟩
    obtain ⟨hI,hG⟩:=Um (gi:=6) (bS:=gH b3 m1 m5 m7 m8) qX.inv rfl qW
    exact aax (I:=I66) (ES:=fun x=>x.2.2.2.2.2.2.1) (X:=ud.st 2) (nb:=fun b=>b.2.2.1) (c:=c66) abg h3 (hQ _ _ _ _ _ h5) (by rw [hbody];kernel_rfl) ho hb ⟨qX.env,qX.sz,hI,qX.ms⟩ hG
abbrev LN:au:=au.mk [(3,.c (.ptr 2 0)),(11,.c (.ptr 3 0)),(16,.c (.SO 10 .str)),(102,.c (.mp 5)),(103,.c (.ptr 9 0)),(121,.c (.ptr 11 1)),(122,hI),(123,.c (.hole .bool)),(132,.c (.hole (.list .str))),(133,hI),(134,hI)] [(2,.cells [.ptr 4 0] false),(3,.cells [.fn 96 .nil (.cons (.ptr 2 0) (.cons (.ptr 3 0) .nil))] false),(10,.arr .str false),(5,eZ),(11,.cells [.hole .str,.hole tI,.hole .str,.hole .str,.hole tI] false),(4,.cells [.mp 6,.mp 5,.mp 7,.mp 8] false),(6,eo),(7,bP),(8,bP),(0,.cells [.mp 1] false),(1,dy)] [.slot 16,.slot 121] []
abbrev LO:aU:=[(.exit 7,au.mk [(3,.c (.ptr 2 0)),(11,.c (.ptr 3 0)),(102,.c (.mp 5)),(103,.c (.ptr 9 0)),(121,.c (.ptr 10 1)),(122,hI),(123,.c (.hole .bool))] [(2,.cells [.ptr 4 0] false),(3,.cells [.fn 96 .nil (.cons (.ptr 2 0) (.cons (.ptr 3 0) .nil))] false),(5,eZ),(10,.cells [.hole .str,.hole tI,.hole .str,.hole .str,.hole tI] false),(4,.cells [.mp 6,.mp 5,.mp 7,.mp 8] false),(6,eo),(7,bP),(8,bP),(0,.cells [.mp 1] false),(1,dy)] [.slot 121] [])]
noncomputable def LP:D prog 148 none 10:=dO [] (pick (kd prog f66) [(2,false),(0,false)]) 0
noncomputable def gH66_2b_3:Nat×Nat×Int×Bool×List ByteArray×Int×Int×List ByteArray×cT×ByteArray×Int×ByteArray×ByteArray×Int×cO×bg×bg×cB×Unit->bG ((Nat×Nat×Int×Bool×List ByteArray×Int×Int×List ByteArray×cT×ByteArray×Int×ByteArray×ByteArray×Int×cO×bg×bg×cB×Unit) ⊕ ((Int×Bool×cT×ByteArray×Int×ByteArray×ByteArray×Int×cO×bg×bg×cB×Unit))):=fun (Vh,abi,EM,EN,Qx,abj,EO,SU,m5,Qy,Qz,QA,QB,QC,m6,m7,m8,m1,_) =>
 .br (decide (EO<abj)) (
 .nb EO (((Qx).length:Nat):Int) <|
 .nb (0:Int) ((abi:Nat):Int) <|
 .nd (decide ((Vh+(Int.toNat (0:Int)))<(SU).length)) <|
 .br (!(seq ((Qx).getD (Int.toNat EO) (bs [])) ((SU).getD (Vh+(Int.toNat (0:Int))) (bs [])))) (
 .bd (FH96fix ((Qx).getD (Int.toNat EO) (bs [])) m6 m5 m7 m8) fun y7 =>
 .ni (EO+(1:Int)) <|
 .ret (.inl (Vh,abi,EM,EN,Qx,abj,(EO+(1:Int)),SU,y7.2.1,Qy,Qz,QA,QB,QC,y7.1,y7.2.2.1,y7.2.2.2.1,m1,()))) (
 .ni (EO+(1:Int)) <|
 .ret (.inl (Vh,abi,EM,EN,Qx,abj,(EO+(1:Int)),SU,m5,Qy,Qz,QA,QB,QC,m6,m7,m8,m1,())))) (
 .ret (.inr (EM,EN,m5,Qy,Qz,QA,QB,QC,m6,m7,m8,m1,())))
noncomputable def LQ:bu prog 148 none 10:=aV mixed JM sy [0,1,2,3,4,5,6,7,8,9] rfl LN LO rfl (LP) (fun x=>ai (gH66_2b_3 x)) (fun x=>by kernel_rfl)
abbrev abk:au:=au.mk [(3,.c (.ptr 2 0)),(11,.c (.ptr 3 0)),(102,.c (.mp 5))] [(2,.cells [.ptr 4 0] false),(3,.cells [.fn 96 .nil (.cons (.ptr 2 0) (.cons (.ptr 3 0) .nil))] false),(4,.cells [.mp 6,.mp 5,.mp 7,.mp 8] false),(5,eZ),(0,.cells [.mp 1] false),(1,dy),(6,eo),(7,bP),(8,bP)] [.slot 3,.slot 11,.cell 2 0,.cell 4 1,.cell 4 0,.cell 4 2,.cell 4 3] []
noncomputable def abl:D prog 148 none 10:=dO [.l LQ] (pick (kd prog f66) [(2,false)]) 0
noncomputable def gH66_2:((ByteArray)×(List ByteArray))->cT×cB×cO×bg×bg×Unit->bG (cT×cB×cO×bg×bg×Unit):=fun e (m5,m1,m6,m7,m8,_) =>
 .br (!(aT .str m6 e.1)) (
 .nd (jK m5 m5) <|
 .ret (m5,m1,m6,m7,m8,())) (
 .br ((aA .str ((bs []),(0:Int),(bs []),(bs []),(0:Int)) m6 e.1).2.1==(3:Int)) (
 .nd (jK m5 m5) <|
 .ret (m5,m1,m6,m7,m8,())) (
 .bd (FH98 e.2) fun y5 =>
 .bd (FH97 y5.1 y5.2.1 m6 m5 m7 m8) fun y6 =>
 .br (!(((y6.2.1:Nat):Int)==(1:Int))) (
 .nd (jK y6.2.2.2.2.1 m5) <|
 .ret (y6.2.2.2.2.1,m1,y6.2.2.2.1,y6.2.2.2.2.2.1,y6.2.2.2.2.2.2.1,())) (
 .bd (.it gH66_2b_3 (y6.1,y6.2.1,(aA .str ((bs []),(0:Int),(bs []),(bs []),(0:Int)) m6 e.1).2.1,((aA .str ((bs []),(0:Int),(bs []),(bs []),(0:Int)) m6 e.1).2.1==(3:Int)),e.2,(((e.2).length:Nat):Int),(0:Int),y6.2.2.1,y6.2.2.2.2.1,(aA .str ((bs []),(0:Int),(bs []),(bs []),(0:Int)) m6 e.1).1,(aA .str ((bs []),(0:Int),(bs []),(bs []),(0:Int)) m6 e.1).2.1,(aA .str ((bs []),(0:Int),(bs []),(bs []),(0:Int)) m6 e.1).2.2.1,(aA .str ((bs []),(0:Int),(bs []),(bs []),(0:Int)) m6 e.1).2.2.2.1,(aA .str ((bs []),(0:Int),(bs []),(bs []),(0:Int)) m6 e.1).2.2.2.2,y6.2.2.2.1,y6.2.2.2.2.2.1,y6.2.2.2.2.2.2.1,m1,())) fun z8 =>
 .nd (jK z8.2.2.1 m5) <|
 .ret (z8.2.2.1,z8.2.2.2.2.2.2.2.2.2.2.2.1,z8.2.2.2.2.2.2.2.2.1,z8.2.2.2.2.2.2.2.2.2.1,z8.2.2.2.2.2.2.2.2.2.2.1,()))))
noncomputable def abm:rP prog 148 none 2:=Cq mixed JM sy [0,1] rfl abk ( [.op (some 99) none (.load false 1 (.t 3)),.op (some 100) none (.ex gJ.je [.t 99]),.op (some 101) none (.mT 1 [true,false] (.t 100)),.op (some 102) none (.load false 1 (.t 101))]) 102 103 [104,105] (some 106) ( .str)  false ( .list .str)  false 5 rfl 10 rfl (abl) (fun e x=>ai (gH66_2 e x)) (fun e=>fun x=>by kernel_rfl)
noncomputable def Yu:D prog 148 none 2:=dO [.l abd,.l abh,.m abm] (kd prog f66) 0
noncomputable def FH66 (m1:cB):bG (cB×cO×cT×bg×bg×Unit) :=
 .bd (FH47 m1) fun y0 =>
 .bd (.it gH66_0 (y0.1,((y0.1:Nat):Int),(0:Int),y0.2.1,y0.2.2.1,[],[],[],[],())) fun z1 =>
 .bd (FH95 z1.2.1) fun y2 =>
 .bd (FH81 y2.1) fun y3 =>
 .nd (z1.2.2.1).isEmpty <|
 .bd (.it gH66_1 (y3.1,((y3.1:Nat):Int),(0:Int),y3.2.1,z1.1,y3.2.2.1,z1.2.2.1,z1.2.2.2.1,z1.2.2.2.2.1,())) fun z4 =>
 .bd (.mq gH66_2 z4.2.2.1 (z4.2.2.1,z4.1,z4.2.1,z4.2.2.2.1,z4.2.2.2.2.1,())) fun z9 =>
 .ret (z9.2.1,z9.2.2.1,z9.1,z9.2.2.2.1,z9.2.2.2.2.1,())
theorem Vi:cn prog f66=some ⟨148,1,Yu.er,[.t 2],[none]⟩:=by kernel_rfl
noncomputable def EP:Ht:=⟨66,pH66,qH66,(fun x=>ai (FH66 x.1))⟩
theorem sB:EP.Ok prog:=bA mixed sy rfl func66 Vi (enters_of func66 rfl rfl) Yu (by kernel_rfl) rfl rfl ⟨_,rfl⟩ rfl (pre:=[0,1]) rfl (fun x=>by kernel_rfl)

/- 123, lent -/
abbrev afK:au:=au.mk [(0,.c (.hole .str)),(1,.c (.ptr 0 0))] [(0,.cells [.ptr 1 0] false),(1,.cells [.mp 2,.mp 3,.mp 4,.mp 5] false),(2,eo),(3,eZ),(4,bP),(5,bP)] [.slot 1,.cell 0 0,.cell 1 0,.cell 1 1,.cell 1 2,.cell 1 3] []
abbrev afL:au:=au.mk [(0,.c (.hole .bool))] [(0,.cells [.ptr 1 0] false),(1,.cells [.mp 2,.mp 3,.mp 4,.mp 5] false),(2,eo),(3,eZ),(4,bP),(5,bP)] [] []
noncomputable def abn:Cx:=(aK [] [])
theorem LS:abn.Ok prog:=aq trivial trivial
noncomputable def QD:D prog 10 none 6:=dO [] (kd prog f123) 0
noncomputable def FH123 (v0:ByteArray) (m2:cO) (m3:cT) (m4:bg) (m5:bg):bG (Bool×cO×cT×bg×bg×Unit) :=
 .ret ((aA .str false m5 v0),m2,m3,m4,m5,())
theorem QE:cn prog f123=some ⟨10,2,QD.er,[.t 3],[some .bool]⟩:=by kernel_rfl
noncomputable def QF:Ht:=⟨123,afK,afL,(fun x=>ai (FH123 x.1 x.2.1 x.2.2.1 x.2.2.2.1 x.2.2.2.2.1))⟩
theorem ER:QF.Ok prog:=bA mixed LS rfl func123 QE (enters_of func123 rfl rfl) QD (by kernel_rfl) rfl rfl ⟨_,rfl⟩ rfl (pre:=[0,1,2,3,4,5]) rfl (fun x=>by kernel_rfl)

/- 119, lent -/
abbrev QG:au:=au.mk [(0,.c (.bI 0 .str)),(1,.fn 123 [] [.ptr 1 0])] [(0,.arr .str false),(1,.cells [.ptr 2 0] false),(2,.cells [.mp 3,.mp 4,.mp 5,.mp 6] false),(3,eo),(4,eZ),(5,bP),(6,bP)] [.slot 0,.part 1 0,.cell 1 0,.cell 2 0,.cell 2 1,.cell 2 2,.cell 2 3] []
abbrev QH:au:=au.mk [(0,hI)] [(1,.cells [.ptr 2 0] false),(2,.cells [.mp 3,.mp 4,.mp 5,.mp 6] false),(3,eo),(4,eZ),(5,bP),(6,bP),(0,.arr .str false)] [] []
noncomputable def A6:Cx:=(aK [] [QF])
theorem sC:A6.Ok prog:=aq trivial ⟨⟨ER,rfl⟩,trivial⟩
abbrev HB:au:=au.mk [(0,.c (.bI 0 .str)),(1,.fn 123 [] [.ptr 1 0]),(7,hI),(8,hI)] [(0,.arr .str false),(1,.cells [.ptr 2 0] false),(2,.cells [.mp 3,.mp 4,.mp 5,.mp 6] false),(3,eo),(4,eZ),(5,bP),(6,bP)] [] []
abbrev HC:aU:=[(.ret,au.mk [(4,hI)] [(1,.cells [.ptr 2 0] false),(2,.cells [.mp 3,.mp 4,.mp 5,.mp 6] false),(3,eo),(4,eZ),(5,bP),(6,bP),(0,.arr .str false)] [] []),(.exit 0,au.mk [] [(1,.cells [.ptr 2 0] false),(2,.cells [.mp 3,.mp 4,.mp 5,.mp 6] false),(3,eo),(4,eZ),(5,bP),(6,bP),(0,.arr .str false)] [] [])]
noncomputable def HD:D prog 19 none 7:=dO [] (pick (kd prog f119) [(0,false)]) 0
noncomputable def gH119_v1_0:Nat×Int×Int×List ByteArray×cO×cT×bg×bg×Unit->bG ((Nat×Int×Int×List ByteArray×cO×cT×bg×bg×Unit) ⊕ ((Int×cO×cT×bg×bg×List ByteArray×Unit) ⊕ ((cO×cT×bg×bg×List ByteArray×Unit)))):=fun (nG,v7,v8,b0,m3,m4,m5,m6,_) =>
 .br (decide (v8<v7)) (
 .nb v8 ((nG:Nat):Int) <|
 .nd (decide (((0:Nat)+(Int.toNat v8))<(b0).length)) <|
 .bd (FH123 ((b0).getD ((0:Nat)+(Int.toNat v8)) (bs [])) m3 m4 m5 m6) fun y0 =>
 .br y0.1 (
 .ret (.inr <| .inl<|(v8,y0.2.1,y0.2.2.1,y0.2.2.2.1,y0.2.2.2.2.1,b0,()))) (
 .ni (v8+(1:Int)) <|
 .ret (.inl (nG,v7,(v8+(1:Int)),b0,y0.2.1,y0.2.2.1,y0.2.2.2.1,y0.2.2.2.2.1,())))) (
 .ret (.inr <| .inr<|(m3,m4,m5,m6,b0,())))
noncomputable def HE:bu prog 19 none 7:=aV mixed A6 sC [0,1,2,3,4,5,6] rfl HB HC rfl (HD) (fun x=>ai (gH119_v1_0 x)) (fun x=>by kernel_rfl)
noncomputable def A7:D prog 19 none 7:=dO [.l HE] (kd prog f119) 0
noncomputable def FH119_v1 (nG:Nat) (b0:List ByteArray) (m3:cO) (m4:cT) (m5:bg) (m6:bg):bG (Int×cO×cT×bg×bg×List ByteArray×Unit) :=
 .bd (.it gH119_v1_0 (nG,((nG:Nat):Int),(0:Int),b0,m3,m4,m5,m6,())) fun z1 =>
 .sm z1 (fun z2 =>
 .ret (z2.1,z2.2.1,z2.2.2.1,z2.2.2.2.1,z2.2.2.2.2.1,z2.2.2.2.2.2.1,())) fun z3 =>
 .ret ((-1:Int),z3.1,z3.2.1,z3.2.2.1,z3.2.2.2.1,z3.2.2.2.2.1,())
theorem ET:cn prog f119=some ⟨19,2,A7.er,[.t 4],[some tI]⟩:=by kernel_rfl
noncomputable def EU:Ht:=⟨119,QG,QH,(fun x=>ai (FH119_v1 x.1 x.2.1 x.2.2.1 x.2.2.2.1 x.2.2.2.2.1 x.2.2.2.2.2.1))⟩
theorem EW:EU.Ok prog:=bA mixed sC rfl func119 ET (enters_of func119 rfl rfl) A7 (by kernel_rfl) rfl rfl ⟨_,rfl⟩ rfl (pre:=[0,1,2,3,4,5,6]) rfl (fun x=>by kernel_rfl)

/- 97, lent -/
abbrev Vj:au:=au.mk [(0,.c (.bI 0 .str)),(1,.fn 123 [] [.ptr 1 0])] [(0,.arr .str false),(1,.cells [.ptr 2 0] false),(2,.cells [.mp 3,.mp 4,.mp 5,.mp 6] false),(3,eo),(4,eZ),(5,bP),(6,bP)] [.slot 0,.part 1 0,.cell 1 0,.cell 2 0,.cell 2 1,.cell 2 2,.cell 2 3] []
abbrev Vk:au:=au.mk [(0,.c (.SO 0 .str))] [(0,.arr .str false),(1,.cells [.ptr 2 0] false),(2,.cells [.mp 3,.mp 4,.mp 5,.mp 6] false),(3,eo),(4,eZ),(5,bP),(6,bP)] [] []
noncomputable def EX:Cx:=(aK [] [EU,QF])
theorem uT:EX.Ok prog:=aq trivial ⟨⟨EW,rfl⟩,⟨ER,rfl⟩,trivial⟩
abbrev LU:au:=au.mk [(0,.c (.bI 0 .str)),(1,.fn 123 [] [.ptr 1 0]),(5,hI),(6,hI)] [(0,.arr .str false),(1,.cells [.ptr 2 0] false),(2,.cells [.mp 3,.mp 4,.mp 5,.mp 6] false),(3,eo),(4,eZ),(5,bP),(6,bP)] [] []
abbrev LW:aU:=[(.exit 0,au.mk [(0,.c (.bI 0 .str)),(5,hI)] [(0,.arr .str false),(1,.cells [.ptr 2 0] false),(2,.cells [.mp 3,.mp 4,.mp 5,.mp 6] false),(3,eo),(4,eZ),(5,bP),(6,bP)] [] [])]
noncomputable def LX:D prog 42 none 7:=dO [] (pick (kd prog f97) [(0,false)]) 0
noncomputable def gH97_v1_0:Nat×Int×Int×List ByteArray×cO×cT×bg×bg×Unit->bG ((Nat×Int×Int×List ByteArray×cO×cT×bg×bg×Unit) ⊕ ((Nat×Int×List ByteArray×cO×cT×bg×bg×Unit))):=fun (nG,v5,v6,b0,m3,m4,m5,m6,_) =>
 .br (decide (v6<((nG:Nat):Int))) (
 .nb v6 ((nG:Nat):Int) <|
 .nd (decide (((0:Nat)+(Int.toNat v6))<(b0).length)) <|
 .bd (FH123 ((b0).getD ((0:Nat)+(Int.toNat v6)) (bs [])) m3 m4 m5 m6) fun y1 =>
 .br (!y1.1) (
 .nb v5 ((nG:Nat):Int) <|
 .nd (decide (((0:Nat)+(Int.toNat v5))<(b0).length)) <|
 .ni (v5+(1:Int)) <|
 .ni (v6+(1:Int)) <|
 .ret (.inl (nG,(v5+(1:Int)),(v6+(1:Int)),((b0).set ((0:Nat)+(Int.toNat v5)) ((b0).getD ((0:Nat)+(Int.toNat v6)) (bs []))),y1.2.1,y1.2.2.1,y1.2.2.2.1,y1.2.2.2.2.1,()))) (
 .ni (v6+(1:Int)) <|
 .ret (.inl (nG,v5,(v6+(1:Int)),b0,y1.2.1,y1.2.2.1,y1.2.2.2.1,y1.2.2.2.2.1,())))) (
 .ret (.inr (nG,v5,b0,m3,m4,m5,m6,())))
noncomputable def LY:bu prog 42 none 7:=aV mixed EX uT [0,1,2,3,4,5,6] rfl LU LW rfl (LX) (fun x=>ai (gH97_v1_0 x)) (fun x=>by kernel_rfl)
noncomputable def EY:D prog 42 none 7:=dO [.l LY] (kd prog f97) 0
noncomputable def FH97_v1 (nG:Nat) (b0:List ByteArray) (m3:cO) (m4:cT) (m5:bg) (m6:bg):bG (Nat×Nat×List ByteArray×cO×cT×bg×bg×Unit) :=
 .bd (FH119_v1 nG b0 m3 m4 m5 m6) fun y0 =>
 .br (y0.1==(-1:Int)) (
 .ret ((0:Nat),nG,y0.2.2.2.2.2.1,y0.2.1,y0.2.2.1,y0.2.2.2.1,y0.2.2.2.2.1,())) (
 .ni (y0.1+(1:Int)) <|
 .bd (.it gH97_v1_0 (nG,y0.1,(y0.1+(1:Int)),y0.2.2.2.2.2.1,y0.2.1,y0.2.2.1,y0.2.2.2.1,y0.2.2.2.2.1,())) fun z2 =>
 .nd (decide ((0:Int)<=z2.2.1)) <|
 .nd (decide (z2.2.1<=((z2.1:Nat):Int))) <|
 .nd (decide (((z2.1:Nat):Int)<=((z2.1:Nat):Int))) <|
 .nd (decide ((0:Int)<=(0:Int))) <|
 .nd (decide ((0:Int)<=z2.2.1)) <|
 .nd (decide (z2.2.1<=((z2.1:Nat):Int))) <|
 .ret (((0:Nat)+(Int.toNat (0:Int))),((Int.toNat z2.2.1) - (Int.toNat (0:Int))),(Bs (bs []) z2.2.2.1 ((0:Nat)+(Int.toNat z2.2.1)) ((Int.toNat ((z2.1:Nat):Int)) - (Int.toNat z2.2.1))),z2.2.2.2.1,z2.2.2.2.2.1,z2.2.2.2.2.2.1,z2.2.2.2.2.2.2.1,()))
theorem HF:cn prog f97=some ⟨42,2,EY.er,[.t 4],[some (.list .str)]⟩:=by kernel_rfl
noncomputable def JO:Ht:=⟨97,Vj,Vk,(fun x=>ai (FH97_v1 x.1 x.2.1 x.2.2.1 x.2.2.2.1 x.2.2.2.2.1 x.2.2.2.2.2.1))⟩
theorem HG:JO.Ok prog:=bA mixed uT rfl func97 HF (enters_of func97 rfl rfl) EY (by kernel_rfl) rfl rfl ⟨_,rfl⟩ rfl (pre:=[0,1,2,3,4,5,6]) rfl (fun x=>by kernel_rfl)

/- 104, lent -/
abbrev afM:au:=au.mk [(0,.c (.ptr 0 0)),(1,.c (.hole .str))] [(0,.cells [.mp 1,.mp 2,.mp 3,.mp 4] false),(1,eo),(2,eZ),(3,bP),(4,bP)] [.slot 0,.cell 0 0,.cell 0 1,.cell 0 2,.cell 0 3] []
abbrev afN:au:=au.mk [(0,.c (.SO 5 .str))] [(5,.arr .str false),(0,.cells [.mp 1,.mp 2,.mp 3,.mp 4] false),(1,eo),(2,eZ),(3,bP),(4,bP)] [.slot 0] []
noncomputable def abo:Cx:=(aK [] [aa1,JO])
theorem LZ:abo.Ok prog:=aq trivial ⟨⟨JK,rfl⟩,⟨HG,rfl⟩,trivial⟩
noncomputable def QI:D prog 14 none 5:=dO [] (kd prog f104) 0
noncomputable def FH104 (v1:ByteArray) (m1:cO) (m2:cT) (m3:bg) (m4:bg):bG (Nat×Nat×List ByteArray×cO×cT×bg×bg×Unit) :=
 .bd (FH98 (aA .str [] m2 v1)) fun y0 =>
 .bd (FH97_v1 y0.1 y0.2.1 m1 m2 m3 m4) fun y1 =>
 .ret (y1.1,y1.2.1,y1.2.2.1,y1.2.2.2.1,y1.2.2.2.2.1,y1.2.2.2.2.2.1,y1.2.2.2.2.2.2.1,())
theorem QJ:cn prog f104=some ⟨14,2,QI.er,[.t 4],[some (.list .str)]⟩:=by kernel_rfl
noncomputable def Yv:Ht:=⟨104,afM,afN,(fun x=>ai (FH104 x.1 x.2.1 x.2.2.1 x.2.2.2.1 x.2.2.2.2.1))⟩
theorem QK:Yv.Ok prog:=bA mixed LZ rfl func104 QJ (enters_of func104 rfl rfl) QI (by kernel_rfl) rfl rfl ⟨_,rfl⟩ rfl (pre:=[0,1,2,3,4]) rfl (fun x=>by kernel_rfl)

/- 76, lent -/
abbrev kR:au:=au.mk [(0,.c (.ptr 0 0)),(1,.c (.hole .str))] [(0,.cells [.mp 1,.mp 2,.mp 3,.mp 4] false),(1,eo),(2,eZ),(3,bP),(4,bP)] [.slot 0,.cell 0 0,.cell 0 1,.cell 0 2,.cell 0 3] []
abbrev kU:au:=au.mk [(0,.c (.bI 5 .str))] [(5,.arr .str false),(0,.cells [.mp 1,.mp 2,.mp 3,.mp 4] false),(1,eo),(2,eZ),(3,bP),(4,bP)] [.slot 0] []
noncomputable def QL (rec:kR.T->Option kU.T):Cx:=(aK [] [Yv,⟨76,kR,kU,rec⟩,A4])
theorem EZ (rec:kR.T->Option kU.T) (h:Ht.Ok prog ⟨76,kR,kU,rec⟩):(QL rec).Ok prog:=aq trivial ⟨⟨QK,rfl⟩,⟨h,rfl⟩,⟨yF,rfl⟩,trivial⟩
abbrev HH:au:=au.mk [(0,.c (.ptr 0 0)),(6,.c (.bI 5 .str)),(17,.c (.SO 6 .str)),(18,hI),(19,hI)] [(0,.cells [.mp 1,.mp 2,.mp 3,.mp 4] false),(5,.arr .str false),(6,.arr .str false),(1,eo),(2,eZ),(3,bP),(4,bP)] [.slot 6,.slot 17] []
abbrev HI:aU:=[(.exit 0,au.mk [(6,.c (.bI 5 .str))] [(5,.arr .str false),(0,.cells [.mp 1,.mp 2,.mp 3,.mp 4] false),(1,eo),(2,eZ),(3,bP),(4,bP)] [.slot 6] [])]
noncomputable def QM (rec:kR.T->Option kU.T) (h:Ht.Ok prog ⟨76,kR,kU,rec⟩):D prog 32 none 5:=dO [] (pick (kd prog f76) [(0,false)]) 0
noncomputable def gH76_0:Nat×Nat×Nat×Int×Int×List ByteArray×List ByteArray×cO×cT×bg×bg×Unit->Tr kR.T kU.T ((Nat×Nat×Nat×Int×Int×List ByteArray×List ByteArray×cO×cT×bg×bg×Unit) ⊕ ((Nat×List ByteArray×cO×cT×bg×bg×Unit))):=fun (uU,abp,nv17,v18,Vl,b5,b6,m1,m2,m3,m4,_) =>
 .br (decide (Vl<v18)) (
 .nb Vl ((nv17:Nat):Int) <|
 .nd (decide ((abp+(Int.toNat Vl))<(b6).length)) <|
 .bd (.rc (((b6).getD (abp+(Int.toNat Vl)) (bs [])),m1,m2,m3,m4,())) fun y1 =>
 .nd (decide ((uU+((((y1.2.1).drop (0:Nat)).take y1.1)).length)<bp)) <|
 .ni (Vl+(1:Int)) <|
 .ret (.inl ((uU+((((y1.2.1).drop (0:Nat)).take y1.1)).length),abp,nv17,v18,(Vl+(1:Int)),((((b5).drop (0:Nat)).take uU)++(((y1.2.1).drop (0:Nat)).take y1.1)),b6,y1.2.2.1,y1.2.2.2.1,y1.2.2.2.2.1,y1.2.2.2.2.2.1,()))) (
 .ret (.inr (uU,b5,m1,m2,m3,m4,())))
theorem abq (rec:kR.T->Option kU.T) (h:Ht.Ok prog ⟨76,kR,kU,rec⟩):∀x,oF (iL (HH.T ⊕ HI.T)) (QL rec) dZ [0,1,2,3,4] HH HI (QM rec h) (fun y=>some (.inl y)) (fun b=>some (.inr b)) x=run rec (gH76_0 x):=fun x=>by kernel_rfl
noncomputable def abr (rec:kR.T->Option kU.T) (h:Ht.Ok prog ⟨76,kR,kU,rec⟩):bu prog 32 none 5:=aV mixed (QL rec) (EZ rec h) [0,1,2,3,4] rfl HH HI rfl (QM rec h) (fun x=>run rec (gH76_0 x)) (abq rec h)
noncomputable def Yw (rec:kR.T->Option kU.T) (h:Ht.Ok prog ⟨76,kR,kU,rec⟩):D prog 32 none 5:=dO [.l (abr rec h)] (kd prog f76) 0
noncomputable def FH76 (v1:ByteArray) (m1:cO) (m2:cT) (m3:bg) (m4:bg):Tr kR.T kU.T (Nat×List ByteArray×cO×cT×bg×bg×Unit) :=
 .bd (.up (FH104 v1 m1 m2 m3 m4)) fun y0 =>
 .br (((y0.2.1:Nat):Int)==(0:Int)) (
 .ret ((1:Nat),(v1::[]),y0.2.2.2.1,y0.2.2.2.2.1,y0.2.2.2.2.2.1,y0.2.2.2.2.2.2.1,())) (
 .bd (.it gH76_0 ((0:Nat),y0.1,y0.2.1,((y0.2.1:Nat):Int),(0:Int),[],y0.2.2.1,y0.2.2.2.1,y0.2.2.2.2.1,y0.2.2.2.2.2.1,y0.2.2.2.2.2.2.1,())) fun z2 =>
 .bd (.up (FH105 z2.1 z2.2.1)) fun y3 =>
 .ret (z2.1,y3.1,z2.2.2.1,z2.2.2.2.1,z2.2.2.2.2.1,z2.2.2.2.2.2.1,()))
theorem Vm (rec:kR.T->Option kU.T) (h:Ht.Ok prog ⟨76,kR,kU,rec⟩):cn prog f76=some ⟨32,2,(Yw rec h).er,[.t 4],[some (.list .str)]⟩:=by kernel_rfl
theorem L5 (rec:kR.T->Option kU.T) (h:Ht.Ok prog ⟨76,kR,kU,rec⟩):Ht.Ok prog ⟨76,kR,kU,(fun x=>run rec (FH76 x.1 x.2.1 x.2.2.1 x.2.2.2.1 x.2.2.2.2.1))⟩:=bA mixed (EZ rec h) rfl func76 (Vm rec h) (enters_of func76 rfl rfl) (Yw rec h) (by kernel_rfl) rfl rfl ⟨_,rfl⟩ rfl (pre:=[0,1,2,3,4]) rfl (fun x=>by kernel_rfl)
noncomputable def FH76fix (v1:ByteArray) (m1:cO) (m2:cT) (m3:bg) (m4:bg):bG (Nat×List ByteArray×cO×cT×bg×bg×Unit):=.fx (A1:=kR.T) (B1:=kU.T) (fun x=>FH76 x.1 x.2.1 x.2.2.1 x.2.2.2.1 x.2.2.2.2.1) (v1,m1,m2,m3,m4,())
noncomputable def HJ:Ht:=⟨76,kR,kU,fun x=>ai (FH76fix x.1 x.2.1 x.2.2.1 x.2.2.2.1 x.2.2.2.2.1)⟩
theorem sD:HJ.Ok prog:=Cm (F:=fun rec x=>run rec (FH76 x.1 x.2.1 x.2.2.1 x.2.2.2.1 x.2.2.2.2.1)) (fun rec h=>L5 rec h)

/- 74, lent -/
abbrev pH74:au:=au.mk [(0,.c (.ptr 0 0)),(1,.c (.hole .str))] [(0,.cells [.mp 1,.mp 2,.mp 3,.mp 4] false),(1,eo),(2,eZ),(3,bP),(4,bP)] [.slot 0,.cell 0 0,.cell 0 1,.cell 0 2,.cell 0 3] []
abbrev qH74:au:=au.mk [(0,.cQ [.bI 5 .str,.hole .bool])] [(5,.arr .str false),(0,.cells [.mp 1,.mp 2,.mp 3,.mp 4] false),(1,eo),(2,eZ),(3,bP),(4,bP)] [.part 0 0] []
noncomputable def Yx:Cx:=(aK [] [HJ])
theorem E0:Yx.Ok prog:=aq trivial ⟨⟨sD,rfl⟩,trivial⟩
abbrev abt:au:=au.mk [(0,.c (.ptr 0 0)),(1,.c (.hole .str)),(11,.c (.mp 1))] [(0,.cells [.mp 1,.mp 2,.mp 3,.mp 4] false),(1,eo),(2,eZ),(3,bP),(4,bP)] [] []
abbrev abu:aU:=[(.ret,au.mk [(4,.c (.bI 5 .str)),(5,.c (.hole .bool))] [(5,.arr .str false),(0,.cells [.mp 1,.mp 2,.mp 3,.mp 4] false),(1,eo),(2,eZ),(3,bP),(4,bP)] [.slot 4] [])]
noncomputable def abv:D prog 50 none 6:=dO [] (pick (kd prog f74) [(0,false)]) 0
noncomputable def gH74_0:((ByteArray)×GG)->ByteArray×cO×cT×bg×bg×Unit->bG ((ByteArray×cO×cT×bg×bg×Unit) ⊕ ((Nat×Bool×List ByteArray×cO×cT×bg×bg×Unit))):=fun e (v1,m1,m2,m3,m4,_) =>
 .br (!(aT .str m1 v1)) (
 .ret (.inr ((0:Nat),false,[],m1,m2,m3,m4,()))) (
 .br ((aA .str ((bs []),(0:Int),(bs []),(bs []),(0:Int)) m1 v1).2.1==(3:Int)) (
 .ret (.inr ((0:Nat),false,[],m1,m2,m3,m4,()))) (
 .br (aA .str false m4 v1) (
 .ret (.inr ((0:Nat),false,[],m1,m2,m3,m4,()))) (
 .br ((aA .str ((bs []),(0:Int),(bs []),(bs []),(0:Int)) m1 v1).2.1==(1:Int)) (
 .bd (FH76fix v1 m1 m2 m3 m4) fun y0 =>
 .ret (.inr (y0.1,true,y0.2.1,y0.2.2.1,y0.2.2.2.1,y0.2.2.2.2.1,y0.2.2.2.2.2.1,()))) (
 .nd (jK m1 m1) <|
 .ret (.inl ((aA .str ((bs []),(0:Int),(bs []),(bs []),(0:Int)) m1 v1).2.2.1,m1,m2,m3,m4,()))))))
noncomputable def abw:rP prog 50 none 5:=aak mixed Yx E0 [0,1,2,3,4] rfl abt abu rfl ( [.op (some 8) none (.mv (.t 0)),.op (some 9) none (.ex gJ.je [.t 8]),.op (some 10) none (.mT 0 [false] (.t 9)),.op (some 11) none (.load false 1 (.t 10))]) 11 12 [13,14] (none) ( .str)  false ( .prod .str (.prod tI (.prod .str (.prod .str tI))))  true 0 rfl 6 rfl (abv) (fun e x=>ai (gH74_0 e x)) (fun e=>fun x=>by kernel_rfl)
noncomputable def Yy:D prog 50 none 5:=dO [.m abw] (kd prog f74) 0
noncomputable def FH74 (v1:ByteArray) (m1:cO) (m2:cT) (m3:bg) (m4:bg):bG (Nat×Bool×List ByteArray×cO×cT×bg×bg×Unit) :=
 .bd (.mp gH74_0 m1 (v1,m1,m2,m3,m4,())) fun z1 =>
 .sm z1 (fun z2 =>
 .ret ((0:Nat),false,[],z2.2.1,z2.2.2.1,z2.2.2.2.1,z2.2.2.2.2.1,())) fun z3 =>
 .ret (z3.1,z3.2.1,z3.2.2.1,z3.2.2.2.1,z3.2.2.2.2.1,z3.2.2.2.2.2.1,z3.2.2.2.2.2.2.1,())
theorem Vn:cn prog f74=some ⟨50,2,Yy.er,[.t 4,.t 5],[some (.list .str),some .bool]⟩:=by kernel_rfl
noncomputable def abx:Ht:=⟨74,pH74,qH74,(fun x=>ai (FH74 x.1 x.2.1 x.2.2.1 x.2.2.2.1 x.2.2.2.2.1))⟩
theorem Vo:abx.Ok prog:=bA mixed E0 rfl func74 Vn (enters_of func74 rfl rfl) Yy (by kernel_rfl) rfl rfl ⟨_,rfl⟩ rfl (pre:=[0,1,2,3,4]) rfl (fun x=>by kernel_rfl)

/- 103 -/
noncomputable def Yz:Cx:=(aK [] [])
theorem E1:Yz.Ok prog:=aq trivial trivial
abbrev aby:au:=au.mk [(0,.c (.hole (.list .str))),(1,.c (.hole .str)),(7,hI),(8,hI)] [] [] []
abbrev abz:aU:=[(.ret,au.mk [(4,hI)] [] [] []),(.exit 0,au.mk [] [] [] [])]
noncomputable def abA:D prog 19 none 0:=dO [] (pick (kd prog f103) [(0,false)]) 0
noncomputable def g103_0:List ByteArray×ByteArray×Int×Int×Unit->bG ((List ByteArray×ByteArray×Int×Int×Unit) ⊕ ((Int×Unit) ⊕ ((Unit)))):=fun (v0,v1,v7,v8,_) =>
 .br (decide (v8<v7)) (
 .nb v8 (((v0).length:Nat):Int) <|
 .br (seq v1 ((v0).getD (Int.toNat v8) (bs []))) (
 .ret (.inr <| .inl<|(v8,()))) (
 .ni (v8+(1:Int)) <|
 .ret (.inl (v0,v1,v7,(v8+(1:Int)),())))) (
 .ret (.inr <| .inr<|()))
noncomputable def abB:bu prog 19 none 0:=aV mixed Yz E1 [] rfl aby abz rfl (abA) (fun x=>ai (g103_0 x)) (fun x=>by kernel_rfl)
noncomputable def YA:D prog 19 none 0:=dO [.l abB] (kd prog f103) 0
noncomputable def F103 (a0:List ByteArray) (a1:ByteArray):bG (Int×Unit) :=
 .bd (.it g103_0 (a0,a1,(((a0).length:Nat):Int),(0:Int),())) fun z0 =>
 .sm z0 (fun z1 =>
 .ret (z1.1,())) fun z2 =>
 .ret ((-1:Int),())
theorem Vp:cn prog f103=some ⟨19,2,YA.er,[.t 4],[some tI]⟩:=by kernel_rfl
noncomputable def YB:Ct:=⟨103,[.c (.hole (.list .str)),.c (.hole .str)],hI,fun x=>ai (F103 x.1 x.2.1)⟩
theorem QN:YB.Ok prog:=cA mixed E1 func103 Vp (enters_of func103 rfl rfl) YA (by kernel_rfl) rfl (fun x=>by kernel_rfl)

/- 75 -/
noncomputable def cx75:Cx:=(aK [YB] [])
theorem Vq:cx75.Ok prog:=aq ⟨QN,trivial⟩ trivial
noncomputable def dd75:D prog 9 none 0:=dO [] (kd prog f75) 0
noncomputable def F75 (a0:List ByteArray) (a1:ByteArray):bG (Bool×Unit) :=
 .bd (F103 a0 a1) fun y0 =>
 .ret ((decide ((0:Int)<=y0.1)),())
theorem abC:cn prog f75=some ⟨9,2,dd75.er,[.t 4],[some .bool]⟩:=by kernel_rfl
noncomputable def abD:Ct:=⟨75,[.c (.hole (.list .str)),.c (.hole .str)],.c (.hole .bool),fun x=>ai (F75 x.1 x.2.1)⟩
theorem Vr:abD.Ok prog:=cA mixed Vq func75 abC (enters_of func75 rfl rfl) dd75 (by kernel_rfl) rfl (fun x=>by kernel_rfl)

/- 32, lent -/
abbrev pH32:au:=au.mk [(0,.c (.ptr 0 0)),(1,.c (.hole .str))] [(0,.cells [.mp 1] false),(1,dy)] [.slot 0,.cell 0 0] []
abbrev qH32:au:=au.mk [(0,.cQ [.hole tI,.hole tI])] [(0,.cells [.mp 1] false),(1,dy)] [] []
noncomputable def JP:Cx:=(aK [abD] [yB,EP,abx])
theorem HK:JP.Ok prog:=aq (vS:=[abD]) (hts:=[yB,EP,abx]) ⟨Vr,trivial⟩ ⟨⟨lH,rfl⟩,⟨sB,rfl⟩,⟨Vo,rfl⟩,trivial⟩
@[reducible] noncomputable def Vs:Go.AM.Fn:=⟨29,2,(dO [] (kd prog f73) 0:D prog 29 none 0).er,[.t 4,.cell 5 true 5,.t 6],[none,some tG,some tI]⟩
noncomputable def JQ:Cx:=Et prog JP 73 Vs (fun _=>dO [] (kd prog f73) 0)
theorem HL:JQ.Ok prog:=pN mixed HK func73 (by kernel_rfl) (enters_of func73 rfl rfl) (fun _=>by kernel_rfl)
noncomputable def afQ:Cx:=JQ
theorem QO:afQ.Ok prog:=HL
noncomputable def YC:D prog 51 none 2:=dO [] (kd prog f32) 0
noncomputable def FH32 (v1:ByteArray) (m1:cB):bG (Int×Int×cB×Unit) :=
 .bd (FH54 m1) fun y0 =>
 .br y0.1 (
 .br (!((9:Int)==(0:Int))) (
 .ret ((0:Int),(9:Int),y0.2.1,())) (
 .br ((0:Int)==(3:Int)) (
 .ret ((0:Int),(18:Int),y0.2.1,())) (
 .no))) (
 .bd (FH66 y0.2.1) fun y1 =>
 .br (!(aT .str y1.2.1 v1)) (
 .br (!((5:Int)==(0:Int))) (
 .ret ((0:Int),(5:Int),y1.1,())) (
 .br ((0:Int)==(3:Int)) (
 .ret ((0:Int),(18:Int),y1.1,())) (
 .no))) (
 .br (!((0:Int)==(0:Int))) (
 .ret ((0:Int),(0:Int),y1.1,())) (
 .br ((aA .str ((bs []),(0:Int),(bs []),(bs []),(0:Int)) y1.2.1 v1).2.1==(3:Int)) (
 .ret ((0:Int),(18:Int),y1.1,())) (
 .br (aA .str false y1.2.2.2.2.1 v1) (
 .ret ((2:Int),(0:Int),y1.1,())) (
 .bd (FH74 v1 y1.2.1 y1.2.2.1 y1.2.2.2.1 y1.2.2.2.2.1) fun y2 =>
 .br (!y2.2.1) (
 .ret ((1:Int),(0:Int),y1.1,())) (
 .bd (F75 (((y2.2.2.1).drop (0:Nat)).take y2.1) v1) fun y3 =>
 .br (!y3.1) (
 .ret ((3:Int),(0:Int),y1.1,())) (
 .br (decide ((1:Int)<((y2.1:Nat):Int))) (
 .ret ((5:Int),(0:Int),y1.1,())) (
 .ret ((4:Int),(0:Int),y1.1,())))))))))
theorem Vt:cn prog f32=some ⟨51,2,YC.er,[.t 4,.t 5],[some tI,some tI]⟩:=by kernel_rfl
noncomputable def abE:Ht:=⟨32,pH32,qH32,(fun x=>ai (FH32 x.1 x.2.1))⟩
theorem JR:abE.Ok prog:=bA mixed QO rfl func32 Vt (enters_of func32 rfl rfl) YC (by kernel_rfl) rfl rfl ⟨_,rfl⟩ rfl (pre:=[0,1]) rfl (fun x=>by kernel_rfl)

/- 104, lent -/
abbrev QS:au:=au.mk [(0,.c .fq),(1,.c (.hole .str))] [] [] []
abbrev QT:au:=au.mk [(0,.c .any)] [] [] []
noncomputable def Ma:Cx:=(aK [] [])
theorem Cw:Ma.Ok prog:=aq trivial trivial
noncomputable def A8:D prog 14 none 0:=dO [] (kd prog f104) 0
noncomputable def FH104_v1 (v1:ByteArray):bG (Unit) :=
 .no
theorem E2:cn prog f104=some ⟨14,2,A8.er,[.t 4],[some (.list .str)]⟩:=by kernel_rfl
noncomputable def E3:Ht:=⟨104,QS,QT,(fun x=>ai (FH104_v1 x.1))⟩
theorem E4:E3.Ok prog:=bA mixed Cw rfl func104 E2 (enters_of func104 rfl rfl) A8 (by kernel_rfl) rfl rfl ⟨_,rfl⟩ rfl (pre:=[]) rfl (fun x=>by kernel_rfl)

/- 76, lent -/
abbrev Vu:au:=au.mk [(0,.c .fq),(1,.c (.hole .str))] [] [] []
abbrev Vv:au:=au.mk [(0,.c .any)] [] [] []
noncomputable def QU:Cx:=(aK [] [E3])
theorem E5:QU.Ok prog:=aq trivial ⟨⟨E4,rfl⟩,trivial⟩
noncomputable def E6:D prog 32 none 0:=dO [.x] (kd prog f76) 0
noncomputable def FH76_v1 (v1:ByteArray):bG (Unit) :=
 .bd (FH104_v1 v1) fun y0 =>
 .no
theorem HM:cn prog f76=some ⟨32,2,E6.er,[.t 4],[some (.list .str)]⟩:=by kernel_rfl
noncomputable def Cy:Ht:=⟨76,Vu,Vv,(fun x=>ai (FH76_v1 x.1))⟩
theorem HN:Cy.Ok prog:=bA mixed E5 rfl func76 HM (enters_of func76 rfl rfl) E6 (by kernel_rfl) rfl rfl ⟨_,rfl⟩ rfl (pre:=[]) rfl (fun x=>by kernel_rfl)

/- 33, lent -/
abbrev pH33:au:=au.mk [(0,.c (.ptr 0 0)),(1,.c (.hole .str))] [(0,.cells [.mp 1] false),(1,dy)] [.slot 0,.cell 0 0] []
abbrev qH33:au:=au.mk [(0,.cQ [.bI 2 .str,.hole tI])] [(2,.arr .str false),(0,.cells [.mp 1] false),(1,dy)] [.part 0 0] []
noncomputable def JS:Cx:=(aK [] [yB,Cy,EP,HJ])
theorem HO:JS.Ok prog:=aq (vS:=[]) (hts:=[yB,Cy,EP,HJ]) trivial ⟨⟨lH,rfl⟩,⟨HN,rfl⟩,⟨sB,rfl⟩,⟨sD,rfl⟩,trivial⟩
@[reducible] noncomputable def Vw:Go.AM.Fn:=⟨29,2,(dO [] (kd prog f73) 0:D prog 29 none 0).er,[.t 4,.cell 5 true 5,.t 6],[none,some tG,some tI]⟩
noncomputable def JT:Cx:=Et prog JS 73 Vw (fun _=>dO [] (kd prog f73) 0)
theorem HP:JT.Ok prog:=pN mixed HO func73 (by kernel_rfl) (enters_of func73 rfl rfl) (fun _=>by kernel_rfl)
noncomputable def afR:Cx:=JT
theorem QV:afR.Ok prog:=HP
noncomputable def YD:D prog 27 none 2:=dO [] (kd prog f33) 0
noncomputable def FH33 (v1:ByteArray) (m1:cB):bG (Nat×Int×List ByteArray×cB×Unit) :=
 .bd (FH54 m1) fun y0 =>
 .br y0.1 (
 .br (!((9:Int)==(0:Int))) (
 .ret ((0:Nat),(9:Int),[],y0.2.1,())) (
 .br (!((0:Int)==(1:Int))) (
 .ret ((0:Nat),(18:Int),[],y0.2.1,())) (
 .bd (FH76_v1 v1) fun y1 =>
 .no))) (
 .bd (FH66 y0.2.1) fun y2 =>
 .br (!(aT .str y2.2.1 v1)) (
 .br (!((5:Int)==(0:Int))) (
 .ret ((0:Nat),(5:Int),[],y2.1,())) (
 .br (!((0:Int)==(1:Int))) (
 .ret ((0:Nat),(18:Int),[],y2.1,())) (
 .bd (FH76_v1 v1) fun y3 =>
 .no))) (
 .br (!((0:Int)==(0:Int))) (
 .ret ((0:Nat),(0:Int),[],y2.1,())) (
 .br (!((aA .str ((bs []),(0:Int),(bs []),(bs []),(0:Int)) y2.2.1 v1).2.1==(1:Int))) (
 .ret ((0:Nat),(18:Int),[],y2.1,())) (
 .bd (FH76fix v1 y2.2.1 y2.2.2.1 y2.2.2.2.1 y2.2.2.2.2.1) fun y4 =>
 .ret (y4.1,(0:Int),y4.2.1,y2.1,())))))
theorem Vx:cn prog f33=some ⟨27,2,YD.er,[.t 4,.t 5],[some (.list .str),some tI]⟩:=by kernel_rfl
noncomputable def abF:Ht:=⟨33,pH33,qH33,(fun x=>ai (FH33 x.1 x.2.1))⟩
theorem JU:abF.Ok prog:=bA mixed QV rfl func33 Vx (enters_of func33 rfl rfl) YD (by kernel_rfl) rfl rfl ⟨_,rfl⟩ rfl (pre:=[0,1]) rfl (fun x=>by kernel_rfl)

/- 40, lent -/
abbrev pH40:au:=au.mk [(0,.c (.ptr 0 0)),(1,.c (.hole .str)),(2,hI)] [(0,.cells [.mp 1] false),(1,dy)] [.slot 0,.cell 0 0] []
abbrev qH40:au:=au.mk [(0,.c (.hole .bool))] [(0,.cells [.mp 1] false),(1,dy)] [] []
noncomputable def afS:Cx:=(aK [] [abE])
theorem QW:afS.Ok prog:=aq trivial ⟨⟨JR,rfl⟩,trivial⟩
noncomputable def YE:D prog 22 none 2:=dO [] (kd prog f40) 0
noncomputable def FH40 (v1:ByteArray) (v2:Int) (m1:cB):bG (Bool×cB×Unit) :=
 .bd (FH32 v1 m1) fun y0 =>
 .br (y0.2.1==(0:Int)) (
 .ret ((y0.1==v2),y0.2.2.1,())) (
 .ret (false,y0.2.2.1,()))
theorem Vy:cn prog f40=some ⟨22,3,YE.er,[.t 6],[some .bool]⟩:=by kernel_rfl
noncomputable def ht40:Ht:=⟨40,pH40,qH40,(fun x=>ai (FH40 x.1 x.2.1 x.2.2.1))⟩
theorem Vz:ht40.Ok prog:=bA mixed QW rfl func40 Vy (enters_of func40 rfl rfl) YE (by kernel_rfl) rfl rfl ⟨_,rfl⟩ rfl (pre:=[0,1]) rfl (fun x=>by kernel_rfl)

/- 100, lent -/
abbrev afU:au:=au.mk [(0,.c (.mp 0)),(1,hI)] [(0,nF)] [.slot 0] []
abbrev afV:au:=au.mk [(0,.c .any)] [(0,nF)] [] []
noncomputable def abG:Cx:=(aK [] [])
theorem Mb:abG.Ok prog:=aq trivial trivial
noncomputable def QX:D prog 7 none 1:=dO [] (kd prog f100) 0
noncomputable def FH100 (v1:Int) (m0:List (Int×Unit)):bG ((List (Int×Unit))×Unit) :=
 .ret ((bn (.int .i64) m0 v1 ()),())
theorem QY:cn prog f100=some ⟨7,2,QX.er,[],[]⟩:=by kernel_rfl
noncomputable def QZ:Ht:=⟨100,afU,afV,(fun x=>ai (FH100 x.1 x.2.1))⟩
theorem E7:QZ.Ok prog:=bA mixed Mb rfl func100 QY (enters_of func100 rfl rfl) QX (by kernel_rfl) rfl rfl ⟨_,rfl⟩ rfl (pre:=[0]) rfl (fun x=>by kernel_rfl)

/- 79, lent -/
abbrev pH79:au:=au.mk [(0,.c (.ptr 0 0))] [(0,.cells [.mp 1,.mp 2,.mp 3,.mp 4] false),(1,eo),(2,eZ),(3,bP),(4,bP)] [.slot 0,.cell 0 0,.cell 0 1,.cell 0 2,.cell 0 3] []
abbrev qH79:au:=au.mk [(0,.fn 106 [] [.ptr 5 0])] [(5,.cells [.ptr 0 0] false),(0,.cells [.mp 1,.mp 2,.mp 3,.mp 4] false),(1,eo),(2,eZ),(3,bP),(4,bP)] [.part 0 0] []
noncomputable def afW:Cx:=(aK [] [])
theorem Q2:afW.Ok prog:=aq trivial trivial
noncomputable def YF:D prog 4 none 5:=dO [] (kd prog f79) 0
noncomputable def FH79 (m1:cO) (m2:cT) (m3:bg) (m4:bg):bG (cO×cT×bg×bg×Unit) :=
 .ret (m1,m2,m3,m4,())
theorem VA:cn prog f79=some ⟨4,1,YF.er,[.t 2],[none]⟩:=by kernel_rfl
noncomputable def VB:Ht:=⟨79,pH79,qH79,(fun x=>ai (FH79 x.1 x.2.1 x.2.2.1 x.2.2.2.1))⟩
theorem Cz:VB.Ok prog:=bA mixed Q2 rfl func79 VA (enters_of func79 rfl rfl) YF (by kernel_rfl) rfl rfl ⟨_,rfl⟩ rfl (pre:=[0,1,2,3,4]) rfl (fun x=>by kernel_rfl)

/- 68 -/
noncomputable def cx68:Cx:=(aK [] [])
theorem VC:cx68.Ok prog:=aq trivial trivial
noncomputable def dd68:D prog 10 none 0:=dO [] (kd prog f68) 0
noncomputable def F68 (a0:GG) (a1:ByteArray):bG (Int×Unit) :=
 .br (!(seq a0.2.2.2.1 a1)) (
 .ret ((0:Int),())) (
 .ret (a0.2.2.2.2,()))
theorem abH:cn prog f68=some ⟨10,2,dd68.er,[.t 3],[some tI]⟩:=by kernel_rfl
noncomputable def ct68:Ct:=⟨68,[.c (.hole tG),.c (.gm .str)],hI,fun x=>ai (F68 x.1 x.2.1)⟩
theorem VD:ct68.Ok prog:=cA mixed VC func68 abH (enters_of func68 rfl rfl) dd68 (by kernel_rfl) rfl (fun x=>by kernel_rfl)

/- 120, lent -/
abbrev afZ:au:=au.mk [(0,.c (.mp 0))] [(0,nF)] [.slot 0] []
abbrev af0:au:=au.mk [(0,.fn 132 [] [.ptr 1 0])] [(1,.cells [.mp 0] false),(0,nF)] [.part 0 0] []
noncomputable def abI:Cx:=(aK [] [])
theorem Mc:abI.Ok prog:=aq trivial trivial
noncomputable def Q3:D prog 4 none 1:=dO [] (kd prog f120) 0
noncomputable def FH120 (m0:List (Int×Unit)):bG ((List (Int×Unit))×Unit) :=
 .ret (m0,())
theorem Q4:cn prog f120=some ⟨4,1,Q3.er,[.t 2],[none]⟩:=by kernel_rfl
noncomputable def YG:Ht:=⟨120,afZ,af0,(fun x=>ai (FH120 x.1))⟩
theorem Q5:YG.Ok prog:=bA mixed Mc rfl func120 Q4 (enters_of func120 rfl rfl) Q3 (by kernel_rfl) rfl rfl ⟨_,rfl⟩ rfl (pre:=[0]) rfl (fun x=>by kernel_rfl)

/- 101, lent -/
abbrev af1:au:=au.mk [(0,.c (.mp 0))] [(0,nF)] [.slot 0] []
abbrev af2:au:=au.mk [(0,.fn 132 [] [.ptr 1 0])] [(1,.cells [.mp 0] false),(0,nF)] [.part 0 0] []
noncomputable def abJ:Cx:=(aK [] [YG])
theorem Md:abJ.Ok prog:=aq trivial ⟨⟨Q5,rfl⟩,trivial⟩
noncomputable def Q6:D prog 5 none 1:=dO [] (kd prog f101) 0
noncomputable def FH101 (m0:List (Int×Unit)):bG ((List (Int×Unit))×Unit) :=
 .bd (FH120 m0) fun y0 =>
 .ret (y0.1,())
theorem Q7:cn prog f101=some ⟨5,1,Q6.er,[.t 2],[none]⟩:=by kernel_rfl
noncomputable def Q8:Ht:=⟨101,af1,af2,(fun x=>ai (FH101 x.1))⟩
theorem E8:Q8.Ok prog:=bA mixed Md rfl func101 Q7 (enters_of func101 rfl rfl) Q6 (by kernel_rfl) rfl rfl ⟨_,rfl⟩ rfl (pre:=[0]) rfl (fun x=>by kernel_rfl)

/- 122, by hand -/
abbrev af3:au:=au.mk [(0,.c (.bI 0 tI))] [(0,.arr tI false)] [.slot 0] []
abbrev af4:au:=au.mk [(0,.c .any)] [(0,.arr tI false)] [] []
noncomputable def FH122 (nG:Nat) (b0:List Int):bG (List Int×Unit) :=
 .of (vp (.int .i64) b0 nG)
noncomputable def Q9:Ht:=⟨122,af3,af4,(fun x=>ai (FH122 x.1 x.2.1))⟩
theorem Ra:Q9.Ok prog:=fun x y h=>PC (ρ:=yz) aaz (enters_of func122 rfl rfl) (xs:=x.2.1) (n:=x.1) (y:=y) h

/- 102, lent -/
abbrev af5:au:=au.mk [(0,.fn 132 [] [.ptr 0 0])] [(0,.cells [.mp 1] false),(1,nF)] [.part 0 0,.cell 0 0] []
abbrev af6:au:=au.mk [(0,.c (.bI 2 tI))] [(2,.arr tI false),(0,.cells [.mp 1] false),(1,nF)] [.slot 0] []
noncomputable def sE:Cx:=(aK [] [Q9])
theorem oL:sE.Ok prog:=aq (vS:=[]) (hts:=[Q9]) trivial ⟨⟨Ra,rfl⟩,trivial⟩
noncomputable def mE:D prog 13 (some 4) 7:=dO [] (pick (kd prog f133) [(0,false)]) 0
noncomputable def mF:D prog 13 (some 4) 7:=dO [] (pick (kd prog f133) [(0,true)]) 0
noncomputable def ir:Cx:=zS sE (fun kz=>Pr kz sE dZ 4 7 [7] (mE) (mF))
theorem jr:(ir).Ok prog:=jT oL (fun h=>nB mixed oL h)
abbrev qN:au:=au.mk [(0,.c (.yl 4)),(4,.c (.mp 1))] [(4,.loop .ready none 3 [(2,.c (.ptr 2 0)),(4,.c .bZ),(6,.fn 132 [] [.ptr 0 0])] [7] (.aZ [.op (some 5) none (.mv (.t 7))]) (.block 1 (.aZ [.op (some 8) none (.load false 1 (.t 2)),.op (some 9) none (.mv (.t 5)),.op (some 10) none (.ew tI [.t 9]),.op (some 11) none (.append 1 (.t 8) (.t 10)),.op none none (.store 1 (.t 2) (.t 11))])) 13),(1,nF),(3,.iF),(2,.cells [.bI 5 tI] false),(0,.cells [.mp 1] false),(5,.arr tI false)] [.cell 2 0] []
noncomputable def qO:D prog 14 none 7:=dO [] (pick (kd prog f132) [(0,false)]) 0
noncomputable def gH102f121f133_0i_0:((Int)×(Unit))->(List (Int×Unit))×Nat×List Int×Unit->bG ((List (Int×Unit))×Nat×List Int×Unit):=fun e (m1,kO,b5,_) =>
 .nd (decide ((kO+(((((e.1::[])).drop (0:Nat)).take (1:Nat))).length)<bp)) <|
 .nd (jK m1 m1) <|
 .ret (m1,(kO+(((((e.1::[])).drop (0:Nat)).take (1:Nat))).length),((((b5).drop (0:Nat)).take kO)++((((e.1::[])).drop (0:Nat)).take (1:Nat))),())
noncomputable def qP:rP prog 14 none 5:=vV mixed ir jr [0,1,2,3,4] rfl qN ( [.op (some 4) none (.load false 1 (.t 1))]) 4 5 [6,7] (some 8) ( .int .i64)  false ( .unit)  true 0 rfl 7 rfl (qO) (fun e x=>ai (gH102f121f133_0i_0 e x)) (fun e=>fun x=>by kernel_rfl)
abbrev vu:au:=au.mk [(2,.c (.ptr 2 0)),(4,.c .bZ),(6,.fn 132 [] [.ptr 0 0])] [(2,.cells [.bZ] false),(0,.cells [.mp 1] false),(1,nF)] [.slot 2] []
abbrev vw:aU:=[(.normal,au.mk [(2,.c (.ptr 2 0))] [(2,.cells [.bI 3 tI] false),(0,.cells [.mp 1] false),(1,nF),(3,.arr tI false)] [.slot 2,.cell 2 0] [])]
noncomputable def mG:D prog 14 none 5:=dO [.m qP] (kd prog f132) 0
theorem uf:cn prog f132=some ⟨14,2,(mG).er,[],[]⟩:=by kernel_rfl
noncomputable def nV:gE prog 13 none 2:=sg mixed ir jr [0,1] rfl vu vw ( .t 6) [7] rfl (mE).er (mF).er 132 func132 (uf) (enters_of func132 rfl rfl) 5 rfl (mG) rfl
@[reducible] noncomputable def Rb:Go.AM.Fn:=⟨13,2,(dO [.r nV] (kd prog f133) 0:D prog 13 none 2).er,[.t 4],[some tL]⟩
noncomputable def E9:Cx:=AX prog sE 133 Rb 2 (dO [.r nV] (kd prog f133) 0)
theorem Fa:E9.Ok prog:=r9 mixed oL func133 (by kernel_rfl) (enters_of func133 rfl rfl) rfl
@[reducible] noncomputable def Rc:Go.AM.Fn:=⟨5,1,(dO [] (kd prog f121) 0:D prog 5 none 0).er,[.t 2],[some tL]⟩
noncomputable def Fb:Cx:=Et prog E9 121 Rc (fun _=>dO [] (kd prog f121) 0)
theorem Fc:Fb.Ok prog:=pN mixed Fa func121 (by kernel_rfl) (enters_of func121 rfl rfl) (fun _=>by kernel_rfl)
noncomputable def abK:Cx:=Fb
theorem Me:abK.Ok prog:=Fc
noncomputable def Re:D prog 9 none 2:=dO [] (kd prog f102) 0
noncomputable def FH102 (m1:List (Int×Unit)):bG (Nat×List Int×(List (Int×Unit))×Unit) :=
 .an m1 fun l0 =>
 .bd (.fm gH102f121f133_0i_0 l0 (m1,(0:Nat),[],())) fun z1 =>
 .bd (FH122 z1.2.1 z1.2.2.1) fun y2 =>
 .ret (z1.2.1,y2.1,z1.1,())
theorem Rf:cn prog f102=some ⟨9,1,Re.er,[.t 2],[some tL]⟩:=by kernel_rfl
noncomputable def Rg:Ht:=⟨102,af5,af6,(fun x=>ai (FH102 x.1))⟩
theorem Fe:Rg.Ok prog:=bA mixed Me rfl func102 Rf (enters_of func102 rfl rfl) Re (by kernel_rfl) rfl rfl ⟨_,rfl⟩ rfl (pre:=[0,1]) rfl (fun x=>by kernel_rfl)

/- 67, lent -/
abbrev pH67:au:=au.mk [(0,.c (.ptr 0 0)),(1,.fn 68 [] [.ptr 1 0])] [(0,.cells [.mp 2,.mp 3,.mp 4,.mp 5] false),(1,.cells [.hole .str] false),(2,eo),(3,eZ),(4,bP),(5,bP)] [.slot 0,.part 1 0,.cell 0 0,.cell 0 1,.cell 0 2,.cell 0 3] []
abbrev qH67:au:=au.mk [(0,.c (.bI 6 tI))] [(6,.arr tI false),(0,.cells [.mp 2,.mp 3,.mp 4,.mp 5] false),(2,eo),(3,eZ),(4,bP),(5,bP),(1,.cells [.hole .str] false)] [.slot 0] []
noncomputable def A9:Cx:=(aK [ct68] [QZ,VB,Ql,Qn,HJ,Q8,Rg])
theorem mH:A9.Ok prog:=aq ⟨VD,trivial⟩ ⟨⟨E7,rfl⟩,⟨Cz,rfl⟩,⟨wj,rfl⟩,⟨wm,rfl⟩,⟨sD,rfl⟩,⟨E8,rfl⟩,⟨Fe,rfl⟩,trivial⟩
noncomputable def yK:D prog 48 (some 26) 29:=dO [] (pick (kd prog f67) [(0,true),(0,false),(0,false)]) 0
noncomputable def yL:D prog 48 (some 26) 29:=dO [] (pick (kd prog f67) [(0,true),(0,false),(0,true)]) 0
noncomputable def oM:Cx:=zS A9 (fun kz=>Pr kz A9 dZ 26 29 [37] (yK) (yL))
theorem oN:(oM).Ok prog:=jT mH (fun h=>nB mixed mH h)
abbrev CA:au:=au.mk [(0,.c (.yl 26)),(4,.c (.mp 24))] [(26,.loop .ready none 11 [(2,.c (.ptr 6 0)),(3,.c (.ptr 7 0)),(5,.c (.ptr 8 0)),(8,.c (.ptr 21 0)),(11,.c (.ptr 22 0)),(21,.c (.bI 20 .str)),(22,hI),(23,hI),(36,.fn 132 [] [.ptr 23 0])] [37] (.aZ [.op (some 12) none (.mv (.t 37))]) (.block 5 (.aZ [.op (some 38) none (.load false 1 (.t 8)),.op (some 39) none (.mv (.t 12)),.op (some 40) none (.load false 1 (.t 11)),.op (some 41) none (.bin .add (.t 39) (.t 40)),.call (some 42) none (.c (.fn 100 [] [])) [.t 38,.t 41] [none,some tI]])) 48),(24,nF),(11,.iF),(6,.cells [.ptr 0 0] false),(0,.cells [.mp 2,.mp 3,.mp 4,.mp 5] false),(2,eo),(3,eZ),(4,bP),(5,bP),(7,.cells [.fn 68 .nil (.cons (.ptr 1 0) .nil)] false),(1,.cells [.hole .str] false),(8,.cells [.mp 24] false),(21,.cells [.mp 27] false),(22,.cells [.hole tI] false),(20,.arr .str false),(23,.cells [.mp 24] false),(9,.cells [.ptr 0 0] false),(12,.loop .busy none 11 [(2,.c (.ptr 6 0)),(3,.c (.ptr 7 0)),(4,.c .bZ),(5,.c (.ptr 8 0)),(17,.fn 106 [] [.ptr 9 0])] [18,19] (.aZ [.op (some 7) none (.mv (.t 19))]) (.block 1 (.seq (.aZ [.op (some 20) none (.ex (gJ.jf tI false .unit true) []),.op (some 8) none (.alloc [.cR]),.op none none (.store 1 (.t 8) (.t 20))]) (.seq (.seq (.aZ [.op (some 21) none (.mv (.t 7)),.op (some 22) none (.len (.t 21)),.op (some 23) none (.mv (.c (.int .i64 (Int.ofNat 0))))]) (.block 2 (.loop (.seq (.aZ [.op (some 24) none (.bin .lss (.t 23) (.t 22))]) (.seq (.cond (.t 24) .skip (.exit 2)) (.seq (.block 3 (.seq (.aZ [.op (some 25) none (.idx 1 (.t 21) (.t 23)),.op (some 26) none (.load false 1 (.t 25)),.op (some 10) none (.mv (.t 26))]) (.seq (.draw [[],[],[1],[1,2],[1,2,3],[],[1,2,3,4,5],[0,1,2,3,4,5,6],[],[0,1,2,3,4,5,6,7,8]] [.op (some 27) none (.load false 1 (.t 3)),.op (some 28) none (.load false 1 (.t 2)),.op (some 29) none (.ex gJ.je [.t 28]),.op (some 30) none (.mT 0 [false] (.t 29)),.op (some 31) none (.load false 1 (.t 30)),.op (some 32) none (.mv (.t 10)),.op (some 33) none (.ex (gJ.gz .str false tG true false) [.t 31,.t 32]),.call (some 34) none (.t 27) [.t 33] [some tG],.op (some 11) none (.alloc [.int .i64 (Int.ofNat 0)]),.op none none (.store 1 (.t 11) (.t 34))]) (.seq (.aZ [.op (some 35) none (.load false 1 (.t 5)),.call (some 36) none (.c (.fn 101 [] [])) [.t 35] [none]]) (.block 4 (.bM (.t 36) [37] (.aZ [.op (some 12) none (.mv (.t 37))]) (.block 5 (.aZ [.op (some 38) none (.load false 1 (.t 8)),.op (some 39) none (.mv (.t 12)),.op (some 40) none (.load false 1 (.t 11)),.op (some 41) none (.bin .add (.t 39) (.t 40)),.call (some 42) none (.c (.fn 100 [] [])) [.t 38,.t 41] [none,some tI]])))))))) (.aZ [.op (some 43) none (.bin .add (.t 23) (.c (.int .i64 (Int.ofNat 1)))),.op (some 23) none (.mv (.t 43))]))))))) (.aZ [.op (some 44) none (.load false 1 (.t 8)),.op none none (.store 1 (.t 5) (.t 44))])))) 48),(13,.arr .str false),(27,nF)] [.cell 21 0] []
noncomputable def CB:D prog 14 none 29:=dO [] (pick (kd prog f132) [(0,false)]) 0
noncomputable def gH67_0b_2i_0:((Int)×(Unit))->Nat×Int×Int×(List (Int×Unit))×cO×cT×bg×bg×ByteArray×Int×List ByteArray×List ByteArray×(List (Int×Unit))×Unit->bG (Nat×Int×Int×(List (Int×Unit))×cO×cT×bg×bg×ByteArray×Int×List ByteArray×List ByteArray×(List (Int×Unit))×Unit):=fun e (abL,w22,w23,m24,m2,m3,m4,m5,qQ,Ff,pX,js,m27,_) =>
 .ni (e.1+Ff) <|
 .bd (FH100 (e.1+Ff) m27) fun y7 =>
 .nd (jK m24 m24) <|
 .ret (abL,w22,w23,m24,m2,m3,m4,m5,qQ,Ff,pX,js,y7.1,())
noncomputable def CC:rP prog 14 none 27:=Cq mixed oM oN [0,1,2,3,4,5,6,7,8,9,10,11,12,13,14,15,16,17,18,19,20,21,22,23,24,25,26] rfl CA ( [.op (some 4) none (.load false 1 (.t 1))]) 4 5 [6,7] (some 8) ( .int .i64)  false ( .unit)  true 0 rfl 29 rfl (CB) (fun e x=>ai (gH67_0b_2i_0 e x)) (fun e=>fun x=>by kernel_rfl)
abbrev Mf:au:=au.mk [(2,.c (.ptr 6 0)),(3,.c (.ptr 7 0)),(5,.c (.ptr 8 0)),(8,.c (.ptr 21 0)),(11,.c (.ptr 22 0)),(21,.c (.bI 20 .str)),(22,hI),(23,hI),(36,.fn 132 [] [.ptr 23 0])] [(6,.cells [.ptr 0 0] false),(7,.cells [.fn 68 .nil (.cons (.ptr 1 0) .nil)] false),(8,.cells [.mp 24] false),(21,.cells [.mp 25] false),(22,.cells [.hole tI] false),(20,.arr .str false),(23,.cells [.mp 24] false),(0,.cells [.mp 2,.mp 3,.mp 4,.mp 5] false),(2,eo),(3,eZ),(4,bP),(5,bP),(1,.cells [.hole .str] false),(9,.cells [.ptr 0 0] false),(11,.iF),(12,.loop .busy none 11 [(2,.c (.ptr 6 0)),(3,.c (.ptr 7 0)),(4,.c .bZ),(5,.c (.ptr 8 0)),(17,.fn 106 [] [.ptr 9 0])] [18,19] (.aZ [.op (some 7) none (.mv (.t 19))]) (.block 1 (.seq (.aZ [.op (some 20) none (.ex (gJ.jf tI false .unit true) []),.op (some 8) none (.alloc [.cR]),.op none none (.store 1 (.t 8) (.t 20))]) (.seq (.seq (.aZ [.op (some 21) none (.mv (.t 7)),.op (some 22) none (.len (.t 21)),.op (some 23) none (.mv (.c (.int .i64 (Int.ofNat 0))))]) (.block 2 (.loop (.seq (.aZ [.op (some 24) none (.bin .lss (.t 23) (.t 22))]) (.seq (.cond (.t 24) .skip (.exit 2)) (.seq (.block 3 (.seq (.aZ [.op (some 25) none (.idx 1 (.t 21) (.t 23)),.op (some 26) none (.load false 1 (.t 25)),.op (some 10) none (.mv (.t 26))]) (.seq (.draw [[],[],[1],[1,2],[1,2,3],[],[1,2,3,4,5],[0,1,2,3,4,5,6],[],[0,1,2,3,4,5,6,7,8]] [.op (some 27) none (.load false 1 (.t 3)),.op (some 28) none (.load false 1 (.t 2)),.op (some 29) none (.ex gJ.je [.t 28]),.op (some 30) none (.mT 0 [false] (.t 29)),.op (some 31) none (.load false 1 (.t 30)),.op (some 32) none (.mv (.t 10)),.op (some 33) none (.ex (gJ.gz .str false tG true false) [.t 31,.t 32]),.call (some 34) none (.t 27) [.t 33] [some tG],.op (some 11) none (.alloc [.int .i64 (Int.ofNat 0)]),.op none none (.store 1 (.t 11) (.t 34))]) (.seq (.aZ [.op (some 35) none (.load false 1 (.t 5)),.call (some 36) none (.c (.fn 101 [] [])) [.t 35] [none]]) (.block 4 (.bM (.t 36) [37] (.aZ [.op (some 12) none (.mv (.t 37))]) (.block 5 (.aZ [.op (some 38) none (.load false 1 (.t 8)),.op (some 39) none (.mv (.t 12)),.op (some 40) none (.load false 1 (.t 11)),.op (some 41) none (.bin .add (.t 39) (.t 40)),.call (some 42) none (.c (.fn 100 [] [])) [.t 38,.t 41] [none,some tI]])))))))) (.aZ [.op (some 43) none (.bin .add (.t 23) (.c (.int .i64 (Int.ofNat 1)))),.op (some 23) none (.mv (.t 43))]))))))) (.aZ [.op (some 44) none (.load false 1 (.t 8)),.op none none (.store 1 (.t 5) (.t 44))])))) 48),(13,.arr .str false),(24,nF),(25,nF)] [.slot 8,.slot 11,.part 36 0,.cell 8 0,.cell 21 0] []
abbrev Mh:aU:=[(.normal,au.mk [(2,.c (.ptr 6 0)),(3,.c (.ptr 7 0)),(5,.c (.ptr 8 0)),(8,.c (.ptr 21 0)),(21,.c (.bI 20 .str)),(22,hI),(23,hI)] [(6,.cells [.ptr 0 0] false),(7,.cells [.fn 68 .nil (.cons (.ptr 1 0) .nil)] false),(8,.cells [.mp 22] false),(21,.cells [.mp 23] false),(20,.arr .str false),(0,.cells [.mp 2,.mp 3,.mp 4,.mp 5] false),(2,eo),(3,eZ),(4,bP),(5,bP),(1,.cells [.hole .str] false),(9,.cells [.ptr 0 0] false),(11,.iF),(12,.loop .busy none 11 [(2,.c (.ptr 6 0)),(3,.c (.ptr 7 0)),(4,.c .bZ),(5,.c (.ptr 8 0)),(17,.fn 106 [] [.ptr 9 0])] [18,19] (.aZ [.op (some 7) none (.mv (.t 19))]) (.block 1 (.seq (.aZ [.op (some 20) none (.ex (gJ.jf tI false .unit true) []),.op (some 8) none (.alloc [.cR]),.op none none (.store 1 (.t 8) (.t 20))]) (.seq (.seq (.aZ [.op (some 21) none (.mv (.t 7)),.op (some 22) none (.len (.t 21)),.op (some 23) none (.mv (.c (.int .i64 (Int.ofNat 0))))]) (.block 2 (.loop (.seq (.aZ [.op (some 24) none (.bin .lss (.t 23) (.t 22))]) (.seq (.cond (.t 24) .skip (.exit 2)) (.seq (.block 3 (.seq (.aZ [.op (some 25) none (.idx 1 (.t 21) (.t 23)),.op (some 26) none (.load false 1 (.t 25)),.op (some 10) none (.mv (.t 26))]) (.seq (.draw [[],[],[1],[1,2],[1,2,3],[],[1,2,3,4,5],[0,1,2,3,4,5,6],[],[0,1,2,3,4,5,6,7,8]] [.op (some 27) none (.load false 1 (.t 3)),.op (some 28) none (.load false 1 (.t 2)),.op (some 29) none (.ex gJ.je [.t 28]),.op (some 30) none (.mT 0 [false] (.t 29)),.op (some 31) none (.load false 1 (.t 30)),.op (some 32) none (.mv (.t 10)),.op (some 33) none (.ex (gJ.gz .str false tG true false) [.t 31,.t 32]),.call (some 34) none (.t 27) [.t 33] [some tG],.op (some 11) none (.alloc [.int .i64 (Int.ofNat 0)]),.op none none (.store 1 (.t 11) (.t 34))]) (.seq (.aZ [.op (some 35) none (.load false 1 (.t 5)),.call (some 36) none (.c (.fn 101 [] [])) [.t 35] [none]]) (.block 4 (.bM (.t 36) [37] (.aZ [.op (some 12) none (.mv (.t 37))]) (.block 5 (.aZ [.op (some 38) none (.load false 1 (.t 8)),.op (some 39) none (.mv (.t 12)),.op (some 40) none (.load false 1 (.t 11)),.op (some 41) none (.bin .add (.t 39) (.t 40)),.call (some 42) none (.c (.fn 100 [] [])) [.t 38,.t 41] [none,some tI]])))))))) (.aZ [.op (some 43) none (.bin .add (.t 23) (.c (.int .i64 (Int.ofNat 1)))),.op (some 23) none (.mv (.t 43))]))))))) (.aZ [.op (some 44) none (.load false 1 (.t 8)),.op none none (.store 1 (.t 5) (.t 44))])))) 48),(13,.arr .str false),(22,nF),(23,nF)] [.slot 8,.cell 8 0,.cell 21 0] [])]
noncomputable def yM:D prog 14 none 27:=dO [.m CC] (kd prog f132) 0
theorem HQ:cn prog f132=some ⟨14,2,(yM).er,[],[]⟩:=by kernel_rfl
noncomputable def gH67_0b_2:Nat×Int×Int×Int×List ByteArray×cO×cT×bg×bg×ByteArray×List ByteArray×(List (Int×Unit))×(List (Int×Unit))×Unit->bG ((Nat×Int×Int×List ByteArray×cO×cT×bg×bg×ByteArray×List ByteArray×(List (Int×Unit))×(List (Int×Unit))×Unit)):=fun (yN,v22,v23,Ff,pX,m2,m3,m4,m5,qQ,js,m24,m25,_) =>
 .bd (.mq gH67_0b_2i_0 m24 (yN,v22,v23,m24,m2,m3,m4,m5,qQ,Ff,pX,js,m25,())) fun z8 =>
 .ret ((yN,v22,v23,z8.2.2.2.2.2.2.2.2.2.2.1,z8.2.2.2.2.1,z8.2.2.2.2.2.1,z8.2.2.2.2.2.2.1,z8.2.2.2.2.2.2.2.1,z8.2.2.2.2.2.2.2.2.1,z8.2.2.2.2.2.2.2.2.2.2.2.1,z8.2.2.2.1,z8.2.2.2.2.2.2.2.2.2.2.2.2.1,()))
noncomputable def Mi:gE prog 48 (some 12) 21:=rY mixed oM oN [0,1,2,3,4,5,6,7,8,9,10,11,12,13,14,15,16,17,18,19,20] rfl Mf Mh ( .t 36) [37] rfl (yK).er (yL).er 132 func132 (HQ) (enters_of func132 rfl rfl) 27 rfl (yM) rfl (fun x=>ai (gH67_0b_2 x)) (fun x=>by kernel_rfl)
abbrev Mj:au:=au.mk [(2,.c (.ptr 6 0)),(3,.c (.ptr 7 0)),(5,.c (.ptr 8 0)),(8,.c (.ptr 21 0)),(21,.c (.bI 20 .str)),(22,hI),(23,hI)] [(6,.cells [.ptr 0 0] false),(7,.cells [.fn 68 .nil (.cons (.ptr 1 0) .nil)] false),(8,.cells [.mp 22] false),(21,.cells [.mp 23] false),(20,.arr .str false),(0,.cells [.mp 2,.mp 3,.mp 4,.mp 5] false),(2,eo),(3,eZ),(4,bP),(5,bP),(1,.cells [.hole .str] false),(9,.cells [.ptr 0 0] false),(11,.iF),(12,.loop .busy none 11 [(2,.c (.ptr 6 0)),(3,.c (.ptr 7 0)),(4,.c .bZ),(5,.c (.ptr 8 0)),(17,.fn 106 [] [.ptr 9 0])] [18,19] (.aZ [.op (some 7) none (.mv (.t 19))]) (.block 1 (.seq (.aZ [.op (some 20) none (.ex (gJ.jf tI false .unit true) []),.op (some 8) none (.alloc [.cR]),.op none none (.store 1 (.t 8) (.t 20))]) (.seq (.seq (.aZ [.op (some 21) none (.mv (.t 7)),.op (some 22) none (.len (.t 21)),.op (some 23) none (.mv (.c (.int .i64 (Int.ofNat 0))))]) (.block 2 (.loop (.seq (.aZ [.op (some 24) none (.bin .lss (.t 23) (.t 22))]) (.seq (.cond (.t 24) .skip (.exit 2)) (.seq (.block 3 (.seq (.aZ [.op (some 25) none (.idx 1 (.t 21) (.t 23)),.op (some 26) none (.load false 1 (.t 25)),.op (some 10) none (.mv (.t 26))]) (.seq (.draw [[],[],[1],[1,2],[1,2,3],[],[1,2,3,4,5],[0,1,2,3,4,5,6],[],[0,1,2,3,4,5,6,7,8]] [.op (some 27) none (.load false 1 (.t 3)),.op (some 28) none (.load false 1 (.t 2)),.op (some 29) none (.ex gJ.je [.t 28]),.op (some 30) none (.mT 0 [false] (.t 29)),.op (some 31) none (.load false 1 (.t 30)),.op (some 32) none (.mv (.t 10)),.op (some 33) none (.ex (gJ.gz .str false tG true false) [.t 31,.t 32]),.call (some 34) none (.t 27) [.t 33] [some tG],.op (some 11) none (.alloc [.int .i64 (Int.ofNat 0)]),.op none none (.store 1 (.t 11) (.t 34))]) (.seq (.aZ [.op (some 35) none (.load false 1 (.t 5)),.call (some 36) none (.c (.fn 101 [] [])) [.t 35] [none]]) (.block 4 (.bM (.t 36) [37] (.aZ [.op (some 12) none (.mv (.t 37))]) (.block 5 (.aZ [.op (some 38) none (.load false 1 (.t 8)),.op (some 39) none (.mv (.t 12)),.op (some 40) none (.load false 1 (.t 11)),.op (some 41) none (.bin .add (.t 39) (.t 40)),.call (some 42) none (.c (.fn 100 [] [])) [.t 38,.t 41] [none,some tI]])))))))) (.aZ [.op (some 43) none (.bin .add (.t 23) (.c (.int .i64 (Int.ofNat 1)))),.op (some 23) none (.mv (.t 43))]))))))) (.aZ [.op (some 44) none (.load false 1 (.t 8)),.op none none (.store 1 (.t 5) (.t 44))])))) 48),(13,.arr .str false),(22,nF),(23,nF)] [.slot 8,.cell 8 0,.cell 21 0] []
abbrev Mk:aU:=[(.exit 2,au.mk [(5,.c (.ptr 8 0)),(8,.c (.ptr 21 0))] [(8,.cells [.mp 22] false),(21,.cells [.mp 23] false),(0,.cells [.mp 2,.mp 3,.mp 4,.mp 5] false),(2,eo),(3,eZ),(4,bP),(5,bP),(1,.cells [.hole .str] false),(6,.cells [.ptr 0 0] false),(7,.cells [.fn 68 .nil (.cons (.ptr 1 0) .nil)] false),(9,.cells [.ptr 0 0] false),(11,.iF),(12,.loop .busy none 11 [(2,.c (.ptr 6 0)),(3,.c (.ptr 7 0)),(4,.c .bZ),(5,.c (.ptr 8 0)),(17,.fn 106 [] [.ptr 9 0])] [18,19] (.aZ [.op (some 7) none (.mv (.t 19))]) (.block 1 (.seq (.aZ [.op (some 20) none (.ex (gJ.jf tI false .unit true) []),.op (some 8) none (.alloc [.cR]),.op none none (.store 1 (.t 8) (.t 20))]) (.seq (.seq (.aZ [.op (some 21) none (.mv (.t 7)),.op (some 22) none (.len (.t 21)),.op (some 23) none (.mv (.c (.int .i64 (Int.ofNat 0))))]) (.block 2 (.loop (.seq (.aZ [.op (some 24) none (.bin .lss (.t 23) (.t 22))]) (.seq (.cond (.t 24) .skip (.exit 2)) (.seq (.block 3 (.seq (.aZ [.op (some 25) none (.idx 1 (.t 21) (.t 23)),.op (some 26) none (.load false 1 (.t 25)),.op (some 10) none (.mv (.t 26))]) (.seq (.draw [[],[],[1],[1,2],[1,2,3],[],[1,2,3,4,5],[0,1,2,3,4,5,6],[],[0,1,2,3,4,5,6,7,8]] [.op (some 27) none (.load false 1 (.t 3)),.op (some 28) none (.load false 1 (.t 2)),.op (some 29) none (.ex gJ.je [.t 28]),.op (some 30) none (.mT 0 [false] (.t 29)),.op (some 31) none (.load false 1 (.t 30)),.op (some 32) none (.mv (.t 10)),.op (some 33) none (.ex (gJ.gz .str false tG true false) [.t 31,.t 32]),.call (some 34) none (.t 27) [.t 33] [some tG],.op (some 11) none (.alloc [.int .i64 (Int.ofNat 0)]),.op none none (.store 1 (.t 11) (.t 34))]) (.seq (.aZ [.op (some 35) none (.load false 1 (.t 5)),.call (some 36) none (.c (.fn 101 [] [])) [.t 35] [none]]) (.block 4 (.bM (.t 36) [37] (.aZ [.op (some 12) none (.mv (.t 37))]) (.block 5 (.aZ [.op (some 38) none (.load false 1 (.t 8)),.op (some 39) none (.mv (.t 12)),.op (some 40) none (.load false 1 (.t 11)),.op (some 41) none (.bin .add (.t 39) (.t 40)),.call (some 42) none (.c (.fn 100 [] [])) [.t 38,.t 41] [none,some tI]])))))))) (.aZ [.op (some 43) none (.bin .add (.t 23) (.c (.int .i64 (Int.ofNat 1)))),.op (some 23) none (.mv (.t 43))]))))))) (.aZ [.op (some 44) none (.load false 1 (.t 8)),.op none none (.store 1 (.t 5) (.t 44))])))) 48),(13,.arr .str false),(20,.arr .str false),(22,nF),(23,nF)] [.slot 8,.cell 8 0,.cell 21 0] [])]
noncomputable def Ml:D prog 48 (some 12) 21:=dO [.r Mi] (pick (kd prog f67) [(0,true),(0,false)]) 0
noncomputable def gH67_0b_1:Nat×Int×Int×List ByteArray×cO×cT×bg×bg×ByteArray×List ByteArray×(List (Int×Unit))×(List (Int×Unit))×Unit->bG ((Nat×Int×Int×List ByteArray×cO×cT×bg×bg×ByteArray×List ByteArray×(List (Int×Unit))×(List (Int×Unit))×Unit) ⊕ ((cO×cT×bg×bg×ByteArray×List ByteArray×List ByteArray×(List (Int×Unit))×(List (Int×Unit))×Unit))):=fun (yN,v22,v23,pX,m2,m3,m4,m5,qQ,js,m22,m23,_) =>
 .br (decide (v23<v22)) (
 .nb v23 ((yN:Nat):Int) <|
 .nd (decide (((0:Nat)+(Int.toNat v23))<(pX).length)) <|
 .bd (F68 ((aA .str ((bs []),(0:Int),(bs []),(bs []),(0:Int)) m2 ((pX).getD ((0:Nat)+(Int.toNat v23)) (bs []))).1,(aA .str ((bs []),(0:Int),(bs []),(bs []),(0:Int)) m2 ((pX).getD ((0:Nat)+(Int.toNat v23)) (bs []))).2.1,(aA .str ((bs []),(0:Int),(bs []),(bs []),(0:Int)) m2 ((pX).getD ((0:Nat)+(Int.toNat v23)) (bs []))).2.2.1,(aA .str ((bs []),(0:Int),(bs []),(bs []),(0:Int)) m2 ((pX).getD ((0:Nat)+(Int.toNat v23)) (bs []))).2.2.2.1,(aA .str ((bs []),(0:Int),(bs []),(bs []),(0:Int)) m2 ((pX).getD ((0:Nat)+(Int.toNat v23)) (bs []))).2.2.2.2) qQ) fun y5 =>
 .bd (FH101 m22) fun y6 =>
 .bd (gH67_0b_2 (yN,v22,v23,y5.1,pX,m2,m3,m4,m5,qQ,js,y6.1,m23,())) fun z9 =>
 .ni (z9.2.2.1+(1:Int)) <|
 .ret (.inl (z9.1,z9.2.1,(z9.2.2.1+(1:Int)),z9.2.2.2.1,z9.2.2.2.2.1,z9.2.2.2.2.2.1,z9.2.2.2.2.2.2.1,z9.2.2.2.2.2.2.2.1,z9.2.2.2.2.2.2.2.2.1,z9.2.2.2.2.2.2.2.2.2.1,z9.2.2.2.2.2.2.2.2.2.2.1,z9.2.2.2.2.2.2.2.2.2.2.2.1,()))) (
 .ret (.inr (m2,m3,m4,m5,qQ,js,pX,m22,m23,())))
noncomputable def Mm:bu prog 48 (some 12) 21:=aV mixed A9 mH [0,1,2,3,4,5,6,7,8,9,10,11,12,13,14,15,16,17,18,19,20] rfl Mj Mk rfl (Ml) (fun x=>ai (gH67_0b_1 x)) (fun x=>by kernel_rfl)
noncomputable def JV:D prog 48 (some 12) 21:=dO [] (pick (kd prog f67) [(0,false)]) 0
noncomputable def JW:D prog 48 (some 12) 21:=dO [.l Mm] (pick (kd prog f67) [(0,true)]) 0
noncomputable def yO:Cx:=zS A9 (fun kz=>Pr kz A9 dZ 12 21 [18,19] (JV) (JW))
theorem uV:(yO).Ok prog:=jT mH (fun h=>nB mixed mH h)
abbrev Mn:au:=au.mk [(0,.c (.yl 12)),(1,.c (.ptr 9 0)),(10,.c (.bI 13 .str)),(11,hI),(12,hI)] [(12,.loop .ready none 11 [(2,.c (.ptr 6 0)),(3,.c (.ptr 7 0)),(4,.c .bZ),(5,.c (.ptr 8 0)),(17,.fn 106 [] [.ptr 9 0])] [18,19] (.aZ [.op (some 7) none (.mv (.t 19))]) (.block 1 (.seq (.aZ [.op (some 20) none (.ex (gJ.jf tI false .unit true) []),.op (some 8) none (.alloc [.cR]),.op none none (.store 1 (.t 8) (.t 20))]) (.seq (.seq (.aZ [.op (some 21) none (.mv (.t 7)),.op (some 22) none (.len (.t 21)),.op (some 23) none (.mv (.c (.int .i64 (Int.ofNat 0))))]) (.block 2 (.loop (.seq (.aZ [.op (some 24) none (.bin .lss (.t 23) (.t 22))]) (.seq (.cond (.t 24) .skip (.exit 2)) (.seq (.block 3 (.seq (.aZ [.op (some 25) none (.idx 1 (.t 21) (.t 23)),.op (some 26) none (.load false 1 (.t 25)),.op (some 10) none (.mv (.t 26))]) (.seq (.draw [[],[],[1],[1,2],[1,2,3],[],[1,2,3,4,5],[0,1,2,3,4,5,6],[],[0,1,2,3,4,5,6,7,8]] [.op (some 27) none (.load false 1 (.t 3)),.op (some 28) none (.load false 1 (.t 2)),.op (some 29) none (.ex gJ.je [.t 28]),.op (some 30) none (.mT 0 [false] (.t 29)),.op (some 31) none (.load false 1 (.t 30)),.op (some 32) none (.mv (.t 10)),.op (some 33) none (.ex (gJ.gz .str false tG true false) [.t 31,.t 32]),.call (some 34) none (.t 27) [.t 33] [some tG],.op (some 11) none (.alloc [.int .i64 (Int.ofNat 0)]),.op none none (.store 1 (.t 11) (.t 34))]) (.seq (.aZ [.op (some 35) none (.load false 1 (.t 5)),.call (some 36) none (.c (.fn 101 [] [])) [.t 35] [none]]) (.block 4 (.bM (.t 36) [37] (.aZ [.op (some 12) none (.mv (.t 37))]) (.block 5 (.aZ [.op (some 38) none (.load false 1 (.t 8)),.op (some 39) none (.mv (.t 12)),.op (some 40) none (.load false 1 (.t 11)),.op (some 41) none (.bin .add (.t 39) (.t 40)),.call (some 42) none (.c (.fn 100 [] [])) [.t 38,.t 41] [none,some tI]])))))))) (.aZ [.op (some 43) none (.bin .add (.t 23) (.c (.int .i64 (Int.ofNat 1)))),.op (some 23) none (.mv (.t 43))]))))))) (.aZ [.op (some 44) none (.load false 1 (.t 8)),.op none none (.store 1 (.t 5) (.t 44))])))) 48),(9,.cells [.ptr 0 0] false),(13,.arr .str false),(11,.iF),(6,.cells [.ptr 0 0] false),(0,.cells [.mp 2,.mp 3,.mp 4,.mp 5] false),(2,eo),(3,eZ),(4,bP),(5,bP),(7,.cells [.fn 68 .nil (.cons (.ptr 1 0) .nil)] false),(1,.cells [.hole .str] false),(8,.cells [.mp 14] false),(14,nF)] [.slot 10,.cell 8 0] []
abbrev Mo:aU:=[(.exit 0,au.mk [] [(0,.cells [.mp 2,.mp 3,.mp 4,.mp 5] false),(2,eo),(3,eZ),(4,bP),(5,bP),(1,.cells [.hole .str] false),(6,.cells [.ptr 0 0] false),(7,.cells [.fn 68 .nil (.cons (.ptr 1 0) .nil)] false),(8,.cells [.mp 13] false),(9,.cells [.ptr 0 0] false),(11,.iF),(12,.loop .ready none 11 [(2,.c (.ptr 6 0)),(3,.c (.ptr 7 0)),(4,.c .bZ),(5,.c (.ptr 8 0)),(17,.fn 106 [] [.ptr 9 0])] [18,19] (.aZ [.op (some 7) none (.mv (.t 19))]) (.block 1 (.seq (.aZ [.op (some 20) none (.ex (gJ.jf tI false .unit true) []),.op (some 8) none (.alloc [.cR]),.op none none (.store 1 (.t 8) (.t 20))]) (.seq (.seq (.aZ [.op (some 21) none (.mv (.t 7)),.op (some 22) none (.len (.t 21)),.op (some 23) none (.mv (.c (.int .i64 (Int.ofNat 0))))]) (.block 2 (.loop (.seq (.aZ [.op (some 24) none (.bin .lss (.t 23) (.t 22))]) (.seq (.cond (.t 24) .skip (.exit 2)) (.seq (.block 3 (.seq (.aZ [.op (some 25) none (.idx 1 (.t 21) (.t 23)),.op (some 26) none (.load false 1 (.t 25)),.op (some 10) none (.mv (.t 26))]) (.seq (.draw [[],[],[1],[1,2],[1,2,3],[],[1,2,3,4,5],[0,1,2,3,4,5,6],[],[0,1,2,3,4,5,6,7,8]] [.op (some 27) none (.load false 1 (.t 3)),.op (some 28) none (.load false 1 (.t 2)),.op (some 29) none (.ex gJ.je [.t 28]),.op (some 30) none (.mT 0 [false] (.t 29)),.op (some 31) none (.load false 1 (.t 30)),.op (some 32) none (.mv (.t 10)),.op (some 33) none (.ex (gJ.gz .str false tG true false) [.t 31,.t 32]),.call (some 34) none (.t 27) [.t 33] [some tG],.op (some 11) none (.alloc [.int .i64 (Int.ofNat 0)]),.op none none (.store 1 (.t 11) (.t 34))]) (.seq (.aZ [.op (some 35) none (.load false 1 (.t 5)),.call (some 36) none (.c (.fn 101 [] [])) [.t 35] [none]]) (.block 4 (.bM (.t 36) [37] (.aZ [.op (some 12) none (.mv (.t 37))]) (.block 5 (.aZ [.op (some 38) none (.load false 1 (.t 8)),.op (some 39) none (.mv (.t 12)),.op (some 40) none (.load false 1 (.t 11)),.op (some 41) none (.bin .add (.t 39) (.t 40)),.call (some 42) none (.c (.fn 100 [] [])) [.t 38,.t 41] [none,some tI]])))))))) (.aZ [.op (some 43) none (.bin .add (.t 23) (.c (.int .i64 (Int.ofNat 1)))),.op (some 23) none (.mv (.t 43))]))))))) (.aZ [.op (some 44) none (.load false 1 (.t 8)),.op none none (.store 1 (.t 5) (.t 44))])))) 48),(13,nF)] [.cell 8 0] [])]
noncomputable def Mp:D prog 34 none 13:=dO [] (pick (kd prog f106) [(0,false)]) 0
noncomputable def gH67_0i_0:Nat×Int×Int×List ByteArray×cO×cT×bg×bg×ByteArray×(List (Int×Unit))×Unit->bG ((Nat×Int×Int×List ByteArray×cO×cT×bg×bg×ByteArray×(List (Int×Unit))×Unit) ⊕ ((cO×cT×bg×bg×ByteArray×(List (Int×Unit))×Unit))):=fun (mI,v11,v12,js,m2,m3,m4,m5,qQ,m14,_) =>
 .br (decide (v12<v11)) (
 .nb v12 ((mI:Nat):Int) <|
 .nd (decide (((0:Nat)+(Int.toNat v12))<(js).length)) <|
 .br ((aA .str ((bs []),(0:Int),(bs []),(bs []),(0:Int)) m2 ((js).getD ((0:Nat)+(Int.toNat v12)) (bs []))).2.1==(1:Int)) (
 .bd (FH76fix ((js).getD ((0:Nat)+(Int.toNat v12)) (bs [])) m2 m3 m4 m5) fun y4 =>
 .bd (.it gH67_0b_1 (y4.1,((y4.1:Nat):Int),(0:Int),y4.2.1,y4.2.2.1,y4.2.2.2.1,y4.2.2.2.2.1,y4.2.2.2.2.2.1,qQ,js,m14,[],())) fun Ba =>
 .ni (v12+(1:Int)) <|
 .ret (.inl (mI,v11,(v12+(1:Int)),Ba.2.2.2.2.2.1,Ba.1,Ba.2.1,Ba.2.2.1,Ba.2.2.2.1,Ba.2.2.2.2.1,Ba.2.2.2.2.2.2.2.2.1,()))) (
 .ni (v12+(1:Int)) <|
 .ret (.inl (mI,v11,(v12+(1:Int)),js,m2,m3,m4,m5,qQ,m14,())))) (
 .ret (.inr (m2,m3,m4,m5,qQ,m14,())))
noncomputable def Mq:bu prog 34 none 13:=aV mixed yO uV [0,1,2,3,4,5,6,7,8,9,10,11,12] rfl Mn Mo rfl (Mp) (fun x=>ai (gH67_0i_0 x)) (fun x=>by kernel_rfl)
abbrev abM:au:=au.mk [(2,.c (.ptr 6 0)),(3,.c (.ptr 7 0)),(4,.c .bZ),(5,.c (.ptr 8 0)),(17,.fn 106 [] [.ptr 9 0])] [(6,.cells [.ptr 0 0] false),(7,.cells [.fn 68 .nil (.cons (.ptr 1 0) .nil)] false),(8,.cells [.mp 10] false),(9,.cells [.ptr 0 0] false),(0,.cells [.mp 2,.mp 3,.mp 4,.mp 5] false),(2,eo),(3,eZ),(4,bP),(5,bP),(1,.cells [.hole .str] false),(10,nF)] [.slot 2,.slot 3,.slot 5,.part 17 0,.cell 8 0] []
abbrev abN:aU:=[(.normal,au.mk [(5,.c (.ptr 6 0))] [(6,.cells [.mp 7] false),(0,.cells [.mp 2,.mp 3,.mp 4,.mp 5] false),(2,eo),(3,eZ),(4,bP),(5,bP),(1,.cells [.hole .str] false),(7,nF)] [.slot 5,.cell 6 0] [])]
noncomputable def JX:D prog 34 none 13:=dO [.l Mq] (kd prog f106) 0
theorem VE:cn prog f106=some ⟨34,2,(JX).er,[],[]⟩:=by kernel_rfl
noncomputable def gH67_0:cO×cT×bg×bg×ByteArray×(List (Int×Unit))×Unit->bG ((cO×cT×bg×bg×ByteArray×(List (Int×Unit))×Unit)):=fun (m2,m3,m4,m5,qQ,m10,_) =>
 .bd (FH95 m2) fun y2 =>
 .bd (FH81 y2.1) fun y3 =>
 .bd (.it gH67_0i_0 (y3.1,((y3.1:Nat):Int),(0:Int),y3.2.1,y3.2.2.1,m3,m4,m5,qQ,m10,())) fun Bb =>
 .ret ((Bb.1,Bb.2.1,Bb.2.2.1,Bb.2.2.2.1,Bb.2.2.2.2.1,Bb.2.2.2.2.2.1,()))
noncomputable def abO:gE prog 48 none 6:=rY mixed yO uV [0,1,2,3,4,5] rfl abM abN ( .t 17) [18,19] rfl (JV).er (JW).er 106 func106 (VE) (enters_of func106 rfl rfl) 13 rfl (JX) rfl (fun x=>ai (gH67_0 x)) (fun x=>by kernel_rfl)
noncomputable def YH:D prog 48 none 6:=dO [.r abO] (kd prog f67) 0
noncomputable def FH67 (qQ:ByteArray) (m2:cO) (m3:cT) (m4:bg) (m5:bg):bG (Nat×List Int×cO×cT×bg×bg×ByteArray×Unit) :=
 .bd (FH100 (0:Int) []) fun y0 =>
 .bd (FH79 m2 m3 m4 m5) fun y1 =>
 .bd (gH67_0 (y1.1,y1.2.1,y1.2.2.1,y1.2.2.2.1,qQ,y0.1,())) fun z12 =>
 .bd (FH101 z12.2.2.2.2.2.1) fun Bc =>
 .bd (FH102 Bc.1) fun Rh =>
 .ret (Rh.1,Rh.2.1,z12.1,z12.2.1,z12.2.2.1,z12.2.2.2.1,z12.2.2.2.2.1,())
theorem VF:cn prog f67=some ⟨48,2,YH.er,[.t 4],[some tL]⟩:=by kernel_rfl
noncomputable def ht67:Ht:=⟨67,pH67,qH67,(fun x=>ai (FH67 x.1 x.2.1 x.2.2.1 x.2.2.2.1 x.2.2.2.2.1))⟩
theorem VG:ht67.Ok prog:=bA mixed mH rfl func67 VF (enters_of func67 rfl rfl) YH (by kernel_rfl) rfl rfl ⟨_,rfl⟩ rfl (pre:=[0,1,2,3,4,5]) rfl (fun x=>by kernel_rfl)

/- 23, lent -/
abbrev pH23:au:=au.mk [(0,.c (.ptr 0 0)),(1,.c (.hole .str))] [(0,.cells [.mp 1] false),(1,dy)] [.slot 0,.cell 0 0] []
abbrev qH23:au:=au.mk [(0,.cQ [.bI 2 tI,.hole tI])] [(2,.arr tI false),(0,.cells [.mp 1] false),(1,dy)] [.part 0 0] []
noncomputable def af8:Cx:=(aK [P7] [yB,EP,ht67])
theorem Ri:af8.Ok prog:=aq ⟨vY,trivial⟩ ⟨⟨lH,rfl⟩,⟨sB,rfl⟩,⟨VG,rfl⟩,trivial⟩
noncomputable def YI:D prog 15 none 2:=dO [] (kd prog f23) 0
noncomputable def FH23 (v1:ByteArray) (m1:cB):bG (Nat×Int×List Int×cB×Unit) :=
 .bd (FH54 m1) fun y0 =>
 .br y0.1 (
 .ret ((0:Nat),(9:Int),[],y0.2.1,())) (
 .bd (F65 v1) fun y1 =>
 .br (!y1.1) (
 .ret ((0:Nat),(8:Int),[],y0.2.1,())) (
 .bd (FH66 y0.2.1) fun y2 =>
 .bd (FH67 v1 y2.2.1 y2.2.2.1 y2.2.2.2.1 y2.2.2.2.2.1) fun y3 =>
 .ret (y3.1,(0:Int),y3.2.1,y2.1,())))
theorem VH:cn prog f23=some ⟨15,2,YI.er,[.t 4,.t 5],[some tL,some tI]⟩:=by kernel_rfl
noncomputable def abP:Ht:=⟨23,pH23,qH23,(fun x=>ai (FH23 x.1 x.2.1))⟩
theorem JY:abP.Ok prog:=bA mixed Ri rfl func23 VH (enters_of func23 rfl rfl) YI (by kernel_rfl) rfl rfl ⟨_,rfl⟩ rfl (pre:=[0,1]) rfl (fun x=>by kernel_rfl)

/- 78 -/
noncomputable def cx78:Cx:=(aK [] [])
theorem VI:cx78.Ok prog:=aq trivial trivial
noncomputable def dd78:D prog 5 none 0:=dO [] (kd prog f78) 0
noncomputable def F78 (a0:GG):bG (Int×Unit) :=
 .ret (a0.2.2.2.2,())
theorem abQ:cn prog f78=some ⟨5,1,dd78.er,[.t 2],[some tI]⟩:=by kernel_rfl
noncomputable def ct78:Ct:=⟨78,[.c (.hole tG)],hI,fun x=>ai (F78 x.1)⟩
theorem VJ:ct78.Ok prog:=cA mixed VI func78 abQ (enters_of func78 rfl rfl) dd78 (by kernel_rfl) rfl (fun x=>by kernel_rfl)

/- 67, lent -/
abbrev VK:au:=au.mk [(0,.c (.ptr 0 0)),(1,.c (.fn0 78))] [(0,.cells [.mp 1,.mp 2,.mp 3,.mp 4] false),(1,eo),(2,eZ),(3,bP),(4,bP)] [.slot 0,.cell 0 0,.cell 0 1,.cell 0 2,.cell 0 3] []
abbrev VL:au:=au.mk [(0,.c (.bI 5 tI))] [(5,.arr tI false),(0,.cells [.mp 1,.mp 2,.mp 3,.mp 4] false),(1,eo),(2,eZ),(3,bP),(4,bP)] [.slot 0] []
noncomputable def mJ:Cx:=(aK [ct78] [QZ,VB,Ql,Qn,HJ,Q8,Rg])
theorem gT:mJ.Ok prog:=aq ⟨VJ,trivial⟩ ⟨⟨E7,rfl⟩,⟨Cz,rfl⟩,⟨wj,rfl⟩,⟨wm,rfl⟩,⟨sD,rfl⟩,⟨E8,rfl⟩,⟨Fe,rfl⟩,trivial⟩
noncomputable def ql:D prog 48 (some 25) 28:=dO [] (pick (kd prog f67) [(0,true),(0,false),(0,false)]) 0
noncomputable def qm:D prog 48 (some 25) 28:=dO [] (pick (kd prog f67) [(0,true),(0,false),(0,true)]) 0
noncomputable def kV:Cx:=zS mJ (fun kz=>Pr kz mJ dZ 25 28 [37] (ql) (qm))
theorem lI:(kV).Ok prog:=jT gT (fun h=>nB mixed gT h)
abbrev vz:au:=au.mk [(0,.c (.yl 25)),(4,.c (.mp 23))] [(25,.loop .ready none 10 [(2,.c (.ptr 5 0)),(3,.c (.ptr 6 0)),(5,.c (.ptr 7 0)),(8,.c (.ptr 20 0)),(11,.c (.ptr 21 0)),(21,.c (.bI 19 .str)),(22,hI),(23,hI),(36,.fn 132 [] [.ptr 22 0])] [37] (.aZ [.op (some 12) none (.mv (.t 37))]) (.block 5 (.aZ [.op (some 38) none (.load false 1 (.t 8)),.op (some 39) none (.mv (.t 12)),.op (some 40) none (.load false 1 (.t 11)),.op (some 41) none (.bin .add (.t 39) (.t 40)),.call (some 42) none (.c (.fn 100 [] [])) [.t 38,.t 41] [none,some tI]])) 48),(23,nF),(10,.iF),(5,.cells [.ptr 0 0] false),(0,.cells [.mp 1,.mp 2,.mp 3,.mp 4] false),(1,eo),(2,eZ),(3,bP),(4,bP),(6,.cells [.fn0 78] false),(7,.cells [.mp 23] false),(20,.cells [.mp 26] false),(21,.cells [.hole tI] false),(19,.arr .str false),(22,.cells [.mp 23] false),(8,.cells [.ptr 0 0] false),(11,.loop .busy none 10 [(2,.c (.ptr 5 0)),(3,.c (.ptr 6 0)),(4,.c .bZ),(5,.c (.ptr 7 0)),(17,.fn 106 [] [.ptr 8 0])] [18,19] (.aZ [.op (some 7) none (.mv (.t 19))]) (.block 1 (.seq (.aZ [.op (some 20) none (.ex (gJ.jf tI false .unit true) []),.op (some 8) none (.alloc [.cR]),.op none none (.store 1 (.t 8) (.t 20))]) (.seq (.seq (.aZ [.op (some 21) none (.mv (.t 7)),.op (some 22) none (.len (.t 21)),.op (some 23) none (.mv (.c (.int .i64 (Int.ofNat 0))))]) (.block 2 (.loop (.seq (.aZ [.op (some 24) none (.bin .lss (.t 23) (.t 22))]) (.seq (.cond (.t 24) .skip (.exit 2)) (.seq (.block 3 (.seq (.aZ [.op (some 25) none (.idx 1 (.t 21) (.t 23)),.op (some 26) none (.load false 1 (.t 25)),.op (some 10) none (.mv (.t 26))]) (.seq (.draw [[],[],[1],[1,2],[1,2,3],[],[1,2,3,4,5],[0,1,2,3,4,5,6],[],[0,1,2,3,4,5,6,7,8]] [.op (some 27) none (.load false 1 (.t 3)),.op (some 28) none (.load false 1 (.t 2)),.op (some 29) none (.ex gJ.je [.t 28]),.op (some 30) none (.mT 0 [false] (.t 29)),.op (some 31) none (.load false 1 (.t 30)),.op (some 32) none (.mv (.t 10)),.op (some 33) none (.ex (gJ.gz .str false tG true false) [.t 31,.t 32]),.call (some 34) none (.t 27) [.t 33] [some tG],.op (some 11) none (.alloc [.int .i64 (Int.ofNat 0)]),.op none none (.store 1 (.t 11) (.t 34))]) (.seq (.aZ [.op (some 35) none (.load false 1 (.t 5)),.call (some 36) none (.c (.fn 101 [] [])) [.t 35] [none]]) (.block 4 (.bM (.t 36) [37] (.aZ [.op (some 12) none (.mv (.t 37))]) (.block 5 (.aZ [.op (some 38) none (.load false 1 (.t 8)),.op (some 39) none (.mv (.t 12)),.op (some 40) none (.load false 1 (.t 11)),.op (some 41) none (.bin .add (.t 39) (.t 40)),.call (some 42) none (.c (.fn 100 [] [])) [.t 38,.t 41] [none,some tI]])))))))) (.aZ [.op (some 43) none (.bin .add (.t 23) (.c (.int .i64 (Int.ofNat 1)))),.op (some 23) none (.mv (.t 43))]))))))) (.aZ [.op (some 44) none (.load false 1 (.t 8)),.op none none (.store 1 (.t 5) (.t 44))])))) 48),(12,.arr .str false),(26,nF)] [.cell 20 0] []
noncomputable def vA:D prog 14 none 28:=dO [] (pick (kd prog f132) [(0,false)]) 0
noncomputable def gH67_v1_0b_2i_0:((Int)×(Unit))->Nat×Int×Int×(List (Int×Unit))×cO×cT×bg×bg×Int×List ByteArray×List ByteArray×(List (Int×Unit))×Unit->bG (Nat×Int×Int×(List (Int×Unit))×cO×cT×bg×bg×Int×List ByteArray×List ByteArray×(List (Int×Unit))×Unit):=fun e (abL,w22,w23,m23,m1,m2,m3,m4,Fg,NB,NC,m26,_) =>
 .ni (e.1+Fg) <|
 .bd (FH100 (e.1+Fg) m26) fun y7 =>
 .nd (jK m23 m23) <|
 .ret (abL,w22,w23,m23,m1,m2,m3,m4,Fg,NB,NC,y7.1,())
noncomputable def vB:rP prog 14 none 26:=Cq mixed kV lI [0,1,2,3,4,5,6,7,8,9,10,11,12,13,14,15,16,17,18,19,20,21,22,23,24,25] rfl vz ( [.op (some 4) none (.load false 1 (.t 1))]) 4 5 [6,7] (some 8) ( .int .i64)  false ( .unit)  true 0 rfl 28 rfl (vA) (fun e x=>ai (gH67_v1_0b_2i_0 e x)) (fun e=>fun x=>by kernel_rfl)
abbrev CD:au:=au.mk [(2,.c (.ptr 5 0)),(3,.c (.ptr 6 0)),(5,.c (.ptr 7 0)),(8,.c (.ptr 20 0)),(11,.c (.ptr 21 0)),(21,.c (.bI 19 .str)),(22,hI),(23,hI),(36,.fn 132 [] [.ptr 22 0])] [(5,.cells [.ptr 0 0] false),(6,.cells [.fn0 78] false),(7,.cells [.mp 23] false),(20,.cells [.mp 24] false),(21,.cells [.hole tI] false),(19,.arr .str false),(22,.cells [.mp 23] false),(0,.cells [.mp 1,.mp 2,.mp 3,.mp 4] false),(1,eo),(2,eZ),(3,bP),(4,bP),(8,.cells [.ptr 0 0] false),(10,.iF),(11,.loop .busy none 10 [(2,.c (.ptr 5 0)),(3,.c (.ptr 6 0)),(4,.c .bZ),(5,.c (.ptr 7 0)),(17,.fn 106 [] [.ptr 8 0])] [18,19] (.aZ [.op (some 7) none (.mv (.t 19))]) (.block 1 (.seq (.aZ [.op (some 20) none (.ex (gJ.jf tI false .unit true) []),.op (some 8) none (.alloc [.cR]),.op none none (.store 1 (.t 8) (.t 20))]) (.seq (.seq (.aZ [.op (some 21) none (.mv (.t 7)),.op (some 22) none (.len (.t 21)),.op (some 23) none (.mv (.c (.int .i64 (Int.ofNat 0))))]) (.block 2 (.loop (.seq (.aZ [.op (some 24) none (.bin .lss (.t 23) (.t 22))]) (.seq (.cond (.t 24) .skip (.exit 2)) (.seq (.block 3 (.seq (.aZ [.op (some 25) none (.idx 1 (.t 21) (.t 23)),.op (some 26) none (.load false 1 (.t 25)),.op (some 10) none (.mv (.t 26))]) (.seq (.draw [[],[],[1],[1,2],[1,2,3],[],[1,2,3,4,5],[0,1,2,3,4,5,6],[],[0,1,2,3,4,5,6,7,8]] [.op (some 27) none (.load false 1 (.t 3)),.op (some 28) none (.load false 1 (.t 2)),.op (some 29) none (.ex gJ.je [.t 28]),.op (some 30) none (.mT 0 [false] (.t 29)),.op (some 31) none (.load false 1 (.t 30)),.op (some 32) none (.mv (.t 10)),.op (some 33) none (.ex (gJ.gz .str false tG true false) [.t 31,.t 32]),.call (some 34) none (.t 27) [.t 33] [some tG],.op (some 11) none (.alloc [.int .i64 (Int.ofNat 0)]),.op none none (.store 1 (.t 11) (.t 34))]) (.seq (.aZ [.op (some 35) none (.load false 1 (.t 5)),.call (some 36) none (.c (.fn 101 [] [])) [.t 35] [none]]) (.block 4 (.bM (.t 36) [37] (.aZ [.op (some 12) none (.mv (.t 37))]) (.block 5 (.aZ [.op (some 38) none (.load false 1 (.t 8)),.op (some 39) none (.mv (.t 12)),.op (some 40) none (.load false 1 (.t 11)),.op (some 41) none (.bin .add (.t 39) (.t 40)),.call (some 42) none (.c (.fn 100 [] [])) [.t 38,.t 41] [none,some tI]])))))))) (.aZ [.op (some 43) none (.bin .add (.t 23) (.c (.int .i64 (Int.ofNat 1)))),.op (some 23) none (.mv (.t 43))]))))))) (.aZ [.op (some 44) none (.load false 1 (.t 8)),.op none none (.store 1 (.t 5) (.t 44))])))) 48),(12,.arr .str false),(23,nF),(24,nF)] [.slot 8,.slot 11,.part 36 0,.cell 7 0,.cell 20 0] []
abbrev CE:aU:=[(.normal,au.mk [(2,.c (.ptr 5 0)),(3,.c (.ptr 6 0)),(5,.c (.ptr 7 0)),(8,.c (.ptr 20 0)),(21,.c (.bI 19 .str)),(22,hI),(23,hI)] [(5,.cells [.ptr 0 0] false),(6,.cells [.fn0 78] false),(7,.cells [.mp 21] false),(20,.cells [.mp 22] false),(19,.arr .str false),(0,.cells [.mp 1,.mp 2,.mp 3,.mp 4] false),(1,eo),(2,eZ),(3,bP),(4,bP),(8,.cells [.ptr 0 0] false),(10,.iF),(11,.loop .busy none 10 [(2,.c (.ptr 5 0)),(3,.c (.ptr 6 0)),(4,.c .bZ),(5,.c (.ptr 7 0)),(17,.fn 106 [] [.ptr 8 0])] [18,19] (.aZ [.op (some 7) none (.mv (.t 19))]) (.block 1 (.seq (.aZ [.op (some 20) none (.ex (gJ.jf tI false .unit true) []),.op (some 8) none (.alloc [.cR]),.op none none (.store 1 (.t 8) (.t 20))]) (.seq (.seq (.aZ [.op (some 21) none (.mv (.t 7)),.op (some 22) none (.len (.t 21)),.op (some 23) none (.mv (.c (.int .i64 (Int.ofNat 0))))]) (.block 2 (.loop (.seq (.aZ [.op (some 24) none (.bin .lss (.t 23) (.t 22))]) (.seq (.cond (.t 24) .skip (.exit 2)) (.seq (.block 3 (.seq (.aZ [.op (some 25) none (.idx 1 (.t 21) (.t 23)),.op (some 26) none (.load false 1 (.t 25)),.op (some 10) none (.mv (.t 26))]) (.seq (.draw [[],[],[1],[1,2],[1,2,3],[],[1,2,3,4,5],[0,1,2,3,4,5,6],[],[0,1,2,3,4,5,6,7,8]] [.op (some 27) none (.load false 1 (.t 3)),.op (some 28) none (.load false 1 (.t 2)),.op (some 29) none (.ex gJ.je [.t 28]),.op (some 30) none (.mT 0 [false] (.t 29)),.op (some 31) none (.load false 1 (.t 30)),.op (some 32) none (.mv (.t 10)),.op (some 33) none (.ex (gJ.gz .str false tG true false) [.t 31,.t 32]),.call (some 34) none (.t 27) [.t 33] [some tG],.op (some 11) none (.alloc [.int .i64 (Int.ofNat 0)]),.op none none (.store 1 (.t 11) (.t 34))]) (.seq (.aZ [.op (some 35) none (.load false 1 (.t 5)),.call (some 36) none (.c (.fn 101 [] [])) [.t 35] [none]]) (.block 4 (.bM (.t 36) [37] (.aZ [.op (some 12) none (.mv (.t 37))]) (.block 5 (.aZ [.op (some 38) none (.load false 1 (.t 8)),.op (some 39) none (.mv (.t 12)),.op (some 40) none (.load false 1 (.t 11)),.op (some 41) none (.bin .add (.t 39) (.t 40)),.call (some 42) none (.c (.fn 100 [] [])) [.t 38,.t 41] [none,some tI]])))))))) (.aZ [.op (some 43) none (.bin .add (.t 23) (.c (.int .i64 (Int.ofNat 1)))),.op (some 23) none (.mv (.t 43))]))))))) (.aZ [.op (some 44) none (.load false 1 (.t 8)),.op none none (.store 1 (.t 5) (.t 44))])))) 48),(12,.arr .str false),(21,nF),(22,nF)] [.slot 8,.cell 7 0,.cell 20 0] [])]
noncomputable def qn:D prog 14 none 26:=dO [.m vB] (kd prog f132) 0
theorem zU:cn prog f132=some ⟨14,2,(qn).er,[],[]⟩:=by kernel_rfl
noncomputable def gH67_v1_0b_2:Nat×Int×Int×Int×List ByteArray×cO×cT×bg×bg×List ByteArray×(List (Int×Unit))×(List (Int×Unit))×Unit->bG ((Nat×Int×Int×List ByteArray×cO×cT×bg×bg×List ByteArray×(List (Int×Unit))×(List (Int×Unit))×Unit)):=fun (yN,v22,v23,Fg,NB,m1,m2,m3,m4,NC,m23,m24,_) =>
 .bd (.mq gH67_v1_0b_2i_0 m23 (yN,v22,v23,m23,m1,m2,m3,m4,Fg,NB,NC,m24,())) fun z8 =>
 .ret ((yN,v22,v23,z8.2.2.2.2.2.2.2.2.2.1,z8.2.2.2.2.1,z8.2.2.2.2.2.1,z8.2.2.2.2.2.2.1,z8.2.2.2.2.2.2.2.1,z8.2.2.2.2.2.2.2.2.2.2.1,z8.2.2.2.1,z8.2.2.2.2.2.2.2.2.2.2.2.1,()))
noncomputable def CF:gE prog 48 (some 11) 20:=rY mixed kV lI [0,1,2,3,4,5,6,7,8,9,10,11,12,13,14,15,16,17,18,19] rfl CD CE ( .t 36) [37] rfl (ql).er (qm).er 132 func132 (zU) (enters_of func132 rfl rfl) 26 rfl (qn) rfl (fun x=>ai (gH67_v1_0b_2 x)) (fun x=>by kernel_rfl)
abbrev CG:au:=au.mk [(2,.c (.ptr 5 0)),(3,.c (.ptr 6 0)),(5,.c (.ptr 7 0)),(8,.c (.ptr 20 0)),(21,.c (.bI 19 .str)),(22,hI),(23,hI)] [(5,.cells [.ptr 0 0] false),(6,.cells [.fn0 78] false),(7,.cells [.mp 21] false),(20,.cells [.mp 22] false),(19,.arr .str false),(0,.cells [.mp 1,.mp 2,.mp 3,.mp 4] false),(1,eo),(2,eZ),(3,bP),(4,bP),(8,.cells [.ptr 0 0] false),(10,.iF),(11,.loop .busy none 10 [(2,.c (.ptr 5 0)),(3,.c (.ptr 6 0)),(4,.c .bZ),(5,.c (.ptr 7 0)),(17,.fn 106 [] [.ptr 8 0])] [18,19] (.aZ [.op (some 7) none (.mv (.t 19))]) (.block 1 (.seq (.aZ [.op (some 20) none (.ex (gJ.jf tI false .unit true) []),.op (some 8) none (.alloc [.cR]),.op none none (.store 1 (.t 8) (.t 20))]) (.seq (.seq (.aZ [.op (some 21) none (.mv (.t 7)),.op (some 22) none (.len (.t 21)),.op (some 23) none (.mv (.c (.int .i64 (Int.ofNat 0))))]) (.block 2 (.loop (.seq (.aZ [.op (some 24) none (.bin .lss (.t 23) (.t 22))]) (.seq (.cond (.t 24) .skip (.exit 2)) (.seq (.block 3 (.seq (.aZ [.op (some 25) none (.idx 1 (.t 21) (.t 23)),.op (some 26) none (.load false 1 (.t 25)),.op (some 10) none (.mv (.t 26))]) (.seq (.draw [[],[],[1],[1,2],[1,2,3],[],[1,2,3,4,5],[0,1,2,3,4,5,6],[],[0,1,2,3,4,5,6,7,8]] [.op (some 27) none (.load false 1 (.t 3)),.op (some 28) none (.load false 1 (.t 2)),.op (some 29) none (.ex gJ.je [.t 28]),.op (some 30) none (.mT 0 [false] (.t 29)),.op (some 31) none (.load false 1 (.t 30)),.op (some 32) none (.mv (.t 10)),.op (some 33) none (.ex (gJ.gz .str false tG true false) [.t 31,.t 32]),.call (some 34) none (.t 27) [.t 33] [some tG],.op (some 11) none (.alloc [.int .i64 (Int.ofNat 0)]),.op none none (.store 1 (.t 11) (.t 34))]) (.seq (.aZ [.op (some 35) none (.load false 1 (.t 5)),.call (some 36) none (.c (.fn 101 [] [])) [.t 35] [none]]) (.block 4 (.bM (.t 36) [37] (.aZ [.op (some 12) none (.mv (.t 37))]) (.block 5 (.aZ [.op (some 38) none (.load false 1 (.t 8)),.op (some 39) none (.mv (.t 12)),.op (some 40) none (.load false 1 (.t 11)),.op (some 41) none (.bin .add (.t 39) (.t 40)),.call (some 42) none (.c (.fn 100 [] [])) [.t 38,.t 41] [none,some tI]])))))))) (.aZ [.op (some 43) none (.bin .add (.t 23) (.c (.int .i64 (Int.ofNat 1)))),.op (some 23) none (.mv (.t 43))]))))))) (.aZ [.op (some 44) none (.load false 1 (.t 8)),.op none none (.store 1 (.t 5) (.t 44))])))) 48),(12,.arr .str false),(21,nF),(22,nF)] [.slot 8,.cell 7 0,.cell 20 0] []
abbrev CH:aU:=[(.exit 2,au.mk [(5,.c (.ptr 7 0)),(8,.c (.ptr 20 0))] [(7,.cells [.mp 21] false),(20,.cells [.mp 22] false),(0,.cells [.mp 1,.mp 2,.mp 3,.mp 4] false),(1,eo),(2,eZ),(3,bP),(4,bP),(5,.cells [.ptr 0 0] false),(6,.cells [.fn0 78] false),(8,.cells [.ptr 0 0] false),(10,.iF),(11,.loop .busy none 10 [(2,.c (.ptr 5 0)),(3,.c (.ptr 6 0)),(4,.c .bZ),(5,.c (.ptr 7 0)),(17,.fn 106 [] [.ptr 8 0])] [18,19] (.aZ [.op (some 7) none (.mv (.t 19))]) (.block 1 (.seq (.aZ [.op (some 20) none (.ex (gJ.jf tI false .unit true) []),.op (some 8) none (.alloc [.cR]),.op none none (.store 1 (.t 8) (.t 20))]) (.seq (.seq (.aZ [.op (some 21) none (.mv (.t 7)),.op (some 22) none (.len (.t 21)),.op (some 23) none (.mv (.c (.int .i64 (Int.ofNat 0))))]) (.block 2 (.loop (.seq (.aZ [.op (some 24) none (.bin .lss (.t 23) (.t 22))]) (.seq (.cond (.t 24) .skip (.exit 2)) (.seq (.block 3 (.seq (.aZ [.op (some 25) none (.idx 1 (.t 21) (.t 23)),.op (some 26) none (.load false 1 (.t 25)),.op (some 10) none (.mv (.t 26))]) (.seq (.draw [[],[],[1],[1,2],[1,2,3],[],[1,2,3,4,5],[0,1,2,3,4,5,6],[],[0,1,2,3,4,5,6,7,8]] [.op (some 27) none (.load false 1 (.t 3)),.op (some 28) none (.load false 1 (.t 2)),.op (some 29) none (.ex gJ.je [.t 28]),.op (some 30) none (.mT 0 [false] (.t 29)),.op (some 31) none (.load false 1 (.t 30)),.op (some 32) none (.mv (.t 10)),.op (some 33) none (.ex (gJ.gz .str false tG true false) [.t 31,.t 32]),.call (some 34) none (.t 27) [.t 33] [some tG],.op (some 11) none (.alloc [.int .i64 (Int.ofNat 0)]),.op none none (.store 1 (.t 11) (.t 34))]) (.seq (.aZ [.op (some 35) none (.load false 1 (.t 5)),.call (some 36) none (.c (.fn 101 [] [])) [.t 35] [none]]) (.block 4 (.bM (.t 36) [37] (.aZ [.op (some 12) none (.mv (.t 37))]) (.block 5 (.aZ [.op (some 38) none (.load false 1 (.t 8)),.op (some 39) none (.mv (.t 12)),.op (some 40) none (.load false 1 (.t 11)),.op (some 41) none (.bin .add (.t 39) (.t 40)),.call (some 42) none (.c (.fn 100 [] [])) [.t 38,.t 41] [none,some tI]])))))))) (.aZ [.op (some 43) none (.bin .add (.t 23) (.c (.int .i64 (Int.ofNat 1)))),.op (some 23) none (.mv (.t 43))]))))))) (.aZ [.op (some 44) none (.load false 1 (.t 8)),.op none none (.store 1 (.t 5) (.t 44))])))) 48),(12,.arr .str false),(19,.arr .str false),(21,nF),(22,nF)] [.slot 8,.cell 7 0,.cell 20 0] [])]
noncomputable def CI:D prog 48 (some 11) 20:=dO [.r CF] (pick (kd prog f67) [(0,true),(0,false)]) 0
noncomputable def gH67_v1_0b_1:Nat×Int×Int×List ByteArray×cO×cT×bg×bg×List ByteArray×(List (Int×Unit))×(List (Int×Unit))×Unit->bG ((Nat×Int×Int×List ByteArray×cO×cT×bg×bg×List ByteArray×(List (Int×Unit))×(List (Int×Unit))×Unit) ⊕ ((cO×cT×bg×bg×List ByteArray×List ByteArray×(List (Int×Unit))×(List (Int×Unit))×Unit))):=fun (yN,v22,v23,NB,m1,m2,m3,m4,NC,m21,m22,_) =>
 .br (decide (v23<v22)) (
 .nb v23 ((yN:Nat):Int) <|
 .nd (decide (((0:Nat)+(Int.toNat v23))<(NB).length)) <|
 .bd (F78 ((aA .str ((bs []),(0:Int),(bs []),(bs []),(0:Int)) m1 ((NB).getD ((0:Nat)+(Int.toNat v23)) (bs []))).1,(aA .str ((bs []),(0:Int),(bs []),(bs []),(0:Int)) m1 ((NB).getD ((0:Nat)+(Int.toNat v23)) (bs []))).2.1,(aA .str ((bs []),(0:Int),(bs []),(bs []),(0:Int)) m1 ((NB).getD ((0:Nat)+(Int.toNat v23)) (bs []))).2.2.1,(aA .str ((bs []),(0:Int),(bs []),(bs []),(0:Int)) m1 ((NB).getD ((0:Nat)+(Int.toNat v23)) (bs []))).2.2.2.1,(aA .str ((bs []),(0:Int),(bs []),(bs []),(0:Int)) m1 ((NB).getD ((0:Nat)+(Int.toNat v23)) (bs []))).2.2.2.2)) fun y5 =>
 .bd (FH101 m21) fun y6 =>
 .bd (gH67_v1_0b_2 (yN,v22,v23,y5.1,NB,m1,m2,m3,m4,NC,y6.1,m22,())) fun z9 =>
 .ni (z9.2.2.1+(1:Int)) <|
 .ret (.inl (z9.1,z9.2.1,(z9.2.2.1+(1:Int)),z9.2.2.2.1,z9.2.2.2.2.1,z9.2.2.2.2.2.1,z9.2.2.2.2.2.2.1,z9.2.2.2.2.2.2.2.1,z9.2.2.2.2.2.2.2.2.1,z9.2.2.2.2.2.2.2.2.2.1,z9.2.2.2.2.2.2.2.2.2.2.1,()))) (
 .ret (.inr (m1,m2,m3,m4,NC,NB,m21,m22,())))
noncomputable def CJ:bu prog 48 (some 11) 20:=aV mixed mJ gT [0,1,2,3,4,5,6,7,8,9,10,11,12,13,14,15,16,17,18,19] rfl CG CH rfl (CI) (fun x=>ai (gH67_v1_0b_1 x)) (fun x=>by kernel_rfl)
noncomputable def yP:D prog 48 (some 11) 20:=dO [] (pick (kd prog f67) [(0,false)]) 0
noncomputable def yQ:D prog 48 (some 11) 20:=dO [.l CJ] (pick (kd prog f67) [(0,true)]) 0
noncomputable def oO:Cx:=zS mJ (fun kz=>Pr kz mJ dZ 11 20 [18,19] (yP) (yQ))
theorem oP:(oO).Ok prog:=jT gT (fun h=>nB mixed gT h)
abbrev CK:au:=au.mk [(0,.c (.yl 11)),(1,.c (.ptr 8 0)),(10,.c (.bI 12 .str)),(11,hI),(12,hI)] [(11,.loop .ready none 10 [(2,.c (.ptr 5 0)),(3,.c (.ptr 6 0)),(4,.c .bZ),(5,.c (.ptr 7 0)),(17,.fn 106 [] [.ptr 8 0])] [18,19] (.aZ [.op (some 7) none (.mv (.t 19))]) (.block 1 (.seq (.aZ [.op (some 20) none (.ex (gJ.jf tI false .unit true) []),.op (some 8) none (.alloc [.cR]),.op none none (.store 1 (.t 8) (.t 20))]) (.seq (.seq (.aZ [.op (some 21) none (.mv (.t 7)),.op (some 22) none (.len (.t 21)),.op (some 23) none (.mv (.c (.int .i64 (Int.ofNat 0))))]) (.block 2 (.loop (.seq (.aZ [.op (some 24) none (.bin .lss (.t 23) (.t 22))]) (.seq (.cond (.t 24) .skip (.exit 2)) (.seq (.block 3 (.seq (.aZ [.op (some 25) none (.idx 1 (.t 21) (.t 23)),.op (some 26) none (.load false 1 (.t 25)),.op (some 10) none (.mv (.t 26))]) (.seq (.draw [[],[],[1],[1,2],[1,2,3],[],[1,2,3,4,5],[0,1,2,3,4,5,6],[],[0,1,2,3,4,5,6,7,8]] [.op (some 27) none (.load false 1 (.t 3)),.op (some 28) none (.load false 1 (.t 2)),.op (some 29) none (.ex gJ.je [.t 28]),.op (some 30) none (.mT 0 [false] (.t 29)),.op (some 31) none (.load false 1 (.t 30)),.op (some 32) none (.mv (.t 10)),.op (some 33) none (.ex (gJ.gz .str false tG true false) [.t 31,.t 32]),.call (some 34) none (.t 27) [.t 33] [some tG],.op (some 11) none (.alloc [.int .i64 (Int.ofNat 0)]),.op none none (.store 1 (.t 11) (.t 34))]) (.seq (.aZ [.op (some 35) none (.load false 1 (.t 5)),.call (some 36) none (.c (.fn 101 [] [])) [.t 35] [none]]) (.block 4 (.bM (.t 36) [37] (.aZ [.op (some 12) none (.mv (.t 37))]) (.block 5 (.aZ [.op (some 38) none (.load false 1 (.t 8)),.op (some 39) none (.mv (.t 12)),.op (some 40) none (.load false 1 (.t 11)),.op (some 41) none (.bin .add (.t 39) (.t 40)),.call (some 42) none (.c (.fn 100 [] [])) [.t 38,.t 41] [none,some tI]])))))))) (.aZ [.op (some 43) none (.bin .add (.t 23) (.c (.int .i64 (Int.ofNat 1)))),.op (some 23) none (.mv (.t 43))]))))))) (.aZ [.op (some 44) none (.load false 1 (.t 8)),.op none none (.store 1 (.t 5) (.t 44))])))) 48),(8,.cells [.ptr 0 0] false),(12,.arr .str false),(10,.iF),(5,.cells [.ptr 0 0] false),(0,.cells [.mp 1,.mp 2,.mp 3,.mp 4] false),(1,eo),(2,eZ),(3,bP),(4,bP),(6,.cells [.fn0 78] false),(7,.cells [.mp 13] false),(13,nF)] [.slot 10,.cell 7 0] []
abbrev CL:aU:=[(.exit 0,au.mk [] [(0,.cells [.mp 1,.mp 2,.mp 3,.mp 4] false),(1,eo),(2,eZ),(3,bP),(4,bP),(5,.cells [.ptr 0 0] false),(6,.cells [.fn0 78] false),(7,.cells [.mp 12] false),(8,.cells [.ptr 0 0] false),(10,.iF),(11,.loop .ready none 10 [(2,.c (.ptr 5 0)),(3,.c (.ptr 6 0)),(4,.c .bZ),(5,.c (.ptr 7 0)),(17,.fn 106 [] [.ptr 8 0])] [18,19] (.aZ [.op (some 7) none (.mv (.t 19))]) (.block 1 (.seq (.aZ [.op (some 20) none (.ex (gJ.jf tI false .unit true) []),.op (some 8) none (.alloc [.cR]),.op none none (.store 1 (.t 8) (.t 20))]) (.seq (.seq (.aZ [.op (some 21) none (.mv (.t 7)),.op (some 22) none (.len (.t 21)),.op (some 23) none (.mv (.c (.int .i64 (Int.ofNat 0))))]) (.block 2 (.loop (.seq (.aZ [.op (some 24) none (.bin .lss (.t 23) (.t 22))]) (.seq (.cond (.t 24) .skip (.exit 2)) (.seq (.block 3 (.seq (.aZ [.op (some 25) none (.idx 1 (.t 21) (.t 23)),.op (some 26) none (.load false 1 (.t 25)),.op (some 10) none (.mv (.t 26))]) (.seq (.draw [[],[],[1],[1,2],[1,2,3],[],[1,2,3,4,5],[0,1,2,3,4,5,6],[],[0,1,2,3,4,5,6,7,8]] [.op (some 27) none (.load false 1 (.t 3)),.op (some 28) none (.load false 1 (.t 2)),.op (some 29) none (.ex gJ.je [.t 28]),.op (some 30) none (.mT 0 [false] (.t 29)),.op (some 31) none (.load false 1 (.t 30)),.op (some 32) none (.mv (.t 10)),.op (some 33) none (.ex (gJ.gz .str false tG true false) [.t 31,.t 32]),.call (some 34) none (.t 27) [.t 33] [some tG],.op (some 11) none (.alloc [.int .i64 (Int.ofNat 0)]),.op none none (.store 1 (.t 11) (.t 34))]) (.seq (.aZ [.op (some 35) none (.load false 1 (.t 5)),.call (some 36) none (.c (.fn 101 [] [])) [.t 35] [none]]) (.block 4 (.bM (.t 36) [37] (.aZ [.op (some 12) none (.mv (.t 37))]) (.block 5 (.aZ [.op (some 38) none (.load false 1 (.t 8)),.op (some 39) none (.mv (.t 12)),.op (some 40) none (.load false 1 (.t 11)),.op (some 41) none (.bin .add (.t 39) (.t 40)),.call (some 42) none (.c (.fn 100 [] [])) [.t 38,.t 41] [none,some tI]])))))))) (.aZ [.op (some 43) none (.bin .add (.t 23) (.c (.int .i64 (Int.ofNat 1)))),.op (some 23) none (.mv (.t 43))]))))))) (.aZ [.op (some 44) none (.load false 1 (.t 8)),.op none none (.store 1 (.t 5) (.t 44))])))) 48),(12,nF)] [.cell 7 0] [])]
noncomputable def CM:D prog 34 none 12:=dO [] (pick (kd prog f106) [(0,false)]) 0
noncomputable def gH67_v1_0i_0:Nat×Int×Int×List ByteArray×cO×cT×bg×bg×(List (Int×Unit))×Unit->bG ((Nat×Int×Int×List ByteArray×cO×cT×bg×bg×(List (Int×Unit))×Unit) ⊕ ((cO×cT×bg×bg×(List (Int×Unit))×Unit))):=fun (mI,v11,v12,NC,m1,m2,m3,m4,m13,_) =>
 .br (decide (v12<v11)) (
 .nb v12 ((mI:Nat):Int) <|
 .nd (decide (((0:Nat)+(Int.toNat v12))<(NC).length)) <|
 .br ((aA .str ((bs []),(0:Int),(bs []),(bs []),(0:Int)) m1 ((NC).getD ((0:Nat)+(Int.toNat v12)) (bs []))).2.1==(1:Int)) (
 .bd (FH76fix ((NC).getD ((0:Nat)+(Int.toNat v12)) (bs [])) m1 m2 m3 m4) fun y4 =>
 .bd (.it gH67_v1_0b_1 (y4.1,((y4.1:Nat):Int),(0:Int),y4.2.1,y4.2.2.1,y4.2.2.2.1,y4.2.2.2.2.1,y4.2.2.2.2.2.1,NC,m13,[],())) fun Ba =>
 .ni (v12+(1:Int)) <|
 .ret (.inl (mI,v11,(v12+(1:Int)),Ba.2.2.2.2.1,Ba.1,Ba.2.1,Ba.2.2.1,Ba.2.2.2.1,Ba.2.2.2.2.2.2.2.1,()))) (
 .ni (v12+(1:Int)) <|
 .ret (.inl (mI,v11,(v12+(1:Int)),NC,m1,m2,m3,m4,m13,())))) (
 .ret (.inr (m1,m2,m3,m4,m13,())))
noncomputable def CN:bu prog 34 none 12:=aV mixed oO oP [0,1,2,3,4,5,6,7,8,9,10,11] rfl CK CL rfl (CM) (fun x=>ai (gH67_v1_0i_0 x)) (fun x=>by kernel_rfl)
abbrev Mr:au:=au.mk [(2,.c (.ptr 5 0)),(3,.c (.ptr 6 0)),(4,.c .bZ),(5,.c (.ptr 7 0)),(17,.fn 106 [] [.ptr 8 0])] [(5,.cells [.ptr 0 0] false),(6,.cells [.fn0 78] false),(7,.cells [.mp 9] false),(8,.cells [.ptr 0 0] false),(0,.cells [.mp 1,.mp 2,.mp 3,.mp 4] false),(1,eo),(2,eZ),(3,bP),(4,bP),(9,nF)] [.slot 2,.slot 3,.slot 5,.part 17 0,.cell 7 0] []
abbrev Ms:aU:=[(.normal,au.mk [(5,.c (.ptr 5 0))] [(5,.cells [.mp 6] false),(0,.cells [.mp 1,.mp 2,.mp 3,.mp 4] false),(1,eo),(2,eZ),(3,bP),(4,bP),(6,nF)] [.slot 5,.cell 5 0] [])]
noncomputable def yR:D prog 34 none 12:=dO [.l CN] (kd prog f106) 0
theorem HR:cn prog f106=some ⟨34,2,(yR).er,[],[]⟩:=by kernel_rfl
noncomputable def gH67_v1_0:cO×cT×bg×bg×(List (Int×Unit))×Unit->bG ((cO×cT×bg×bg×(List (Int×Unit))×Unit)):=fun (m1,m2,m3,m4,m9,_) =>
 .bd (FH95 m1) fun y2 =>
 .bd (FH81 y2.1) fun y3 =>
 .bd (.it gH67_v1_0i_0 (y3.1,((y3.1:Nat):Int),(0:Int),y3.2.1,y3.2.2.1,m2,m3,m4,m9,())) fun Bb =>
 .ret ((Bb.1,Bb.2.1,Bb.2.2.1,Bb.2.2.2.1,Bb.2.2.2.2.1,()))
noncomputable def Mt:gE prog 48 none 5:=rY mixed oO oP [0,1,2,3,4] rfl Mr Ms ( .t 17) [18,19] rfl (yP).er (yQ).er 106 func106 (HR) (enters_of func106 rfl rfl) 12 rfl (yR) rfl (fun x=>ai (gH67_v1_0 x)) (fun x=>by kernel_rfl)
noncomputable def Fh:D prog 48 none 5:=dO [.r Mt] (kd prog f67) 0
noncomputable def FH67_v1 (m1:cO) (m2:cT) (m3:bg) (m4:bg):bG (Nat×List Int×cO×cT×bg×bg×Unit) :=
 .bd (FH100 (0:Int) []) fun y0 =>
 .bd (FH79 m1 m2 m3 m4) fun y1 =>
 .bd (gH67_v1_0 (y1.1,y1.2.1,y1.2.2.1,y1.2.2.2.1,y0.1,())) fun z12 =>
 .bd (FH101 z12.2.2.2.2.1) fun Bc =>
 .bd (FH102 Bc.1) fun Rh =>
 .ret (Rh.1,Rh.2.1,z12.1,z12.2.1,z12.2.2.1,z12.2.2.2.1,())
theorem HS:cn prog f67=some ⟨48,2,Fh.er,[.t 4],[some tL]⟩:=by kernel_rfl
noncomputable def JZ:Ht:=⟨67,VK,VL,(fun x=>ai (FH67_v1 x.1 x.2.1 x.2.2.1 x.2.2.2.1))⟩
theorem HT:JZ.Ok prog:=bA mixed gT rfl func67 HS (enters_of func67 rfl rfl) Fh (by kernel_rfl) rfl rfl ⟨_,rfl⟩ rfl (pre:=[0,1,2,3,4]) rfl (fun x=>by kernel_rfl)

/- 72 -/
noncomputable def cx72:Cx:=(aK [] [])
theorem VM:cx72.Ok prog:=aq trivial trivial
noncomputable def dd72:D prog 13 none 0:=dO [] (kd prog f72) 0
noncomputable def F72 (a0:List Int):bG ((Int×Int)×Unit) :=
 .nb (0:Int) (((a0).length:Nat):Int) <|
 .ni ((((a0).length:Nat):Int) - (1:Int)) <|
 .nb ((((a0).length:Nat):Int) - (1:Int)) (((a0).length:Nat):Int) <|
 .ret ((((a0).getD (Int.toNat (0:Int)) (0:Int)),((a0).getD (Int.toNat ((((a0).length:Nat):Int) - (1:Int))) (0:Int))),())
theorem abR:cn prog f72=some ⟨13,1,dd72.er,[.cell 2 true 2],[some (.prod tI tI)]⟩:=by kernel_rfl
noncomputable def abS:Ct:=⟨72,[hL],.c (.hole (.prod tI tI)),fun x=>ai (F72 x.1)⟩
theorem J1:abS.Ok prog:=cA mixed VM func72 abR (enters_of func72 rfl rfl) dd72 (by kernel_rfl) rfl (fun x=>by kernel_rfl)

/- 37, lent -/
abbrev pH37:au:=au.mk [(0,.c (.ptr 0 0))] [(0,.cells [.mp 1] false),(1,dy)] [.slot 0,.cell 0 0] []
abbrev qH37:au:=au.mk [(0,.cQ [.hole (.prod tI tI),.hole tI])] [(0,.cells [.mp 1] false),(1,dy)] [] []
noncomputable def agc:Cx:=(aK [abS] [yB,EP,JZ])
theorem Rj:agc.Ok prog:=aq ⟨J1,trivial⟩ ⟨⟨lH,rfl⟩,⟨sB,rfl⟩,⟨HT,rfl⟩,trivial⟩
noncomputable def YJ:D prog 11 none 2:=dO [] (kd prog f37) 0
noncomputable def FH37 (m1:cB):bG ((Int×Int)×Int×cB×Unit) :=
 .bd (FH54 m1) fun y0 =>
 .br y0.1 (
 .ret (((0:Int),(0:Int)),(9:Int),y0.2.1,())) (
 .bd (FH66 y0.2.1) fun y1 =>
 .bd (FH67_v1 y1.2.1 y1.2.2.1 y1.2.2.2.1 y1.2.2.2.2.1) fun y2 =>
 .bd (F72 (((y2.2.1).drop (0:Nat)).take y2.1)) fun y3 =>
 .ret ((y3.1.1,y3.1.2),(0:Int),y1.1,()))
theorem VN:cn prog f37=some ⟨11,1,YJ.er,[.cell 2 true 2,.t 3],[some (.prod tI tI),some tI]⟩:=by kernel_rfl
noncomputable def abT:Ht:=⟨37,pH37,qH37,(fun x=>ai (FH37 x.1))⟩
theorem J2:abT.Ok prog:=bA mixed Rj rfl func37 VN (enters_of func37 rfl rfl) YJ (by kernel_rfl) rfl rfl ⟨_,rfl⟩ rfl (pre:=[0,1]) rfl (fun x=>by kernel_rfl)

/- 25, lent -/
abbrev pH25:au:=au.mk [(0,.c (.ptr 0 0)),(1,.c (.hole .str))] [(0,.cells [.mp 1] false),(1,dy)] [.slot 0,.cell 0 0] []
abbrev qH25:au:=au.mk [(0,.cQ [.hole (.prod tI tI),.hole tI])] [(0,.cells [.mp 1] false),(1,dy)] [] []
noncomputable def agd:Cx:=(aK [abS] [abP])
theorem Rk:agd.Ok prog:=aq ⟨J1,trivial⟩ ⟨⟨JY,rfl⟩,trivial⟩
noncomputable def YK:D prog 20 none 2:=dO [] (kd prog f25) 0
noncomputable def FH25 (v1:ByteArray) (m1:cB):bG ((Int×Int)×Int×cB×Unit) :=
 .bd (FH23 v1 m1) fun y0 =>
 .br (!(y0.2.1==(0:Int))) (
 .ret (((0:Int),(0:Int)),y0.2.1,y0.2.2.2.1,())) (
 .bd (F72 (((y0.2.2.1).drop (0:Nat)).take y0.1)) fun y1 =>
 .ret ((y1.1.1,y1.1.2),(0:Int),y0.2.2.2.1,()))
theorem VO:cn prog f25=some ⟨20,2,YK.er,[.cell 4 true 2,.t 5],[some (.prod tI tI),some tI]⟩:=by kernel_rfl
noncomputable def ht25:Ht:=⟨25,pH25,qH25,(fun x=>ai (FH25 x.1 x.2.1))⟩
theorem VP:ht25.Ok prog:=bA mixed Rk rfl func25 VO (enters_of func25 rfl rfl) YK (by kernel_rfl) rfl rfl ⟨_,rfl⟩ rfl (pre:=[0,1]) rfl (fun x=>by kernel_rfl)

/- 36 -/
noncomputable def cx36:Cx:=(aK [] [])
theorem J3:cx36.Ok prog:=aq trivial trivial
abbrev agh:au:=au.mk [(0,.c (.hole (.list .str))),(1,.c (.hole (.list .str))),(5,hI)] [] [] []
abbrev agi:aU:=[(.ret,au.mk [(4,.c (.tf false))] [] [] []),(.exit 0,au.mk [] [] [] [])]
noncomputable def agj:D prog 26 none 0:=dO [] (pick (kd prog f36) [(0,false)]) 0
noncomputable def g36_0:List ByteArray×List ByteArray×Int×Unit->bG ((List ByteArray×List ByteArray×Int×Unit) ⊕ ((Unit) ⊕ ((Unit)))):=fun (v0,v1,v5,_) =>
 .br (decide (v5<(((v0).length:Nat):Int))) (
 .nb v5 (((v0).length:Nat):Int) <|
 .nb v5 (((v1).length:Nat):Int) <|
 .br (!(seq ((v0).getD (Int.toNat v5) (bs [])) ((v1).getD (Int.toNat v5) (bs [])))) (
 .ret (.inr <| .inl<|())) (
 .ni (v5+(1:Int)) <|
 .ret (.inl (v0,v1,(v5+(1:Int)),())))) (
 .ret (.inr <| .inr<|()))
noncomputable def agk:bu prog 26 none 0:=aV mixed cx36 J3 [] rfl agh agi rfl (agj) (fun x=>ai (g36_0 x)) (fun x=>by kernel_rfl)
noncomputable def dd36:D prog 26 none 0:=dO [.l agk] (kd prog f36) 0
noncomputable def F36 (a0:List ByteArray) (a1:List ByteArray):bG (Bool×Unit) :=
 .br (!((((a0).length:Nat):Int)==(((a1).length:Nat):Int))) (
 .ret (false,())) (
 .bd (.it g36_0 (a0,a1,(0:Int),())) fun z0 =>
 .sm z0 (fun z1 =>
 .ret (false,())) fun z2 =>
 .ret (true,()))
theorem abU:cn prog f36=some ⟨26,2,dd36.er,[.t 4],[some .bool]⟩:=by kernel_rfl
noncomputable def abV:Ct:=⟨36,[.c (.hole (.list .str)),.c (.hole (.list .str))],.c (.hole .bool),fun x=>ai (F36 x.1 x.2.1)⟩
theorem J4:abV.Ok prog:=cA mixed J3 func36 abU (enters_of func36 rfl rfl) dd36 (by kernel_rfl) rfl (fun x=>by kernel_rfl)

/- 27 -/
noncomputable def cx27:Cx:=(aK [] [])
theorem J5:cx27.Ok prog:=aq trivial trivial
abbrev agn:au:=au.mk [(0,hL),(1,hL),(5,hI)] [] [] []
abbrev ago:aU:=[(.ret,au.mk [(4,.c (.tf false))] [] [] []),(.exit 0,au.mk [] [] [] [])]
noncomputable def agp:D prog 26 none 0:=dO [] (pick (kd prog f27) [(0,false)]) 0
noncomputable def g27_0:List Int×List Int×Int×Unit->bG ((List Int×List Int×Int×Unit) ⊕ ((Unit) ⊕ ((Unit)))):=fun (v0,v1,v5,_) =>
 .br (decide (v5<(((v0).length:Nat):Int))) (
 .nb v5 (((v0).length:Nat):Int) <|
 .nb v5 (((v1).length:Nat):Int) <|
 .br (!(((v0).getD (Int.toNat v5) (0:Int))==((v1).getD (Int.toNat v5) (0:Int)))) (
 .ret (.inr <| .inl<|())) (
 .ni (v5+(1:Int)) <|
 .ret (.inl (v0,v1,(v5+(1:Int)),())))) (
 .ret (.inr <| .inr<|()))
noncomputable def agq:bu prog 26 none 0:=aV mixed cx27 J5 [] rfl agn ago rfl (agp) (fun x=>ai (g27_0 x)) (fun x=>by kernel_rfl)
noncomputable def dd27:D prog 26 none 0:=dO [.l agq] (kd prog f27) 0
noncomputable def F27 (a0:List Int) (a1:List Int):bG (Bool×Unit) :=
 .br (!((((a0).length:Nat):Int)==(((a1).length:Nat):Int))) (
 .ret (false,())) (
 .bd (.it g27_0 (a0,a1,(0:Int),())) fun z0 =>
 .sm z0 (fun z1 =>
 .ret (false,())) fun z2 =>
 .ret (true,()))
theorem abW:cn prog f27=some ⟨26,2,dd27.er,[.t 4],[some .bool]⟩:=by kernel_rfl
noncomputable def ct27:Ct:=⟨27,[hL,hL],.c (.hole .bool),fun x=>ai (F27 x.1 x.2.1)⟩
theorem VQ:ct27.Ok prog:=cA mixed J5 func27 abW (enters_of func27 rfl rfl) dd27 (by kernel_rfl) rfl (fun x=>by kernel_rfl)

/- 80, lent -/
abbrev pH80:au:=au.mk [(0,.c (.mp 0)),(1,.c (.hole .str))] [(0,.map .str false .unit true)] [.slot 0] []
abbrev qH80:au:=au.mk [(0,.c .any)] [(0,.map .str false .unit true)] [] []
noncomputable def agt:Cx:=(aK [] [])
theorem Rl:agt.Ok prog:=aq trivial trivial
noncomputable def YL:D prog 7 none 1:=dO [] (kd prog f80) 0
noncomputable def FH80 (v1:ByteArray) (m0:List (ByteArray×Unit)):bG ((List (ByteArray×Unit))×Unit) :=
 .ret ((bn .str m0 v1 ()),())
theorem VR:cn prog f80=some ⟨7,2,YL.er,[],[]⟩:=by kernel_rfl
noncomputable def ht80:Ht:=⟨80,pH80,qH80,(fun x=>ai (FH80 x.1 x.2.1))⟩
theorem VS:ht80.Ok prog:=bA mixed Rl rfl func80 VR (enters_of func80 rfl rfl) YL (by kernel_rfl) rfl rfl ⟨_,rfl⟩ rfl (pre:=[0]) rfl (fun x=>by kernel_rfl)

/- 108, lent -/
abbrev agv:au:=au.mk [(0,.c (.mp 0))] [(0,.map .str false .unit true)] [.slot 0] []
abbrev agw:au:=au.mk [(0,.fn 127 [] [.ptr 1 0])] [(1,.cells [.mp 0] false),(0,.map .str false .unit true)] [.part 0 0] []
noncomputable def abX:Cx:=(aK [] [])
theorem Mv:abX.Ok prog:=aq trivial trivial
noncomputable def Rm:D prog 4 none 1:=dO [] (kd prog f108) 0
noncomputable def FH108 (m0:List (ByteArray×Unit)):bG ((List (ByteArray×Unit))×Unit) :=
 .ret (m0,())
theorem Rn:cn prog f108=some ⟨4,1,Rm.er,[.t 2],[none]⟩:=by kernel_rfl
noncomputable def YM:Ht:=⟨108,agv,agw,(fun x=>ai (FH108 x.1))⟩
theorem Ro:YM.Ok prog:=bA mixed Mv rfl func108 Rn (enters_of func108 rfl rfl) Rm (by kernel_rfl) rfl rfl ⟨_,rfl⟩ rfl (pre:=[0]) rfl (fun x=>by kernel_rfl)

/- 82, lent -/
abbrev pH82:au:=au.mk [(0,.c (.mp 0))] [(0,.map .str false .unit true)] [.slot 0] []
abbrev qH82:au:=au.mk [(0,.fn 127 [] [.ptr 1 0])] [(1,.cells [.mp 0] false),(0,.map .str false .unit true)] [.part 0 0] []
noncomputable def agx:Cx:=(aK [] [YM])
theorem Rp:agx.Ok prog:=aq trivial ⟨⟨Ro,rfl⟩,trivial⟩
noncomputable def YN:D prog 5 none 1:=dO [] (kd prog f82) 0
noncomputable def FH82 (m0:List (ByteArray×Unit)):bG ((List (ByteArray×Unit))×Unit) :=
 .bd (FH108 m0) fun y0 =>
 .ret (y0.1,())
theorem VT:cn prog f82=some ⟨5,1,YN.er,[.t 2],[none]⟩:=by kernel_rfl
noncomputable def ht82:Ht:=⟨82,pH82,qH82,(fun x=>ai (FH82 x.1))⟩
theorem VU:ht82.Ok prog:=bA mixed Rp rfl func82 VT (enters_of func82 rfl rfl) YN (by kernel_rfl) rfl rfl ⟨_,rfl⟩ rfl (pre:=[0]) rfl (fun x=>by kernel_rfl)

/- 81, lent -/
abbrev VV:au:=au.mk [(0,.fn 127 [] [.ptr 0 0])] [(0,.cells [.mp 1] false),(1,.map .str false .unit true)] [.part 0 0,.cell 0 0] []
abbrev VW:au:=au.mk [(0,.c (.bI 2 .str))] [(2,.arr .str false),(0,.cells [.mp 1] false),(1,.map .str false .unit true)] [.slot 0] []
noncomputable def nH:Cx:=(aK [] [A4])
theorem lY:nH.Ok prog:=aq (vS:=[]) (hts:=[A4]) trivial ⟨⟨yF,rfl⟩,trivial⟩
noncomputable def kW:D prog 13 (some 4) 7:=dO [] (pick (kd prog f126) [(0,false)]) 0
noncomputable def kX:D prog 13 (some 4) 7:=dO [] (pick (kd prog f126) [(0,true)]) 0
noncomputable def gb:Cx:=zS nH (fun kz=>Pr kz nH dZ 4 7 [7] (kW) (kX))
theorem iu:(gb).Ok prog:=jT lY (fun h=>nB mixed lY h)
abbrev oQ:au:=au.mk [(0,.c (.yl 4)),(4,.c (.mp 1))] [(4,.loop .ready none 3 [(2,.c (.ptr 2 0)),(4,.c .bZ),(6,.fn 127 [] [.ptr 0 0])] [7] (.aZ [.op (some 5) none (.mv (.t 7))]) (.block 1 (.aZ [.op (some 8) none (.load false 1 (.t 2)),.op (some 9) none (.mv (.t 5)),.op (some 10) none (.ew .str [.t 9]),.op (some 11) none (.append 1 (.t 8) (.t 10)),.op none none (.store 1 (.t 2) (.t 11))])) 13),(1,.map .str false .unit true),(3,.iF),(2,.cells [.bI 5 .str] false),(0,.cells [.mp 1] false),(5,.arr .str false)] [.cell 2 0] []
noncomputable def oR:D prog 14 none 7:=dO [] (pick (kd prog f127) [(0,false)]) 0
noncomputable def gH81_v1f107f126_0i_0:((ByteArray)×(Unit))->(List (ByteArray×Unit))×Nat×List ByteArray×Unit->bG ((List (ByteArray×Unit))×Nat×List ByteArray×Unit):=fun e (m1,kO,b5,_) =>
 .nd (decide ((kO+(((((e.1::[])).drop (0:Nat)).take (1:Nat))).length)<bp)) <|
 .nd (jK m1 m1) <|
 .ret (m1,(kO+(((((e.1::[])).drop (0:Nat)).take (1:Nat))).length),((((b5).drop (0:Nat)).take kO)++((((e.1::[])).drop (0:Nat)).take (1:Nat))),())
noncomputable def oS:rP prog 14 none 5:=vV mixed gb iu [0,1,2,3,4] rfl oQ ( [.op (some 4) none (.load false 1 (.t 1))]) 4 5 [6,7] (some 8) ( .str)  false ( .unit)  true 0 rfl 7 rfl (oR) (fun e x=>ai (gH81_v1f107f126_0i_0 e x)) (fun e=>fun x=>by kernel_rfl)
abbrev sF:au:=au.mk [(2,.c (.ptr 2 0)),(4,.c .bZ),(6,.fn 127 [] [.ptr 0 0])] [(2,.cells [.bZ] false),(0,.cells [.mp 1] false),(1,.map .str false .unit true)] [.slot 2] []
abbrev sG:aU:=[(.normal,au.mk [(2,.c (.ptr 2 0))] [(2,.cells [.bI 3 .str] false),(0,.cells [.mp 1] false),(1,.map .str false .unit true),(3,.arr .str false)] [.slot 2,.cell 2 0] [])]
noncomputable def kY:D prog 14 none 5:=dO [.m oS] (kd prog f127) 0
theorem qR:cn prog f127=some ⟨14,2,(kY).er,[],[]⟩:=by kernel_rfl
noncomputable def lJ:gE prog 13 none 2:=sg mixed gb iu [0,1] rfl sF sG ( .t 6) [7] rfl (kW).er (kX).er 127 func127 (qR) (enters_of func127 rfl rfl) 5 rfl (kY) rfl
@[reducible] noncomputable def HU:Go.AM.Fn:=⟨13,2,(dO [.r lJ] (kd prog f126) 0:D prog 13 none 2).er,[.t 4],[some (.list .str)]⟩
noncomputable def yS:Cx:=AX prog nH 126 HU 2 (dO [.r lJ] (kd prog f126) 0)
theorem zV:yS.Ok prog:=r9 mixed lY func126 (by kernel_rfl) (enters_of func126 rfl rfl) rfl
@[reducible] noncomputable def HV:Go.AM.Fn:=⟨5,1,(dO [] (kd prog f107) 0:D prog 5 none 0).er,[.t 2],[some (.list .str)]⟩
noncomputable def yT:Cx:=Et prog yS 107 HV (fun _=>dO [] (kd prog f107) 0)
theorem zW:yT.Ok prog:=pN mixed zV func107 (by kernel_rfl) (enters_of func107 rfl rfl) (fun _=>by kernel_rfl)
noncomputable def Rq:Cx:=yT
theorem Fi:Rq.Ok prog:=zW
noncomputable def Fj:D prog 9 none 2:=dO [] (kd prog f81) 0
noncomputable def FH81_v1 (m1:List (ByteArray×Unit)):bG (Nat×List ByteArray×(List (ByteArray×Unit))×Unit) :=
 .an m1 fun l0 =>
 .bd (.fm gH81_v1f107f126_0i_0 l0 (m1,(0:Nat),[],())) fun z1 =>
 .bd (FH105 z1.2.1 z1.2.2.1) fun y2 =>
 .ret (z1.2.1,y2.1,z1.1,())
theorem HW:cn prog f81=some ⟨9,1,Fj.er,[.t 2],[some (.list .str)]⟩:=by kernel_rfl
noncomputable def J6:Ht:=⟨81,VV,VW,(fun x=>ai (FH81_v1 x.1))⟩
theorem HX:J6.Ok prog:=bA mixed Fi rfl func81 HW (enters_of func81 rfl rfl) Fj (by kernel_rfl) rfl rfl ⟨_,rfl⟩ rfl (pre:=[0,1]) rfl (fun x=>by kernel_rfl)

/- 45, lent -/
abbrev pH45:au:=au.mk [(0,.c (.ptr 0 0))] [(0,.cells [.mp 1] false),(1,dy)] [.slot 0,.cell 0 0] []
abbrev qH45:au:=au.mk [(0,.c (.bI 2 .str))] [(2,.arr .str false),(0,.cells [.mp 1] false),(1,dy)] [.slot 0] []
noncomputable def J7:Cx:=(aK [] [yB,EP,VB,Ql,Qn,HJ,ht80,ht82,J6])
theorem sH:J7.Ok prog:=aq trivial ⟨⟨lH,rfl⟩,⟨sB,rfl⟩,⟨Cz,rfl⟩,⟨wj,rfl⟩,⟨wm,rfl⟩,⟨sD,rfl⟩,⟨VS,rfl⟩,⟨VU,rfl⟩,⟨HX,rfl⟩,trivial⟩
abbrev Mw:au:=au.mk [(3,.c (.ptr 2 0)),(4,.c (.ptr 3 0)),(18,.c (.bI 20 .str)),(19,hI),(20,hI)] [(2,.cells [.ptr 5 0] false),(3,.cells [.mp 21] false),(20,.arr .str false),(5,.cells [.mp 7,.mp 8,.mp 9,.mp 10] false),(7,eo),(8,eZ),(9,bP),(10,bP),(0,.cells [.mp 1] false),(1,dy),(4,.cells [.ptr 5 0] false),(11,.iF),(12,.loop .busy none 11 [(2,.c .bZ),(3,.c (.ptr 2 0)),(4,.c (.ptr 3 0)),(15,.fn 106 [] [.ptr 4 0])] [16,17] (.aZ [.op (some 6) none (.mv (.t 17))]) (.block 1 (.seq (.aZ [.op (some 18) none (.mv (.t 6)),.op (some 19) none (.len (.t 18)),.op (some 20) none (.mv (.c (.int .i64 (Int.ofNat 0))))]) (.block 2 (.loop (.seq (.aZ [.op (some 21) none (.bin .lss (.t 20) (.t 19))]) (.seq (.cond (.t 21) .skip (.exit 2)) (.seq (.block 3 (.seq (.aZ [.op (some 22) none (.idx 1 (.t 18) (.t 20)),.op (some 23) none (.load false 1 (.t 22)),.op (some 8) none (.mv (.t 23))]) (.seq (.draw [[],[],[1],[1,2],[1,2,3],[],[1,2,3,4,5],[1,2,3,4,5,6],[0,1,2,3,4,5,6,7]] [.op (some 24) none (.load false 1 (.t 4)),.op (some 25) none (.load false 1 (.t 3)),.op (some 26) none (.ex gJ.je [.t 25]),.op (some 27) none (.mT 0 [false] (.t 26)),.op (some 28) none (.load false 1 (.t 27)),.op (some 29) none (.mv (.t 8)),.op (some 30) none (.ex (gJ.gz .str false tG true false) [.t 28,.t 29]),.op (some 31) none (.field false 3 1 (.t 30))]) (.aZ [.call (some 32) none (.c (.fn 80 [] [])) [.t 24,.t 31] [none,some .str]])))) (.aZ [.op (some 33) none (.bin .add (.t 20) (.c (.int .i64 (Int.ofNat 1)))),.op (some 20) none (.mv (.t 33))])))))))) 37),(13,.arr .str false),(21,.map .str false .unit true)] [.cell 3 0] []
abbrev Mx:aU:=[(.exit 2,au.mk [] [(0,.cells [.mp 1] false),(1,dy),(2,.cells [.ptr 5 0] false),(5,.cells [.mp 7,.mp 8,.mp 9,.mp 10] false),(7,eo),(8,eZ),(9,bP),(10,bP),(3,.cells [.mp 21] false),(4,.cells [.ptr 5 0] false),(11,.iF),(12,.loop .busy none 11 [(2,.c .bZ),(3,.c (.ptr 2 0)),(4,.c (.ptr 3 0)),(15,.fn 106 [] [.ptr 4 0])] [16,17] (.aZ [.op (some 6) none (.mv (.t 17))]) (.block 1 (.seq (.aZ [.op (some 18) none (.mv (.t 6)),.op (some 19) none (.len (.t 18)),.op (some 20) none (.mv (.c (.int .i64 (Int.ofNat 0))))]) (.block 2 (.loop (.seq (.aZ [.op (some 21) none (.bin .lss (.t 20) (.t 19))]) (.seq (.cond (.t 21) .skip (.exit 2)) (.seq (.block 3 (.seq (.aZ [.op (some 22) none (.idx 1 (.t 18) (.t 20)),.op (some 23) none (.load false 1 (.t 22)),.op (some 8) none (.mv (.t 23))]) (.seq (.draw [[],[],[1],[1,2],[1,2,3],[],[1,2,3,4,5],[1,2,3,4,5,6],[0,1,2,3,4,5,6,7]] [.op (some 24) none (.load false 1 (.t 4)),.op (some 25) none (.load false 1 (.t 3)),.op (some 26) none (.ex gJ.je [.t 25]),.op (some 27) none (.mT 0 [false] (.t 26)),.op (some 28) none (.load false 1 (.t 27)),.op (some 29) none (.mv (.t 8)),.op (some 30) none (.ex (gJ.gz .str false tG true false) [.t 28,.t 29]),.op (some 31) none (.field false 3 1 (.t 30))]) (.aZ [.call (some 32) none (.c (.fn 80 [] [])) [.t 24,.t 31] [none,some .str]])))) (.aZ [.op (some 33) none (.bin .add (.t 20) (.c (.int .i64 (Int.ofNat 1)))),.op (some 20) none (.mv (.t 33))])))))))) 37),(13,.arr .str false),(20,.arr .str false),(21,.map .str false .unit true)] [.cell 3 0] [])]
noncomputable def My:D prog 37 (some 12) 21:=dO [] (pick (kd prog f45) [(0,true),(0,false)]) 0
noncomputable def gH45_0b_1:Nat×Int×Int×List ByteArray×cO×cT×bg×bg×cB×List ByteArray×(List (ByteArray×Unit))×Unit->bG ((Nat×Int×Int×List ByteArray×cO×cT×bg×bg×cB×List ByteArray×(List (ByteArray×Unit))×Unit) ⊕ ((cB×cO×cT×bg×bg×List ByteArray×List ByteArray×(List (ByteArray×Unit))×Unit))):=fun (nv18,Vl,v20,pX,m7,m8,m9,m10,m1,js,m21,_) =>
 .br (decide (v20<Vl)) (
 .nb v20 ((nv18:Nat):Int) <|
 .nd (decide (((0:Nat)+(Int.toNat v20))<(pX).length)) <|
 .bd (FH80 (aA .str ((bs []),(0:Int),(bs []),(bs []),(0:Int)) m7 ((pX).getD ((0:Nat)+(Int.toNat v20)) (bs []))).2.2.2.1 m21) fun y6 =>
 .ni (v20+(1:Int)) <|
 .ret (.inl (nv18,Vl,(v20+(1:Int)),pX,m7,m8,m9,m10,m1,js,y6.1,()))) (
 .ret (.inr (m1,m7,m8,m9,m10,js,pX,m21,())))
noncomputable def Mz:bu prog 37 (some 12) 21:=aV mixed J7 sH [0,1,2,3,4,5,6,7,8,9,10,11,12,13,14,15,16,17,18,19,20] rfl Mw Mx rfl (My) (fun x=>ai (gH45_0b_1 x)) (fun x=>by kernel_rfl)
noncomputable def J8:D prog 37 (some 12) 21:=dO [] (pick (kd prog f45) [(0,false)]) 0
noncomputable def J9:D prog 37 (some 12) 21:=dO [.l Mz] (pick (kd prog f45) [(0,true)]) 0
noncomputable def yU:Cx:=zS J7 (fun kz=>Pr kz J7 dZ 12 21 [16,17] (J8) (J9))
theorem uW:(yU).Ok prog:=jT sH (fun h=>nB mixed sH h)
abbrev MA:au:=au.mk [(0,.c (.yl 12)),(1,.c (.ptr 4 0)),(10,.c (.bI 13 .str)),(11,hI),(12,hI)] [(12,.loop .ready none 11 [(2,.c .bZ),(3,.c (.ptr 2 0)),(4,.c (.ptr 3 0)),(15,.fn 106 [] [.ptr 4 0])] [16,17] (.aZ [.op (some 6) none (.mv (.t 17))]) (.block 1 (.seq (.aZ [.op (some 18) none (.mv (.t 6)),.op (some 19) none (.len (.t 18)),.op (some 20) none (.mv (.c (.int .i64 (Int.ofNat 0))))]) (.block 2 (.loop (.seq (.aZ [.op (some 21) none (.bin .lss (.t 20) (.t 19))]) (.seq (.cond (.t 21) .skip (.exit 2)) (.seq (.block 3 (.seq (.aZ [.op (some 22) none (.idx 1 (.t 18) (.t 20)),.op (some 23) none (.load false 1 (.t 22)),.op (some 8) none (.mv (.t 23))]) (.seq (.draw [[],[],[1],[1,2],[1,2,3],[],[1,2,3,4,5],[1,2,3,4,5,6],[0,1,2,3,4,5,6,7]] [.op (some 24) none (.load false 1 (.t 4)),.op (some 25) none (.load false 1 (.t 3)),.op (some 26) none (.ex gJ.je [.t 25]),.op (some 27) none (.mT 0 [false] (.t 26)),.op (some 28) none (.load false 1 (.t 27)),.op (some 29) none (.mv (.t 8)),.op (some 30) none (.ex (gJ.gz .str false tG true false) [.t 28,.t 29]),.op (some 31) none (.field false 3 1 (.t 30))]) (.aZ [.call (some 32) none (.c (.fn 80 [] [])) [.t 24,.t 31] [none,some .str]])))) (.aZ [.op (some 33) none (.bin .add (.t 20) (.c (.int .i64 (Int.ofNat 1)))),.op (some 20) none (.mv (.t 33))])))))))) 37),(4,.cells [.ptr 5 0] false),(13,.arr .str false),(11,.iF),(2,.cells [.ptr 5 0] false),(5,.cells [.mp 7,.mp 8,.mp 9,.mp 10] false),(7,eo),(8,eZ),(9,bP),(10,bP),(3,.cells [.mp 14] false),(0,.cells [.mp 1] false),(1,dy),(14,.map .str false .unit true)] [.slot 10,.cell 3 0] []
abbrev MB:aU:=[(.exit 0,au.mk [] [(0,.cells [.mp 1] false),(1,dy),(2,.cells [.ptr 5 0] false),(5,.cells [.mp 7,.mp 8,.mp 9,.mp 10] false),(7,eo),(8,eZ),(9,bP),(10,bP),(3,.cells [.mp 13] false),(4,.cells [.ptr 5 0] false),(11,.iF),(12,.loop .ready none 11 [(2,.c .bZ),(3,.c (.ptr 2 0)),(4,.c (.ptr 3 0)),(15,.fn 106 [] [.ptr 4 0])] [16,17] (.aZ [.op (some 6) none (.mv (.t 17))]) (.block 1 (.seq (.aZ [.op (some 18) none (.mv (.t 6)),.op (some 19) none (.len (.t 18)),.op (some 20) none (.mv (.c (.int .i64 (Int.ofNat 0))))]) (.block 2 (.loop (.seq (.aZ [.op (some 21) none (.bin .lss (.t 20) (.t 19))]) (.seq (.cond (.t 21) .skip (.exit 2)) (.seq (.block 3 (.seq (.aZ [.op (some 22) none (.idx 1 (.t 18) (.t 20)),.op (some 23) none (.load false 1 (.t 22)),.op (some 8) none (.mv (.t 23))]) (.seq (.draw [[],[],[1],[1,2],[1,2,3],[],[1,2,3,4,5],[1,2,3,4,5,6],[0,1,2,3,4,5,6,7]] [.op (some 24) none (.load false 1 (.t 4)),.op (some 25) none (.load false 1 (.t 3)),.op (some 26) none (.ex gJ.je [.t 25]),.op (some 27) none (.mT 0 [false] (.t 26)),.op (some 28) none (.load false 1 (.t 27)),.op (some 29) none (.mv (.t 8)),.op (some 30) none (.ex (gJ.gz .str false tG true false) [.t 28,.t 29]),.op (some 31) none (.field false 3 1 (.t 30))]) (.aZ [.call (some 32) none (.c (.fn 80 [] [])) [.t 24,.t 31] [none,some .str]])))) (.aZ [.op (some 33) none (.bin .add (.t 20) (.c (.int .i64 (Int.ofNat 1)))),.op (some 20) none (.mv (.t 33))])))))))) 37),(13,.map .str false .unit true)] [.cell 3 0] [])]
noncomputable def MC:D prog 34 none 13:=dO [] (pick (kd prog f106) [(0,false)]) 0
noncomputable def gH45_0i_0:Nat×Int×Int×List ByteArray×cO×cT×bg×bg×cB×(List (ByteArray×Unit))×Unit->bG ((Nat×Int×Int×List ByteArray×cO×cT×bg×bg×cB×(List (ByteArray×Unit))×Unit) ⊕ ((cB×cO×cT×bg×bg×(List (ByteArray×Unit))×Unit))):=fun (mI,v11,v12,js,m7,m8,m9,m10,m1,m14,_) =>
 .br (decide (v12<v11)) (
 .nb v12 ((mI:Nat):Int) <|
 .nd (decide (((0:Nat)+(Int.toNat v12))<(js).length)) <|
 .br ((aA .str ((bs []),(0:Int),(bs []),(bs []),(0:Int)) m7 ((js).getD ((0:Nat)+(Int.toNat v12)) (bs []))).2.1==(1:Int)) (
 .bd (FH76fix ((js).getD ((0:Nat)+(Int.toNat v12)) (bs [])) m7 m8 m9 m10) fun y5 =>
 .bd (.it gH45_0b_1 (y5.1,((y5.1:Nat):Int),(0:Int),y5.2.1,y5.2.2.1,y5.2.2.2.1,y5.2.2.2.2.1,y5.2.2.2.2.2.1,m1,js,m14,())) fun z7 =>
 .ni (v12+(1:Int)) <|
 .ret (.inl (mI,v11,(v12+(1:Int)),z7.2.2.2.2.2.1,z7.2.1,z7.2.2.1,z7.2.2.2.1,z7.2.2.2.2.1,z7.1,z7.2.2.2.2.2.2.2.1,()))) (
 .ni (v12+(1:Int)) <|
 .ret (.inl (mI,v11,(v12+(1:Int)),js,m7,m8,m9,m10,m1,m14,())))) (
 .ret (.inr (m1,m7,m8,m9,m10,m14,())))
noncomputable def MD:bu prog 34 none 13:=aV mixed yU uW [0,1,2,3,4,5,6,7,8,9,10,11,12] rfl MA MB rfl (MC) (fun x=>ai (gH45_0i_0 x)) (fun x=>by kernel_rfl)
abbrev abY:au:=au.mk [(2,.c .bZ),(3,.c (.ptr 2 0)),(4,.c (.ptr 3 0)),(15,.fn 106 [] [.ptr 4 0])] [(2,.cells [.ptr 5 0] false),(3,.cells [.mp 6] false),(4,.cells [.ptr 5 0] false),(0,.cells [.mp 1] false),(1,dy),(5,.cells [.mp 7,.mp 8,.mp 9,.mp 10] false),(6,.map .str false .unit true),(7,eo),(8,eZ),(9,bP),(10,bP)] [.slot 3,.slot 4,.part 15 0,.cell 2 0,.cell 3 0,.cell 5 0,.cell 5 1,.cell 5 2,.cell 5 3] []
abbrev abZ:aU:=[(.normal,au.mk [(4,.c (.ptr 2 0))] [(2,.cells [.mp 3] false),(0,.cells [.mp 1] false),(1,dy),(3,.map .str false .unit true)] [.slot 4,.cell 2 0] [])]
noncomputable def Ka:D prog 34 none 13:=dO [.l MD] (kd prog f106) 0
theorem VX:cn prog f106=some ⟨34,2,(Ka).er,[],[]⟩:=by kernel_rfl
noncomputable def gH45_0:cB×(List (ByteArray×Unit))×cO×cT×bg×bg×Unit->bG ((cB×(List (ByteArray×Unit))×Unit)):=fun (m1,m6,m7,m8,m9,m10,_) =>
 .bd (FH95 m7) fun y3 =>
 .bd (FH81 y3.1) fun y4 =>
 .bd (.it gH45_0i_0 (y4.1,((y4.1:Nat):Int),(0:Int),y4.2.1,y4.2.2.1,m8,m9,m10,m1,m6,())) fun z8 =>
 .ret ((z8.1,z8.2.2.2.2.2.1,()))
noncomputable def ab0:gE prog 37 none 2:=rY mixed yU uW [0,1] rfl abY abZ ( .t 15) [16,17] rfl (J8).er (J9).er 106 func106 (VX) (enters_of func106 rfl rfl) 13 rfl (Ka) rfl (fun x=>ai (gH45_0 x)) (fun x=>by kernel_rfl)
noncomputable def YO:D prog 37 none 2:=dO [.r ab0] (kd prog f45) 0
noncomputable def FH45 (m1:cB):bG (Nat×List ByteArray×cB×Unit) :=
 .bd (FH54 m1) fun y0 =>
 .br y0.1 (
 .ret ((0:Nat),[],y0.2.1,())) (
 .bd (FH66 y0.2.1) fun y1 =>
 .bd (FH79 y1.2.1 y1.2.2.1 y1.2.2.2.1 y1.2.2.2.2.1) fun y2 =>
 .bd (gH45_0 (y1.1,[],y2.1,y2.2.1,y2.2.2.1,y2.2.2.2.1,())) fun z9 =>
 .bd (FH82 z9.2.1) fun Rr =>
 .bd (FH81_v1 Rr.1) fun SV =>
 .ret (SV.1,SV.2.1,z9.1,()))
theorem VY:cn prog f45=some ⟨37,1,YO.er,[.t 2],[some (.list .str)]⟩:=by kernel_rfl
noncomputable def ab1:Ht:=⟨45,pH45,qH45,(fun x=>ai (FH45 x.1))⟩
theorem Kb:ab1.Ok prog:=bA mixed sH rfl func45 VY (enters_of func45 rfl rfl) YO (by kernel_rfl) rfl rfl ⟨_,rfl⟩ rfl (pre:=[0,1]) rfl (fun x=>by kernel_rfl)

/- 17 -/
noncomputable def cx17:Cx:=(aK [ct46,abV,ct27] [aaZ,abF,abP,abT,ht25,ab1,ht40,Qj])
theorem VZ:cx17.Ok prog:=aq ⟨UC,J4,VQ,trivial⟩ ⟨⟨JF,rfl⟩,⟨JU,rfl⟩,⟨JY,rfl⟩,⟨J2,rfl⟩,⟨VP,rfl⟩,⟨Kb,rfl⟩,⟨Vz,rfl⟩,⟨wh,rfl⟩,trivial⟩
noncomputable def dd17:D prog 130 none 0:=dO [] (kd prog f17) 0
noncomputable def F17:bG (Bool×Unit) :=
 .bd (F46) fun y0 =>
 .nd (decide ((0:Int)<=(0:Int))) <|
 .nd (decide ((0:Int)<=(6:Int))) <|
 .nd (decide ((6:Int)<=(((y0.1).length:Nat):Int))) <|
 .bd (FH29 (((y0.1).drop (Int.toNat (0:Int))).take ((Int.toNat (6:Int)) - (Int.toNat (0:Int))))) fun y1 =>
 .bd (F46) fun y2 =>
 .nd (decide ((0:Int)<=(0:Int))) <|
 .nd (decide ((0:Int)<=(7:Int))) <|
 .nd (decide ((7:Int)<=(((y2.1).length:Nat):Int))) <|
 .bd (FH29 (((y2.1).drop (Int.toNat (0:Int))).take ((Int.toNat (7:Int)) - (Int.toNat (0:Int))))) fun y3 =>
 .bd (F46) fun y4 =>
 .bd (FH29 y4.1) fun y5 =>
 .bd (FH33 (bs [116,49]) y1.1) fun y6 =>
 .bd (FH23 (bs [97,110,97]) y6.2.2.2.1) fun y7 =>
 .bd (FH23 (bs [97,110,97]) y3.1) fun y8 =>
 .bd (FH37 y7.2.2.2.1) fun y9 =>
 .bd (FH25 (bs [99,121]) y5.1) fun Rr =>
 .br (y6.2.1==(0:Int)) (
 .br (y7.2.1==(0:Int)) (
 .br (y8.2.1==(0:Int)) (
 .br (y9.2.1==(0:Int)) (
 .br (Rr.2.1==(0:Int)) (
 .bd (F36 (((y6.2.2.1).drop (0:Nat)).take y6.1) (((((bs [99,50])::((bs [99,51])::[]))).drop (0:Nat)).take (2:Nat))) fun SV =>
 .br SV.1 (
 .bd (F27 (((y7.2.2.1).drop (0:Nat)).take y7.1) (((((0:Int)::((41:Int)::[]))).drop (0:Nat)).take (2:Nat))) fun SX =>
 .br SX.1 (
 .bd (F27 (((y8.2.2.1).drop (0:Nat)).take y8.1) (((((41:Int)::[])).drop (0:Nat)).take (1:Nat))) fun Bc =>
 .br Bc.1 (
 .br ((y9.1.1==(65:Int))&&((y9.1.2==(66:Int))&&true)) (
 .br ((Rr.1.1==(0:Int))&&((Rr.1.2==(40:Int))&&true)) (
 .bd (FH45 y9.2.2.1) fun Rh =>
 .bd (F36 (((Rh.2.1).drop (0:Nat)).take Rh.1) (((((bs [97,110,97])::((bs [98,101,110])::((bs [99,121])::[])))).drop (0:Nat)).take (3:Nat))) fun y15 =>
 .br y15.1 (
 .bd (FH40 (bs [116,49]) (3:Int) Rh.2.2.1) fun y16 =>
 .br y16.1 (
 .bd (FH40 (bs [116,50]) (4:Int) y16.2.1) fun y17 =>
 .br y17.1 (
 .bd (FH40 (bs [99,51]) (5:Int) y17.2.1) fun y18 =>
 .br y18.1 (
 .bd (FH40 (bs [119,49]) (1:Int) y18.2.1) fun y19 =>
 .br y19.1 (
 .bd (FH40 (bs [99,50]) (2:Int) y8.2.2.2.1) fun y20 =>
 .br y20.1 (
 .bd (FH40 (bs [99,51]) (4:Int) y20.2.1) fun y21 =>
 .br y21.1 (
 .bd (FH40 (bs [99,50]) (5:Int) Rr.2.2.1) fun y22 =>
 .br y22.1 (
 .bd (FH47 y22.2.1) fun y23 =>
 .ret ((((y23.1:Nat):Int)==(8:Int)),())) (
 .ret (false,()))) (
 .ret (false,()))) (
 .ret (false,()))) (
 .ret (false,()))) (
 .ret (false,()))) (
 .ret (false,()))) (
 .ret (false,()))) (
 .ret (false,()))) (
 .ret (false,()))) (
 .ret (false,()))) (
 .ret (false,()))) (
 .ret (false,()))) (
 .ret (false,()))) (
 .ret (false,()))) (
 .ret (false,()))) (
 .ret (false,()))) (
 .ret (false,()))) (
 .ret (false,()))
theorem ab2:cn prog f17=some ⟨130,0,dd17.er,[.t 0],[some .bool]⟩:=by kernel_rfl
noncomputable def ct17:Ct:=⟨17,[],.c (.hole .bool),fun x=>ai (F17)⟩
theorem V0:ct17.Ok prog:=cA mixed VZ func17 ab2 (enters_of func17 rfl rfl) dd17 (by kernel_rfl) rfl (fun x=>by kernel_rfl)

/- 16 -/
noncomputable def cx16:Cx:=(aK [] [])
theorem Ke:cx16.Ok prog:=aq trivial trivial
abbrev agE:au:=au.mk [(0,.c (.hole (.list tG))),(3,hI)] [] [] []
abbrev agF:aU:=[(.ret,au.mk [(2,.c (.tf true))] [] [] []),(.exit 0,au.mk [] [] [] [])]
noncomputable def agG:D prog 35 none 0:=dO [] (pick (kd prog f16) [(0,false)]) 0
noncomputable def g16_0:bq×Int×Unit->bG ((bq×Int×Unit) ⊕ ((Unit) ⊕ ((Unit)))):=fun (v0,v3,_) =>
 .br (decide (v3<(((v0).length:Nat):Int))) (
 .nb v3 (((v0).length:Nat):Int) <|
 .br (decide ((60:Int)<((((v0).getD (Int.toNat v3) ((bs []),(0:Int),(bs []),(bs []),(0:Int))).1.size:Nat):Int))) (
 .ret (.inr <| .inl<|())) (
 .nb v3 (((v0).length:Nat):Int) <|
 .br (decide ((60:Int)<((((v0).getD (Int.toNat v3) ((bs []),(0:Int),(bs []),(bs []),(0:Int))).2.2.1.size:Nat):Int))) (
 .ret (.inr <| .inl<|())) (
 .nb v3 (((v0).length:Nat):Int) <|
 .br (decide ((60:Int)<((((v0).getD (Int.toNat v3) ((bs []),(0:Int),(bs []),(bs []),(0:Int))).2.2.2.1.size:Nat):Int))) (
 .ret (.inr <| .inl<|())) (
 .ni (v3+(1:Int)) <|
 .ret (.inl (v0,(v3+(1:Int)),())))))) (
 .ret (.inr <| .inr<|()))
noncomputable def agH:bu prog 35 none 0:=aV mixed cx16 Ke [] rfl agE agF rfl (agG) (fun x=>ai (g16_0 x)) (fun x=>by kernel_rfl)
noncomputable def dd16:D prog 35 none 0:=dO [.l agH] (kd prog f16) 0
noncomputable def F16 (a0:bq):bG (Bool×Unit) :=
 .bd (.it g16_0 (a0,(0:Int),())) fun z0 =>
 .sm z0 (fun z1 =>
 .ret (true,())) fun z2 =>
 .ret (false,())
theorem ab3:cn prog f16=some ⟨35,1,dd16.er,[.t 2],[some .bool]⟩:=by kernel_rfl
noncomputable def ct16:Ct:=⟨16,[.c (.hole (.list tG))],.c (.hole .bool),fun x=>ai (F16 x.1)⟩
theorem V1:ct16.Ok prog:=cA mixed Ke func16 ab3 (enters_of func16 rfl rfl) dd16 (by kernel_rfl) rfl (fun x=>by kernel_rfl)

/- 19, lent -/
abbrev pH19:au:=au.mk [] [] [] []
abbrev qH19:au:=au.mk [(0,.c (.ptr 0 0))] [(0,.cells [.tf true,.bZ] false)] [.slot 0] []
noncomputable def agK:Cx:=(aK [] [])
theorem Rs:agK.Ok prog:=aq trivial trivial
noncomputable def YP:D prog 3 none 0:=dO [] (kd prog f19) 0
noncomputable def FH19:bG (Unit) :=
 .ret ()
theorem V2:cn prog f19=some ⟨3,0,YP.er,[.t 0],[none]⟩:=by kernel_rfl
noncomputable def ht19:Ht:=⟨19,pH19,qH19,(fun x=>ai (FH19))⟩
theorem V3:ht19.Ok prog:=bA mixed Rs rfl func19 V2 (enters_of func19 rfl rfl) YP (by kernel_rfl) rfl rfl ⟨_,rfl⟩ rfl (pre:=[]) rfl (fun x=>by kernel_rfl)

/- 90 -/
noncomputable def cx90:Cx:=(aK [] [])
theorem V4:cx90.Ok prog:=aq trivial trivial
noncomputable def dd90:D prog 15 none 0:=dO [] (kd prog f90) 0
noncomputable def F90 (a0:Int) (a1:Int) (a2:Int):bG (Bool×Unit) :=
 .br (decide (a1<=a0)) (
 .ret ((decide (a0<=a2)),())) (
 .ret (false,()))
theorem ab4:cn prog f90=some ⟨15,3,dd90.er,[.t 6],[some .bool]⟩:=by kernel_rfl
noncomputable def ct90:Ct:=⟨90,[hI,hI,hI],.c (.hole .bool),fun x=>ai (F90 x.1 x.2.1 x.2.2.1)⟩
theorem V5:ct90.Ok prog:=cA mixed V4 func90 ab4 (enters_of func90 rfl rfl) dd90 (by kernel_rfl) rfl (fun x=>by kernel_rfl)

/- 69 -/
noncomputable def cx69:Cx:=(aK [] [])
theorem Kf:cx69.Ok prog:=aq trivial trivial
abbrev agP:au:=au.mk [(0,.c (.hole .str)),(3,hI)] [] [] []
abbrev agQ:aU:=[(.ret,au.mk [(2,.c (.tf false))] [] [] []),(.exit 0,au.mk [] [] [] [])]
noncomputable def agR:D prog 50 none 0:=dO [] (pick (kd prog f69) [(0,false)]) 0
noncomputable def g69_0:ByteArray×Int×Unit->bG ((ByteArray×Int×Unit) ⊕ ((Unit) ⊕ ((Unit)))):=fun (v0,v3,_) =>
 .br (decide (v3<((v0.size:Nat):Int))) (
 .nb v3 ((v0.size:Nat):Int) <|
 .br (decide ((97:Int)<=(tg v0 (Int.toNat v3)))) (
 .nb v3 ((v0.size:Nat):Int) <|
 .nb v3 ((v0.size:Nat):Int) <|
 .br (decide ((48:Int)<=(tg v0 (Int.toNat v3)))) (
 .nb v3 ((v0.size:Nat):Int) <|
 .br (!(decide ((tg v0 (Int.toNat v3))<=(122:Int)))) (
 .br (!(decide ((tg v0 (Int.toNat v3))<=(57:Int)))) (
 .ret (.inr <| .inl<|())) (
 .br (v3==(0:Int)) (
 .ret (.inr <| .inl<|())) (
 .ni (v3+(1:Int)) <|
 .ret (.inl (v0,(v3+(1:Int)),()))))) (
 .ni (v3+(1:Int)) <|
 .ret (.inl (v0,(v3+(1:Int)),())))) (
 .br (!(decide ((tg v0 (Int.toNat v3))<=(122:Int)))) (
 .ret (.inr <| .inl<|())) (
 .ni (v3+(1:Int)) <|
 .ret (.inl (v0,(v3+(1:Int)),()))))) (
 .nb v3 ((v0.size:Nat):Int) <|
 .br (decide ((48:Int)<=(tg v0 (Int.toNat v3)))) (
 .nb v3 ((v0.size:Nat):Int) <|
 .br (!(decide ((tg v0 (Int.toNat v3))<=(57:Int)))) (
 .ret (.inr <| .inl<|())) (
 .br (v3==(0:Int)) (
 .ret (.inr <| .inl<|())) (
 .ni (v3+(1:Int)) <|
 .ret (.inl (v0,(v3+(1:Int)),()))))) (
 .ret (.inr <| .inl<|())))) (
 .ret (.inr <| .inr<|()))
noncomputable def agS:bu prog 50 none 0:=aV mixed cx69 Kf [] rfl agP agQ rfl (agR) (fun x=>ai (g69_0 x)) (fun x=>by kernel_rfl)
noncomputable def dd69:D prog 50 none 0:=dO [.l agS] (kd prog f69) 0
noncomputable def F69 (a0:ByteArray):bG (Bool×Unit) :=
 .br (((a0.size:Nat):Int)==(0:Int)) (
 .ret (false,())) (
 .br (decide ((10:Int)<((a0.size:Nat):Int))) (
 .ret (false,())) (
 .bd (.it g69_0 (a0,(0:Int),())) fun z0 =>
 .sm z0 (fun z1 =>
 .ret (false,())) fun z2 =>
 .ret (true,())))
theorem ab5:cn prog f69=some ⟨50,1,dd69.er,[.t 2],[some .bool]⟩:=by kernel_rfl
noncomputable def ct69:Ct:=⟨69,[.c (.hole .str)],.c (.hole .bool),fun x=>ai (F69 x.1)⟩
theorem V6:ct69.Ok prog:=cA mixed Kf func69 ab5 (enters_of func69 rfl rfl) dd69 (by kernel_rfl) rfl (fun x=>by kernel_rfl)

/- 58 -/
noncomputable def cx58:Cx:=(aK [ct90,ct69] [])
theorem V7:cx58.Ok prog:=aq ⟨V5,V6,trivial⟩ trivial
noncomputable def dd58:D prog 45 none 0:=dO [] (kd prog f58) 0
noncomputable def F58 (a0:GG):bG (Int×Unit) :=
 .bd (F90 a0.2.1 (1:Int) (3:Int)) fun y0 =>
 .br (!y0.1) (
 .ret ((18:Int),())) (
 .bd (F69 a0.1) fun y1 =>
 .br (!y1.1) (
 .ret ((8:Int),())) (
 .jx (
 .br (a0.2.1==(1:Int)) (
 .br (!(seq a0.2.2.1 (bs []))) (
 .ret (.inr ((22:Int),()))) (
 .ret (.inl (a0.1,a0.2.1,a0.2.2.1,a0.2.2.2.1,a0.2.2.2.2,())))) (
 .bd (F69 a0.2.2.1) fun y4 =>
 .br (!y4.1) (
 .ret (.inr ((8:Int),()))) (
 .br (seq a0.2.2.1 a0.1) (
 .ret (.inr ((22:Int),()))) (
 .ret (.inl (a0.1,a0.2.1,a0.2.2.1,a0.2.2.2.1,a0.2.2.2.2,())))))) fun j3 =>
 .br (j3.2.1==(3:Int)) (
 .br (!(seq j3.2.2.2.1 (bs []))) (
 .ret ((22:Int),())) (
 .br (!(j3.2.2.2.2.1==(0:Int))) (
 .ret ((22:Int),())) (
 .ret ((0:Int),())))) (
 .bd (F69 j3.2.2.2.1) fun y5 =>
 .br (!y5.1) (
 .ret ((8:Int),())) (
 .bd (F90 j3.2.2.2.2.1 (-1000:Int) (1000:Int)) fun y6 =>
 .br (!y6.1) (
 .ret ((2:Int),())) (
 .ret ((0:Int),()))))))
theorem ab6:cn prog f58=some ⟨45,1,dd58.er,[.t 2],[some tI]⟩:=by kernel_rfl
noncomputable def ct58:Ct:=⟨58,[.c (.hole tG)],hI,fun x=>ai (F58 x.1)⟩
theorem V8:ct58.Ok prog:=cA mixed V7 func58 ab6 (enters_of func58 rfl rfl) dd58 (by kernel_rfl) rfl (fun x=>Eq.trans (b:=ai (flat (F58 x.1))) (by kernel_rfl) ym)

/- 91 -/
noncomputable def cx91:Cx:=(aK [] [])
theorem V9:cx91.Ok prog:=aq trivial trivial
noncomputable def dd91:D prog 54 none 0:=dO [] (kd prog f91) 0
noncomputable def F91 (a0:GG) (a1:GG):bG (Bool×Unit) :=
 .br (!(seq a0.1 a1.1)) (
 .ret ((slt a0.1 a1.1),())) (
 .br (!(a0.2.1==a1.2.1)) (
 .ret ((decide (a0.2.1<a1.2.1)),())) (
 .br (!(seq a0.2.2.1 a1.2.2.1)) (
 .ret ((slt a0.2.2.1 a1.2.2.1),())) (
 .br (!(seq a0.2.2.2.1 a1.2.2.2.1)) (
 .ret ((slt a0.2.2.2.1 a1.2.2.2.1),())) (
 .ret ((decide (a0.2.2.2.2<a1.2.2.2.2)),())))))
theorem ab7:cn prog f91=some ⟨54,2,dd91.er,[.t 4],[some .bool]⟩:=by kernel_rfl
noncomputable def ct91:Ct:=⟨91,[.c (.hole tG),.c (.hole tG)],.c (.hole .bool),fun x=>ai (F91 x.1 x.2.1)⟩
theorem Wa:ct91.Ok prog:=cA mixed V9 func91 ab7 (enters_of func91 rfl rfl) dd91 (by kernel_rfl) rfl (fun x=>by kernel_rfl)

/- 59 -/
noncomputable def cx59:Cx:=(aK [ct91] [])
theorem Kg:cx59.Ok prog:=aq ⟨Wa,trivial⟩ trivial
abbrev ag0:au:=au.mk [(0,.c (.hole (.list tG))),(3,.c (.ptr 0 0)),(5,hI)] [(0,.cells [.hole .str,.hole tI,.hole .str,.hole .str,.hole tI] false)] [.slot 3] []
abbrev ag1:aU:=[(.exit 0,au.mk [(0,.c (.hole (.list tG))),(3,.c (.ptr 0 0)),(5,hI)] [(0,.cells [.hole .str,.hole tI,.hole .str,.hole .str,.hole tI] false)] [.slot 3] [])]
noncomputable def ag2:D prog 45 none 0:=dO [] (pick (kd prog f59) [(0,false)]) 0
noncomputable def g59_0:bq×Int×ByteArray×Int×ByteArray×ByteArray×Int×Unit->bG ((bq×Int×ByteArray×Int×ByteArray×ByteArray×Int×Unit) ⊕ ((bq×Int×ByteArray×Int×ByteArray×ByteArray×Int×Unit))):=fun (v0,v5,Wb,dX,Wc,Wd,We,_) =>
 .br (decide (v5<(((v0).length:Nat):Int))) (
 .nb v5 (((v0).length:Nat):Int) <|
 .bd (F91 (((v0).getD (Int.toNat v5) ((bs []),(0:Int),(bs []),(bs []),(0:Int))).1,((v0).getD (Int.toNat v5) ((bs []),(0:Int),(bs []),(bs []),(0:Int))).2.1,((v0).getD (Int.toNat v5) ((bs []),(0:Int),(bs []),(bs []),(0:Int))).2.2.1,((v0).getD (Int.toNat v5) ((bs []),(0:Int),(bs []),(bs []),(0:Int))).2.2.2.1,((v0).getD (Int.toNat v5) ((bs []),(0:Int),(bs []),(bs []),(0:Int))).2.2.2.2) (Wb,dX,Wc,Wd,We)) fun y0 =>
 .br y0.1 (
 .ni (v5+(1:Int)) <|
 .ret (.inl (v0,(v5+(1:Int)),Wb,dX,Wc,Wd,We,()))) (
 .ret (.inr (v0,v5,Wb,dX,Wc,Wd,We,())))) (
 .ret (.inr (v0,v5,Wb,dX,Wc,Wd,We,())))
noncomputable def ag3:bu prog 45 none 0:=aV mixed cx59 Kg [] rfl ag0 ag1 rfl (ag2) (fun x=>ai (g59_0 x)) (fun x=>by kernel_rfl)
noncomputable def dd59:D prog 45 none 0:=dO [.l ag3] (kd prog f59) 0
noncomputable def F59 (a0:bq) (a1:GG):bG (bq×Unit) :=
 .bd (.it g59_0 (a0,(0:Int),a1.1,a1.2.1,a1.2.2.1,a1.2.2.2.1,a1.2.2.2.2,())) fun z1 =>
 .br (decide (z1.2.1<(((z1.1).length:Nat):Int))) (
 .nb z1.2.1 (((z1.1).length:Nat):Int) <|
 .br ((seq ((z1.1).getD (Int.toNat z1.2.1) ((bs []),(0:Int),(bs []),(bs []),(0:Int))).1 z1.2.2.1)&&((((z1.1).getD (Int.toNat z1.2.1) ((bs []),(0:Int),(bs []),(bs []),(0:Int))).2.1==z1.2.2.2.1)&&((seq ((z1.1).getD (Int.toNat z1.2.1) ((bs []),(0:Int),(bs []),(bs []),(0:Int))).2.2.1 z1.2.2.2.2.1)&&((seq ((z1.1).getD (Int.toNat z1.2.1) ((bs []),(0:Int),(bs []),(bs []),(0:Int))).2.2.2.1 z1.2.2.2.2.2.1)&&((((z1.1).getD (Int.toNat z1.2.1) ((bs []),(0:Int),(bs []),(bs []),(0:Int))).2.2.2.2==z1.2.2.2.2.2.2.1)&&true))))) (
 .ret (z1.1,())) (
 .nd (decide ((0:Int)<=(0:Int))) <|
 .nd (decide ((0:Int)<=z1.2.1)) <|
 .nd (decide (z1.2.1<=(((z1.1).length:Nat):Int))) <|
 .nd (decide (((0:Nat)+((((z1.1).drop (Int.toNat (0:Int))).take ((Int.toNat z1.2.1) - (Int.toNat (0:Int))))).length)<bp)) <|
 .nd (decide ((((0:Nat)+((((z1.1).drop (Int.toNat (0:Int))).take ((Int.toNat z1.2.1) - (Int.toNat (0:Int))))).length)+((((((z1.2.2.1,z1.2.2.2.1,z1.2.2.2.2.1,z1.2.2.2.2.2.1,z1.2.2.2.2.2.2.1)::[])).drop (0:Nat)).take (1:Nat))).length)<bp)) <|
 .nd (decide ((0:Int)<=z1.2.1)) <|
 .nd (decide (z1.2.1<=(((z1.1).length:Nat):Int))) <|
 .nd (decide ((((z1.1).length:Nat):Int)<=(((z1.1).length:Nat):Int))) <|
 .nd (decide (((((0:Nat)+((((z1.1).drop (Int.toNat (0:Int))).take ((Int.toNat z1.2.1) - (Int.toNat (0:Int))))).length)+((((((z1.2.2.1,z1.2.2.2.1,z1.2.2.2.2.1,z1.2.2.2.2.2.1,z1.2.2.2.2.2.2.1)::[])).drop (0:Nat)).take (1:Nat))).length)+((((z1.1).drop (Int.toNat z1.2.1)).take ((Int.toNat (((z1.1).length:Nat):Int)) - (Int.toNat z1.2.1)))).length)<bp)) <|
 .ret (((((((((((((((([]).drop (0:Nat)).take (0:Nat))++(((z1.1).drop (Int.toNat (0:Int))).take ((Int.toNat z1.2.1) - (Int.toNat (0:Int)))))).drop (0:Nat)).take ((0:Nat)+((((z1.1).drop (Int.toNat (0:Int))).take ((Int.toNat z1.2.1) - (Int.toNat (0:Int))))).length))++(((((z1.2.2.1,z1.2.2.2.1,z1.2.2.2.2.1,z1.2.2.2.2.2.1,z1.2.2.2.2.2.2.1)::[])).drop (0:Nat)).take (1:Nat)))).drop (0:Nat)).take (((0:Nat)+((((z1.1).drop (Int.toNat (0:Int))).take ((Int.toNat z1.2.1) - (Int.toNat (0:Int))))).length)+((((((z1.2.2.1,z1.2.2.2.1,z1.2.2.2.2.1,z1.2.2.2.2.2.1,z1.2.2.2.2.2.2.1)::[])).drop (0:Nat)).take (1:Nat))).length))++(((z1.1).drop (Int.toNat z1.2.1)).take ((Int.toNat (((z1.1).length:Nat):Int)) - (Int.toNat z1.2.1))))).drop (0:Nat)).take ((((0:Nat)+((((z1.1).drop (Int.toNat (0:Int))).take ((Int.toNat z1.2.1) - (Int.toNat (0:Int))))).length)+((((((z1.2.2.1,z1.2.2.2.1,z1.2.2.2.2.1,z1.2.2.2.2.2.1,z1.2.2.2.2.2.2.1)::[])).drop (0:Nat)).take (1:Nat))).length)+((((z1.1).drop (Int.toNat z1.2.1)).take ((Int.toNat (((z1.1).length:Nat):Int)) - (Int.toNat z1.2.1)))).length)),()))) (
 .nd (decide ((0:Int)<=(0:Int))) <|
 .nd (decide ((0:Int)<=z1.2.1)) <|
 .nd (decide (z1.2.1<=(((z1.1).length:Nat):Int))) <|
 .nd (decide (((0:Nat)+((((z1.1).drop (Int.toNat (0:Int))).take ((Int.toNat z1.2.1) - (Int.toNat (0:Int))))).length)<bp)) <|
 .nd (decide ((((0:Nat)+((((z1.1).drop (Int.toNat (0:Int))).take ((Int.toNat z1.2.1) - (Int.toNat (0:Int))))).length)+((((((z1.2.2.1,z1.2.2.2.1,z1.2.2.2.2.1,z1.2.2.2.2.2.1,z1.2.2.2.2.2.2.1)::[])).drop (0:Nat)).take (1:Nat))).length)<bp)) <|
 .nd (decide ((0:Int)<=z1.2.1)) <|
 .nd (decide (z1.2.1<=(((z1.1).length:Nat):Int))) <|
 .nd (decide ((((z1.1).length:Nat):Int)<=(((z1.1).length:Nat):Int))) <|
 .nd (decide (((((0:Nat)+((((z1.1).drop (Int.toNat (0:Int))).take ((Int.toNat z1.2.1) - (Int.toNat (0:Int))))).length)+((((((z1.2.2.1,z1.2.2.2.1,z1.2.2.2.2.1,z1.2.2.2.2.2.1,z1.2.2.2.2.2.2.1)::[])).drop (0:Nat)).take (1:Nat))).length)+((((z1.1).drop (Int.toNat z1.2.1)).take ((Int.toNat (((z1.1).length:Nat):Int)) - (Int.toNat z1.2.1)))).length)<bp)) <|
 .ret (((((((((((((((([]).drop (0:Nat)).take (0:Nat))++(((z1.1).drop (Int.toNat (0:Int))).take ((Int.toNat z1.2.1) - (Int.toNat (0:Int)))))).drop (0:Nat)).take ((0:Nat)+((((z1.1).drop (Int.toNat (0:Int))).take ((Int.toNat z1.2.1) - (Int.toNat (0:Int))))).length))++(((((z1.2.2.1,z1.2.2.2.1,z1.2.2.2.2.1,z1.2.2.2.2.2.1,z1.2.2.2.2.2.2.1)::[])).drop (0:Nat)).take (1:Nat)))).drop (0:Nat)).take (((0:Nat)+((((z1.1).drop (Int.toNat (0:Int))).take ((Int.toNat z1.2.1) - (Int.toNat (0:Int))))).length)+((((((z1.2.2.1,z1.2.2.2.1,z1.2.2.2.2.1,z1.2.2.2.2.2.1,z1.2.2.2.2.2.2.1)::[])).drop (0:Nat)).take (1:Nat))).length))++(((z1.1).drop (Int.toNat z1.2.1)).take ((Int.toNat (((z1.1).length:Nat):Int)) - (Int.toNat z1.2.1))))).drop (0:Nat)).take ((((0:Nat)+((((z1.1).drop (Int.toNat (0:Int))).take ((Int.toNat z1.2.1) - (Int.toNat (0:Int))))).length)+((((((z1.2.2.1,z1.2.2.2.1,z1.2.2.2.2.1,z1.2.2.2.2.2.1,z1.2.2.2.2.2.2.1)::[])).drop (0:Nat)).take (1:Nat))).length)+((((z1.1).drop (Int.toNat z1.2.1)).take ((Int.toNat (((z1.1).length:Nat):Int)) - (Int.toNat z1.2.1)))).length)),()))
theorem ab8:cn prog f59=some ⟨45,2,dd59.er,[.t 4],[some (.list tG)]⟩:=by kernel_rfl
noncomputable def ab9:Ct:=⟨59,[.c (.hole (.list tG)),.c (.hole tG)],.c (.hole (.list tG)),fun x=>ai (F59 x.1 x.2.1)⟩
theorem Kh:ab9.Ok prog:=cA mixed Kg func59 ab8 (enters_of func59 rfl rfl) dd59 (by kernel_rfl) rfl (fun x=>by kernel_rfl)

/- 71 -/
noncomputable def cx71:Cx:=(aK [] [])
theorem Ki:cx71.Ok prog:=aq trivial trivial
abbrev ag6:au:=au.mk [(0,.c (.hole (.list tG))),(3,.c (.bI 0 tG)),(4,hI)] [(0,.arr tG false)] [.slot 3] []
abbrev ag7:aU:=[(.exit 0,au.mk [(3,.c (.bI 0 tG))] [(0,.arr tG false)] [.slot 3] [])]
noncomputable def ag8:D prog 35 none 0:=dO [] (pick (kd prog f71) [(0,false)]) 0
noncomputable def g71_0:bq×Nat×Int×bq×Unit->bG ((bq×Nat×Int×bq×Unit) ⊕ ((Nat×bq×Unit))):=fun (v0,gd,v4,b0,_) =>
 .br (decide (v4<(((v0).length:Nat):Int))) (
 .br (v4==(0:Int)) (
 .nb v4 (((v0).length:Nat):Int) <|
 .nd (decide ((gd+((((((((v0).getD (Int.toNat v4) ((bs []),(0:Int),(bs []),(bs []),(0:Int))).1,((v0).getD (Int.toNat v4) ((bs []),(0:Int),(bs []),(bs []),(0:Int))).2.1,((v0).getD (Int.toNat v4) ((bs []),(0:Int),(bs []),(bs []),(0:Int))).2.2.1,((v0).getD (Int.toNat v4) ((bs []),(0:Int),(bs []),(bs []),(0:Int))).2.2.2.1,((v0).getD (Int.toNat v4) ((bs []),(0:Int),(bs []),(bs []),(0:Int))).2.2.2.2)::[])).drop (0:Nat)).take (1:Nat))).length)<bp)) <|
 .ni (v4+(1:Int)) <|
 .ret (.inl (v0,(gd+((((((((v0).getD (Int.toNat v4) ((bs []),(0:Int),(bs []),(bs []),(0:Int))).1,((v0).getD (Int.toNat v4) ((bs []),(0:Int),(bs []),(bs []),(0:Int))).2.1,((v0).getD (Int.toNat v4) ((bs []),(0:Int),(bs []),(bs []),(0:Int))).2.2.1,((v0).getD (Int.toNat v4) ((bs []),(0:Int),(bs []),(bs []),(0:Int))).2.2.2.1,((v0).getD (Int.toNat v4) ((bs []),(0:Int),(bs []),(bs []),(0:Int))).2.2.2.2)::[])).drop (0:Nat)).take (1:Nat))).length),(v4+(1:Int)),((((b0).drop (0:Nat)).take gd)++(((((((v0).getD (Int.toNat v4) ((bs []),(0:Int),(bs []),(bs []),(0:Int))).1,((v0).getD (Int.toNat v4) ((bs []),(0:Int),(bs []),(bs []),(0:Int))).2.1,((v0).getD (Int.toNat v4) ((bs []),(0:Int),(bs []),(bs []),(0:Int))).2.2.1,((v0).getD (Int.toNat v4) ((bs []),(0:Int),(bs []),(bs []),(0:Int))).2.2.2.1,((v0).getD (Int.toNat v4) ((bs []),(0:Int),(bs []),(bs []),(0:Int))).2.2.2.2)::[])).drop (0:Nat)).take (1:Nat))),()))) (
 .nb v4 (((v0).length:Nat):Int) <|
 .ni (v4 - (1:Int)) <|
 .nb (v4 - (1:Int)) (((v0).length:Nat):Int) <|
 .br (!(seq ((v0).getD (Int.toNat v4) ((bs []),(0:Int),(bs []),(bs []),(0:Int))).1 ((v0).getD (Int.toNat (v4 - (1:Int))) ((bs []),(0:Int),(bs []),(bs []),(0:Int))).1)) (
 .nb v4 (((v0).length:Nat):Int) <|
 .nd (decide ((gd+((((((((v0).getD (Int.toNat v4) ((bs []),(0:Int),(bs []),(bs []),(0:Int))).1,((v0).getD (Int.toNat v4) ((bs []),(0:Int),(bs []),(bs []),(0:Int))).2.1,((v0).getD (Int.toNat v4) ((bs []),(0:Int),(bs []),(bs []),(0:Int))).2.2.1,((v0).getD (Int.toNat v4) ((bs []),(0:Int),(bs []),(bs []),(0:Int))).2.2.2.1,((v0).getD (Int.toNat v4) ((bs []),(0:Int),(bs []),(bs []),(0:Int))).2.2.2.2)::[])).drop (0:Nat)).take (1:Nat))).length)<bp)) <|
 .ni (v4+(1:Int)) <|
 .ret (.inl (v0,(gd+((((((((v0).getD (Int.toNat v4) ((bs []),(0:Int),(bs []),(bs []),(0:Int))).1,((v0).getD (Int.toNat v4) ((bs []),(0:Int),(bs []),(bs []),(0:Int))).2.1,((v0).getD (Int.toNat v4) ((bs []),(0:Int),(bs []),(bs []),(0:Int))).2.2.1,((v0).getD (Int.toNat v4) ((bs []),(0:Int),(bs []),(bs []),(0:Int))).2.2.2.1,((v0).getD (Int.toNat v4) ((bs []),(0:Int),(bs []),(bs []),(0:Int))).2.2.2.2)::[])).drop (0:Nat)).take (1:Nat))).length),(v4+(1:Int)),((((b0).drop (0:Nat)).take gd)++(((((((v0).getD (Int.toNat v4) ((bs []),(0:Int),(bs []),(bs []),(0:Int))).1,((v0).getD (Int.toNat v4) ((bs []),(0:Int),(bs []),(bs []),(0:Int))).2.1,((v0).getD (Int.toNat v4) ((bs []),(0:Int),(bs []),(bs []),(0:Int))).2.2.1,((v0).getD (Int.toNat v4) ((bs []),(0:Int),(bs []),(bs []),(0:Int))).2.2.2.1,((v0).getD (Int.toNat v4) ((bs []),(0:Int),(bs []),(bs []),(0:Int))).2.2.2.2)::[])).drop (0:Nat)).take (1:Nat))),()))) (
 .ni (v4+(1:Int)) <|
 .ret (.inl (v0,gd,(v4+(1:Int)),b0,()))))) (
 .ret (.inr (gd,b0,())))
noncomputable def ag9:bu prog 35 none 0:=aV mixed cx71 Ki [] rfl ag6 ag7 rfl (ag8) (fun x=>ai (g71_0 x)) (fun x=>by kernel_rfl)
noncomputable def dd71:D prog 35 none 0:=dO [.l ag9] (kd prog f71) 0
noncomputable def F71 (a0:bq):bG (bq×Unit) :=
 .bd (.it g71_0 (a0,(0:Nat),(0:Int),[],())) fun z0 =>
 .ret ((((z0.2.1).drop (0:Nat)).take z0.1),())
theorem acd:cn prog f71=some ⟨35,1,dd71.er,[.t 2],[some (.list tG)]⟩:=by kernel_rfl
noncomputable def Rt:Ct:=⟨71,[.c (.hole (.list tG))],.c (.hole (.list tG)),fun x=>ai (F71 x.1)⟩
theorem wo:Rt.Ok prog:=cA mixed Ki func71 acd (enters_of func71 rfl rfl) dd71 (by kernel_rfl) rfl (fun x=>by kernel_rfl)

/- 116 -/
noncomputable def YQ:Cx:=(aK [] [])
theorem Fk:YQ.Ok prog:=aq trivial trivial
abbrev ace:au:=au.mk [(0,.c (.hole (.list tG))),(1,.c (.hole .str)),(5,hI)] [] [] []
abbrev acf:aU:=[(.ret,au.mk [(4,.c (.tf true))] [] [] []),(.exit 0,au.mk [] [] [] [])]
noncomputable def acg:D prog 27 none 0:=dO [] (pick (kd prog f116) [(0,false)]) 0
noncomputable def g116_0:bq×ByteArray×Int×Unit->bG ((bq×ByteArray×Int×Unit) ⊕ ((Unit) ⊕ ((Unit)))):=fun (v0,v1,v5,_) =>
 .br (decide (v5<(((v0).length:Nat):Int))) (
 .nb v5 (((v0).length:Nat):Int) <|
 .br (seq ((v0).getD (Int.toNat v5) ((bs []),(0:Int),(bs []),(bs []),(0:Int))).1 v1) (
 .nb v5 (((v0).length:Nat):Int) <|
 .br (!(((v0).getD (Int.toNat v5) ((bs []),(0:Int),(bs []),(bs []),(0:Int))).2.1==(3:Int))) (
 .ret (.inr <| .inl<|())) (
 .ni (v5+(1:Int)) <|
 .ret (.inl (v0,v1,(v5+(1:Int)),())))) (
 .ni (v5+(1:Int)) <|
 .ret (.inl (v0,v1,(v5+(1:Int)),())))) (
 .ret (.inr <| .inr<|()))
noncomputable def ach:bu prog 27 none 0:=aV mixed YQ Fk [] rfl ace acf rfl (acg) (fun x=>ai (g116_0 x)) (fun x=>by kernel_rfl)
noncomputable def YR:D prog 27 none 0:=dO [.l ach] (kd prog f116) 0
noncomputable def F116 (a0:bq) (a1:ByteArray):bG (Bool×Unit) :=
 .bd (.it g116_0 (a0,a1,(0:Int),())) fun z0 =>
 .sm z0 (fun z1 =>
 .ret (true,())) fun z2 =>
 .ret (false,())
theorem Wg:cn prog f116=some ⟨27,2,YR.er,[.t 4],[some .bool]⟩:=by kernel_rfl
noncomputable def YS:Ct:=⟨116,[.c (.hole (.list tG)),.c (.hole .str)],.c (.hole .bool),fun x=>ai (F116 x.1 x.2.1)⟩
theorem Ru:YS.Ok prog:=cA mixed Fk func116 Wg (enters_of func116 rfl rfl) YR (by kernel_rfl) rfl (fun x=>by kernel_rfl)

/- 117 -/
noncomputable def YT:Cx:=(aK [] [])
theorem Fl:YT.Ok prog:=aq trivial trivial
abbrev aci:au:=au.mk [(0,.c (.hole (.list tG))),(1,.c (.hole .str)),(5,hI)] [] [] []
abbrev acj:aU:=[(.ret,au.mk [(4,.c (.tf true))] [] [] []),(.exit 0,au.mk [] [] [] [])]
noncomputable def ack:D prog 27 none 0:=dO [] (pick (kd prog f117) [(0,false)]) 0
noncomputable def g117_0:bq×ByteArray×Int×Unit->bG ((bq×ByteArray×Int×Unit) ⊕ ((Unit) ⊕ ((Unit)))):=fun (v0,v1,v5,_) =>
 .br (decide (v5<(((v0).length:Nat):Int))) (
 .nb v5 (((v0).length:Nat):Int) <|
 .br (((v0).getD (Int.toNat v5) ((bs []),(0:Int),(bs []),(bs []),(0:Int))).2.1==(3:Int)) (
 .nb v5 (((v0).length:Nat):Int) <|
 .br (seq ((v0).getD (Int.toNat v5) ((bs []),(0:Int),(bs []),(bs []),(0:Int))).2.2.1 v1) (
 .ret (.inr <| .inl<|())) (
 .ni (v5+(1:Int)) <|
 .ret (.inl (v0,v1,(v5+(1:Int)),())))) (
 .ni (v5+(1:Int)) <|
 .ret (.inl (v0,v1,(v5+(1:Int)),())))) (
 .ret (.inr <| .inr<|()))
noncomputable def acm:bu prog 27 none 0:=aV mixed YT Fl [] rfl aci acj rfl (ack) (fun x=>ai (g117_0 x)) (fun x=>by kernel_rfl)
noncomputable def YU:D prog 27 none 0:=dO [.l acm] (kd prog f117) 0
noncomputable def F117 (a0:bq) (a1:ByteArray):bG (Bool×Unit) :=
 .bd (.it g117_0 (a0,a1,(0:Int),())) fun z0 =>
 .sm z0 (fun z1 =>
 .ret (true,())) fun z2 =>
 .ret (false,())
theorem Wh:cn prog f117=some ⟨27,2,YU.er,[.t 4],[some .bool]⟩:=by kernel_rfl
noncomputable def YV:Ct:=⟨117,[.c (.hole (.list tG)),.c (.hole .str)],.c (.hole .bool),fun x=>ai (F117 x.1 x.2.1)⟩
theorem Rv:YV.Ok prog:=cA mixed Fl func117 Wh (enters_of func117 rfl rfl) YU (by kernel_rfl) rfl (fun x=>by kernel_rfl)

/- 94, lent -/
abbrev kZ:au:=au.mk [(0,.c (.hole (.list tG))),(1,.c (.bI 0 tI)),(2,hI)] [(0,.arr tI false)] [.slot 1] []
abbrev k4:au:=au.mk [(0,.c (.bI 1 tI))] [(1,.arr tI false),(0,.arr tI false)] [.slot 0] []
noncomputable def Rw (rec:kZ.T->Option k4.T):Cx:=(aK [] [⟨94,kZ,k4,rec⟩])
theorem Fm (rec:kZ.T->Option k4.T) (h:Ht.Ok prog ⟨94,kZ,k4,rec⟩):(Rw rec).Ok prog:=aq trivial ⟨⟨h,rfl⟩,trivial⟩
abbrev HY:au:=au.mk [(0,.c (.hole (.list tG))),(1,.c (.bI 0 tI)),(2,hI),(7,.c (.bI 1 tI)),(8,hI)] [(0,.arr tI false),(1,.arr tI false)] [.slot 7] []
abbrev HZ:aU:=[(.exit 0,au.mk [(7,.c (.bI 1 tI))] [(1,.arr tI false),(0,.arr tI false)] [.slot 7] [])]
noncomputable def Rx (rec:kZ.T->Option k4.T) (h:Ht.Ok prog ⟨94,kZ,k4,rec⟩):D prog 62 none 1:=dO [] (pick (kd prog f94) [(0,false)]) 0
noncomputable def gH94_0:bq×Nat×Int×Nat×Int×List Int×List Int×Unit->Tr kZ.T k4.T ((bq×Nat×Int×Nat×Int×List Int×List Int×Unit) ⊕ ((Nat×List Int×List Int×Unit))):=fun (v0,ND,v2,CO,v8,b0,b1,_) =>
 .br (decide (v8<(((v0).length:Nat):Int))) (
 .nb v8 (((v0).length:Nat):Int) <|
 .br (((v0).getD (Int.toNat v8) ((bs []),(0:Int),(bs []),(bs []),(0:Int))).2.1==(2:Int)) (
 .nb v8 (((v0).length:Nat):Int) <|
 .nb v2 (((v0).length:Nat):Int) <|
 .br (seq ((v0).getD (Int.toNat v8) ((bs []),(0:Int),(bs []),(bs []),(0:Int))).2.2.1 ((v0).getD (Int.toNat v2) ((bs []),(0:Int),(bs []),(bs []),(0:Int))).1) (
 .nb v8 ((ND:Nat):Int) <|
 .nd (decide (((0:Nat)+(Int.toNat v8))<(b0).length)) <|
 .br (decide ((2:Int)<((b0).getD ((0:Nat)+(Int.toNat v8)) (0:Int)))) (
 .bd (.rc (v0,ND,v8,b0,())) fun y0 =>
 .nd (decide ((CO+((((y0.2.1).drop (0:Nat)).take y0.1)).length)<bp)) <|
 .ni (v8+(1:Int)) <|
 .ret (.inl (v0,ND,v2,(CO+((((y0.2.1).drop (0:Nat)).take y0.1)).length),(v8+(1:Int)),y0.2.2.1,((((b1).drop (0:Nat)).take CO)++(((y0.2.1).drop (0:Nat)).take y0.1)),()))) (
 .ni (v8+(1:Int)) <|
 .ret (.inl (v0,ND,v2,CO,(v8+(1:Int)),b0,b1,())))) (
 .ni (v8+(1:Int)) <|
 .ret (.inl (v0,ND,v2,CO,(v8+(1:Int)),b0,b1,())))) (
 .ni (v8+(1:Int)) <|
 .ret (.inl (v0,ND,v2,CO,(v8+(1:Int)),b0,b1,())))) (
 .ret (.inr (CO,b1,b0,())))
theorem acn (rec:kZ.T->Option k4.T) (h:Ht.Ok prog ⟨94,kZ,k4,rec⟩):∀x,oF (iL (HY.T ⊕ HZ.T)) (Rw rec) dZ [0] HY HZ (Rx rec h) (fun y=>some (.inl y)) (fun b=>some (.inr b)) x=run rec (gH94_0 x):=fun x=>by kernel_rfl
noncomputable def aco (rec:kZ.T->Option k4.T) (h:Ht.Ok prog ⟨94,kZ,k4,rec⟩):bu prog 62 none 1:=aV mixed (Rw rec) (Fm rec h) [0] rfl HY HZ rfl (Rx rec h) (fun x=>run rec (gH94_0 x)) (acn rec h)
noncomputable def YW (rec:kZ.T->Option k4.T) (h:Ht.Ok prog ⟨94,kZ,k4,rec⟩):D prog 62 none 1:=dO [.l (aco rec h)] (kd prog f94) 0
noncomputable def FH94 (v0:bq) (ND:Nat) (v2:Int) (b0:List Int):Tr kZ.T k4.T (Nat×List Int×List Int×Unit) :=
 .nb v2 ((ND:Nat):Int) <|
 .nd (decide (((0:Nat)+(Int.toNat v2))<(b0).length)) <|
 .br (((b0).getD ((0:Nat)+(Int.toNat v2)) (0:Int))==(4:Int)) (
 .ret ((1:Nat),(v2::[]),b0,())) (
 .nb v2 ((ND:Nat):Int) <|
 .nd (decide (((0:Nat)+(Int.toNat v2))<(b0).length)) <|
 .br (((b0).getD ((0:Nat)+(Int.toNat v2)) (0:Int))==(5:Int)) (
 .ret ((1:Nat),(v2::[]),b0,())) (
 .bd (.it gH94_0 (v0,ND,v2,(0:Nat),(0:Int),b0,[],())) fun z1 =>
 .ret (z1.1,z1.2.1,z1.2.2.1,())))
theorem Wi (rec:kZ.T->Option k4.T) (h:Ht.Ok prog ⟨94,kZ,k4,rec⟩):cn prog f94=some ⟨62,3,(YW rec h).er,[.t 6],[some tL]⟩:=by kernel_rfl
theorem ME (rec:kZ.T->Option k4.T) (h:Ht.Ok prog ⟨94,kZ,k4,rec⟩):Ht.Ok prog ⟨94,kZ,k4,(fun x=>run rec (FH94 x.1 x.2.1 x.2.2.1 x.2.2.2.1))⟩:=bA mixed (Fm rec h) rfl func94 (Wi rec h) (enters_of func94 rfl rfl) (YW rec h) (by kernel_rfl) rfl rfl ⟨_,rfl⟩ rfl (pre:=[0]) rfl (fun x=>by kernel_rfl)
noncomputable def FH94fix (v0:bq) (ND:Nat) (v2:Int) (b0:List Int):bG (Nat×List Int×List Int×Unit):=.fx (A1:=kZ.T) (B1:=k4.T) (fun x=>FH94 x.1 x.2.1 x.2.2.1 x.2.2.2.1) (v0,ND,v2,b0,())
noncomputable def ht94:Ht:=⟨94,kZ,k4,fun x=>ai (FH94fix x.1 x.2.1 x.2.2.1 x.2.2.2.1)⟩
theorem Wj:ht94.Ok prog:=Cm (F:=fun rec x=>run rec (FH94 x.1 x.2.1 x.2.2.1 x.2.2.2.1)) (fun rec h=>ME rec h)

/- 92 -/
noncomputable def vC:Cx:=(aK [YS,YV] [ht94])
theorem iw:vC.Ok prog:=aq ⟨Ru,Rv,trivial⟩ ⟨⟨Wj,rfl⟩,trivial⟩
abbrev ahc:au:=au.mk [(0,.c (.hole (.list tG))),(3,.c (.bI 0 tI)),(4,hI)] [(0,.arr tI false)] [.slot 3] []
abbrev ahd:aU:=[(.exit 0,au.mk [(0,.c (.hole (.list tG))),(3,.c (.bI 0 tI))] [(0,.arr tI false)] [.slot 3] [])]
noncomputable def ahe:D prog 294 none 0:=dO [] (pick (kd prog f92) [(0,false)]) 0
noncomputable def g92_0:bq×Nat×Int×List Int×Unit->bG ((bq×Nat×Int×List Int×Unit) ⊕ ((bq×Nat×List Int×Unit))):=fun (v0,gd,v4,b0,_) =>
 .br (decide (v4<(((v0).length:Nat):Int))) (
 .nb v4 ((gd:Nat):Int) <|
 .nd (decide (((0:Nat)+(Int.toNat v4))<(b0).length)) <|
 .ni (v4+(1:Int)) <|
 .ret (.inl (v0,gd,(v4+(1:Int)),((b0).set ((0:Nat)+(Int.toNat v4)) (1:Int)),()))) (
 .ret (.inr (v0,gd,b0,())))
noncomputable def ahf:bu prog 294 none 0:=aV mixed vC iw [] rfl ahc ahd rfl (ahe) (fun x=>ai (g92_0 x)) (fun x=>by kernel_rfl)
abbrev ahg:au:=au.mk [(0,.c (.hole (.list tG))),(3,.c (.bI 0 tI)),(5,hI),(6,hI),(7,hI),(42,.c (.hole (.list tG))),(43,.c (.hole (.list tG))),(44,hI),(47,.c (.hole .str)),(48,.c (.hole .bool)),(49,.c (.hole .bool))] [(0,.arr tI false)] [.slot 3] []
abbrev ahh:aU:=[(.exit 4,au.mk [(0,.c (.hole (.list tG))),(3,.c (.bI 0 tI)),(5,hI),(6,hI),(42,.c (.hole (.list tG))),(43,.c (.hole (.list tG))),(44,hI),(47,.c (.hole .str)),(48,.c (.hole .bool)),(49,.c (.hole .bool))] [(0,.arr tI false)] [.slot 3] [])]
noncomputable def ahi:D prog 294 none 0:=dO [] (pick (kd prog f92) [(1,false),(0,false)]) 0
noncomputable def g92_2:bq×Nat×Int×Int×Int×bq×bq×Int×ByteArray×Bool×Bool×List Int×Unit->bG ((bq×Nat×Int×Int×Int×bq×bq×Int×ByteArray×Bool×Bool×List Int×Unit) ⊕ ((bq×Nat×Int×Int×bq×bq×Int×ByteArray×Bool×Bool×List Int×Unit))):=fun (v0,gd,v5,v6,v7,Ry,Rz,v44,RA,RB,v49,b0,_) =>
 .br (decide (v7<(((v0).length:Nat):Int))) (
 .br (!(v7==v5)) (
 .nb v7 (((v0).length:Nat):Int) <|
 .br (((v0).getD (Int.toNat v7) ((bs []),(0:Int),(bs []),(bs []),(0:Int))).2.1==(2:Int)) (
 .nb v7 (((v0).length:Nat):Int) <|
 .nb v5 (((v0).length:Nat):Int) <|
 .br (seq ((v0).getD (Int.toNat v7) ((bs []),(0:Int),(bs []),(bs []),(0:Int))).2.2.1 ((v0).getD (Int.toNat v5) ((bs []),(0:Int),(bs []),(bs []),(0:Int))).2.2.1) (
 .nb v7 (((v0).length:Nat):Int) <|
 .bd (F117 v0 ((v0).getD (Int.toNat v7) ((bs []),(0:Int),(bs []),(bs []),(0:Int))).1) fun y2 =>
 .br y2.1 (
 .ni (v6+(1:Int)) <|
 .ni (v7+(1:Int)) <|
 .ret (.inl (v0,gd,v5,(v6+(1:Int)),(v7+(1:Int)),Ry,Rz,v44,RA,RB,v49,b0,()))) (
 .ni (v7+(1:Int)) <|
 .ret (.inl (v0,gd,v5,v6,(v7+(1:Int)),Ry,Rz,v44,RA,RB,v49,b0,())))) (
 .ni (v7+(1:Int)) <|
 .ret (.inl (v0,gd,v5,v6,(v7+(1:Int)),Ry,Rz,v44,RA,RB,v49,b0,())))) (
 .ni (v7+(1:Int)) <|
 .ret (.inl (v0,gd,v5,v6,(v7+(1:Int)),Ry,Rz,v44,RA,RB,v49,b0,())))) (
 .ni (v7+(1:Int)) <|
 .ret (.inl (v0,gd,v5,v6,(v7+(1:Int)),Ry,Rz,v44,RA,RB,v49,b0,())))) (
 .ret (.inr (v0,gd,v5,v6,Ry,Rz,v44,RA,RB,v49,b0,())))
noncomputable def ahj:bu prog 294 none 0:=aV mixed vC iw [] rfl ahg ahh rfl (ahi) (fun x=>ai (g92_2 x)) (fun x=>by kernel_rfl)
abbrev ahk:au:=au.mk [(0,.c (.hole (.list tG))),(3,.c (.bI 0 tI)),(5,hI)] [(0,.arr tI false)] [.slot 3] []
abbrev ahl:aU:=[(.exit 2,au.mk [(0,.c (.hole (.list tG))),(3,.c (.bI 0 tI))] [(0,.arr tI false)] [.slot 3] [])]
noncomputable def ahm:D prog 294 none 0:=dO [.l ahj] (pick (kd prog f92) [(1,false)]) 0
noncomputable def g92_1:bq×Nat×Int×List Int×Unit->bG ((bq×Nat×Int×List Int×Unit) ⊕ ((bq×Nat×List Int×Unit))):=fun (v0,gd,v5,b0,_) =>
 .br (decide (v5<(((v0).length:Nat):Int))) (
 .nb v5 (((v0).length:Nat):Int) <|
 .br (!(((v0).getD (Int.toNat v5) ((bs []),(0:Int),(bs []),(bs []),(0:Int))).2.1==(2:Int))) (
 .ni (v5+(1:Int)) <|
 .ret (.inl (v0,gd,(v5+(1:Int)),b0,()))) (
 .nb v5 (((v0).length:Nat):Int) <|
 .bd (F116 v0 ((v0).getD (Int.toNat v5) ((bs []),(0:Int),(bs []),(bs []),(0:Int))).2.2.1) fun y1 =>
 .br (!y1.1) (
 .ni (v5+(1:Int)) <|
 .ret (.inl (v0,gd,(v5+(1:Int)),b0,()))) (
 .bd (.it g92_2 (v0,gd,v5,(0:Int),(0:Int),v0,v0,v5,((v0).getD (Int.toNat v5) ((bs []),(0:Int),(bs []),(bs []),(0:Int))).2.2.1,y1.1,(!y1.1),b0,())) fun z3 =>
 .br (z3.2.2.2.1==(1:Int)) (
 .nb z3.2.2.1 (((z3.1).length:Nat):Int) <|
 .bd (F117 z3.1 ((z3.1).getD (Int.toNat z3.2.2.1) ((bs []),(0:Int),(bs []),(bs []),(0:Int))).1) fun y4 =>
 .br (!y4.1) (
 .nb z3.2.2.1 ((z3.2.1:Nat):Int) <|
 .nd (decide (((0:Nat)+(Int.toNat z3.2.2.1))<(z3.2.2.2.2.2.2.2.2.2.2.1).length)) <|
 .ni (z3.2.2.1+(1:Int)) <|
 .ret (.inl (z3.1,z3.2.1,(z3.2.2.1+(1:Int)),((z3.2.2.2.2.2.2.2.2.2.2.1).set ((0:Nat)+(Int.toNat z3.2.2.1)) (2:Int)),()))) (
 .ni (z3.2.2.1+(1:Int)) <|
 .ret (.inl (z3.1,z3.2.1,(z3.2.2.1+(1:Int)),z3.2.2.2.2.2.2.2.2.2.2.1,())))) (
 .ni (z3.2.2.1+(1:Int)) <|
 .ret (.inl (z3.1,z3.2.1,(z3.2.2.1+(1:Int)),z3.2.2.2.2.2.2.2.2.2.2.1,())))))) (
 .ret (.inr (v0,gd,b0,())))
noncomputable def ahn:bu prog 294 none 0:=aV mixed vC iw [] rfl ahk ahl rfl (ahm) (fun x=>ai (g92_1 x)) (fun x=>by kernel_rfl)
abbrev RC:au:=au.mk [(0,.c (.hole (.list tG))),(3,.c (.bI 0 tI)),(8,.c (.bI 1 .bool)),(9,hI),(10,hI),(11,hI)] [(0,.arr tI false),(1,.arr .bool false)] [.slot 3,.slot 8] []
abbrev RD:aU:=[(.exit 10,au.mk [(0,.c (.hole (.list tG))),(3,.c (.bI 0 tI)),(8,.c (.bI 1 .bool)),(9,hI),(10,hI)] [(0,.arr tI false),(1,.arr .bool false)] [.slot 3,.slot 8] [])]
noncomputable def YX:D prog 294 none 0:=dO [] (pick (kd prog f92) [(2,false),(0,false),(0,false)]) 0
noncomputable def g92_5:bq×Nat×Nat×Int×Int×Int×List Int×List Bool×Unit->bG ((bq×Nat×Nat×Int×Int×Int×List Int×List Bool×Unit) ⊕ ((bq×Nat×Nat×Int×Int×List Int×List Bool×Unit))):=fun (v0,gd,l7,v9,v10,v11,b0,b1,_) =>
 .br (decide (v11<(((v0).length:Nat):Int))) (
 .nb v10 (((v0).length:Nat):Int) <|
 .br (!(((v0).getD (Int.toNat v10) ((bs []),(0:Int),(bs []),(bs []),(0:Int))).2.1==(2:Int))) (
 .ni (v11+(1:Int)) <|
 .ret (.inl (v0,gd,l7,v9,v10,(v11+(1:Int)),b0,b1,()))) (
 .nb v11 (((v0).length:Nat):Int) <|
 .br (((v0).getD (Int.toNat v11) ((bs []),(0:Int),(bs []),(bs []),(0:Int))).2.1==(3:Int)) (
 .ni (v11+(1:Int)) <|
 .ret (.inl (v0,gd,l7,v9,v10,(v11+(1:Int)),b0,b1,()))) (
 .nb v11 (((v0).length:Nat):Int) <|
 .nb v10 (((v0).length:Nat):Int) <|
 .br (!(seq ((v0).getD (Int.toNat v11) ((bs []),(0:Int),(bs []),(bs []),(0:Int))).1 ((v0).getD (Int.toNat v10) ((bs []),(0:Int),(bs []),(bs []),(0:Int))).2.2.1)) (
 .ni (v11+(1:Int)) <|
 .ret (.inl (v0,gd,l7,v9,v10,(v11+(1:Int)),b0,b1,()))) (
 .jx (
 .nb v11 ((gd:Nat):Int) <|
 .nd (decide (((0:Nat)+(Int.toNat v11))<(b0).length)) <|
 .br (((b0).getD ((0:Nat)+(Int.toNat v11)) (0:Int))==(2:Int)) (
 .nb v10 ((gd:Nat):Int) <|
 .nd (decide (((0:Nat)+(Int.toNat v10))<(b0).length)) <|
 .ret (.inl (v0,gd,l7,v9,v10,v11,v0,v11,((v0).getD (Int.toNat v11) ((bs []),(0:Int),(bs []),(bs []),(0:Int))).2.1,(((v0).getD (Int.toNat v11) ((bs []),(0:Int),(bs []),(bs []),(0:Int))).2.1==(3:Int)),v0,v11,((v0).getD (Int.toNat v11) ((bs []),(0:Int),(bs []),(bs []),(0:Int))).1,v0,v10,((v0).getD (Int.toNat v10) ((bs []),(0:Int),(bs []),(bs []),(0:Int))).2.2.1,(!(seq ((v0).getD (Int.toNat v11) ((bs []),(0:Int),(bs []),(bs []),(0:Int))).1 ((v0).getD (Int.toNat v10) ((bs []),(0:Int),(bs []),(bs []),(0:Int))).2.2.1)),((b0).set ((0:Nat)+(Int.toNat v10)) (2:Int)),b1,()))) (
 .ret (.inl (v0,gd,l7,v9,v10,v11,v0,v11,((v0).getD (Int.toNat v11) ((bs []),(0:Int),(bs []),(bs []),(0:Int))).2.1,(((v0).getD (Int.toNat v11) ((bs []),(0:Int),(bs []),(bs []),(0:Int))).2.1==(3:Int)),v0,v11,((v0).getD (Int.toNat v11) ((bs []),(0:Int),(bs []),(bs []),(0:Int))).1,v0,v10,((v0).getD (Int.toNat v10) ((bs []),(0:Int),(bs []),(bs []),(0:Int))).2.2.1,(!(seq ((v0).getD (Int.toNat v11) ((bs []),(0:Int),(bs []),(bs []),(0:Int))).1 ((v0).getD (Int.toNat v10) ((bs []),(0:Int),(bs []),(bs []),(0:Int))).2.2.1)),b0,b1,())))) fun j6 =>
 .nb j6.2.2.2.2.1 ((j6.2.2.1:Nat):Int) <|
 .nd (decide (((0:Nat)+(Int.toNat j6.2.2.2.2.1))<(j6.2.2.2.2.2.2.2.2.2.2.2.2.2.2.2.2.2.2.1).length)) <|
 .br ((j6.2.2.2.2.2.2.2.2.2.2.2.2.2.2.2.2.2.2.1).getD ((0:Nat)+(Int.toNat j6.2.2.2.2.1)) false) (
 .nb j6.2.2.2.2.1 ((j6.2.2.1:Nat):Int) <|
 .nd (decide (((0:Nat)+(Int.toNat j6.2.2.2.2.1))<(j6.2.2.2.2.2.2.2.2.2.2.2.2.2.2.2.2.2.2.1).length)) <|
 .ni (j6.2.2.2.2.2.1+(1:Int)) <|
 .ret (.inl (j6.1,j6.2.1,j6.2.2.1,j6.2.2.2.1,j6.2.2.2.2.1,(j6.2.2.2.2.2.1+(1:Int)),j6.2.2.2.2.2.2.2.2.2.2.2.2.2.2.2.2.2.1,((j6.2.2.2.2.2.2.2.2.2.2.2.2.2.2.2.2.2.2.1).set ((0:Nat)+(Int.toNat j6.2.2.2.2.1)) true),()))) (
 .nb j6.2.2.2.2.2.1 ((j6.2.2.1:Nat):Int) <|
 .nd (decide (((0:Nat)+(Int.toNat j6.2.2.2.2.2.1))<(j6.2.2.2.2.2.2.2.2.2.2.2.2.2.2.2.2.2.2.1).length)) <|
 .br ((j6.2.2.2.2.2.2.2.2.2.2.2.2.2.2.2.2.2.2.1).getD ((0:Nat)+(Int.toNat j6.2.2.2.2.2.1)) false) (
 .nb j6.2.2.2.2.1 ((j6.2.1:Nat):Int) <|
 .nd (decide (((0:Nat)+(Int.toNat j6.2.2.2.2.1))<(j6.2.2.2.2.2.2.2.2.2.2.2.2.2.2.2.2.2.1).length)) <|
 .nb j6.2.2.2.2.1 ((j6.2.2.1:Nat):Int) <|
 .nd (decide (((0:Nat)+(Int.toNat j6.2.2.2.2.1))<(j6.2.2.2.2.2.2.2.2.2.2.2.2.2.2.2.2.2.2.1).length)) <|
 .ni (j6.2.2.2.2.2.1+(1:Int)) <|
 .ret (.inl (j6.1,j6.2.1,j6.2.2.1,j6.2.2.2.1,j6.2.2.2.2.1,(j6.2.2.2.2.2.1+(1:Int)),j6.2.2.2.2.2.2.2.2.2.2.2.2.2.2.2.2.2.1,((j6.2.2.2.2.2.2.2.2.2.2.2.2.2.2.2.2.2.2.1).set ((0:Nat)+(Int.toNat j6.2.2.2.2.1)) (!(((j6.2.2.2.2.2.2.2.2.2.2.2.2.2.2.2.2.2.1).getD ((0:Nat)+(Int.toNat j6.2.2.2.2.1)) (0:Int))==(2:Int)))),()))) (
 .nb j6.2.2.2.2.1 ((j6.2.2.1:Nat):Int) <|
 .nd (decide (((0:Nat)+(Int.toNat j6.2.2.2.2.1))<(j6.2.2.2.2.2.2.2.2.2.2.2.2.2.2.2.2.2.2.1).length)) <|
 .ni (j6.2.2.2.2.2.1+(1:Int)) <|
 .ret (.inl (j6.1,j6.2.1,j6.2.2.1,j6.2.2.2.1,j6.2.2.2.2.1,(j6.2.2.2.2.2.1+(1:Int)),j6.2.2.2.2.2.2.2.2.2.2.2.2.2.2.2.2.2.1,((j6.2.2.2.2.2.2.2.2.2.2.2.2.2.2.2.2.2.2.1).set ((0:Nat)+(Int.toNat j6.2.2.2.2.1)) false),())))))))) (
 .ret (.inr (v0,gd,l7,v9,v10,b0,b1,())))
theorem aho:∀x,oF (iL (RC.T ⊕ RD.T)) vC dZ [] RC RD (YX) (fun y=>some (.inl y)) (fun b=>some (.inr b)) x=ai (g92_5 x):=fun x=>Eq.trans (b:=ai (flat (g92_5 x))) (by kernel_rfl) ym
noncomputable def ahp:bu prog 294 none 0:=aV mixed vC iw [] rfl RC RD rfl (YX) (fun x=>ai (g92_5 x)) (aho)
abbrev ahq:au:=au.mk [(0,.c (.hole (.list tG))),(3,.c (.bI 0 tI)),(8,.c (.bI 1 .bool)),(9,hI),(10,hI)] [(0,.arr tI false),(1,.arr .bool false)] [.slot 3,.slot 8] []
abbrev ahr:aU:=[(.exit 8,au.mk [(0,.c (.hole (.list tG))),(3,.c (.bI 0 tI)),(8,.c (.bI 1 .bool)),(9,hI)] [(0,.arr tI false),(1,.arr .bool false)] [.slot 3,.slot 8] [])]
noncomputable def ahs:D prog 294 none 0:=dO [.l ahp] (pick (kd prog f92) [(2,false),(0,false)]) 0
noncomputable def g92_4:bq×Nat×Nat×Int×Int×List Int×List Bool×Unit->bG ((bq×Nat×Nat×Int×Int×List Int×List Bool×Unit) ⊕ ((bq×Nat×Nat×Int×List Int×List Bool×Unit))):=fun (v0,gd,l7,v9,v10,b0,b1,_) =>
 .br (decide (v10<(((v0).length:Nat):Int))) (
 .nb v10 ((l7:Nat):Int) <|
 .nd (decide (((0:Nat)+(Int.toNat v10))<(b1).length)) <|
 .br ((b1).getD ((0:Nat)+(Int.toNat v10)) false) (
 .nb v10 ((l7:Nat):Int) <|
 .nd (decide (((0:Nat)+(Int.toNat v10))<(b1).length)) <|
 .bd (.it g92_5 (v0,gd,l7,v9,v10,(0:Int),b0,((b1).set ((0:Nat)+(Int.toNat v10)) true),())) fun z7 =>
 .ni (z7.2.2.2.2.1+(1:Int)) <|
 .ret (.inl (z7.1,z7.2.1,z7.2.2.1,z7.2.2.2.1,(z7.2.2.2.2.1+(1:Int)),z7.2.2.2.2.2.1,z7.2.2.2.2.2.2.1,()))) (
 .nb v10 (((v0).length:Nat):Int) <|
 .nb v10 ((l7:Nat):Int) <|
 .nd (decide (((0:Nat)+(Int.toNat v10))<(b1).length)) <|
 .bd (.it g92_5 (v0,gd,l7,v9,v10,(0:Int),b0,((b1).set ((0:Nat)+(Int.toNat v10)) (((v0).getD (Int.toNat v10) ((bs []),(0:Int),(bs []),(bs []),(0:Int))).2.1==(1:Int))),())) fun z8 =>
 .ni (z8.2.2.2.2.1+(1:Int)) <|
 .ret (.inl (z8.1,z8.2.1,z8.2.2.1,z8.2.2.2.1,(z8.2.2.2.2.1+(1:Int)),z8.2.2.2.2.2.1,z8.2.2.2.2.2.2.1,())))) (
 .ret (.inr (v0,gd,l7,v9,b0,b1,())))
noncomputable def aht:bu prog 294 none 0:=aV mixed vC iw [] rfl ahq ahr rfl (ahs) (fun x=>ai (g92_4 x)) (fun x=>by kernel_rfl)
abbrev ahu:au:=au.mk [(0,.c (.hole (.list tG))),(3,.c (.bI 0 tI)),(8,.c (.bI 1 .bool)),(9,hI)] [(0,.arr tI false),(1,.arr .bool false)] [.slot 3,.slot 8] []
abbrev ahv:aU:=[(.exit 6,au.mk [(0,.c (.hole (.list tG))),(3,.c (.bI 0 tI)),(8,.c (.bI 1 .bool))] [(0,.arr tI false),(1,.arr .bool false)] [.slot 3,.slot 8] [])]
noncomputable def ahw:D prog 294 none 0:=dO [.l aht] (pick (kd prog f92) [(2,false)]) 0
noncomputable def g92_3:bq×Nat×Nat×Int×List Int×List Bool×Unit->bG ((bq×Nat×Nat×Int×List Int×List Bool×Unit) ⊕ ((bq×Nat×Nat×List Int×List Bool×Unit))):=fun (v0,gd,l7,v9,b0,b1,_) =>
 .br (decide (v9<=(((v0).length:Nat):Int))) (
 .bd (.it g92_4 (v0,gd,l7,v9,(0:Int),b0,b1,())) fun z9 =>
 .ni (z9.2.2.2.1+(1:Int)) <|
 .ret (.inl (z9.1,z9.2.1,z9.2.2.1,(z9.2.2.2.1+(1:Int)),z9.2.2.2.2.1,z9.2.2.2.2.2.1,()))) (
 .ret (.inr (v0,gd,l7,b0,b1,())))
noncomputable def ahx:bu prog 294 none 0:=aV mixed vC iw [] rfl ahu ahv rfl (ahw) (fun x=>ai (g92_3 x)) (fun x=>by kernel_rfl)
abbrev ahy:au:=au.mk [(0,.c (.hole (.list tG))),(3,.c (.bI 0 tI)),(8,.c (.bI 1 .bool)),(12,hI),(13,hI),(210,.c (.bI 0 tI)),(211,hI),(213,hI),(214,.c (.hole .bool))] [(0,.arr tI false),(1,.arr .bool false)] [.slot 3,.slot 8] []
abbrev ahz:aU:=[(.exit 14,au.mk [(0,.c (.hole (.list tG))),(3,.c (.bI 0 tI)),(8,.c (.bI 1 .bool)),(12,hI),(210,.c (.bI 0 tI)),(211,hI),(213,hI),(214,.c (.hole .bool))] [(0,.arr tI false),(1,.arr .bool false)] [.slot 3,.slot 8] [])]
noncomputable def ahA:D prog 294 none 0:=dO [] (pick (kd prog f92) [(3,false),(0,false)]) 0
noncomputable def g92_7:bq×Nat×Nat×Int×Int×Nat×Int×Int×Bool×List Int×List Bool×Unit->bG ((bq×Nat×Nat×Int×Int×Nat×Int×Int×Bool×List Int×List Bool×Unit) ⊕ ((bq×Nat×Nat×Int×Nat×Int×Int×Bool×List Int×List Bool×Unit))):=fun (v0,gd,l7,v12,ug,Bd,uh,uj,uk,b0,b1,_) =>
 .br (decide (ug<(((v0).length:Nat):Int))) (
 .nb ug ((l7:Nat):Int) <|
 .nd (decide (((0:Nat)+(Int.toNat ug))<(b1).length)) <|
 .br ((b1).getD ((0:Nat)+(Int.toNat ug)) false) (
 .nb ug ((gd:Nat):Int) <|
 .nd (decide (((0:Nat)+(Int.toNat ug))<(b0).length)) <|
 .br (!(((b0).getD ((0:Nat)+(Int.toNat ug)) (0:Int))==(2:Int))) (
 .nb ug (((v0).length:Nat):Int) <|
 .br (((v0).getD (Int.toNat ug) ((bs []),(0:Int),(bs []),(bs []),(0:Int))).2.1==(2:Int)) (
 .nb ug (((v0).length:Nat):Int) <|
 .nb v12 (((v0).length:Nat):Int) <|
 .br (seq ((v0).getD (Int.toNat ug) ((bs []),(0:Int),(bs []),(bs []),(0:Int))).2.2.1 ((v0).getD (Int.toNat v12) ((bs []),(0:Int),(bs []),(bs []),(0:Int))).1) (
 .nb v12 ((gd:Nat):Int) <|
 .nd (decide (((0:Nat)+(Int.toNat v12))<(b0).length)) <|
 .ni (ug+(1:Int)) <|
 .ret (.inl (v0,gd,l7,v12,(ug+(1:Int)),Bd,uh,uj,uk,((b0).set ((0:Nat)+(Int.toNat v12)) (3:Int)),b1,()))) (
 .ni (ug+(1:Int)) <|
 .ret (.inl (v0,gd,l7,v12,(ug+(1:Int)),Bd,uh,uj,uk,b0,b1,())))) (
 .ni (ug+(1:Int)) <|
 .ret (.inl (v0,gd,l7,v12,(ug+(1:Int)),Bd,uh,uj,uk,b0,b1,())))) (
 .ni (ug+(1:Int)) <|
 .ret (.inl (v0,gd,l7,v12,(ug+(1:Int)),Bd,uh,uj,uk,b0,b1,())))) (
 .ni (ug+(1:Int)) <|
 .ret (.inl (v0,gd,l7,v12,(ug+(1:Int)),Bd,uh,uj,uk,b0,b1,())))) (
 .ret (.inr (v0,gd,l7,v12,Bd,uh,uj,uk,b0,b1,())))
noncomputable def ahB:bu prog 294 none 0:=aV mixed vC iw [] rfl ahy ahz rfl (ahA) (fun x=>ai (g92_7 x)) (fun x=>by kernel_rfl)
abbrev ahC:au:=au.mk [(0,.c (.hole (.list tG))),(3,.c (.bI 0 tI)),(8,.c (.bI 1 .bool)),(12,hI)] [(0,.arr tI false),(1,.arr .bool false)] [.slot 3,.slot 8] []
abbrev ahD:aU:=[(.exit 12,au.mk [(0,.c (.hole (.list tG))),(3,.c (.bI 0 tI))] [(0,.arr tI false)] [.slot 3] [])]
noncomputable def ahE:D prog 294 none 0:=dO [.l ahB] (pick (kd prog f92) [(3,false)]) 0
noncomputable def g92_6:bq×Nat×Nat×Int×List Int×List Bool×Unit->bG ((bq×Nat×Nat×Int×List Int×List Bool×Unit) ⊕ ((bq×Nat×List Int×Unit))):=fun (v0,gd,l7,v12,b0,b1,_) =>
 .br (decide (v12<(((v0).length:Nat):Int))) (
 .nb v12 ((l7:Nat):Int) <|
 .nd (decide (((0:Nat)+(Int.toNat v12))<(b1).length)) <|
 .br (!((b1).getD ((0:Nat)+(Int.toNat v12)) false)) (
 .ni (v12+(1:Int)) <|
 .ret (.inl (v0,gd,l7,(v12+(1:Int)),b0,b1,()))) (
 .nb v12 ((gd:Nat):Int) <|
 .nd (decide (((0:Nat)+(Int.toNat v12))<(b0).length)) <|
 .br (((b0).getD ((0:Nat)+(Int.toNat v12)) (0:Int))==(2:Int)) (
 .ni (v12+(1:Int)) <|
 .ret (.inl (v0,gd,l7,(v12+(1:Int)),b0,b1,()))) (
 .nb v12 ((gd:Nat):Int) <|
 .nd (decide (((0:Nat)+(Int.toNat v12))<(b0).length)) <|
 .bd (.it g92_7 (v0,gd,l7,v12,(0:Int),gd,v12,((b0).getD ((0:Nat)+(Int.toNat v12)) (0:Int)),(((b0).getD ((0:Nat)+(Int.toNat v12)) (0:Int))==(2:Int)),((b0).set ((0:Nat)+(Int.toNat v12)) (4:Int)),b1,())) fun Bb =>
 .ni (Bb.2.2.2.1+(1:Int)) <|
 .ret (.inl (Bb.1,Bb.2.1,Bb.2.2.1,(Bb.2.2.2.1+(1:Int)),Bb.2.2.2.2.2.2.2.2.1,Bb.2.2.2.2.2.2.2.2.2.1,()))))) (
 .ret (.inr (v0,gd,b0,())))
noncomputable def ahF:bu prog 294 none 0:=aV mixed vC iw [] rfl ahC ahD rfl (ahE) (fun x=>ai (g92_6 x)) (fun x=>by kernel_rfl)
abbrev ahG:au:=au.mk [(0,.c (.hole (.list tG))),(3,.c (.bI 0 tI)),(14,hI),(15,.c (.bI 1 tI)),(16,hI)] [(0,.arr tI false),(1,.arr tI false)] [.slot 3,.slot 15] []
abbrev ahH:aU:=[(.exit 18,au.mk [(0,.c (.hole (.list tG))),(3,.c (.bI 0 tI)),(14,hI)] [(0,.arr tI false)] [.slot 3] [])]
noncomputable def ahI:D prog 294 none 0:=dO [] (pick (kd prog f92) [(4,false),(0,false)]) 0
noncomputable def g92_9:bq×Nat×Int×Nat×Int×List Int×List Int×Unit->bG ((bq×Nat×Int×Nat×Int×List Int×List Int×Unit) ⊕ ((bq×Nat×Int×List Int×Unit))):=fun (v0,gd,nY,Wk,qY,b0,b1,_) =>
 .br (decide (qY<((Wk:Nat):Int))) (
 .br (decide ((1:Int)<((Wk:Nat):Int))) (
 .nb qY ((Wk:Nat):Int) <|
 .nd (decide (((0:Nat)+(Int.toNat qY))<(b1).length)) <|
 .nb ((b1).getD ((0:Nat)+(Int.toNat qY)) (0:Int)) ((gd:Nat):Int) <|
 .nd (decide (((0:Nat)+(Int.toNat ((b1).getD ((0:Nat)+(Int.toNat qY)) (0:Int))))<(b0).length)) <|
 .ni (qY+(1:Int)) <|
 .ret (.inl (v0,gd,nY,Wk,(qY+(1:Int)),((b0).set ((0:Nat)+(Int.toNat ((b1).getD ((0:Nat)+(Int.toNat qY)) (0:Int)))) (5:Int)),b1,()))) (
 .ret (.inr (v0,gd,nY,b0,())))) (
 .ret (.inr (v0,gd,nY,b0,())))
noncomputable def ahJ:bu prog 294 none 0:=aV mixed vC iw [] rfl ahG ahH rfl (ahI) (fun x=>ai (g92_9 x)) (fun x=>by kernel_rfl)
abbrev ahK:au:=au.mk [(0,.c (.hole (.list tG))),(3,.c (.bI 0 tI)),(14,hI)] [(0,.arr tI false)] [.slot 3] []
abbrev ahL:aU:=[(.exit 16,au.mk [(3,.c (.bI 0 tI))] [(0,.arr tI false)] [.slot 3] [])]
noncomputable def ahM:D prog 294 none 0:=dO [.l ahJ] (pick (kd prog f92) [(4,false)]) 0
noncomputable def g92_8:bq×Nat×Int×List Int×Unit->bG ((bq×Nat×Int×List Int×Unit) ⊕ ((Nat×List Int×Unit))):=fun (v0,gd,nY,b0,_) =>
 .br (decide (nY<(((v0).length:Nat):Int))) (
 .nb nY (((v0).length:Nat):Int) <|
 .br (!(((v0).getD (Int.toNat nY) ((bs []),(0:Int),(bs []),(bs []),(0:Int))).2.1==(1:Int))) (
 .ni (nY+(1:Int)) <|
 .ret (.inl (v0,gd,(nY+(1:Int)),b0,()))) (
 .bd (FH94fix v0 gd nY b0) fun Bc =>
 .bd (.it g92_9 (v0,gd,nY,Bc.1,(0:Int),Bc.2.2.1,Bc.2.1,())) fun RE =>
 .ni (RE.2.2.1+(1:Int)) <|
 .ret (.inl (RE.1,RE.2.1,(RE.2.2.1+(1:Int)),RE.2.2.2.1,())))) (
 .ret (.inr (gd,b0,())))
noncomputable def ahN:bu prog 294 none 0:=aV mixed vC iw [] rfl ahK ahL rfl (ahM) (fun x=>ai (g92_8 x)) (fun x=>by kernel_rfl)
noncomputable def dd92:D prog 294 none 0:=dO [.l ahf,.l ahn,.l ahx,.l ahF,.l ahN] (kd prog f92) 0
noncomputable def F92 (a0:bq):bG (List Int×Unit) :=
 .nb (((a0).length:Nat):Int) ((bp:Nat):Int) <|
 .bd (.it g92_0 (a0,(Int.toNat (((a0).length:Nat):Int)),(0:Int),(List.replicate (Int.toNat (((a0).length:Nat):Int)) (0:Int)),())) fun z0 =>
 .bd (.it g92_1 (z0.1,z0.2.1,(0:Int),z0.2.2.1,())) fun z5 =>
 .nb (((z5.1).length:Nat):Int) ((bp:Nat):Int) <|
 .bd (.it g92_3 (z5.1,z5.2.1,(Int.toNat (((z5.1).length:Nat):Int)),(0:Int),z5.2.2.1,(List.replicate (Int.toNat (((z5.1).length:Nat):Int)) false),())) fun Ba =>
 .bd (.it g92_6 (Ba.1,Ba.2.1,Ba.2.2.1,(0:Int),Ba.2.2.2.1,Ba.2.2.2.2.1,())) fun z12 =>
 .bd (.it g92_8 (z12.1,z12.2.1,(0:Int),z12.2.2.1,())) fun z15 =>
 .ret ((((z15.2.1).drop (0:Nat)).take z15.1),())
theorem acp:cn prog f92=some ⟨294,1,dd92.er,[.t 2],[some tL]⟩:=by kernel_rfl
noncomputable def RG:Ct:=⟨92,[.c (.hole (.list tG))],hL,fun x=>ai (F92 x.1)⟩
theorem wq:RG.Ok prog:=cA mixed iw func92 acp (enters_of func92 rfl rfl) dd92 (by kernel_rfl) rfl (fun x=>by kernel_rfl)

end Go.Proofs.Tryz

