/- Functions of the program as functions of data, part 1; printed by a program of mine. -/
import Derived.Test.YthemjfloiapaaaaGreatP14
import Derived.Test.YthemjfloiapaaaaGreatProg
set_option linter.unusedSectionVars false
set_option linter.unusedVariables false
set_option linter.unusedSimpArgs false
open Go.AM
namespace Go.Proofs.Tryz
set_option maxRecDepth 100000
set_option synthInstance.maxSize 4000
set_option synthInstance.maxHeartbeats 400000
set_option synthInstance.maxSize 4000
set_option synthInstance.maxHeartbeats 400000
theorem mixed : prog.follows .mixedOrders = true := by kernel_rfl
@[reducible] def tG : Ty := .prod .str (.prod tI (.prod .str (.prod .str tI)))
abbrev GG := ByteArray × Int × ByteArray × ByteArray × Int
abbrev Tbk := List (GG × Bool)
abbrev aJ := List (ByteArray × Bool)
abbrev bI := List (ByteArray × List ByteArray)
abbrev bF := List (ByteArray × GG)
abbrev Tlg := List GG
@[reducible] def oo (n : Nat) (i : I) : eC := .op (some n) none i
@[reducible] def om (n k : Nat) : eC := .op (some n) none (.mv (.t k))
@[reducible] def ol (n k : Nat) : eC := .op (some n) none (.load false 1 (.t k))
@[reducible] def og (n k : Nat) (b : Bool) (i : I) : eC := .op (some n) (some (k, b)) i
@[reducible] def ki (n : Nat) : O := .c (.int .i64 (Int.ofNat n))
@[reducible] def hzI : SP := .c (.hole (.int .i64))
@[reducible] def hzL : SP := .c (.hole (.list (.int .i64)))
@[reducible] def hzM : SP := .c (.hole (.list (.list (.int .i64))))

/- 130 -/
noncomputable def agL:Cx:=(aF [] [])
theorem R4:agL.Ok prog:=ag trivial trivial
noncomputable def aaH:D prog 6 none 0:=dO [] (kd prog f130) 0
noncomputable def F130 (a0:ByteArray):aY (Bool×Unit) :=
 .ret ((!(seq a0 a0)),())
theorem Wa:bK prog f130=some ⟨6,1,aaH.er,[.t 2],[some .bool]⟩:=by kernel_rfl
noncomputable def aaI:Ct:=⟨130,[.c (.hole .str)],.c (.hole .bool),fun x=>ai (F130 x.1)⟩
theorem R5:aaI.Ok prog:=dX mixed R4 func130 Wa (enters_of func130 rfl rfl) aaH (by kernel_rfl) rfl (fun x=>by kernel_rfl)

/- 113 -/
noncomputable def agM:Cx:=(aF [aaI] [])
theorem R6:agM.Ok prog:=ag ⟨R5,trivial⟩ trivial
noncomputable def aaJ:D prog 20 none 0:=dO [] (kd prog f113) 0
noncomputable def F113 (a0:ByteArray) (a1:ByteArray):aY (Int×Unit) :=
 .bd (F130 a0) fun y0 =>
 .bd (F130 a1) fun y1 =>
 .br y0.1 (
 .br y1.1 (
 .ret ((0:Int),())) (
 .ret ((-1:Int),()))) (
 .br y1.1 (
 .ret ((1:Int),())) (
 .br (slt a0 a1) (
 .ret ((-1:Int),())) (
 .br (!(HJ (slt a0 a1) true (seq a0 a1))) (
 .ret ((1:Int),())) (
 .ret ((0:Int),())))))
theorem Wb:bK prog f113=some ⟨20,2,aaJ.er,[.t 4],[some tI]⟩:=by kernel_rfl
noncomputable def aaK:Ct:=⟨113,[.c (.hole .str),.c (.hole .str)],hI,fun x=>ai (F113 x.1 x.2.1)⟩
theorem R7:aaK.Ok prog:=dX mixed R6 func113 Wb (enters_of func113 rfl rfl) aaJ (by kernel_rfl) rfl (fun x=>by kernel_rfl)

/- 131 -/
noncomputable def agN:Cx:=(aF [] [])
theorem R8:agN.Ok prog:=ag trivial trivial
noncomputable def aaL:D prog 6 none 0:=dO [] (kd prog f131) 0
noncomputable def F131 (a0:Int):aY (Bool×Unit) :=
 .ret ((!(a0==a0)),())
theorem Wc:bK prog f131=some ⟨6,1,aaL.er,[.t 2],[some .bool]⟩:=by kernel_rfl
noncomputable def aaM:Ct:=⟨131,[hI],.c (.hole .bool),fun x=>ai (F131 x.1)⟩
theorem R9:aaM.Ok prog:=dX mixed R8 func131 Wc (enters_of func131 rfl rfl) aaL (by kernel_rfl) rfl (fun x=>by kernel_rfl)

/- 114 -/
noncomputable def agO:Cx:=(aF [aaM] [])
theorem Sa:agO.Ok prog:=ag ⟨R9,trivial⟩ trivial
noncomputable def aaN:D prog 20 none 0:=dO [] (kd prog f114) 0
noncomputable def F114 (a0:Int) (a1:Int):aY (Int×Unit) :=
 .bd (F131 a0) fun y0 =>
 .bd (F131 a1) fun y1 =>
 .br y0.1 (
 .br y1.1 (
 .ret ((0:Int),())) (
 .ret ((-1:Int),()))) (
 .br y1.1 (
 .ret ((1:Int),())) (
 .br (decide (a0<a1)) (
 .ret ((-1:Int),())) (
 .br (decide (a1<a0)) (
 .ret ((1:Int),())) (
 .ret ((0:Int),())))))
theorem Wd:bK prog f114=some ⟨20,2,aaN.er,[.t 4],[some tI]⟩:=by kernel_rfl
noncomputable def aaO:Ct:=⟨114,[hI,hI],hI,fun x=>ai (F114 x.1 x.2.1)⟩
theorem Sb:aaO.Ok prog:=dX mixed Sa func114 Wd (enters_of func114 rfl rfl) aaN (by kernel_rfl) rfl (fun x=>by kernel_rfl)

/- 112 -/
noncomputable def aaP:Cx:=(aF [] [])
theorem EP:aaP.Ok prog:=ag trivial trivial
@[reducible] def adn:ah:=ah.mk [(3,hI),(6,hL),(7,hI),(8,hI)] [] [] []
@[reducible] def ado:aR:=[(.ret,ah.mk [(2,hI)] [] [] []),(.exit 0,ah.mk [(3,hI)] [] [] [])]
noncomputable def adp:D prog 18 none 0:=dO [] (pick (kd prog f112) [(0,false)]) 0
noncomputable def g112_0:Int×List Int×Int×Int×Unit→aY ((Int×List Int×Int×Int×Unit) ⊕ ((Int×Unit) ⊕ ((Int×Unit)))):=fun (v3,v6,v7,v8,_) =>
 .br (decide (v8<v7)) (
 .nb v8 (((v6).length:Nat):Int) <|
 .br (!(((v6).getD (Int.toNat v8) (0:Int))==v3)) (
 .ret (.inr <| .inl<|(((v6).getD (Int.toNat v8) (0:Int)),()))) (
 .ni (v8+(1:Int)) <|
 .ret (.inl (v3,v6,v7,(v8+(1:Int)),())))) (
 .ret (.inr <| .inr<|(v3,())))
noncomputable def adq:bL prog 18 none 0:=bp mixed aaP EP [] rfl adn ado rfl (adp) (fun x=>ai (g112_0 x)) (fun x=>by kernel_rfl)
noncomputable def aaQ:D prog 18 none 0:=dO [.l adq] (kd prog f112) 0
noncomputable def F112 (a0:List Int):aY (Int×Unit) :=
 .bd (.it g112_0 ((0:Int),a0,(((a0).length:Nat):Int),(0:Int),())) fun z0 =>
 .sm z0 (fun z1 =>
 .ret (z1.1,())) fun z2 =>
 .ret (z2.1,())
theorem We:bK prog f112=some ⟨18,1,aaQ.er,[.t 2],[some tI]⟩:=by kernel_rfl
noncomputable def aaR:Ct:=⟨112,[hL],hI,fun x=>ai (F112 x.1)⟩
theorem Sc:aaR.Ok prog:=dX mixed EP func112 We (enters_of func112 rfl rfl) aaQ (by kernel_rfl) rfl (fun x=>by kernel_rfl)

/- 85 -/
noncomputable def cx85:Cx:=(aF [aaK,aaO,aaR] [])
theorem Wg:cx85.Ok prog:=ag ⟨R7,Sb,Sc,trivial⟩ trivial
noncomputable def dd85:D prog 35 none 0:=dO [] (kd prog f85) 0
noncomputable def F85 (a0:GG) (a1:GG):aY (Int×Unit) :=
 .br ((seq a0.1 a1.1)&&((a0.2.1==a1.2.1)&&((seq a0.2.2.1 a1.2.2.1)&&((seq a0.2.2.2.1 a1.2.2.2.1)&&((a0.2.2.2.2==a1.2.2.2.2)&&true))))) (
 .ret ((0:Int),())) (
 .bd (F113 a0.1 a1.1) fun y0 =>
 .bd (F114 a0.2.1 a1.2.1) fun y1 =>
 .bd (F113 a0.2.2.1 a1.2.2.1) fun y2 =>
 .bd (F113 a0.2.2.2.1 a1.2.2.2.1) fun y3 =>
 .bd (F114 a0.2.2.2.2 a1.2.2.2.2) fun y4 =>
 .bd (F112 ((((y0.1::(y1.1::(y2.1::(y3.1::(y4.1::[])))))).drop (0:Nat)).take (5:Nat))) fun y5 =>
 .ret (y5.1,()))
theorem adr:bK prog f85=some ⟨35,2,dd85.er,[.t 4],[some tI]⟩:=by kernel_rfl
noncomputable def ct85:Ct:=⟨85,[.c (.hole tG),.c (.hole tG)],hI,fun x=>ai (F85 x.1 x.2.1)⟩
theorem Wh:ct85.Ok prog:=dX mixed Wg func85 adr (enters_of func85 rfl rfl) dd85 (by kernel_rfl) rfl (fun x=>by kernel_rfl)

/- 50 -/
noncomputable def cx50:Cx:=(aF [] [])
theorem Wi:cx50.Ok prog:=ag trivial trivial
noncomputable def dd50:D prog 11 none 0:=dO [] (kd prog f50) 0
noncomputable def F50 (a0:ByteArray) (a1:ByteArray) (a2:Int):aY ((GG)×Unit) :=
 .ret ((a0,(1:Int),(bs []),a1,a2),())
theorem ads:bK prog f50=some ⟨11,3,dd50.er,[.cell 6 true 5],[some tG]⟩:=by kernel_rfl
noncomputable def adt:Ct:=⟨50,[.c (.hole .str),.c (.hole .str),hI],.c (.hole tG),fun x=>ai (F50 x.1 x.2.1 x.2.2.1)⟩
theorem Lx:adt.Ok prog:=dX mixed Wi func50 ads (enters_of func50 rfl rfl) dd50 (by kernel_rfl) rfl (fun x=>by kernel_rfl)

/- 42 -/
noncomputable def cx42:Cx:=(aF [] [])
theorem Wj:cx42.Ok prog:=ag trivial trivial
noncomputable def dd42:D prog 14 none 0:=dO [] (kd prog f42) 0
noncomputable def F42 (a0:ByteArray) (a1:ByteArray) (a2:ByteArray) (a3:Int):aY ((GG)×Unit) :=
 .ret ((a0,(2:Int),a1,a2,a3),())
theorem adu:bK prog f42=some ⟨14,4,dd42.er,[.cell 8 true 5],[some tG]⟩:=by kernel_rfl
noncomputable def ct42:Ct:=⟨42,[.c (.hole .str),.c (.hole .str),.c (.hole .str),hI],.c (.hole tG),fun x=>ai (F42 x.1 x.2.1 x.2.2.1 x.2.2.2.1)⟩
theorem Wk:ct42.Ok prog:=dX mixed Wj func42 adu (enters_of func42 rfl rfl) dd42 (by kernel_rfl) rfl (fun x=>by kernel_rfl)

/- 39 -/
noncomputable def cx39:Cx:=(aF [] [])
theorem Wl:cx39.Ok prog:=ag trivial trivial
noncomputable def dd39:D prog 8 none 0:=dO [] (kd prog f39) 0
noncomputable def F39 (a0:ByteArray) (a1:ByteArray):aY ((GG)×Unit) :=
 .ret ((a0,(3:Int),a1,(bs []),(0:Int)),())
theorem adv:bK prog f39=some ⟨8,2,dd39.er,[.cell 4 true 5],[some tG]⟩:=by kernel_rfl
noncomputable def ct39:Ct:=⟨39,[.c (.hole .str),.c (.hole .str)],.c (.hole tG),fun x=>ai (F39 x.1 x.2.1)⟩
theorem Wm:ct39.Ok prog:=dX mixed Wl func39 adv (enters_of func39 rfl rfl) dd39 (by kernel_rfl) rfl (fun x=>by kernel_rfl)

/- 46 -/
noncomputable def cx46:Cx:=(aF [adt,ct42,ct39] [])
theorem Wn:cx46.Ok prog:=ag ⟨Lx,Wk,Wm,trivial⟩ trivial
noncomputable def dd46:D prog 10 none 0:=dO [] (kd prog f46) 0
noncomputable def F46:aY ((List (GG))×Unit) :=
 .bd (F50 (bs [116,49]) (bs [97,110,97]) (40:Int)) fun y0 =>
 .bd (F50 (bs [116,50]) (bs [98,101,110]) (25:Int)) fun y1 =>
 .bd (F42 (bs [99,49]) (bs [116,49]) (bs [97,110,97]) (42:Int)) fun y2 =>
 .bd (F42 (bs [99,50]) (bs [116,49]) (bs [99,121]) (40:Int)) fun y3 =>
 .bd (F42 (bs [99,51]) (bs [99,49]) (bs [97,110,97]) (41:Int)) fun y4 =>
 .bd (F42 (bs [119,49]) (bs [120,57]) (bs [98,101,110]) (5:Int)) fun y5 =>
 .bd (F39 (bs [114,49]) (bs [99,49])) fun y6 =>
 .bd (F39 (bs [114,50]) (bs [99,50])) fun y7 =>
 .ret ((((((y0.1.1,y0.1.2.1,y0.1.2.2.1,y0.1.2.2.2.1,y0.1.2.2.2.2)::((y1.1.1,y1.1.2.1,y1.1.2.2.1,y1.1.2.2.2.1,y1.1.2.2.2.2)::((y2.1.1,y2.1.2.1,y2.1.2.2.1,y2.1.2.2.2.1,y2.1.2.2.2.2)::((y3.1.1,y3.1.2.1,y3.1.2.2.1,y3.1.2.2.2.1,y3.1.2.2.2.2)::((y4.1.1,y4.1.2.1,y4.1.2.2.1,y4.1.2.2.2.1,y4.1.2.2.2.2)::((y5.1.1,y5.1.2.1,y5.1.2.2.1,y5.1.2.2.2.1,y5.1.2.2.2.2)::((y6.1.1,y6.1.2.1,y6.1.2.2.1,y6.1.2.2.2.1,y6.1.2.2.2.2)::((y7.1.1,y7.1.2.1,y7.1.2.2.1,y7.1.2.2.2.1,y7.1.2.2.2.2)::[]))))))))).drop (0:Nat)).take (8:Nat)),())
theorem adw:bK prog f46=some ⟨10,0,dd46.er,[.t 0],[some (.list tG)]⟩:=by kernel_rfl
noncomputable def ct46:Ct:=⟨46,[],.c (.hole (.list tG)),fun x=>ai (F46)⟩
theorem Wo:ct46.Ok prog:=dX mixed Wn func46 adw (enters_of func46 rfl rfl) dd46 (by kernel_rfl) rfl (fun x=>by kernel_rfl)

/- 18, lent -/
@[reducible] def pH18:ah:=ah.mk [] [] [] []
@[reducible] def qH18:ah:=ah.mk [(0,.c (.ptr 0 0))] [(0,.cells [.mp 1] false),(1,.map tG true .bool false)] [.slot 0,.cell 0 0] []
noncomputable def agX:Cx:=(aF [] [])
theorem Sd:agX.Ok prog:=ag trivial trivial
noncomputable def aaS:D prog 4 none 0:=dO [] (kd prog f18) 0
noncomputable def FH18:aY ((List ((GG)×Bool))×Unit) :=
 .ret ([],())
theorem Wp:bK prog f18=some ⟨4,0,aaS.er,[.t 0],[none]⟩:=by kernel_rfl
noncomputable def Wq:Ht:=⟨18,pH18,qH18,(fun x=>ai (FH18))⟩
theorem Ca:Wq.Ok prog:=aM mixed Sd rfl func18 Wp (enters_of func18 rfl rfl) aaS (by kernel_rfl) rfl rfl ⟨_,rfl⟩ rfl (pre:=[]) rfl (fun x=>by kernel_rfl)

/- 54, lent -/
@[reducible] def pH54:ah:=ah.mk [(0,.c (.ptr 0 0))] [(0,.cells [.mp 1] false),(1,.map tG true .bool false)] [.slot 0,.cell 0 0] []
@[reducible] def qH54:ah:=ah.mk [(0,.c (.hole .bool))] [(0,.cells [.mp 1] false),(1,.map tG true .bool false)] [] []
noncomputable def agY:Cx:=(aF [] [])
theorem Se:agY.Ok prog:=ag trivial trivial
noncomputable def aaT:D prog 12 none 2:=dO [] (kd prog f54) 0
noncomputable def FH54 (m1:List ((GG)×Bool)):aY (Bool×(List ((GG)×Bool))×Unit) :=
 .ret (false,m1,())
theorem Wr:bK prog f54=some ⟨12,1,aaT.er,[.t 2],[some .bool]⟩:=by kernel_rfl
noncomputable def ql:Ht:=⟨54,pH54,qH54,(fun x=>ai (FH54 x.1))⟩
theorem fH:ql.Ok prog:=aM mixed Se rfl func54 Wr (enters_of func54 rfl rfl) aaT (by kernel_rfl) rfl rfl ⟨_,rfl⟩ rfl (pre:=[0,1]) rfl (fun x=>by kernel_rfl)

/- 65 -/
noncomputable def cx65:Cx:=(aF [] [])
theorem Lz:cx65.Ok prog:=ag trivial trivial
@[reducible] def ag0:ah:=ah.mk [(0,.c (.hole .str)),(6,.c (.hole (.list (.int .u8)))),(7,hI),(8,hI)] [] [] []
@[reducible] def ag1:aR:=[(.ret,ah.mk [(2,.c (.tf false))] [] [] []),(.exit 0,ah.mk [(0,.c (.hole .str))] [] [] [])]
noncomputable def ag2:D prog 40 none 0:=dO [] (pick (kd prog f65) [(0,false)]) 0
noncomputable def g65_0:ByteArray×List Int×Int×Int×Unit→aY ((ByteArray×List Int×Int×Int×Unit) ⊕ ((Unit) ⊕ ((ByteArray×Unit)))):=fun (v0,v6,v7,v8,_) =>
 .br (decide (v8<v7)) (
 .nb v8 (((v6).length:Nat):Int) <|
 .br (decide (((v6).getD (Int.toNat v8) (0:Int))<(97:Int))) (
 .br (v8==(0:Int)) (
 .ret (.inr <| .inl<|())) (
 .br (decide (((v6).getD (Int.toNat v8) (0:Int))<(48:Int))) (
 .ret (.inr <| .inl<|())) (
 .br (decide ((57:Int)<((v6).getD (Int.toNat v8) (0:Int)))) (
 .ret (.inr <| .inl<|())) (
 .ni (v8+(1:Int)) <|
 .ret (.inl (v0,v6,v7,(v8+(1:Int)),())))))) (
 .br (decide ((122:Int)<((v6).getD (Int.toNat v8) (0:Int)))) (
 .br (v8==(0:Int)) (
 .ret (.inr <| .inl<|())) (
 .br (decide (((v6).getD (Int.toNat v8) (0:Int))<(48:Int))) (
 .ret (.inr <| .inl<|())) (
 .br (decide ((57:Int)<((v6).getD (Int.toNat v8) (0:Int)))) (
 .ret (.inr <| .inl<|())) (
 .ni (v8+(1:Int)) <|
 .ret (.inl (v0,v6,v7,(v8+(1:Int)),())))))) (
 .ni (v8+(1:Int)) <|
 .ret (.inl (v0,v6,v7,(v8+(1:Int)),()))))) (
 .ret (.inr <| .inr<|(v0,())))
noncomputable def ag3:bL prog 40 none 0:=bp mixed cx65 Lz [] rfl ag0 ag1 rfl (ag2) (fun x=>ai (g65_0 x)) (fun x=>by kernel_rfl)
noncomputable def dd65:D prog 40 none 0:=dO [.l ag3] (kd prog f65) 0
noncomputable def F65 (a0:ByteArray):aY (Bool×Unit) :=
 .bd (.it g65_0 (a0,(gr a0),((((gr a0)).length:Nat):Int),(0:Int),())) fun z0 =>
 .sm z0 (fun z1 =>
 .ret (false,())) fun z2 =>
 .br (decide ((0:Int)<((z2.1.size:Nat):Int))) (
 .ret ((decide (((z2.1.size:Nat):Int)≤(10:Int))),())) (
 .ret (false,()))
theorem adx:bK prog f65=some ⟨40,1,dd65.er,[.t 2],[some .bool]⟩:=by kernel_rfl
noncomputable def IC:Ct:=⟨65,[.c (.hole .str)],.c (.hole .bool),fun x=>ai (F65 x.1)⟩
theorem oT:IC.Ok prog:=dX mixed Lz func65 adx (enters_of func65 rfl rfl) dd65 (by kernel_rfl) rfl (fun x=>by kernel_rfl)

/- 87 -/
noncomputable def cx87:Cx:=(aF [IC] [])
theorem Ws:cx87.Ok prog:=ag ⟨oT,trivial⟩ trivial
noncomputable def dd87:D prog 27 none 0:=dO [] (kd prog f87) 0
noncomputable def F87 (a0:GG):aY (Int×Unit) :=
 .br (a0.2.1==(1:Int)) (
 .br (!(seq a0.2.2.1 (bs []))) (
 .ret ((22:Int),())) (
 .br (a0.2.1==(1:Int)) (
 .ret ((0:Int),())) (
 .bd (F65 a0.2.2.1) fun y0 =>
 .br (!y0.1) (
 .ret ((8:Int),())) (
 .br (seq a0.2.2.1 a0.1) (
 .ret ((22:Int),())) (
 .ret ((0:Int),())))))) (
 .br (a0.2.1==(1:Int)) (
 .ret ((0:Int),())) (
 .bd (F65 a0.2.2.1) fun y1 =>
 .br (!y1.1) (
 .ret ((8:Int),())) (
 .br (seq a0.2.2.1 a0.1) (
 .ret ((22:Int),())) (
 .ret ((0:Int),())))))
theorem ady:bK prog f87=some ⟨27,1,dd87.er,[.t 2],[some tI]⟩:=by kernel_rfl
noncomputable def ct87:Ct:=⟨87,[.c (.hole tG)],hI,fun x=>ai (F87 x.1)⟩
theorem Wt:ct87.Ok prog:=dX mixed Ws func87 ady (enters_of func87 rfl rfl) dd87 (by kernel_rfl) rfl (fun x=>by kernel_rfl)

/- 88 -/
noncomputable def cx88:Cx:=(aF [IC] [])
theorem Wu:cx88.Ok prog:=ag ⟨oT,trivial⟩ trivial
noncomputable def dd88:D prog 35 none 0:=dO [] (kd prog f88) 0
noncomputable def F88 (a0:GG):aY (Int×Unit) :=
 .br (a0.2.1==(3:Int)) (
 .br (!(seq a0.2.2.2.1 (bs []))) (
 .ret ((22:Int),())) (
 .br (!(a0.2.2.2.2==(0:Int))) (
 .ret ((22:Int),())) (
 .br (a0.2.1==(3:Int)) (
 .ret ((0:Int),())) (
 .bd (F65 a0.2.2.2.1) fun y0 =>
 .br (!y0.1) (
 .ret ((8:Int),())) (
 .br (decide (a0.2.2.2.2<(-1000:Int))) (
 .ret ((2:Int),())) (
 .br (decide ((1000:Int)<a0.2.2.2.2)) (
 .ret ((2:Int),())) (
 .ret ((0:Int),())))))))) (
 .br (a0.2.1==(3:Int)) (
 .ret ((0:Int),())) (
 .bd (F65 a0.2.2.2.1) fun y1 =>
 .br (!y1.1) (
 .ret ((8:Int),())) (
 .br (decide (a0.2.2.2.2<(-1000:Int))) (
 .ret ((2:Int),())) (
 .br (decide ((1000:Int)<a0.2.2.2.2)) (
 .ret ((2:Int),())) (
 .ret ((0:Int),()))))))
theorem adz:bK prog f88=some ⟨35,1,dd88.er,[.t 2],[some tI]⟩:=by kernel_rfl
noncomputable def ct88:Ct:=⟨88,[.c (.hole tG)],hI,fun x=>ai (F88 x.1)⟩
theorem Wv:ct88.Ok prog:=dX mixed Wu func88 adz (enters_of func88 rfl rfl) dd88 (by kernel_rfl) rfl (fun x=>by kernel_rfl)

/- 86 -/
noncomputable def cx86:Cx:=(aF [] [])
theorem LA:cx86.Ok prog:=ag trivial trivial
@[reducible] def aha:ah:=ah.mk [(3,hI),(6,hL),(7,hI),(8,hI)] [] [] []
@[reducible] def ahb:aR:=[(.ret,ah.mk [(2,hI)] [] [] []),(.exit 0,ah.mk [(3,hI)] [] [] [])]
noncomputable def ahc:D prog 18 none 0:=dO [] (pick (kd prog f86) [(0,false)]) 0
noncomputable def g86_0:Int×List Int×Int×Int×Unit→aY ((Int×List Int×Int×Int×Unit) ⊕ ((Int×Unit) ⊕ ((Int×Unit)))):=fun (v3,v6,v7,v8,_) =>
 .br (decide (v8<v7)) (
 .nb v8 (((v6).length:Nat):Int) <|
 .br (!(((v6).getD (Int.toNat v8) (0:Int))==v3)) (
 .ret (.inr <| .inl<|(((v6).getD (Int.toNat v8) (0:Int)),()))) (
 .ni (v8+(1:Int)) <|
 .ret (.inl (v3,v6,v7,(v8+(1:Int)),())))) (
 .ret (.inr <| .inr<|(v3,())))
noncomputable def ahd:bL prog 18 none 0:=bp mixed cx86 LA [] rfl aha ahb rfl (ahc) (fun x=>ai (g86_0 x)) (fun x=>by kernel_rfl)
noncomputable def dd86:D prog 18 none 0:=dO [.l ahd] (kd prog f86) 0
noncomputable def F86 (a0:List Int):aY (Int×Unit) :=
 .bd (.it g86_0 ((0:Int),a0,(((a0).length:Nat):Int),(0:Int),())) fun z0 =>
 .sm z0 (fun z1 =>
 .ret (z1.1,())) fun z2 =>
 .ret (z2.1,())
theorem adA:bK prog f86=some ⟨18,1,dd86.er,[.t 2],[some tI]⟩:=by kernel_rfl
noncomputable def ct86:Ct:=⟨86,[hL],hI,fun x=>ai (F86 x.1)⟩
theorem Ww:ct86.Ok prog:=dX mixed LA func86 adA (enters_of func86 rfl rfl) dd86 (by kernel_rfl) rfl (fun x=>by kernel_rfl)

/- 55 -/
noncomputable def cx55:Cx:=(aF [IC,ct87,ct88,ct86] [])
theorem Wx:cx55.Ok prog:=ag ⟨oT,Wt,Wv,Ww,trivial⟩ trivial
noncomputable def dd55:D prog 23 none 0:=dO [] (kd prog f55) 0
noncomputable def F55 (a0:GG):aY (Int×Unit) :=
 .br (decide (a0.2.1<(1:Int))) (
 .ret ((18:Int),())) (
 .br (decide ((3:Int)<a0.2.1)) (
 .ret ((18:Int),())) (
 .bd (F65 a0.1) fun y0 =>
 .br (!y0.1) (
 .ret ((8:Int),())) (
 .bd (F87 (a0.1,a0.2.1,a0.2.2.1,a0.2.2.2.1,a0.2.2.2.2)) fun y1 =>
 .bd (F88 (a0.1,a0.2.1,a0.2.2.1,a0.2.2.2.1,a0.2.2.2.2)) fun y2 =>
 .bd (F86 ((((y1.1::(y2.1::[]))).drop (0:Nat)).take (2:Nat))) fun y3 =>
 .ret (y3.1,()))))
theorem adB:bK prog f55=some ⟨23,1,dd55.er,[.t 2],[some tI]⟩:=by kernel_rfl
noncomputable def Wy:Ct:=⟨55,[.c (.hole tG)],hI,fun x=>ai (F55 x.1)⟩
theorem Cb:Wy.Ok prog:=dX mixed Wx func55 adB (enters_of func55 rfl rfl) dd55 (by kernel_rfl) rfl (fun x=>by kernel_rfl)

/- 89, by hand -/
@[reducible] def pH89:ah:=ah.mk [(0,.c (.mp 0))] [(0,.map tG true .bool false)] [.slot 0] []
@[reducible] def qH89:ah:=ah.mk [(0,.c (.mp 1))] [(1,.map tG true .bool false),(0,.map tG true .bool false)] [.slot 0] []
noncomputable def FH89 (m0:List ((GG)×Bool)):aY ((List ((GG)×Bool))×(List ((GG)×Bool))×Unit) :=
 .ret (m0,m0,())
noncomputable def Sf:Ht:=⟨89,pH89,qH89,(fun x=>ai (FH89 x.1))⟩
theorem vm:Sf.Ok prog:=fun x y h=>by
  have h':some (x.1,x.1,())=some y:=h
  cases h'
  exact EH (ρ:=AN) agK (enters_of func89 rfl rfl)

/- 193, lent -/
@[reducible] def ahh:ah:=ah.mk [(0,.c (.hole tG))] [] [] []
@[reducible] def ahi:ah:=ah.mk [(0,.c (.cB 0 tG))] [(0,.arr tG false)] [.slot 0] []
noncomputable def adC:Cx:=(aF [] [])
theorem NT:adC.Ok prog:=ag trivial trivial
noncomputable def Sg:D prog 5 none 0:=dO [] (kd prog f193) 0
noncomputable def FH193 (v0:GG):aY (Nat×(List (GG))×Unit) :=
 .ret ((1:Nat),((v0.1,v0.2.1,v0.2.2.1,v0.2.2.2.1,v0.2.2.2.2)::[]),())
theorem Si:bK prog f193=some ⟨5,1,Sg.er,[.t 2],[some (.list tG)]⟩:=by kernel_rfl
noncomputable def Sj:Ht:=⟨193,ahh,ahi,(fun x=>ai (FH193 x.1))⟩
theorem ER:Sj.Ok prog:=aM mixed NT rfl func193 Si (enters_of func193 rfl rfl) Sg (by kernel_rfl) rfl rfl ⟨_,rfl⟩ rfl (pre:=[]) rfl (fun x=>by kernel_rfl)

/- 56, lent -/
@[reducible] def pH56:ah:=ah.mk [(0,.c (.ptr 0 0)),(1,.c (.ru 33 true (.cons (.hole .str) (.cons (.hole tI) (.cons (.hole .str) (.cons (.hole .str) (.cons (.hole tI) .nil)))))))] [(0,.cells [.mp 1] false),(1,.map tG true .bool false)] [.slot 0,.cell 0 0] []
@[reducible] def qH56:ah:=ah.mk [(0,hI)] [(0,.cells [.mp 2] false),(2,.map tG true .bool false)] [.cell 0 0] []
noncomputable def aaU:Cx:=(aF [] [Sf,Sj])
theorem ET:aaU.Ok prog:=ag trivial ⟨⟨vm,rfl⟩,⟨ER,rfl⟩,trivial⟩
@[reducible] def adD:ah:=ah.mk [(0,.c (.ptr 0 0)),(5,.c (.mp 2)),(14,.c (.cB 3 tG)),(15,hI),(16,hI)] [(0,.cells [.mp 1] false),(2,.map tG true .bool false),(3,.arr tG false),(1,.map tG true .bool false)] [.slot 5,.slot 14] []
@[reducible] def adE:aR:=[(.exit 0,ah.mk [(0,.c (.ptr 0 0)),(5,.c (.mp 2))] [(0,.cells [.mp 1] false),(2,.map tG true .bool false),(1,.map tG true .bool false)] [.slot 5] [])]
noncomputable def adF:D prog 30 none 2:=dO [] (pick (kd prog f56) [(0,false)]) 0
noncomputable def gH56_0:Nat×Int×Int×(List ((GG)×Bool))×(List (GG))×(List ((GG)×Bool))×Unit→aY ((Nat×Int×Int×(List ((GG)×Bool))×(List (GG))×(List ((GG)×Bool))×Unit) ⊕ (((List ((GG)×Bool))×(List ((GG)×Bool))×Unit))):=fun (Cc,NU,o9,m2,b3,m1,_) =>
 .br (decide (o9<NU)) (
 .nb o9 ((Cc:Nat):Int) <|
 .nd (decide (((0:Nat)+(Int.toNat o9))<(b3).length)) <|
 .ni (o9+(1:Int)) <|
 .ret (.inl (Cc,NU,(o9+(1:Int)),(aS (.prod .str (.prod (.int .i64) (.prod .str (.prod .str (.int .i64))))) m2 (((b3).getD ((0:Nat)+(Int.toNat o9)) ((bs []),(0:Int),(bs []),(bs []),(0:Int))).1,((b3).getD ((0:Nat)+(Int.toNat o9)) ((bs []),(0:Int),(bs []),(bs []),(0:Int))).2.1,((b3).getD ((0:Nat)+(Int.toNat o9)) ((bs []),(0:Int),(bs []),(bs []),(0:Int))).2.2.1,((b3).getD ((0:Nat)+(Int.toNat o9)) ((bs []),(0:Int),(bs []),(bs []),(0:Int))).2.2.2.1,((b3).getD ((0:Nat)+(Int.toNat o9)) ((bs []),(0:Int),(bs []),(bs []),(0:Int))).2.2.2.2) true),b3,m1,()))) (
 .ret (.inr (m2,m1,())))
noncomputable def adG:bL prog 30 none 2:=bp mixed aaU ET [0,1] rfl adD adE rfl (adF) (fun x=>ai (gH56_0 x)) (fun x=>by kernel_rfl)
noncomputable def aaV:D prog 30 none 2:=dO [.l adG] (kd prog f56) 0
noncomputable def FH56 (Wz:ByteArray) (WA:Int) (WB:ByteArray) (WC:ByteArray) (WD:Int) (m1:List ((GG)×Bool)):aY (Int×(List ((GG)×Bool))×Unit) :=
 .bd (FH89 m1) fun y0 =>
 .bd (FH193 (Wz,WA,WB,WC,WD)) fun y1 =>
 .bd (.it gH56_0 (y1.1,((y1.1:Nat):Int),(0:Int),y0.1,y1.2.1,y0.2.1,())) fun z2 =>
 .br (decide ((60:Int)<(((z2.1).length:Nat):Int))) (
 .ret ((15:Int),z2.2.1,())) (
 .ret ((0:Int),z2.1,()))
theorem WE:bK prog f56=some ⟨30,2,aaV.er,[.t 4],[some tI]⟩:=by kernel_rfl
noncomputable def ht56:Ht:=⟨56,pH56,qH56,(fun x=>ai (FH56 x.1 x.2.1 x.2.2.1 x.2.2.2.1 x.2.2.2.2.1 x.2.2.2.2.2.1))⟩
theorem WG:ht56.Ok prog:=aM mixed ET rfl func56 WE (enters_of func56 rfl rfl) aaV (by kernel_rfl) rfl rfl ⟨_,rfl⟩ rfl (pre:=[0,1]) rfl (fun x=>by kernel_rfl)

/- 20, lent -/
@[reducible] def pH20:ah:=ah.mk [(0,.c (.ptr 0 0)),(1,.c (.hole tG))] [(0,.cells [.mp 1] false),(1,.map tG true .bool false)] [.slot 0,.cell 0 0] []
@[reducible] def qH20:ah:=ah.mk [(0,hI)] [(0,.cells [.mp 2] false),(2,.map tG true .bool false)] [.cell 0 0] []
noncomputable def ahk:Cx:=(aF [Wy] [ql,ht56])
theorem Sk:ahk.Ok prog:=ag ⟨Cb,trivial⟩ ⟨⟨fH,rfl⟩,⟨WG,rfl⟩,trivial⟩
noncomputable def aaW:D prog 17 none 2:=dO [] (kd prog f20) 0
noncomputable def FH20 (v1:GG) (m1:List ((GG)×Bool)):aY (Int×(List ((GG)×Bool))×Unit) :=
 .bd (FH54 m1) fun y0 =>
 .br y0.1 (
 .ret ((9:Int),y0.2.1,())) (
 .bd (F55 (v1.1,v1.2.1,v1.2.2.1,v1.2.2.2.1,v1.2.2.2.2)) fun y1 =>
 .br (!(y1.1==(0:Int))) (
 .ret (y1.1,y0.2.1,())) (
 .bd (FH56 v1.1 v1.2.1 v1.2.2.1 v1.2.2.2.1 v1.2.2.2.2 y0.2.1) fun y2 =>
 .ret (y2.1,y2.2.1,())))
theorem WH:bK prog f20=some ⟨17,2,aaW.er,[.t 4],[some tI]⟩:=by kernel_rfl
noncomputable def WI:Ht:=⟨20,pH20,qH20,(fun x=>ai (FH20 x.1 x.2.1))⟩
theorem Cd:WI.Ok prog:=aM mixed Sk rfl func20 WH (enters_of func20 rfl rfl) aaW (by kernel_rfl) rfl rfl ⟨_,rfl⟩ rfl (pre:=[0,1]) rfl (fun x=>by kernel_rfl)

/- 29, lent -/
@[reducible] def pH29:ah:=ah.mk [(0,.c (.hole (.list tG)))] [] [] []
@[reducible] def qH29:ah:=ah.mk [(0,.c (.ptr 0 0))] [(0,.cells [.mp 1] false),(1,.map tG true .bool false)] [.slot 0,.cell 0 0] []
noncomputable def aaX:Cx:=(aF [] [Wq,WI])
theorem EU:aaX.Ok prog:=ag trivial ⟨⟨Ca,rfl⟩,⟨Cd,rfl⟩,trivial⟩
@[reducible] def adH:ah:=ah.mk [(0,.c (.hole (.list tG))),(3,.c (.ptr 0 0)),(4,hI)] [(0,.cells [.mp 1] false),(1,.map tG true .bool false)] [.slot 3,.cell 0 0] []
@[reducible] def adI:aR:=[(.exit 0,ah.mk [(3,.c (.ptr 0 0))] [(0,.cells [.mp 1] false),(1,.map tG true .bool false)] [.slot 3,.cell 0 0] [])]
noncomputable def adJ:D prog 19 none 0:=dO [] (pick (kd prog f29) [(0,false)]) 0
noncomputable def gH29_0:(List (GG))×Int×(List ((GG)×Bool))×Unit→aY (((List (GG))×Int×(List ((GG)×Bool))×Unit) ⊕ (((List ((GG)×Bool))×Unit))):=fun (v0,v4,m1,_) =>
 .br (decide (v4<(((v0).length:Nat):Int))) (
 .nb v4 (((v0).length:Nat):Int) <|
 .bd (FH20 (((v0).getD (Int.toNat v4) ((bs []),(0:Int),(bs []),(bs []),(0:Int))).1,((v0).getD (Int.toNat v4) ((bs []),(0:Int),(bs []),(bs []),(0:Int))).2.1,((v0).getD (Int.toNat v4) ((bs []),(0:Int),(bs []),(bs []),(0:Int))).2.2.1,((v0).getD (Int.toNat v4) ((bs []),(0:Int),(bs []),(bs []),(0:Int))).2.2.2.1,((v0).getD (Int.toNat v4) ((bs []),(0:Int),(bs []),(bs []),(0:Int))).2.2.2.2) m1) fun y1 =>
 .ni (v4+(1:Int)) <|
 .ret (.inl (v0,(v4+(1:Int)),y1.2.1,()))) (
 .ret (.inr (m1,())))
noncomputable def adK:bL prog 19 none 0:=bp mixed aaX EU [] rfl adH adI rfl (adJ) (fun x=>ai (gH29_0 x)) (fun x=>by kernel_rfl)
noncomputable def aaY:D prog 19 none 0:=dO [.l adK] (kd prog f29) 0
noncomputable def FH29 (v0:List (GG)):aY ((List ((GG)×Bool))×Unit) :=
 .bd (FH18) fun y0 =>
 .bd (.it gH29_0 (v0,(0:Int),y0.1,())) fun z2 =>
 .ret (z2.1,())
theorem WJ:bK prog f29=some ⟨19,1,aaY.er,[.t 2],[none]⟩:=by kernel_rfl
noncomputable def ht29:Ht:=⟨29,pH29,qH29,(fun x=>ai (FH29 x.1))⟩
theorem WK:ht29.Ok prog:=aM mixed EU rfl func29 WJ (enters_of func29 rfl rfl) aaY (by kernel_rfl) rfl rfl ⟨_,rfl⟩ rfl (pre:=[]) rfl (fun x=>by kernel_rfl)

/- 84, lent -/
@[reducible] def pH84:ah:=ah.mk [(0,.c (.mp 0))] [(0,.map tG true .bool false)] [.slot 0] []
@[reducible] def qH84:ah:=ah.mk [(0,.fn 111 [] [.ptr 1 0])] [(1,.cells [.mp 0] false),(0,.map tG true .bool false)] [.part 0 0] []
noncomputable def ahm:Cx:=(aF [] [])
theorem Sl:ahm.Ok prog:=ag trivial trivial
noncomputable def aaZ:D prog 4 none 1:=dO [] (kd prog f84) 0
noncomputable def FH84 (m0:List ((GG)×Bool)):aY ((List ((GG)×Bool))×Unit) :=
 .ret (m0,())
theorem WL:bK prog f84=some ⟨4,1,aaZ.er,[.t 2],[none]⟩:=by kernel_rfl
noncomputable def ht84:Ht:=⟨84,pH84,qH84,(fun x=>ai (FH84 x.1))⟩
theorem WM:ht84.Ok prog:=aM mixed Sl rfl func84 WL (enters_of func84 rfl rfl) aaZ (by kernel_rfl) rfl rfl ⟨_,rfl⟩ rfl (pre:=[0]) rfl (fun x=>by kernel_rfl)

/- 110, by hand -/
@[reducible] def aho:ah:=ah.mk [(0,.c (.cB 0 tG)),(1,.c (.fn0 85))] [(0,.arr tG false)] [.slot 0] []
@[reducible] def ahp:ah:=ah.mk [(0,.c .any)] [(0,.arr tG false)] [] []
noncomputable def FH110 (kD:Nat) (b0:List (GG)):aY ((List (GG))×Unit) :=
 .of (uK (.prod .str (.prod (.int .i64) (.prod .str (.prod .str (.int .i64))))) b0 kD)
noncomputable def Sm:Ht:=⟨110,aho,ahp,(fun x=>ai (FH110 x.1 x.2.1))⟩
theorem vn (a b:ByteArray):(seq a b=true)↔a=b:=by
  unfold seq
  rw [beq_iff_eq,Go.ByteArray.toList_eq,Go.ByteArray.toList_eq]
  obtain ⟨a⟩:=a;obtain ⟨b⟩:=b
  simp
def mV (a b:ByteArray):Int:=if slt a b=true then -1 else if a=b then 0 else 1
def pO (a b:Int):Int:=if a<b then -1 else if b<a then 1 else 0
def pe : List Int → Int
 |[]=>0
 |a::r=>if a=0 then pe r else a
theorem ahq (a:ByteArray):ai (F130 a)=some (false,()):=by
  have:seq a a=true:=(vn a a).2 rfl
  simp [F130,aa,this]
theorem ahr (a:Int):ai (F131 a)=some (false,()):=by simp [F131,aa]
theorem ahs (a b:ByteArray):ai (F113 a b)=some (mV a b,()):=by
  simp only [F113,az,ax,aa,ahq,aD,EO,mU,mV]
  cases h:slt a b
  · by_cases he : a = b
    · subst he;simp [(vn a a).2 rfl]
    · have : seq a b = false := by rw [← Bool.not_eq_true]; exact fun h => he ((vn a b).1 h)
      simp [this,he]
  · simp
theorem aht (a b:Int):ai (F114 a b)=some (pO a b,()):=by
  simp only [F114,az,ax,aa,ahr,aD,EO,bH,pO]
  repeat' split
  all_goals rfl
theorem ahu (l:List Int) (hl:l.length≤1000):ai (F112 l)=some (pe l,()):=by
  simp only [F112,az,bW,aa]
  refine bind_eq (bg l (fun k (_:Unit)=>((0:Int),l,((l.length:Nat):Int),(k:Int),())) (fun _ r=>if pe r=0 then .inr (0,()) else .inl (pe r,())) (fun _ _=>True) ?_ ?_ (s:=()) trivial) ?_
  · rintro pre x post _ hx -
    have hlen:l.length=pre.length+(post.length+1):=by rw [hx];simp
    have hd:l.getD pre.length 0=x:=by rw [hx];exact bD rfl
    have i1:fZ (pre.length:Int) ((l.length:Nat):Int)=true:=cD (by omega) (by omega)
    have r1:gZ .i64 ((pre.length:Int)+1)=true:=bh (by omega) (by omega)
    simp only [g112_0,ax,bQ,bu,bt,aa,Int.toNat_natCast,hd,i1,r1,aA,bH,bU,bO]
    rw [if_pos (by omega)]
    by_cases h:x=0
    · left
      refine ⟨(),?_,trivial,by simp [pe,h]⟩
      rw [if_pos h];rfl
    · right
      rw [if_neg h]
      have:pe (x::post)=x:=by simp [pe,h]
      rw [this,if_neg h]
  · rintro _ _
    simp only [g112_0,ax,bH,aa]
    rw [if_neg (by omega)]
    simp [pe]
  · by_cases h : pe l = 0
    · rw [if_pos h,h];rfl
    · rw [if_neg h];rfl
@[reducible] def Sn:Ty:=.prod .str (.prod tI (.prod .str (.prod .str tI)))
def xH (a b:Sn.den):Int:=pe [mV a.1 b.1,pO a.2.1 b.2.1,mV a.2.2.1 b.2.2.1,mV a.2.2.2.1 b.2.2.2.1,pO a.2.2.2.2 b.2.2.2.2]
theorem vo {a b:ByteArray}:mV a b=0↔a=b:=by
  unfold mV
  split
  · rename_i h
    constructor
    · intro h';omega
    · rintro rfl
      have:gy .str a a=true:=h
      rw [Lr (t:=.str) rfl] at this;cases this
  · split<;>simp_all
theorem Ce {a b:Int}:pO a b=0↔a=b:=by
  unfold pO
  repeat' split
  all_goals omega
theorem WN {a b:ByteArray}:mV a b<0↔gy .str a b=true:=by
  unfold mV
  split
  · rename_i h;simp only [gy];exact ⟨fun _=>h,fun _=>by omega⟩
  · rename_i h
    constructor
    · intro h';split at h'<;>omega
    · intro h';exact absurd h' h
theorem WO {a b:Int}:pO a b<0↔gy tI a b=true:=by
  have e:gy tI a b=decide (a<b):=rfl
  rw [e,decide_eq_true_eq]
  unfold pO
  repeat' split
  all_goals omega
theorem adL {c:Int} {r:List Int}:pe (c::r)<0↔c<0∨(c=0∧pe r<0):=by
  simp only [pe]
  split<;>omega
theorem WQ (a b:Sn.den):decide (xH a b<0)=gy Sn a b:=by
  have hS:∀x y:ByteArray,dx .str x y=true↔x=y:=fun x y=>⟨fun h=>bC h,fun h=>by subst h;exact jV (t:=.str) x rfl⟩
  have hI:∀x y:Int,dx tI x y=true↔x=y:=fun x y=>⟨fun h=>bC (t:=tI) h,fun h=>by subst h;exact jV (t:=tI) x rfl⟩
  rw [Bool.eq_iff_iff,decide_eq_true_eq]
  show _↔(gy .str a.1 b.1||(dx .str a.1 b.1&&(gy tI a.2.1 b.2.1||(dx tI a.2.1 b.2.1&&(gy .str a.2.2.1 b.2.2.1||(dx .str a.2.2.1 b.2.2.1&&(gy .str a.2.2.2.1 b.2.2.2.1||(dx .str a.2.2.2.1 b.2.2.2.1&&gy tI a.2.2.2.2 b.2.2.2.2))))))))=true
  have e:pe []<0↔False:=by simp [pe]
  unfold xH
  simp only [adL,e,and_false,or_false,vo,Ce,WN,WO,Bool.or_eq_true,Bool.and_eq_true,hS,hI]
theorem wq85 (a b:Sn.den):ai (F85 a b)=some (xH a b,()):=by
  have hq:∀x y:ByteArray,(x.toList=y.toList)↔x=y:=fun x y=>by rw [←vn];unfold seq;rw [beq_iff_eq]
  simp only [F85,ax,az,aa,ahs,aht,aD,mU]
  split
  · rename_i h
    simp only [Bool.and_eq_true,beq_iff_eq,and_true,hq] at h
    obtain ⟨h1,h2,h3,h4,h5⟩:=h
    have:xH a b=0:=by
      unfold xH
      simp only [pe,vo.2 h1,Ce.2 h2,vo.2 h3,vo.2 h4,Ce.2 h5,if_true]
    rw [this]
  · exact bind_eq (ahu [mV a.1 b.1,pO a.2.1 b.2.1,mV a.2.2.1 b.2.2.1,mV a.2.2.2.1 b.2.2.2.1,pO a.2.2.2.2 b.2.2.2.2] (by simp)) rfl
theorem Sq:Sm.Ok prog:=fun x y h =>
  V6 (ρ := xG) adm (enters_of func110 rfl rfl) (g := 85) (t := Sn) (ks := [.s, .i, .s, .s, .i]) rfl (by decide) (fun w => isAgg33 w) (fun w => sizeOf33 w) xH
    (fun a b=>Wh (a,b,()) (xH a b,()) (wq85 a b)) WQ (xs:=x.2.1) (n:=x.1) (y:=y) h

/- 83, lent -/
@[reducible] def pH83:ah:=ah.mk [(0,.fn 111 [] [.ptr 0 0]),(1,.c (.fn0 85))] [(0,.cells [.mp 1] false),(1,.map tG true .bool false)] [.part 0 0,.cell 0 0] []
@[reducible] def qH83:ah:=ah.mk [(0,.c (.cB 2 tG))] [(2,.arr tG false),(0,.cells [.mp 1] false),(1,.map tG true .bool false)] [.slot 0] []
noncomputable def vp:Cx:=(aF [] [Sm])
theorem qm:vp.Ok prog:=ag (sA:=[]) (hts:=[Sm]) trivial ⟨⟨Sq,rfl⟩,trivial⟩
noncomputable def mW:D prog 13 (some 4) 8:=dO [] (pick (kd prog f128) [(0,false)]) 0
noncomputable def mX:D prog 13 (some 4) 8:=dO [] (pick (kd prog f128) [(0,true)]) 0
noncomputable def gU:Cx:=uJ vp (fun kz=>NJ kz vp dN 4 8 [7] (mW) (mX))
theorem jh:(gU).Ok prog:=gF qm (fun h=>jU mixed qm h)
@[reducible] def rN:ah:=ah.mk [(0,.c (.yl 4)),(4,.c (.mp 1))] [(4,.loop .ready none 3 [(2,.c (.ptr 2 0)),(4,.c .bG),(6,.fn 111 [] [.ptr 0 0])] [7] (.aN [.op (some 5) none (.alloc [.str (ByteArray.mk (Array.mk [])),.int .i64 (Int.ofNat 0),.str (ByteArray.mk (Array.mk [])),.str (ByteArray.mk (Array.mk [])),.int .i64 (Int.ofNat 0)]),.op none none (.store 5 (.t 5) (.t 7))]) (.block 1 (.aN [.op (some 8) none (.load false 1 (.t 2)),.op (some 9) none (.load true 5 (.t 5)),.op (some 10) none (.dH tG [.t 9]),.op (some 11) none (.append 5 (.t 8) (.t 10)),.op none none (.store 1 (.t 2) (.t 11))])) 13),(1,.map tG true .bool false),(3,.ff),(2,.cells [.cB 5 tG] false),(0,.cells [.mp 1] false),(5,.arr tG false)] [.cell 2 0] []
noncomputable def rO:D prog 14 none 7:=dO [] (pick (kd prog f111) [(0,false)]) 0
noncomputable def gH83f109f128_0i_0:(((GG))×(Bool))→(List ((GG)×Bool))×Nat×(List (GG))×Unit→aY ((List ((GG)×Bool))×Nat×(List (GG))×Unit):=fun e (m1,jY,b5,_) =>
 .nd (decide ((jY+((((((e.1.1,e.1.2.1,e.1.2.2.1,e.1.2.2.2.1,e.1.2.2.2.2)::[])).drop (0:Nat)).take (1:Nat))).length)<cM)) <|
 .nd (eu m1 m1) <|
 .ret (m1,(jY+((((((e.1.1,e.1.2.1,e.1.2.2.1,e.1.2.2.2.1,e.1.2.2.2.2)::[])).drop (0:Nat)).take (1:Nat))).length),((((b5).drop (0:Nat)).take jY)++(((((e.1.1,e.1.2.1,e.1.2.2.1,e.1.2.2.2.1,e.1.2.2.2.2)::[])).drop (0:Nat)).take (1:Nat))),())
noncomputable def rP:o5 prog 14 none 5:=vj mixed gU jh [0,1,2,3,4] rfl rN ( [.op (some 4) none (.load false 1 (.t 1))]) 4 5 [6,7] (some 8) ( .prod .str (.prod tI (.prod .str (.prod .str tI))))  true ( .bool)  false 0 rfl 7 rfl (rO) (fun e x=>ai (gH83f109f128_0i_0 e x)) (fun e=>fun x=>by kernel_rfl)
@[reducible] def xI:ah:=ah.mk [(2,.c (.ptr 2 0)),(4,.c .bG),(6,.fn 111 [] [.ptr 0 0])] [(2,.cells [.bG] false),(0,.cells [.mp 1] false),(1,.map tG true .bool false)] [.slot 2] []
@[reducible] def xJ:aR:=[(.normal,ah.mk [(2,.c (.ptr 2 0))] [(2,.cells [.cB 3 tG] false),(0,.cells [.mp 1] false),(1,.map tG true .bool false),(3,.arr tG false)] [.slot 2,.cell 2 0] [])]
noncomputable def mY:D prog 14 none 5:=dO [.m rP] (kd prog f111) 0
theorem uM:bK prog f111=some ⟨14,2,(mY).er,[],[]⟩:=by kernel_rfl
noncomputable def nX:eL prog 13 none 2:=rJ mixed gU jh [0,1] rfl xI xJ ( .t 6) [7] rfl (mW).er (mX).er 111 func111 (uM) (enters_of func111 rfl rfl) 5 rfl (mY) rfl
@[reducible] noncomputable def WR:Go.AM.Fn:=⟨13,2,(dO [.r nX] (kd prog f128) 0:D prog 13 none 2).er,[.t 4],[some (.list tG)]⟩
noncomputable def LB:Cx:=AJ prog vp 128 WR 2 (dO [.r nX] (kd prog f128) 0)
theorem ID:LB.Ok prog:=rI mixed qm func128 (by kernel_rfl) (enters_of func128 rfl rfl) rfl
@[reducible] noncomputable def WS:Go.AM.Fn:=⟨5,1,(dO [] (kd prog f109) 0:D prog 5 none 0).er,[.t 2],[some (.list tG)]⟩
noncomputable def LC:Cx:=uL prog LB 109 WS (fun _=>dO [] (kd prog f109) 0)
theorem IE:LC.Ok prog:=ij mixed ID func109 (by kernel_rfl) (enters_of func109 rfl rfl) (fun _=>by kernel_rfl)
noncomputable def ahv:Cx:=LC
theorem Sr:ahv.Ok prog:=IE
noncomputable def aa0:D prog 12 none 2:=dO [] (kd prog f83) 0
noncomputable def FH83 (m1:List ((GG)×Bool)):aY (Nat×(List (GG))×(List ((GG)×Bool))×Unit) :=
 .an m1 fun l0 =>
 .bd (.fm gH83f109f128_0i_0 l0 (m1,(0:Nat),[],())) fun z1 =>
 .bd (FH110 z1.2.1 z1.2.2.1) fun y2 =>
 .ret (z1.2.1,y2.1,z1.1,())
theorem WT:bK prog f83=some ⟨12,2,aa0.er,[.t 4],[some (.list tG)]⟩:=by kernel_rfl
noncomputable def ht83:Ht:=⟨83,pH83,qH83,(fun x=>ai (FH83 x.1))⟩
theorem WU:ht83.Ok prog:=aM mixed Sr rfl func83 WT (enters_of func83 rfl rfl) aa0 (by kernel_rfl) rfl rfl ⟨_,rfl⟩ rfl (pre:=[0,1]) rfl (fun x=>by kernel_rfl)

/- 47, lent -/
@[reducible] def pH47:ah:=ah.mk [(0,.c (.ptr 0 0))] [(0,.cells [.mp 1] false),(1,.map tG true .bool false)] [.slot 0,.cell 0 0] []
@[reducible] def qH47:ah:=ah.mk [(0,.c (.cB 2 tG))] [(2,.arr tG false),(0,.cells [.mp 1] false),(1,.map tG true .bool false)] [.slot 0] []
noncomputable def ahx:Cx:=(aF [] [ql,ht84,ht83])
theorem Su:ahx.Ok prog:=ag trivial ⟨⟨fH,rfl⟩,⟨WM,rfl⟩,⟨WU,rfl⟩,trivial⟩
noncomputable def aa1:D prog 11 none 2:=dO [] (kd prog f47) 0
noncomputable def FH47 (m1:List ((GG)×Bool)):aY (Nat×(List (GG))×(List ((GG)×Bool))×Unit) :=
 .bd (FH54 m1) fun y0 =>
 .br y0.1 (
 .ret ((0:Nat),[],y0.2.1,())) (
 .bd (FH84 y0.2.1) fun y1 =>
 .bd (FH83 y1.1) fun y2 =>
 .ret (y2.1,y2.2.1,y2.2.2.1,()))
theorem WV:bK prog f47=some ⟨11,1,aa1.er,[.t 2],[some (.list tG)]⟩:=by kernel_rfl
noncomputable def Sv:Ht:=⟨47,pH47,qH47,(fun x=>ai (FH47 x.1))⟩
theorem vq:Sv.Ok prog:=aM mixed Su rfl func47 WV (enters_of func47 rfl rfl) aa1 (by kernel_rfl) rfl rfl ⟨_,rfl⟩ rfl (pre:=[0,1]) rfl (fun x=>by kernel_rfl)

/- 95, lent -/
@[reducible] def pH95:ah:=ah.mk [(0,.c (.mp 0))] [(0,.map .str false tG true)] [.slot 0] []
@[reducible] def qH95:ah:=ah.mk [(0,.fn 118 [] [.ptr 1 0])] [(1,.cells [.mp 0] false),(0,.map .str false tG true)] [.part 0 0] []
noncomputable def ahy:Cx:=(aF [] [])
theorem Sw:ahy.Ok prog:=ag trivial trivial
noncomputable def aa2:D prog 4 none 1:=dO [] (kd prog f95) 0
noncomputable def FH95 (m0:bF):aY (bF×Unit) :=
 .ret (m0,())
theorem WW:bK prog f95=some ⟨4,1,aa2.er,[.t 2],[none]⟩:=by kernel_rfl
noncomputable def Cf:Ht:=⟨95,pH95,qH95,(fun x=>ai (FH95 x.1))⟩
theorem kR:Cf.Ok prog:=aM mixed Sw rfl func95 WW (enters_of func95 rfl rfl) aa2 (by kernel_rfl) rfl rfl ⟨_,rfl⟩ rfl (pre:=[0]) rfl (fun x=>by kernel_rfl)

/- 105, by hand -/
@[reducible] def ahz:ah:=ah.mk [(0,.c (.cB 0 .str))] [(0,.arr .str false)] [.slot 0] []
@[reducible] def ahA:ah:=ah.mk [(0,.c .any)] [(0,.arr .str false)] [] []
noncomputable def FH105 (kD:Nat) (b0:List ByteArray):aY (List ByteArray×Unit) :=
 .of (uK .str b0 kD)
noncomputable def AO:Ht:=⟨105,ahz,ahA,(fun x=>ai (FH105 x.1 x.2.1))⟩
theorem xK:AO.Ok prog:=fun x y h=>RN (ρ:=xE) adk (enters_of func105 rfl rfl) (xs:=x.2.1) (n:=x.1) (y:=y) h

/- 81, lent -/
@[reducible] def pH81:ah:=ah.mk [(0,.fn 118 [] [.ptr 0 0])] [(0,.cells [.mp 1] false),(1,.map .str false tG true)] [.part 0 0,.cell 0 0] []
@[reducible] def qH81:ah:=ah.mk [(0,.c (.cB 2 .str))] [(2,.arr .str false),(0,.cells [.mp 1] false),(1,.map .str false tG true)] [.slot 0] []
noncomputable def vr:Cx:=(aF [] [AO])
theorem qn:vr.Ok prog:=ag (sA:=[]) (hts:=[AO]) trivial ⟨⟨xK,rfl⟩,trivial⟩
noncomputable def mZ:D prog 13 (some 4) 7:=dO [] (pick (kd prog f126) [(0,false)]) 0
noncomputable def nc:D prog 13 (some 4) 7:=dO [] (pick (kd prog f126) [(0,true)]) 0
noncomputable def gV:Cx:=uJ vr (fun kz=>NJ kz vr dN 4 7 [7] (mZ) (nc))
theorem ji:(gV).Ok prog:=gF qn (fun h=>jU mixed qn h)
@[reducible] def rQ:ah:=ah.mk [(0,.c (.yl 4)),(4,.c (.mp 1))] [(4,.loop .ready none 3 [(2,.c (.ptr 2 0)),(4,.c .bG),(6,.fn 118 [] [.ptr 0 0])] [7] (.aN [.op (some 5) none (.mv (.t 7))]) (.block 1 (.aN [.op (some 8) none (.load false 1 (.t 2)),.op (some 9) none (.mv (.t 5)),.op (some 10) none (.dH .str [.t 9]),.op (some 11) none (.append 1 (.t 8) (.t 10)),.op none none (.store 1 (.t 2) (.t 11))])) 13),(1,.map .str false tG true),(3,.ff),(2,.cells [.cB 5 .str] false),(0,.cells [.mp 1] false),(5,.arr .str false)] [.cell 2 0] []
noncomputable def rR:D prog 14 none 7:=dO [] (pick (kd prog f118) [(0,false)]) 0
noncomputable def gH81f107f126_0i_0:((ByteArray)×(GG))→bF×Nat×List ByteArray×Unit→aY (bF×Nat×List ByteArray×Unit):=fun e (m1,jY,b5,_) =>
 .nd (decide ((jY+(((((e.1::[])).drop (0:Nat)).take (1:Nat))).length)<cM)) <|
 .nd (eu m1 m1) <|
 .ret (m1,(jY+(((((e.1::[])).drop (0:Nat)).take (1:Nat))).length),((((b5).drop (0:Nat)).take jY)++((((e.1::[])).drop (0:Nat)).take (1:Nat))),())
noncomputable def rS:o5 prog 14 none 5:=vj mixed gV ji [0,1,2,3,4] rfl rQ ( [.op (some 4) none (.load false 1 (.t 1))]) 4 5 [6,7] (some 8) ( .str)  false ( .prod .str (.prod tI (.prod .str (.prod .str tI))))  true 0 rfl 7 rfl (rR) (fun e x=>ai (gH81f107f126_0i_0 e x)) (fun e=>fun x=>by kernel_rfl)
@[reducible] def xL:ah:=ah.mk [(2,.c (.ptr 2 0)),(4,.c .bG),(6,.fn 118 [] [.ptr 0 0])] [(2,.cells [.bG] false),(0,.cells [.mp 1] false),(1,.map .str false tG true)] [.slot 2] []
@[reducible] def xM:aR:=[(.normal,ah.mk [(2,.c (.ptr 2 0))] [(2,.cells [.cB 3 .str] false),(0,.cells [.mp 1] false),(1,.map .str false tG true),(3,.arr .str false)] [.slot 2,.cell 2 0] [])]
noncomputable def nh:D prog 14 none 5:=dO [.m rS] (kd prog f118) 0
theorem uN:bK prog f118=some ⟨14,2,(nh).er,[],[]⟩:=by kernel_rfl
noncomputable def nY:eL prog 13 none 2:=rJ mixed gV ji [0,1] rfl xL xM ( .t 6) [7] rfl (mZ).er (nc).er 118 func118 (uN) (enters_of func118 rfl rfl) 5 rfl (nh) rfl
@[reducible] noncomputable def WX:Go.AM.Fn:=⟨13,2,(dO [.r nY] (kd prog f126) 0:D prog 13 none 2).er,[.t 4],[some (.list .str)]⟩
noncomputable def LD:Cx:=AJ prog vr 126 WX 2 (dO [.r nY] (kd prog f126) 0)
theorem IF:LD.Ok prog:=rI mixed qn func126 (by kernel_rfl) (enters_of func126 rfl rfl) rfl
@[reducible] noncomputable def WY:Go.AM.Fn:=⟨5,1,(dO [] (kd prog f107) 0:D prog 5 none 0).er,[.t 2],[some (.list .str)]⟩
noncomputable def LF:Cx:=uL prog LD 107 WY (fun _=>dO [] (kd prog f107) 0)
theorem IG:LF.Ok prog:=ij mixed IF func107 (by kernel_rfl) (enters_of func107 rfl rfl) (fun _=>by kernel_rfl)
noncomputable def ahB:Cx:=LF
theorem Sx:ahB.Ok prog:=IG
noncomputable def aa3:D prog 9 none 2:=dO [] (kd prog f81) 0
noncomputable def FH81 (m1:bF):aY (Nat×List ByteArray×bF×Unit) :=
 .an m1 fun l0 =>
 .bd (.fm gH81f107f126_0i_0 l0 (m1,(0:Nat),[],())) fun z1 =>
 .bd (FH105 z1.2.1 z1.2.2.1) fun y2 =>
 .ret (z1.2.1,y2.1,z1.1,())
theorem WZ:bK prog f81=some ⟨9,1,aa3.er,[.t 2],[some (.list .str)]⟩:=by kernel_rfl
noncomputable def Cg:Ht:=⟨81,pH81,qH81,(fun x=>ai (FH81 x.1))⟩
theorem kU:Cg.Ok prog:=aM mixed Sx rfl func81 WZ (enters_of func81 rfl rfl) aa3 (by kernel_rfl) rfl rfl ⟨_,rfl⟩ rfl (pre:=[0,1]) rfl (fun x=>by kernel_rfl)

/- 98, lent -/
@[reducible] def pH98:ah:=ah.mk [(0,.c (.hole (.list .str)))] [] [] []
@[reducible] def qH98:ah:=ah.mk [(0,.c (.cB 0 .str))] [(0,.arr .str false)] [.slot 0] []
noncomputable def ahC:Cx:=(aF [] [])
theorem Sy:ahC.Ok prog:=ag trivial trivial
noncomputable def aa4:D prog 8 none 0:=dO [] (kd prog f98) 0
noncomputable def FH98 (v0:List ByteArray):aY (Nat×List ByteArray×Unit) :=
 .br ((((v0).length:Nat):Int)==(0:Int)) (
 .am inferInstance (
 .ret ((0:Nat),[],())) (
 .nd (decide (((0:Nat)+(v0).length)<cM)) <|
 .ret (((0:Nat)+(v0).length),(((([]).drop (0:Nat)).take (0:Nat))++v0),()))) (
 .nd (decide (((0:Nat)+(v0).length)<cM)) <|
 .ret (((0:Nat)+(v0).length),(((([]).drop (0:Nat)).take (0:Nat))++v0),()))
theorem W0:bK prog f98=some ⟨8,1,aa4.er,[.t 2],[some (.list .str)]⟩:=by kernel_rfl
noncomputable def Sz:Ht:=⟨98,pH98,qH98,(fun x=>ai (FH98 x.1))⟩
theorem vu:Sz.Ok prog:=aM mixed Sy rfl func98 W0 (enters_of func98 rfl rfl) aa4 (by kernel_rfl) rfl rfl ⟨_,rfl⟩ rfl (pre:=[]) rfl (fun x=>by kernel_rfl)

/- 99, lent -/
@[reducible] def pH99:ah:=ah.mk [(0,.c (.hole .str)),(1,.c (.ptr 0 0))] [(0,.cells [.ptr 1 0] false),(1,.cells [.mp 2,.mp 3,.mp 4,.mp 5] false),(2,.map .str false tG true),(3,.map .str false (.list .str) false),(4,.map .str false .bool false),(5,.map .str false .bool false)] [.slot 1,.cell 0 0,.cell 1 0,.cell 1 1,.cell 1 2,.cell 1 3] []
@[reducible] def qH99:ah:=ah.mk [(0,.c (.hole .bool))] [(0,.cells [.ptr 1 0] false),(1,.cells [.mp 2,.mp 3,.mp 4,.mp 5] false),(2,.map .str false tG true),(3,.map .str false (.list .str) false),(4,.map .str false .bool false),(5,.map .str false .bool false)] [] []
noncomputable def ahD:Cx:=(aF [] [])
theorem SA:ahD.Ok prog:=ag trivial trivial
noncomputable def aa5:D prog 11 none 6:=dO [] (kd prog f99) 0
noncomputable def FH99 (v0:ByteArray) (m2:bF) (m3:bI) (m4:aJ) (m5:aJ):aY (Bool×bF×bI×aJ×aJ×Unit) :=
 .ret ((!(ak .str false m4 v0)),m2,m3,m4,m5,())
theorem W1:bK prog f99=some ⟨11,2,aa5.er,[.t 3],[some .bool]⟩:=by kernel_rfl
noncomputable def adM:Ht:=⟨99,pH99,qH99,(fun x=>ai (FH99 x.1 x.2.1 x.2.2.1 x.2.2.2.1 x.2.2.2.2.1))⟩
theorem LG:adM.Ok prog:=aM mixed SA rfl func99 W1 (enters_of func99 rfl rfl) aa5 (by kernel_rfl) rfl rfl ⟨_,rfl⟩ rfl (pre:=[0,1,2,3,4,5]) rfl (fun x=>by kernel_rfl)

/- 119, lent -/
@[reducible] def ahE:ah:=ah.mk [(0,.c (.cB 0 .str)),(1,.fn 99 [] [.ptr 1 0])] [(0,.arr .str false),(1,.cells [.ptr 2 0] false),(2,.cells [.mp 3,.mp 4,.mp 5,.mp 6] false),(3,.map .str false tG true),(4,.map .str false (.list .str) false),(5,.map .str false .bool false),(6,.map .str false .bool false)] [.slot 0,.part 1 0,.cell 1 0,.cell 2 0,.cell 2 1,.cell 2 2,.cell 2 3] []
@[reducible] def ahF:ah:=ah.mk [(0,hI)] [(1,.cells [.ptr 2 0] false),(2,.cells [.mp 3,.mp 4,.mp 5,.mp 6] false),(3,.map .str false tG true),(4,.map .str false (.list .str) false),(5,.map .str false .bool false),(6,.map .str false .bool false),(0,.arr .str false)] [] []
noncomputable def SB:Cx:=(aF [] [adM])
theorem AP:SB.Ok prog:=ag trivial ⟨⟨LG,rfl⟩,trivial⟩
@[reducible] def W2:ah:=ah.mk [(0,.c (.cB 0 .str)),(1,.fn 99 [] [.ptr 1 0]),(7,hI),(8,hI)] [(0,.arr .str false),(1,.cells [.ptr 2 0] false),(2,.cells [.mp 3,.mp 4,.mp 5,.mp 6] false),(3,.map .str false tG true),(4,.map .str false (.list .str) false),(5,.map .str false .bool false),(6,.map .str false .bool false)] [] []
@[reducible] def W3:aR:=[(.ret,ah.mk [(4,hI)] [(1,.cells [.ptr 2 0] false),(2,.cells [.mp 3,.mp 4,.mp 5,.mp 6] false),(3,.map .str false tG true),(4,.map .str false (.list .str) false),(5,.map .str false .bool false),(6,.map .str false .bool false),(0,.arr .str false)] [] []),(.exit 0,ah.mk [] [(1,.cells [.ptr 2 0] false),(2,.cells [.mp 3,.mp 4,.mp 5,.mp 6] false),(3,.map .str false tG true),(4,.map .str false (.list .str) false),(5,.map .str false .bool false),(6,.map .str false .bool false),(0,.arr .str false)] [] [])]
noncomputable def W4:D prog 19 none 7:=dO [] (pick (kd prog f119) [(0,false)]) 0
noncomputable def gH119_0:Nat×Int×Int×List ByteArray×bF×bI×aJ×aJ×Unit→aY ((Nat×Int×Int×List ByteArray×bF×bI×aJ×aJ×Unit) ⊕ ((Int×bF×bI×aJ×aJ×List ByteArray×Unit) ⊕ ((bF×bI×aJ×aJ×List ByteArray×Unit)))):=fun (kD,v7,v8,b0,m3,m4,m5,m6,_) =>
 .br (decide (v8<v7)) (
 .nb v8 ((kD:Nat):Int) <|
 .nd (decide (((0:Nat)+(Int.toNat v8))<(b0).length)) <|
 .bd (FH99 ((b0).getD ((0:Nat)+(Int.toNat v8)) (bs [])) m3 m4 m5 m6) fun y0 =>
 .br y0.1 (
 .ret (.inr <| .inl<|(v8,y0.2.1,y0.2.2.1,y0.2.2.2.1,y0.2.2.2.2.1,b0,()))) (
 .ni (v8+(1:Int)) <|
 .ret (.inl (kD,v7,(v8+(1:Int)),b0,y0.2.1,y0.2.2.1,y0.2.2.2.1,y0.2.2.2.2.1,())))) (
 .ret (.inr <| .inr<|(m3,m4,m5,m6,b0,())))
noncomputable def W5:bL prog 19 none 7:=bp mixed SB AP [0,1,2,3,4,5,6] rfl W2 W3 rfl (W4) (fun x=>ai (gH119_0 x)) (fun x=>by kernel_rfl)
noncomputable def SC:D prog 19 none 7:=dO [.l W5] (kd prog f119) 0
noncomputable def FH119 (kD:Nat) (b0:List ByteArray) (m3:bF) (m4:bI) (m5:aJ) (m6:aJ):aY (Int×bF×bI×aJ×aJ×List ByteArray×Unit) :=
 .bd (.it gH119_0 (kD,((kD:Nat):Int),(0:Int),b0,m3,m4,m5,m6,())) fun z1 =>
 .sm z1 (fun z2 =>
 .ret (z2.1,z2.2.1,z2.2.2.1,z2.2.2.2.1,z2.2.2.2.2.1,z2.2.2.2.2.2.1,())) fun z3 =>
 .ret ((-1:Int),z3.1,z3.2.1,z3.2.2.1,z3.2.2.2.1,z3.2.2.2.2.1,())
theorem SD:bK prog f119=some ⟨19,2,SC.er,[.t 4],[some tI]⟩:=by kernel_rfl
noncomputable def aa6:Ht:=⟨119,ahE,ahF,(fun x=>ai (FH119 x.1 x.2.1 x.2.2.1 x.2.2.2.1 x.2.2.2.2.1 x.2.2.2.2.2.1))⟩
theorem SE:aa6.Ok prog:=aM mixed AP rfl func119 SD (enters_of func119 rfl rfl) SC (by kernel_rfl) rfl rfl ⟨_,rfl⟩ rfl (pre:=[0,1,2,3,4,5,6]) rfl (fun x=>by kernel_rfl)

/- 97, lent -/
@[reducible] def pH97:ah:=ah.mk [(0,.c (.cB 0 .str)),(1,.fn 99 [] [.ptr 1 0])] [(0,.arr .str false),(1,.cells [.ptr 2 0] false),(2,.cells [.mp 3,.mp 4,.mp 5,.mp 6] false),(3,.map .str false tG true),(4,.map .str false (.list .str) false),(5,.map .str false .bool false),(6,.map .str false .bool false)] [.slot 0,.part 1 0,.cell 1 0,.cell 2 0,.cell 2 1,.cell 2 2,.cell 2 3] []
@[reducible] def qH97:ah:=ah.mk [(0,.c (.PU 0 .str))] [(0,.arr .str false),(1,.cells [.ptr 2 0] false),(2,.cells [.mp 3,.mp 4,.mp 5,.mp 6] false),(3,.map .str false tG true),(4,.map .str false (.list .str) false),(5,.map .str false .bool false),(6,.map .str false .bool false)] [] []
noncomputable def aa7:Cx:=(aF [] [aa6,adM])
theorem EW:aa7.Ok prog:=ag trivial ⟨⟨SE,rfl⟩,⟨LG,rfl⟩,trivial⟩
@[reducible] def adN:ah:=ah.mk [(0,.c (.cB 0 .str)),(1,.fn 99 [] [.ptr 1 0]),(5,hI),(6,hI)] [(0,.arr .str false),(1,.cells [.ptr 2 0] false),(2,.cells [.mp 3,.mp 4,.mp 5,.mp 6] false),(3,.map .str false tG true),(4,.map .str false (.list .str) false),(5,.map .str false .bool false),(6,.map .str false .bool false)] [] []
@[reducible] def adO:aR:=[(.exit 0,ah.mk [(0,.c (.cB 0 .str)),(5,hI)] [(0,.arr .str false),(1,.cells [.ptr 2 0] false),(2,.cells [.mp 3,.mp 4,.mp 5,.mp 6] false),(3,.map .str false tG true),(4,.map .str false (.list .str) false),(5,.map .str false .bool false),(6,.map .str false .bool false)] [] [])]
noncomputable def adP:D prog 42 none 7:=dO [] (pick (kd prog f97) [(0,false)]) 0
noncomputable def gH97_0:Nat×Int×Int×List ByteArray×bF×bI×aJ×aJ×Unit→aY ((Nat×Int×Int×List ByteArray×bF×bI×aJ×aJ×Unit) ⊕ ((Nat×Int×List ByteArray×bF×bI×aJ×aJ×Unit))):=fun (kD,v5,v6,b0,m3,m4,m5,m6,_) =>
 .br (decide (v6<((kD:Nat):Int))) (
 .nb v6 ((kD:Nat):Int) <|
 .nd (decide (((0:Nat)+(Int.toNat v6))<(b0).length)) <|
 .bd (FH99 ((b0).getD ((0:Nat)+(Int.toNat v6)) (bs [])) m3 m4 m5 m6) fun y1 =>
 .br (!y1.1) (
 .nb v5 ((kD:Nat):Int) <|
 .nd (decide (((0:Nat)+(Int.toNat v5))<(b0).length)) <|
 .ni (v5+(1:Int)) <|
 .ni (v6+(1:Int)) <|
 .ret (.inl (kD,(v5+(1:Int)),(v6+(1:Int)),((b0).set ((0:Nat)+(Int.toNat v5)) ((b0).getD ((0:Nat)+(Int.toNat v6)) (bs []))),y1.2.1,y1.2.2.1,y1.2.2.2.1,y1.2.2.2.2.1,()))) (
 .ni (v6+(1:Int)) <|
 .ret (.inl (kD,v5,(v6+(1:Int)),b0,y1.2.1,y1.2.2.1,y1.2.2.2.1,y1.2.2.2.2.1,())))) (
 .ret (.inr (kD,v5,b0,m3,m4,m5,m6,())))
noncomputable def adQ:bL prog 42 none 7:=bp mixed aa7 EW [0,1,2,3,4,5,6] rfl adN adO rfl (adP) (fun x=>ai (gH97_0 x)) (fun x=>by kernel_rfl)
noncomputable def aa8:D prog 42 none 7:=dO [.l adQ] (kd prog f97) 0
noncomputable def FH97 (kD:Nat) (b0:List ByteArray) (m3:bF) (m4:bI) (m5:aJ) (m6:aJ):aY (Nat×Nat×List ByteArray×bF×bI×aJ×aJ×Unit) :=
 .bd (FH119 kD b0 m3 m4 m5 m6) fun y0 =>
 .br (y0.1==(-1:Int)) (
 .ret ((0:Nat),kD,y0.2.2.2.2.2.1,y0.2.1,y0.2.2.1,y0.2.2.2.1,y0.2.2.2.2.1,())) (
 .ni (y0.1+(1:Int)) <|
 .bd (.it gH97_0 (kD,y0.1,(y0.1+(1:Int)),y0.2.2.2.2.2.1,y0.2.1,y0.2.2.1,y0.2.2.2.1,y0.2.2.2.2.1,())) fun z2 =>
 .nd (decide ((0:Int)≤z2.2.1)) <|
 .nd (decide (z2.2.1≤((z2.1:Nat):Int))) <|
 .nd (decide (((z2.1:Nat):Int)≤((z2.1:Nat):Int))) <|
 .nd (decide ((0:Int)≤(0:Int))) <|
 .nd (decide ((0:Int)≤z2.2.1)) <|
 .nd (decide (z2.2.1≤((z2.1:Nat):Int))) <|
 .ret (((0:Nat)+(Int.toNat (0:Int))),((Int.toNat z2.2.1) - (Int.toNat (0:Int))),(A5 (bs []) z2.2.2.1 ((0:Nat)+(Int.toNat z2.2.1)) ((Int.toNat ((z2.1:Nat):Int)) - (Int.toNat z2.2.1))),z2.2.2.2.1,z2.2.2.2.2.1,z2.2.2.2.2.2.1,z2.2.2.2.2.2.2.1,()))
theorem W6:bK prog f97=some ⟨42,2,aa8.er,[.t 4],[some (.list .str)]⟩:=by kernel_rfl
noncomputable def W7:Ht:=⟨97,pH97,qH97,(fun x=>ai (FH97 x.1 x.2.1 x.2.2.1 x.2.2.2.1 x.2.2.2.2.1 x.2.2.2.2.2.1))⟩
theorem Ch:W7.Ok prog:=aM mixed EW rfl func97 W6 (enters_of func97 rfl rfl) aa8 (by kernel_rfl) rfl rfl ⟨_,rfl⟩ rfl (pre:=[0,1,2,3,4,5,6]) rfl (fun x=>by kernel_rfl)

/- 96, lent -/
@[reducible] def jZ:ah:=ah.mk [(0,.c (.hole .str)),(1,.c (.ptr 0 0)),(2,.c (.ptr 1 0))] [(0,.cells [.ptr 2 0] false),(1,.cells [.fn 96 .nil (.cons (.ptr 0 0) (.cons (.ptr 1 0) .nil))] false),(2,.cells [.mp 3,.mp 4,.mp 5,.mp 6] false),(3,.map .str false tG true),(4,.map .str false (.list .str) false),(5,.map .str false .bool false),(6,.map .str false .bool false)] [.slot 1,.slot 2,.cell 0 0,.cell 2 0,.cell 2 1,.cell 2 2,.cell 2 3] []
@[reducible] def j4:ah:=ah.mk [(0,.c .any)] [(0,.cells [.ptr 2 0] false),(2,.cells [.mp 3,.mp 4,.mp 5,.mp 6] false),(3,.map .str false tG true),(4,.map .str false (.list .str) false),(5,.map .str false .bool false),(6,.map .str false .bool false),(1,.cells [.fn 96 .nil (.cons (.ptr 0 0) (.cons (.ptr 1 0) .nil))] false)] [] []
noncomputable def SF (rec:jZ.T→Option j4.T):Cx:=(aF [] [⟨96,jZ,j4,rec⟩])
theorem EX (rec:jZ.T→Option j4.T) (h:Ht.Ok prog ⟨96,jZ,j4,rec⟩):(SF rec).Ok prog:=ag trivial ⟨⟨h,rfl⟩,trivial⟩
@[reducible] def II:ah:=ah.mk [(2,.c (.ptr 1 0)),(22,.c (.hole (.list .str))),(23,hI),(24,hI)] [(1,.cells [.fn 96 .nil (.cons (.ptr 0 0) (.cons (.ptr 1 0) .nil))] false),(0,.cells [.ptr 2 0] false),(2,.cells [.mp 3,.mp 4,.mp 5,.mp 6] false),(3,.map .str false tG true),(4,.map .str false (.list .str) false),(5,.map .str false .bool false),(6,.map .str false .bool false)] [] []
@[reducible] def IJ:aR:=[(.exit 0,ah.mk [] [(0,.cells [.ptr 2 0] false),(2,.cells [.mp 3,.mp 4,.mp 5,.mp 6] false),(3,.map .str false tG true),(4,.map .str false (.list .str) false),(5,.map .str false .bool false),(6,.map .str false .bool false),(1,.cells [.fn 96 .nil (.cons (.ptr 0 0) (.cons (.ptr 1 0) .nil))] false)] [] [])]
noncomputable def SG (rec:jZ.T→Option j4.T) (h:Ht.Ok prog ⟨96,jZ,j4,rec⟩):D prog 32 none 7:=dO [] (pick (kd prog f96) [(0,false)]) 0
noncomputable def gH96_0:List ByteArray×Int×Int×bF×bI×aJ×aJ×Unit→Tr jZ.T j4.T ((List ByteArray×Int×Int×bF×bI×aJ×aJ×Unit) ⊕ ((bF×bI×aJ×aJ×Unit))):=fun (v22,v23,v24,m3,m4,m5,m6,_) =>
 .br (decide (v24<v23)) (
 .nb v24 (((v22).length:Nat):Int) <|
 .bd (.rc (((v22).getD (Int.toNat v24) (bs [])),m3,m4,m5,m6,())) fun y0 =>
 .ni (v24+(1:Int)) <|
 .ret (.inl (v22,v23,(v24+(1:Int)),y0.1,y0.2.1,y0.2.2.1,y0.2.2.2.1,()))) (
 .ret (.inr (m3,m4,m5,m6,())))
theorem adR (rec:jZ.T→Option j4.T) (h:Ht.Ok prog ⟨96,jZ,j4,rec⟩):∀x,BT (iN (II.T ⊕ IJ.T)) (SF rec) dN [0,1,2,3,4,5,6] II IJ (SG rec h) (fun y=>some (.inl y)) (fun b=>some (.inr b)) x=run rec (gH96_0 x):=fun x=>by kernel_rfl
noncomputable def adS (rec:jZ.T→Option j4.T) (h:Ht.Ok prog ⟨96,jZ,j4,rec⟩):bL prog 32 none 7:=bp mixed (SF rec) (EX rec h) [0,1,2,3,4,5,6] rfl II IJ rfl (SG rec h) (fun x=>run rec (gH96_0 x)) (adR rec h)
noncomputable def aa9 (rec:jZ.T→Option j4.T) (h:Ht.Ok prog ⟨96,jZ,j4,rec⟩):D prog 32 none 7:=dO [.l (adS rec h)] (kd prog f96) 0
noncomputable def FH96 (v0:ByteArray) (m3:bF) (m4:bI) (m5:aJ) (m6:aJ):Tr jZ.T j4.T (bF×bI×aJ×aJ×Unit) :=
 .br (ak .str false m6 v0) (
 .ret (m3,m4,m5,m6,())) (
 .bd (.it gH96_0 ((ak .str [] m4 v0),((((ak .str [] m4 v0)).length:Nat):Int),(0:Int),m3,m4,m5,(aS .str m6 v0 true),())) fun z1 =>
 .ret (z1.1,z1.2.1,z1.2.2.1,z1.2.2.2.1,()))
theorem W8 (rec:jZ.T→Option j4.T) (h:Ht.Ok prog ⟨96,jZ,j4,rec⟩):bK prog f96=some ⟨32,3,(aa9 rec h).er,[],[]⟩:=by kernel_rfl
theorem NV (rec:jZ.T→Option j4.T) (h:Ht.Ok prog ⟨96,jZ,j4,rec⟩):Ht.Ok prog ⟨96,jZ,j4,(fun x=>run rec (FH96 x.1 x.2.1 x.2.2.1 x.2.2.2.1 x.2.2.2.2.1))⟩:=aM mixed (EX rec h) rfl func96 (W8 rec h) (enters_of func96 rfl rfl) (aa9 rec h) (by kernel_rfl) rfl rfl ⟨_,rfl⟩ rfl (pre:=[0,1,2,3,4,5,6]) rfl (fun x=>by kernel_rfl)
noncomputable def FH96fix (v0:ByteArray) (m3:bF) (m4:bI) (m5:aJ) (m6:aJ):aY (bF×bI×aJ×aJ×Unit):=.fx (A1:=jZ.T) (B1:=j4.T) (fun x=>FH96 x.1 x.2.1 x.2.2.1 x.2.2.2.1 x.2.2.2.2.1) (v0,m3,m4,m5,m6,())
noncomputable def W9:Ht:=⟨96,jZ,j4,fun x=>ai (FH96fix x.1 x.2.1 x.2.2.1 x.2.2.2.1 x.2.2.2.2.1)⟩
theorem Ci:W9.Ok prog:=RG (F:=fun rec x=>run rec (FH96 x.1 x.2.1 x.2.2.1 x.2.2.2.1 x.2.2.2.2.1)) (fun rec h=>NV rec h)

/- 66, lent -/
@[reducible] def pH66:ah:=ah.mk [(0,.c (.ptr 0 0))] [(0,.cells [.mp 1] false),(1,.map tG true .bool false)] [.slot 0,.cell 0 0] []
@[reducible] def qH66:ah:=ah.mk [(0,.c (.ptr 2 0))] [(2,.cells [.mp 3,.mp 4,.mp 5,.mp 6] false),(0,.cells [.mp 1] false),(1,.map tG true .bool false),(3,.map .str false tG true),(4,.map .str false (.list .str) false),(5,.map .str false .bool false),(6,.map .str false .bool false)] [.slot 0,.cell 2 0,.cell 2 1,.cell 2 2,.cell 2 3] []
noncomputable def LH:Cx:=(aF [] [Sv,Cf,Cg,Sz,W7,W9])
theorem rT:LH.Ok prog:=ag trivial ⟨⟨vq,rfl⟩,⟨kR,rfl⟩,⟨kU,rfl⟩,⟨vu,rfl⟩,⟨Ch,rfl⟩,⟨Ci,rfl⟩,trivial⟩
@[reducible] def adT:ah:=ah.mk [(3,.c (.ptr 2 0)),(26,.c (.cB 3 tG)),(27,hI),(28,hI)] [(2,.cells [.ptr 4 0] false),(3,.arr tG false),(0,.cells [.mp 1] false),(1,.map tG true .bool false),(4,.cells [.mp 5,.mp 6,.mp 7,.mp 8] false),(5,.map .str false tG true),(6,.map .str false (.list .str) false),(7,.map .str false .bool false),(8,.map .str false .bool false)] [.slot 3,.slot 26,.cell 2 0,.cell 4 0,.cell 4 1,.cell 4 2,.cell 4 3] []
@[reducible] def adU:aR:=[(.exit 0,ah.mk [(3,.c (.ptr 2 0))] [(2,.cells [.ptr 3 0] false),(0,.cells [.mp 1] false),(1,.map tG true .bool false),(3,.cells [.mp 4,.mp 5,.mp 6,.mp 7] false),(4,.map .str false tG true),(5,.map .str false (.list .str) false),(6,.map .str false .bool false),(7,.map .str false .bool false)] [.slot 3,.cell 2 0,.cell 3 0,.cell 3 1,.cell 3 2,.cell 3 3] [])]
noncomputable def adV:D prog 148 none 2:=dO [] (pick (kd prog f66) [(0,false)]) 0
noncomputable def gH66_0:Nat×Int×Int×(List (GG))×(List ((GG)×Bool))×bF×bI×aJ×aJ×Unit→aY ((Nat×Int×Int×(List (GG))×(List ((GG)×Bool))×bF×bI×aJ×aJ×Unit) ⊕ (((List ((GG)×Bool))×bF×bI×aJ×aJ×Unit))):=fun (adW,v27,v28,b3,m1,m5,m6,m7,m8,_) =>
 .br (decide (v28<v27)) (
 .nb v28 ((adW:Nat):Int) <|
 .nd (decide (((0:Nat)+(Int.toNat v28))<(b3).length)) <|
 .br (!(aL .str m5 ((b3).getD ((0:Nat)+(Int.toNat v28)) ((bs []),(0:Int),(bs []),(bs []),(0:Int))).1)) (
 .ni (v28+(1:Int)) <|
 .ret (.inl (adW,v27,(v28+(1:Int)),b3,m1,(aS .str m5 ((b3).getD ((0:Nat)+(Int.toNat v28)) ((bs []),(0:Int),(bs []),(bs []),(0:Int))).1 (((b3).getD ((0:Nat)+(Int.toNat v28)) ((bs []),(0:Int),(bs []),(bs []),(0:Int))).1,((b3).getD ((0:Nat)+(Int.toNat v28)) ((bs []),(0:Int),(bs []),(bs []),(0:Int))).2.1,((b3).getD ((0:Nat)+(Int.toNat v28)) ((bs []),(0:Int),(bs []),(bs []),(0:Int))).2.2.1,((b3).getD ((0:Nat)+(Int.toNat v28)) ((bs []),(0:Int),(bs []),(bs []),(0:Int))).2.2.2.1,((b3).getD ((0:Nat)+(Int.toNat v28)) ((bs []),(0:Int),(bs []),(bs []),(0:Int))).2.2.2.2)),m6,m7,m8,()))) (
 .ni (v28+(1:Int)) <|
 .ret (.inl (adW,v27,(v28+(1:Int)),b3,m1,m5,m6,m7,m8,())))) (
 .ret (.inr (m1,m5,m6,m7,m8,())))
noncomputable def adY:bL prog 148 none 2:=bp mixed LH rT [0,1] rfl adT adU rfl (adV) (fun x=>ai (gH66_0 x)) (fun x=>by kernel_rfl)
@[reducible] def qo:ah:=ah.mk [(3,.c (.ptr 2 0)),(57,.c (.cB 3 .str)),(58,hI),(59,hI)] [(2,.cells [.ptr 4 0] false),(3,.arr .str false),(0,.cells [.mp 1] false),(1,.map tG true .bool false),(4,.cells [.mp 5,.mp 6,.mp 7,.mp 8] false),(5,.map .str false tG true),(6,.map .str false (.list .str) false),(7,.map .str false .bool false),(8,.map .str false .bool false)] [.slot 3,.slot 57,.cell 2 0,.cell 4 0,.cell 4 1,.cell 4 2,.cell 4 3] []
@[reducible] def tB:aR:=[(.exit 2,ah.mk [(3,.c (.ptr 2 0))] [(2,.cells [.ptr 3 0] false),(0,.cells [.mp 1] false),(1,.map tG true .bool false),(3,.cells [.mp 4,.mp 5,.mp 6,.mp 7] false),(4,.map .str false tG true),(5,.map .str false (.list .str) false),(6,.map .str false .bool false),(7,.map .str false .bool false)] [.slot 3,.cell 2 0,.cell 3 0,.cell 3 1,.cell 3 2,.cell 3 3] [])]
noncomputable def adZ:D prog 148 none 2:=dO [] (pick (kd prog f66) [(1,false)]) 0
noncomputable def gH66_1:Nat×Int×Int×List ByteArray×(List ((GG)×Bool))×bF×bI×aJ×aJ×Unit→aY ((Nat×Int×Int×List ByteArray×(List ((GG)×Bool))×bF×bI×aJ×aJ×Unit) ⊕ (((List ((GG)×Bool))×bF×bI×aJ×aJ×Unit))):=fun (cF,v58,v59,b3,m1,m5,m6,m7,m8,_) =>
 .br (decide (v59<v58)) (
 .nb v59 ((cF:Nat):Int) <|
 .nd (decide (((0:Nat)+(Int.toNat v59))<(b3).length)) <|
 .br ((ak .str ((bs []),(0:Int),(bs []),(bs []),(0:Int)) m5 ((b3).getD ((0:Nat)+(Int.toNat v59)) (bs []))).2.1==(3:Int)) (
 .ni (v59+(1:Int)) <|
 .ret (.inl (cF,v58,(v59+(1:Int)),b3,m1,m5,m6,(aS .str m7 (ak .str ((bs []),(0:Int),(bs []),(bs []),(0:Int)) m5 ((b3).getD ((0:Nat)+(Int.toNat v59)) (bs []))).2.2.1 true),m8,()))) (
 .br ((ak .str ((bs []),(0:Int),(bs []),(bs []),(0:Int)) m5 ((b3).getD ((0:Nat)+(Int.toNat v59)) (bs []))).2.1==(2:Int)) (
 .nd (decide (((ak .str [] m6 (ak .str ((bs []),(0:Int),(bs []),(bs []),(0:Int)) m5 ((b3).getD ((0:Nat)+(Int.toNat v59)) (bs []))).2.2.1)).length+1<cM)) <|
 .ni (v59+(1:Int)) <|
 .ret (.inl (cF,v58,(v59+(1:Int)),b3,m1,m5,(aS .str m6 (ak .str ((bs []),(0:Int),(bs []),(bs []),(0:Int)) m5 ((b3).getD ((0:Nat)+(Int.toNat v59)) (bs []))).2.2.1 ((ak .str [] m6 (ak .str ((bs []),(0:Int),(bs []),(bs []),(0:Int)) m5 ((b3).getD ((0:Nat)+(Int.toNat v59)) (bs []))).2.2.1)++(((b3).getD ((0:Nat)+(Int.toNat v59)) (bs []))::[]))),m7,m8,()))) (
 .ni (v59+(1:Int)) <|
 .ret (.inl (cF,v58,(v59+(1:Int)),b3,m1,m5,m6,m7,m8,()))))) (
 .ret (.inr (m1,m5,m6,m7,m8,())))
/-! The loop in which lists grow that lie in a map, by hand. -/
@[reducible] def tC:Ty:=.prod .str (.prod tI (.prod .str (.prod .str tI)))
def fU (b3:List ByteArray) (m1:List (tC.den×Bool)) (m5:List (ByteArray×tC.den)) (m7 m8:aJ):aq :=
 [(2,.cells [.ptr 4 0] false),(3,.arr .str b3 false),(0,.cells [.mp 1] false),(1,.map tC true .bool false m1),(4,.cells [.mp 5,.mp 6,.mp 7,.mp 8] false),(5,.map .str false tC true m5),(7,.map .str false .bool false m7),(8,.map .str false .bool false m8)]
def xN (cF:Nat) (v58 v59:Int):Env:=[(3,.ptr 2 0),(57,.sl 3 .str 0 cF),(58,.int .i64 v58),(59,.int .i64 v59)]
def I66 (x:qo.T):St:=⟨xN x.1 x.2.1 x.2.2.1,⟨9,fU x.2.2.2.1 x.2.2.2.2.1 x.2.2.2.2.2.1 x.2.2.2.2.2.2.2.1 x.2.2.2.2.2.2.2.2.1⟩,[]⟩
def IK:C:=.aN [.op (some 97) none (.bin .add (.t 59) (.c (.int .i64 (Int.ofNat 1)))),.op (some 59) none (.mv (.t 97))]
def ad0 : C := .draw [[], [0], [0, 1], [0, 1, 2], [], [4], [0, 1, 2, 3, 4, 5]]
 [.op (some 73) none (.load false 1 (.t 3)),.op (some 74) none (.ex .eA [.t 73]),.op (some 75) none (.jl 2 [true,true,false] (.t 74)),.op (some 76) none (.load false 1 (.t 75)),.op (some 77) none (.jl 2 [true,true,false] (.t 10)),.op (some 78) none (.load false 1 (.t 77)),
 .op none none (.ex (.gL .str false .bool false) [.t 76,.t 78,.c (.tf true)])]
def in66 : C := .block 4 (.seq (.aN [.op (some 72) none (.bin .eql (.t 70) (.c (.int .i64 (Int.ofNat 3)))), .op (some 71) none (.mv (.t 72))])
 (.cond (.t 71) ad0 (.seq (.aN [.op (some 80) none (.bin .eql (.t 70) (.c (.int .i64 (Int.ofNat 2)))),.op (some 79) none (.mv (.t 80))]) (.cond (.t 79) (.draw mK EK) .skip))))
def aba : C := .seq (.block 3 (.seq (.aN [.op (some 61) none (.idx 1 (.t 57) (.t 59)), .op (some 62) none (.load false 1 (.t 61)), .op (some 9) none (.mv (.t 62))])
 (.seq (.aN [.op (some 63) none (.load false 1 (.t 3)),.op (some 64) none (.ex .eA [.t 63]),.op (some 65) none (.jl 0 [false] (.t 64)),.op (some 66) none (.load false 1 (.t 65)),.op (some 67) none (.mv (.t 9)),
 .op (some 68) none (.ex (.dG .str false tC true false) [.t 66,.t 67]),.op (some 10) none (.alloc [.str ⟨⟨[]⟩⟩,.int .i64 (Int.ofNat 0),.str ⟨⟨[]⟩⟩,.str ⟨⟨[]⟩⟩,.int .i64 (Int.ofNat 0)]),.op none none (.store 5 (.t 10) (.t 68))])
 (.seq (.aN [.op (some 69) none (.jl 1 [true,false] (.t 10)),.op (some 70) none (.load false 1 (.t 69))]) in66)))) IK
def c66:C:=.seq (.aN [.op (some 60) none (.bin .lss (.t 59) (.t 58))]) (.seq (.cond (.t 60) .skip (.exit 2)) aba)
theorem ahH {cF : Nat} {v58 v59 : Int} {b3 : List ByteArray} {m1 : List (tC.den × Bool)} {m5 : List (ByteArray × tC.den)} {m7 m8 : aJ} {env : Env} {nx : Nat} {bl : aq}
    (h3:get 3 env = .ptr 2 0) (h57:get 57 env = .sl 3 .str 0 cF) (h58:get 58 env = .int .i64 v58) (h59:get 59 env = .int .i64 v59) (hb:∀p∈fU b3 m1 m5 m7 m8,av p.1 bl=some p.2) :
    iS 2 (List.range 9) ⟨env,⟨nx,bl⟩,[]⟩ ⟨xN cF v58 v59,⟨9,fU b3 m1 m5 m7 m8⟩,[]⟩:=by
  refine NS (by omega) rfl rfl rfl (fun p hp=>?_) (fun p hp=>?_)
  · simp only [xN, List.mem_cons, List.not_mem_nil, or_false] at hp
    rcases hp with rfl|rfl|rfl|rfl
    · rw [h3];exact .ptr 2 2 0 rfl
    · rw [h57];exact .sl 3 3 .str 0 cF rfl
    · rw [h58];exact .int _ _
    · rw [h59];exact .int _ _
  · have hg := hb p hp
    simp only [fU,List.mem_cons,List.not_mem_nil,or_false] at hp
    rcases hp with rfl|rfl|rfl|rfl|rfl|rfl|rfl|rfl
    · exact ⟨by omega,2,rfl,_,hg,.cons (.ptr 4 4 0 rfl) .nil⟩
    · exact ⟨by omega,3,rfl,.inl hg⟩
    · exact ⟨by omega,0,rfl,_,hg,.cons (.mp 1 1 rfl) .nil⟩
    · exact ⟨by omega,1,rfl,hg⟩
    · exact ⟨by omega,4,rfl,_,hg,.cons (.mp 5 5 rfl) (.cons (.mp 6 6 rfl) (.cons (.mp 7 7 rfl) (.cons (.mp 8 8 rfl) .nil)))⟩
    · exact ⟨by omega,5,rfl,hg⟩
    · exact ⟨by omega,7,rfl,hg⟩
    · exact ⟨by omega,8,rfl,hg⟩
def P66:qo.T ⊕ tB.T→Ex→St→bI→Prop:=GRnd 6 2 I66 (fun x=>x.2.2.2.2.2.2.1) (tB.st 2) (fun b=>b.2.2.1)
theorem SH {cF : Nat} {v58 v59 : Int} {b3 : List ByteArray} {m1 : List (tC.den × Bool)} {m5 : List (ByteArray × tC.den)} {m6 : bI} {m7 m8 : aJ} {env : Env} {nx : Nat} {bl : aq} (u : Unit) (hi : gZ .i64 (v59 + 1) = true)
    (h3:get 3 env = .ptr 2 0) (h57:get 57 env = .sl 3 .str 0 cF) (h58:get 58 env = .int .i64 v58) (h59:get 59 env = .int .i64 v59) (hb:∀p∈fU b3 m1 m5 m7 m8,av p.1 bl=some p.2) :
    gC prog 148 none 6 IK ⟨env,⟨nx,bl⟩,[]⟩ m6 (P66 (.inl (cF,v58,v59+1,b3,m1,m5,m6,m7,m8,u))):=by
  refine EM (env':=(59,.int .i64 (v59+1))::(97,.int .i64 (v59+1))::env) (HD:=nx) (bE:=bl) (ms':=[]) mixed (fun _=>rfl) (fun base=>?_) ⟨rfl,rfl,List.range 9,rfl,ahH h3 h57 h58 rfl hb⟩
  refine Eq.trans (b:=need (gZ .i64 (v59+1)) (some (Ex.normal,(59,.int .i64 (v59+1))::(97,.int .i64 (v59+1))::env,nx,bl,[]))) ?_ (by rw [fQ hi])
  have h1:evF dN (.bin .add (.t 59) (.c (.int .i64 (Int.ofNat 1)))) env bl nx=some ([gZ .i64 (v59+1)],.int .i64 (v59+1),[]):=by
    show (match (O.t 59).ev env,(O.c (V.int .i64 (Int.ofNat 1))).ev env with
      | .int k a,.int k' b=>_
      | .str a,.str b=>_
      |_,_=>_)=_
    rw [show (O.t 59).ev env = .int .i64 v59 from h59]
    rfl
  show (match evF dN (.bin .add (.t 59) (.c (.int .i64 (Int.ofNat 1)))) env bl nx with
    |some (ob,v,u)=>_
    |none=>_)=_
  rw [h1]
  rfl
def LI (cF:Nat) (v58 v59:Int):Env:=(60,.tf true)::(60,.bool (decide (v59<v58)))::xN cF v58 v59
def rU (cF:Nat) (v58 v59:Int) (id:ByteArray) (m:tC.den):Env :=
 (70,.int .i64 m.2.1)::(69,.ptr 9 1)::(10,.ptr 9 0)::(68,.agg [.str m.1,.int .i64 m.2.1,.str m.2.2.1,.str m.2.2.2.1,.int .i64 m.2.2.2.2])::(67,.str id)::(66,.mp 5)::(65,.ptr 4 0)::(64,.ptr 4 0)::(63,.ptr 4 0) ::
 (9,.str id)::(62,.str id)::(61,.ep 3 .str (0+Int.toNat v59) [])::LI cF v58 v59
/-- Up to the switch. -/
theorem xP {cF : Nat} {v58 v59 : Int} {b3 : List ByteArray} {m1 : List (tC.den × Bool)} {m5 : List (ByteArray × tC.den)} {m6 : bI} {m7 m8 : aJ} {Q R : Ex → St → bI → Prop}
    (iA:fZ v59 (cF:Int)=true) (eB:decide (0+Int.toNat v59<b3.length)=true) {id:ByteArray} {m:tC.den} (hid:id=b3.getD (0+Int.toNat v59) (bs [])) (hm:m=ak .str (bs [],(0:Int),bs [],bs [],(0:Int)) m5 id)
    (hin:gC prog 148 none 6 in66 ⟨rU cF v58 v59 id m,⟨10,(9,.cells [.str m.1,.int .i64 m.2.1,.str m.2.2.1,.str m.2.2.2.1,.int .i64 m.2.2.2.2] false)::fU b3 m1 m5 m7 m8⟩,[]⟩ m6 fun e S' es'=>e = .normal∧R .normal S' es')
    (h18:∀S' es',R .normal S' es'→gC prog 148 none 6 IK S' es' Q):gC prog 148 none 6 aba ⟨LI cF v58 v59,⟨9,fU b3 m1 m5 m7 m8⟩,[]⟩ m6 Q:=by
  subst hm;subst hid
  refine Lu (Q1:=fun e S' es'=>e = .normal∧R .normal S' es') (fun _ _ h=>by cases h) (vl (Q1:=fun e S' es'=>e = .normal∧R .normal S' es') ?_ (fun _ _ h=>h) (fun i _ _ h=>by cases h.1) (fun _ _ h=>by cases h.1)) (fun S' es' hq=>h18 _ _ hq.2) (fun i S' es' hq=>by cases hq.1) (fun S' es' hq=>by cases hq.1)
  generalize hE3:((9,V.str (b3.getD (0+Int.toNat v59) (bs [])))::(62,V.str (b3.getD (0+Int.toNat v59) (bs [])))::(61,V.ep 3 .str (0+Int.toNat v59) [])::LI cF v58 v59:Env)=e3
  refine fC (env':=e3) (HD:=9) (bE:=fU b3 m1 m5 m7 m8) (ms':=[]) mixed (fun base=>Eq.trans (b:=need (fZ v59 (cF:Int)) (need (decide (0+Int.toNat v59<b3.length)) (some (Ex.normal,e3,9,fU b3 m1 m5 m7 m8,[])))) (by subst hE3;kernel_rfl) (by rw [fQ iA,fQ eB])) ?_
  subst hE3
  refine fC (HD := 10) (ms' := []) (bE := (9, .cells [.str (ak .str (bs [], (0 : Int), bs [], bs [], (0 : Int)) m5 (b3.getD (0 + Int.toNat v59) (bs []))).1, .int .i64 (ak .str (bs [], (0 : Int), bs [], bs [], (0 : Int)) m5 (b3.getD (0 + Int.toNat v59) (bs []))).2.1, .str (ak .str (bs [], (0 : Int), bs [], bs [], (0 : Int)) m5 (b3.getD (0 + Int.toNat v59) (bs []))).2.2.1, .str (ak .str (bs [], (0 : Int), bs [], bs [], (0 : Int)) m5 (b3.getD (0 + Int.toNat v59) (bs []))).2.2.2.1, .int .i64 (ak .str (bs [], (0 : Int), bs [], bs [], (0 : Int)) m5 (b3.getD (0 + Int.toNat v59) (bs []))).2.2.2.2] false) :: fU b3 m1 m5 m7 m8)
    (env':=(rU cF v58 v59 (b3.getD (0+Int.toNat v59) (bs [])) (ak .str (bs [],(0:Int),bs [],bs [],(0:Int)) m5 (b3.getD (0+Int.toNat v59) (bs [])))).drop 2) mixed (fun base=>by kernel_rfl) ?_
  exact fC (HD:=10) (ms':=[]) mixed (fun base=>by kernel_rfl) hin
theorem ad1:∀(x:qo.T) (r:qo.T ⊕ tB.T),ai (gH66_1 x)=some r→gC prog 148 none 6 c66 (I66 x) x.2.2.2.2.2.2.1 (P66 r):=by
  rintro ⟨cF,v58,v59,b3,m1,m5,m6,m7,m8,u⟩ r hr
  have hr:vc (decide (v59<v58)) _ _=some r:=hr
  rcases gT hr with ⟨hlt,hr⟩|⟨hlt,hr⟩
  · obtain ⟨iA, hr⟩ := cT hr
    obtain ⟨eB,hr⟩:=cT hr
    refine fC (env':=(60,.bool (decide (v59<v58)))::xN cF v58 v59) (HD:=9) (bE:=fU b3 m1 m5 m7 m8) (ms':=[]) mixed (fun base=>by kernel_rfl) ?_
    refine Lu (Q1:=fun e S' es'=>e = .normal∧S'=⟨LI cF v58 v59,⟨9,fU b3 m1 m5 m7 m8⟩,[]⟩∧es'=m6) (fun _ _ h=>by cases h) (qk (t:=true) (by show V.bool _=_;rw [hlt]) (EM mixed (fun _=>rfl) (fun base=>by kernel_rfl) ⟨rfl,rfl,rfl⟩)) (fun S' es' hq=>?_) (fun i S' es' hq=>by cases hq.1) (fun S' es' hq=>by cases hq.1)
    obtain ⟨-,rfl,rfl⟩:=hq
    obtain ⟨id,hid⟩:∃id,id=b3.getD (0+Int.toNat v59) (bs []):=⟨_,rfl⟩
    obtain ⟨m,hm⟩:∃m,m=ak .str (bs [],(0:Int),bs [],bs [],(0:Int)) m5 id:=⟨_,rfl⟩
    rw [←hid,←hm] at hr
    have hr:vc (m.2.1==3) _ _=some r:=hr
    rcases gT hr with ⟨h3,hr⟩|⟨h3,hr⟩
    · obtain ⟨hi, hr⟩ := cT hr
      cases hr
      refine xP (R:=fun _ S' HA=>HA=es'∧S'=⟨(78,.str m.2.2.1)::(77,.ptr 9 2)::(76,.mp 7)::(75,.ptr 4 2)::(74,.ptr 4 0)::(73,.ptr 4 0)::(71,.tf true)::(71,.bool (m.2.1==3))::(72,.bool (m.2.1==3))::rU cF v58 v59 id m,⟨17,(7,.map .str false .bool false (aS .str m7 m.2.2.1 true))::(9,.cells [.str m.1,.int .i64 m.2.1,.str m.2.2.1,.str m.2.2.2.1,.int .i64 m.2.2.2.2] false)::aZ 7 (fU b3 m1 m5 m7 m8)⟩,[]⟩) iA eB hid hm ?_ ?_
      · refine vl (Q1 := fun e S' HA => e = .normal ∧ (HA = es' ∧ S' = _)) ?_ (fun _ _ h => h) (fun i _ _ h => by cases h.1) (fun _ _ h => by cases h.1)
        refine fC (env':=(71,.bool (m.2.1==3))::(72,.bool (m.2.1==3))::rU cF v58 v59 id m) (HD:=10) (ms':=[]) (bE:=(9,.cells [.str m.1,.int .i64 m.2.1,.str m.2.2.1,.str m.2.2.2.1,.int .i64 m.2.2.2.2] false)::fU b3 m1 m5 m7 m8) mixed (fun base=>by kernel_rfl) ?_
        refine qk (t:=true) (by show V.bool _=_;rw [h3]) ?_
        exact EM mixed (fun _=>rfl) (fun base=>by kernel_rfl) ⟨rfl,rfl,rfl⟩
      · rintro S' HA ⟨rfl, rfl⟩
        refine SH u hi rfl rfl rfl rfl fun p hp=>?_
        simp only [fU,List.mem_cons,List.not_mem_nil,or_false] at hp
        rcases hp with rfl|rfl|rfl|rfl|rfl|rfl|rfl|rfl<;>rfl
    · have hr : vc (m.2.1 == 2) _ _ = some r := hr
      rcases gT hr with ⟨h2,hr⟩|⟨h2,hr⟩
      · obtain ⟨lp, hr⟩ := cT hr
        obtain ⟨hi,hr⟩:=cT hr
        cases hr
        refine xP (R:=fun _ S' HA=>HA=aS .str es' m.2.2.1 (ak .str [] es' m.2.2.1++[id])∧S'=⟨xN cF v58 v59,⟨28,fU b3 m1 m5 m7 m8⟩,[]⟩) iA eB hid hm ?_ ?_
        · refine vl (Q1 := fun e S' HA => e = .normal ∧ (HA = _ ∧ S' = _)) ?_ (fun _ _ h => h) (fun i _ _ h => by cases h.1) (fun _ _ h => by cases h.1)
          refine fC (env':=(71,.bool (m.2.1==3))::(72,.bool (m.2.1==3))::rU cF v58 v59 id m) (HD:=10) (ms':=[]) (bE:=(9,.cells [.str m.1,.int .i64 m.2.1,.str m.2.2.1,.str m.2.2.2.1,.int .i64 m.2.2.2.2] false)::fU b3 m1 m5 m7 m8) mixed (fun base=>by kernel_rfl) ?_
          refine qk (t:=false) (by show V.bool _=_;rw [h3]) ?_
          refine fC (env':=(79,.bool (m.2.1==2))::(80,.bool (m.2.1==2))::(71,.tf false)::(71,.bool (m.2.1==3))::(72,.bool (m.2.1==3))::rU cF v58 v59 id m) (HD:=10) (ms':=[]) (bE:=(9,.cells [.str m.1,.int .i64 m.2.1,.str m.2.2.1,.str m.2.2.2.1,.int .i64 m.2.2.2.2] false)::fU b3 m1 m5 m7 m8) mixed (fun base=>by kernel_rfl) ?_
          refine qk (t:=true) (by show V.bool _=_;rw [h2]) ?_
          refine RU (R1 (c2:=2) (c4:=4) (c9:=9) (k:=m.2.2.1) (x:=id) (env':=xN cF v58 v59) (bE:=fU b3 m1 m5 m7 m8) mixed rfl rfl rfl rfl rfl rfl (of_decide_eq_true lp) (fun i B hB=>?_) (fun t=>?_)) fun e S' HA hq=>⟨hq.1,hq.2.2,hq.2.1⟩
          · have hm := c8 hB
            simp only [fU,List.mem_cons,List.not_mem_nil,or_false,Prod.mk.injEq] at hm
            rcases hm with ⟨rfl,rfl⟩|⟨rfl,rfl⟩|⟨rfl,rfl⟩|⟨rfl,rfl⟩|⟨rfl,rfl⟩|⟨rfl,rfl⟩|⟨rfl,rfl⟩|⟨rfl,rfl⟩<;>rfl
          · by_cases ht : t = 3 ∨ t = 57 ∨ t = 58 ∨ t = 59
            · rcases ht with rfl|rfl|rfl|rfl<;>exact .inr ⟨rfl,by omega⟩
            · refine .inl (get_none ?_)
              simp only [xN,List.map_cons,List.map_nil,List.mem_cons,List.not_mem_nil,or_false]
              omega
        · rintro S' HA ⟨rfl, rfl⟩
          refine SH u hi rfl rfl rfl rfl fun p hp=>?_
          simp only [fU,List.mem_cons,List.not_mem_nil,or_false] at hp
          rcases hp with rfl|rfl|rfl|rfl|rfl|rfl|rfl|rfl<;>rfl
      · obtain ⟨hi, hr⟩ := cT hr
        cases hr
        refine xP (R:=fun _ S' HA=>HA=es'∧S'=⟨(79,.tf false)::(79,.bool (m.2.1==2))::(80,.bool (m.2.1==2))::(71,.tf false)::(71,.bool (m.2.1==3))::(72,.bool (m.2.1==3))::rU cF v58 v59 id m,⟨10,(9,.cells [.str m.1,.int .i64 m.2.1,.str m.2.2.1,.str m.2.2.2.1,.int .i64 m.2.2.2.2] false)::fU b3 m1 m5 m7 m8⟩,[]⟩) iA eB hid hm ?_ ?_
        · refine vl (Q1 := fun e S' HA => e = .normal ∧ (HA = es' ∧ S' = _)) ?_ (fun _ _ h => h) (fun i _ _ h => by cases h.1) (fun _ _ h => by cases h.1)
          refine fC (env':=(71,.bool (m.2.1==3))::(72,.bool (m.2.1==3))::rU cF v58 v59 id m) (HD:=10) (ms':=[]) (bE:=(9,.cells [.str m.1,.int .i64 m.2.1,.str m.2.2.1,.str m.2.2.2.1,.int .i64 m.2.2.2.2] false)::fU b3 m1 m5 m7 m8) mixed (fun base=>by kernel_rfl) ?_
          refine qk (t:=false) (by show V.bool _=_;rw [h3]) ?_
          refine fC (env':=(79,.bool (m.2.1==2))::(80,.bool (m.2.1==2))::(71,.tf false)::(71,.bool (m.2.1==3))::(72,.bool (m.2.1==3))::rU cF v58 v59 id m) (HD:=10) (ms':=[]) (bE:=(9,.cells [.str m.1,.int .i64 m.2.1,.str m.2.2.1,.str m.2.2.2.1,.int .i64 m.2.2.2.2] false)::fU b3 m1 m5 m7 m8) mixed (fun base=>by kernel_rfl) ?_
          refine qk (t:=false) (by show V.bool _=_;rw [h2]) ?_
          exact EM mixed (fun _=>rfl) (fun base=>by kernel_rfl) ⟨rfl,rfl,rfl⟩
        · rintro S' HA ⟨rfl, rfl⟩
          refine SH u hi rfl rfl rfl rfl fun p hp=>?_
          simp only [fU,List.mem_cons,List.not_mem_nil,or_false] at hp
          rcases hp with rfl|rfl|rfl|rfl|rfl|rfl|rfl|rfl<;>rfl
  · cases hr
    refine fC (env':=(60,.bool (decide (v59<v58)))::xN cF v58 v59) (HD:=9) (bE:=fU b3 m1 m5 m7 m8) (ms':=[]) mixed (fun base=>by kernel_rfl) ?_
    refine Lu (Q1:=fun e S' es'=>e = .exit 2∧S'=⟨(60,.tf false)::(60,.bool (decide (v59<v58)))::xN cF v58 v59,⟨9,fU b3 m1 m5 m7 m8⟩,[]⟩∧es'=m6) (fun _ _ h=>by cases h) (qk (t:=false) (by show V.bool _=_;rw [hlt]) ?_) (fun S' es' hq=>by cases hq.1) (fun i S' es' hq=>?_) (fun S' es' hq=>by cases hq.1)
    · exact EM mixed (fun _=>rfl) (fun base=>by kernel_rfl) ⟨rfl,rfl,rfl⟩
    · obtain ⟨h1, rfl, rfl⟩ := hq
      cases h1
      refine ⟨by simp,rfl,by show 6<9;omega,rfl,?_⟩
      obtain ⟨b',π,h1,h2,h3⟩:=aR.dw (base:=2) (xs:=tB) (e:=.exit 2) (k:=fun x=>some x) (r:=(m1,m5,es',m7,m8,u)) (env:=(60,.tf false)::(60,.bool (decide (v59<v58)))::xN cF v58 v59) (nx:=9) (bl:=(6,.map .str false (.list .str) false es')::aZ 6 (fU b3 m1 m5 m7 m8)) (ms:=[]) (by kernel_rfl)
      cases h1
      exact ⟨π,h3⟩
noncomputable def ad2:bL prog 148 none 2 where
  c:=(adZ).er
  run kz env nx bl ms K:=qo.rd kz.no [0,1] 2 env nx bl ms fun x=>kz.nd x.2.2.2.2.2.2.1.isEmpty (kz.bd (iter (fun x=>ai (gH66_1 x)) x) fun b=>tB.go kz 2 b K)
  ok:=by
    intro X env nx bl ms K r h Q hQ
    obtain ⟨x,π,h1,h2⟩:=ah.dw (base:=2) (show ah.rd none (List.range 2) 2 qo _ _ _ _ _=some r from h)
    obtain ⟨hemp,h1⟩:=cT h1
    obtain ⟨b,h3,h4⟩:=oP h1
    have h5:=aR.Aw h4
    intro body hbody Y ι μ a w ho hb hR
    have qE:=h2.rep hb hR
    obtain ⟨cF,v58,v59,b3,m1,m5,m6,m7,m8,u⟩:=x
    have hm:m6=[]:=List.isEmpty_iff.1 hemp
    subst hm
    have qD:∀id B,av id (fU b3 m1 m5 m7 m8)=some B→av id (qo.st 2 (cF,v58,v59,b3,m1,m5,[],m7,m8,u)).H.bl=some B∧id≠6:=by
      intro id B hB
      have hm:=c8 hB
      simp only [fU,List.mem_cons,List.not_mem_nil,or_false,Prod.mk.injEq] at hm
      rcases hm with ⟨rfl,rfl⟩|⟨rfl,rfl⟩|⟨rfl,rfl⟩|⟨rfl,rfl⟩|⟨rfl,rfl⟩|⟨rfl,rfl⟩|⟨rfl,rfl⟩|⟨rfl,rfl⟩<;>exact ⟨rfl,by omega⟩
    obtain ⟨hI,hG⟩:=V9 (gi:=6) (bE:=fU b3 m1 m5 m7 m8) qE.inv rfl qD
    exact adj (I:=I66) (ES:=fun x=>x.2.2.2.2.2.2.1) (X:=tB.st 2) (nb:=fun b=>b.2.2.1) (c:=c66) ad1 h3 (hQ _ _ _ _ _ h5) (by rw [hbody];kernel_rfl) ho hb ⟨qE.env,qE.sz,hI,qE.ms⟩ hG
@[reducible] def NW:ah:=ah.mk [(3,.c (.ptr 2 0)),(11,.c (.ptr 3 0)),(16,.c (.PU 10 .str)),(102,.c (.mp 5)),(103,.c (.ptr 9 0)),(121,.c (.ptr 11 1)),(122,hI),(123,.c (.hole .bool)),(132,.c (.hole (.list .str))),(133,hI),(134,hI)] [(2,.cells [.ptr 4 0] false),(3,.cells [.fn 96 .nil (.cons (.ptr 2 0) (.cons (.ptr 3 0) .nil))] false),(10,.arr .str false),(5,.map .str false (.list .str) false),(11,.cells [.hole .str,.hole tI,.hole .str,.hole .str,.hole tI] false),(4,.cells [.mp 6,.mp 5,.mp 7,.mp 8] false),(6,.map .str false tG true),(7,.map .str false .bool false),(8,.map .str false .bool false),(0,.cells [.mp 1] false),(1,.map tG true .bool false)] [.slot 16,.slot 121] []
@[reducible] def NX:aR:=[(.exit 7,ah.mk [(3,.c (.ptr 2 0)),(11,.c (.ptr 3 0)),(102,.c (.mp 5)),(103,.c (.ptr 9 0)),(121,.c (.ptr 10 1)),(122,hI),(123,.c (.hole .bool))] [(2,.cells [.ptr 4 0] false),(3,.cells [.fn 96 .nil (.cons (.ptr 2 0) (.cons (.ptr 3 0) .nil))] false),(5,.map .str false (.list .str) false),(10,.cells [.hole .str,.hole tI,.hole .str,.hole .str,.hole tI] false),(4,.cells [.mp 6,.mp 5,.mp 7,.mp 8] false),(6,.map .str false tG true),(7,.map .str false .bool false),(8,.map .str false .bool false),(0,.cells [.mp 1] false),(1,.map tG true .bool false)] [.slot 121] [])]
noncomputable def NY:D prog 148 none 10:=dO [] (pick (kd prog f66) [(2,false),(0,false)]) 0
noncomputable def gH66_2b_3:Nat×Nat×Int×Bool×List ByteArray×Int×Int×List ByteArray×bI×ByteArray×Int×ByteArray×ByteArray×Int×bF×aJ×aJ×(List ((GG)×Bool))×Unit→aY ((Nat×Nat×Int×Bool×List ByteArray×Int×Int×List ByteArray×bI×ByteArray×Int×ByteArray×ByteArray×Int×bF×aJ×aJ×(List ((GG)×Bool))×Unit) ⊕ ((Int×Bool×bI×ByteArray×Int×ByteArray×ByteArray×Int×bF×aJ×aJ×(List ((GG)×Bool))×Unit))):=fun (rV,xQ,pg,pn,nZ,xR,iH,UU,m5,SJ,SK,SM,SN,SO,m6,m7,m8,m1,_) =>
 .br (decide (iH<xR)) (
 .nb iH (((nZ).length:Nat):Int) <|
 .nb (0:Int) ((xQ:Nat):Int) <|
 .nd (decide ((rV+(Int.toNat (0:Int)))<(UU).length)) <|
 .br (!(seq ((nZ).getD (Int.toNat iH) (bs [])) ((UU).getD (rV+(Int.toNat (0:Int))) (bs [])))) (
 .bd (FH96fix ((nZ).getD (Int.toNat iH) (bs [])) m6 m5 m7 m8) fun y7 =>
 .ni (iH+(1:Int)) <|
 .ret (.inl (rV,xQ,pg,pn,nZ,xR,(iH+(1:Int)),UU,y7.2.1,SJ,SK,SM,SN,SO,y7.1,y7.2.2.1,y7.2.2.2.1,m1,()))) (
 .ni (iH+(1:Int)) <|
 .ret (.inl (rV,xQ,pg,pn,nZ,xR,(iH+(1:Int)),UU,m5,SJ,SK,SM,SN,SO,m6,m7,m8,m1,())))) (
 .ret (.inr (pg,pn,m5,SJ,SK,SM,SN,SO,m6,m7,m8,m1,())))
noncomputable def NZ:bL prog 148 none 10:=bp mixed LH rT [0,1,2,3,4,5,6,7,8,9] rfl NW NX rfl (NY) (fun x=>ai (gH66_2b_3 x)) (fun x=>by kernel_rfl)
@[reducible] def ad3:ah:=ah.mk [(3,.c (.ptr 2 0)),(11,.c (.ptr 3 0)),(102,.c (.mp 5))] [(2,.cells [.ptr 4 0] false),(3,.cells [.fn 96 .nil (.cons (.ptr 2 0) (.cons (.ptr 3 0) .nil))] false),(4,.cells [.mp 6,.mp 5,.mp 7,.mp 8] false),(5,.map .str false (.list .str) false),(0,.cells [.mp 1] false),(1,.map tG true .bool false),(6,.map .str false tG true),(7,.map .str false .bool false),(8,.map .str false .bool false)] [.slot 3,.slot 11,.cell 2 0,.cell 4 1,.cell 4 0,.cell 4 2,.cell 4 3] []
noncomputable def ad4:D prog 148 none 10:=dO [.l NZ] (pick (kd prog f66) [(2,false)]) 0
noncomputable def gH66_2:((ByteArray)×(List ByteArray))→bI×(List ((GG)×Bool))×bF×aJ×aJ×Unit→aY (bI×(List ((GG)×Bool))×bF×aJ×aJ×Unit):=fun e (m5,m1,m6,m7,m8,_) =>
 .br (!(aL .str m6 e.1)) (
 .nd (eu m5 m5) <|
 .ret (m5,m1,m6,m7,m8,())) (
 .br ((ak .str ((bs []),(0:Int),(bs []),(bs []),(0:Int)) m6 e.1).2.1==(3:Int)) (
 .nd (eu m5 m5) <|
 .ret (m5,m1,m6,m7,m8,())) (
 .bd (FH98 e.2) fun y5 =>
 .bd (FH97 y5.1 y5.2.1 m6 m5 m7 m8) fun y6 =>
 .br (!(((y6.2.1:Nat):Int)==(1:Int))) (
 .nd (eu y6.2.2.2.2.1 m5) <|
 .ret (y6.2.2.2.2.1,m1,y6.2.2.2.1,y6.2.2.2.2.2.1,y6.2.2.2.2.2.2.1,())) (
 .bd (.it gH66_2b_3 (y6.1,y6.2.1,(ak .str ((bs []),(0:Int),(bs []),(bs []),(0:Int)) m6 e.1).2.1,((ak .str ((bs []),(0:Int),(bs []),(bs []),(0:Int)) m6 e.1).2.1==(3:Int)),e.2,(((e.2).length:Nat):Int),(0:Int),y6.2.2.1,y6.2.2.2.2.1,(ak .str ((bs []),(0:Int),(bs []),(bs []),(0:Int)) m6 e.1).1,(ak .str ((bs []),(0:Int),(bs []),(bs []),(0:Int)) m6 e.1).2.1,(ak .str ((bs []),(0:Int),(bs []),(bs []),(0:Int)) m6 e.1).2.2.1,(ak .str ((bs []),(0:Int),(bs []),(bs []),(0:Int)) m6 e.1).2.2.2.1,(ak .str ((bs []),(0:Int),(bs []),(bs []),(0:Int)) m6 e.1).2.2.2.2,y6.2.2.2.1,y6.2.2.2.2.2.1,y6.2.2.2.2.2.2.1,m1,())) fun z8 =>
 .nd (eu z8.2.2.1 m5) <|
 .ret (z8.2.2.1,z8.2.2.2.2.2.2.2.2.2.2.2.1,z8.2.2.2.2.2.2.2.2.1,z8.2.2.2.2.2.2.2.2.2.1,z8.2.2.2.2.2.2.2.2.2.2.1,()))))
noncomputable def ad5:o5 prog 148 none 2:=rH mixed LH rT [0,1] rfl ad3 ( [.op (some 99) none (.load false 1 (.t 3)),.op (some 100) none (.ex dB.eA [.t 99]),.op (some 101) none (.jl 1 [true,false] (.t 100)),.op (some 102) none (.load false 1 (.t 101))]) 102 103 [104,105] (some 106) ( .str)  false ( .list .str)  false 5 rfl 10 rfl (ad4) (fun e x=>ai (gH66_2 e x)) (fun e=>fun x=>by kernel_rfl)
noncomputable def abb:D prog 148 none 2:=dO [.l adY,.l ad2,.m ad5] (kd prog f66) 0
noncomputable def FH66 (m1:List ((GG)×Bool)):aY ((List ((GG)×Bool))×bF×bI×aJ×aJ×Unit) :=
 .bd (FH47 m1) fun y0 =>
 .bd (.it gH66_0 (y0.1,((y0.1:Nat):Int),(0:Int),y0.2.1,y0.2.2.1,[],[],[],[],())) fun z1 =>
 .bd (FH95 z1.2.1) fun y2 =>
 .bd (FH81 y2.1) fun y3 =>
 .nd (z1.2.2.1).isEmpty <|
 .bd (.it gH66_1 (y3.1,((y3.1:Nat):Int),(0:Int),y3.2.1,z1.1,y3.2.2.1,z1.2.2.1,z1.2.2.2.1,z1.2.2.2.2.1,())) fun z4 =>
 .bd (.mq gH66_2 z4.2.2.1 (z4.2.2.1,z4.1,z4.2.1,z4.2.2.2.1,z4.2.2.2.2.1,())) fun z9 =>
 .ret (z9.2.1,z9.2.2.1,z9.1,z9.2.2.2.1,z9.2.2.2.2.1,())
theorem Xa:bK prog f66=some ⟨148,1,abb.er,[.t 2],[none]⟩:=by kernel_rfl
noncomputable def EY:Ht:=⟨66,pH66,qH66,(fun x=>ai (FH66 x.1))⟩
theorem rW:EY.Ok prog:=aM mixed rT rfl func66 Xa (enters_of func66 rfl rfl) abb (by kernel_rfl) rfl rfl ⟨_,rfl⟩ rfl (pre:=[0,1]) rfl (fun x=>by kernel_rfl)

/- 123, lent -/
@[reducible] def ahI:ah:=ah.mk [(0,.c (.hole .str)),(1,.c (.ptr 0 0))] [(0,.cells [.ptr 1 0] false),(1,.cells [.mp 2,.mp 3,.mp 4,.mp 5] false),(2,.map .str false tG true),(3,.map .str false (.list .str) false),(4,.map .str false .bool false),(5,.map .str false .bool false)] [.slot 1,.cell 0 0,.cell 1 0,.cell 1 1,.cell 1 2,.cell 1 3] []
@[reducible] def ahJ:ah:=ah.mk [(0,.c (.hole .bool))] [(0,.cells [.ptr 1 0] false),(1,.cells [.mp 2,.mp 3,.mp 4,.mp 5] false),(2,.map .str false tG true),(3,.map .str false (.list .str) false),(4,.map .str false .bool false),(5,.map .str false .bool false)] [] []
noncomputable def ad6:Cx:=(aF [] [])
theorem N4:ad6.Ok prog:=ag trivial trivial
noncomputable def SQ:D prog 10 none 6:=dO [] (kd prog f123) 0
noncomputable def FH123 (v0:ByteArray) (m2:bF) (m3:bI) (m4:aJ) (m5:aJ):aY (Bool×bF×bI×aJ×aJ×Unit) :=
 .ret ((ak .str false m5 v0),m2,m3,m4,m5,())
theorem SR:bK prog f123=some ⟨10,2,SQ.er,[.t 3],[some .bool]⟩:=by kernel_rfl
noncomputable def SS:Ht:=⟨123,ahI,ahJ,(fun x=>ai (FH123 x.1 x.2.1 x.2.2.1 x.2.2.2.1 x.2.2.2.2.1))⟩
theorem EZ:SS.Ok prog:=aM mixed N4 rfl func123 SR (enters_of func123 rfl rfl) SQ (by kernel_rfl) rfl rfl ⟨_,rfl⟩ rfl (pre:=[0,1,2,3,4,5]) rfl (fun x=>by kernel_rfl)

/- 119, lent -/
@[reducible] def SU:ah:=ah.mk [(0,.c (.cB 0 .str)),(1,.fn 123 [] [.ptr 1 0])] [(0,.arr .str false),(1,.cells [.ptr 2 0] false),(2,.cells [.mp 3,.mp 4,.mp 5,.mp 6] false),(3,.map .str false tG true),(4,.map .str false (.list .str) false),(5,.map .str false .bool false),(6,.map .str false .bool false)] [.slot 0,.part 1 0,.cell 1 0,.cell 2 0,.cell 2 1,.cell 2 2,.cell 2 3] []
@[reducible] def SV:ah:=ah.mk [(0,hI)] [(1,.cells [.ptr 2 0] false),(2,.cells [.mp 3,.mp 4,.mp 5,.mp 6] false),(3,.map .str false tG true),(4,.map .str false (.list .str) false),(5,.map .str false .bool false),(6,.map .str false .bool false),(0,.arr .str false)] [] []
noncomputable def AQ:Cx:=(aF [] [SS])
theorem rX:AQ.Ok prog:=ag trivial ⟨⟨EZ,rfl⟩,trivial⟩
@[reducible] def IL:ah:=ah.mk [(0,.c (.cB 0 .str)),(1,.fn 123 [] [.ptr 1 0]),(7,hI),(8,hI)] [(0,.arr .str false),(1,.cells [.ptr 2 0] false),(2,.cells [.mp 3,.mp 4,.mp 5,.mp 6] false),(3,.map .str false tG true),(4,.map .str false (.list .str) false),(5,.map .str false .bool false),(6,.map .str false .bool false)] [] []
@[reducible] def IM:aR:=[(.ret,ah.mk [(4,hI)] [(1,.cells [.ptr 2 0] false),(2,.cells [.mp 3,.mp 4,.mp 5,.mp 6] false),(3,.map .str false tG true),(4,.map .str false (.list .str) false),(5,.map .str false .bool false),(6,.map .str false .bool false),(0,.arr .str false)] [] []),(.exit 0,ah.mk [] [(1,.cells [.ptr 2 0] false),(2,.cells [.mp 3,.mp 4,.mp 5,.mp 6] false),(3,.map .str false tG true),(4,.map .str false (.list .str) false),(5,.map .str false .bool false),(6,.map .str false .bool false),(0,.arr .str false)] [] [])]
noncomputable def IP:D prog 19 none 7:=dO [] (pick (kd prog f119) [(0,false)]) 0
noncomputable def gH119_v1_0:Nat×Int×Int×List ByteArray×bF×bI×aJ×aJ×Unit→aY ((Nat×Int×Int×List ByteArray×bF×bI×aJ×aJ×Unit) ⊕ ((Int×bF×bI×aJ×aJ×List ByteArray×Unit) ⊕ ((bF×bI×aJ×aJ×List ByteArray×Unit)))):=fun (kD,v7,v8,b0,m3,m4,m5,m6,_) =>
 .br (decide (v8<v7)) (
 .nb v8 ((kD:Nat):Int) <|
 .nd (decide (((0:Nat)+(Int.toNat v8))<(b0).length)) <|
 .bd (FH123 ((b0).getD ((0:Nat)+(Int.toNat v8)) (bs [])) m3 m4 m5 m6) fun y0 =>
 .br y0.1 (
 .ret (.inr <| .inl<|(v8,y0.2.1,y0.2.2.1,y0.2.2.2.1,y0.2.2.2.2.1,b0,()))) (
 .ni (v8+(1:Int)) <|
 .ret (.inl (kD,v7,(v8+(1:Int)),b0,y0.2.1,y0.2.2.1,y0.2.2.2.1,y0.2.2.2.2.1,())))) (
 .ret (.inr <| .inr<|(m3,m4,m5,m6,b0,())))
noncomputable def IQ:bL prog 19 none 7:=bp mixed AQ rX [0,1,2,3,4,5,6] rfl IL IM rfl (IP) (fun x=>ai (gH119_v1_0 x)) (fun x=>by kernel_rfl)
noncomputable def AR:D prog 19 none 7:=dO [.l IQ] (kd prog f119) 0
noncomputable def FH119_v1 (kD:Nat) (b0:List ByteArray) (m3:bF) (m4:bI) (m5:aJ) (m6:aJ):aY (Int×bF×bI×aJ×aJ×List ByteArray×Unit) :=
 .bd (.it gH119_v1_0 (kD,((kD:Nat):Int),(0:Int),b0,m3,m4,m5,m6,())) fun z1 =>
 .sm z1 (fun z2 =>
 .ret (z2.1,z2.2.1,z2.2.2.1,z2.2.2.2.1,z2.2.2.2.2.1,z2.2.2.2.2.2.1,())) fun z3 =>
 .ret ((-1:Int),z3.1,z3.2.1,z3.2.2.1,z3.2.2.2.1,z3.2.2.2.2.1,())
theorem E0:bK prog f119=some ⟨19,2,AR.er,[.t 4],[some tI]⟩:=by kernel_rfl
noncomputable def E1:Ht:=⟨119,SU,SV,(fun x=>ai (FH119_v1 x.1 x.2.1 x.2.2.1 x.2.2.2.1 x.2.2.2.2.1 x.2.2.2.2.2.1))⟩
theorem E2:E1.Ok prog:=aM mixed rX rfl func119 E0 (enters_of func119 rfl rfl) AR (by kernel_rfl) rfl rfl ⟨_,rfl⟩ rfl (pre:=[0,1,2,3,4,5,6]) rfl (fun x=>by kernel_rfl)

/- 97, lent -/
@[reducible] def Xb:ah:=ah.mk [(0,.c (.cB 0 .str)),(1,.fn 123 [] [.ptr 1 0])] [(0,.arr .str false),(1,.cells [.ptr 2 0] false),(2,.cells [.mp 3,.mp 4,.mp 5,.mp 6] false),(3,.map .str false tG true),(4,.map .str false (.list .str) false),(5,.map .str false .bool false),(6,.map .str false .bool false)] [.slot 0,.part 1 0,.cell 1 0,.cell 2 0,.cell 2 1,.cell 2 2,.cell 2 3] []
@[reducible] def Xc:ah:=ah.mk [(0,.c (.PU 0 .str))] [(0,.arr .str false),(1,.cells [.ptr 2 0] false),(2,.cells [.mp 3,.mp 4,.mp 5,.mp 6] false),(3,.map .str false tG true),(4,.map .str false (.list .str) false),(5,.map .str false .bool false),(6,.map .str false .bool false)] [] []
noncomputable def E3:Cx:=(aF [] [E1,SS])
theorem uk:E3.Ok prog:=ag trivial ⟨⟨E2,rfl⟩,⟨EZ,rfl⟩,trivial⟩
@[reducible] def N5:ah:=ah.mk [(0,.c (.cB 0 .str)),(1,.fn 123 [] [.ptr 1 0]),(5,hI),(6,hI)] [(0,.arr .str false),(1,.cells [.ptr 2 0] false),(2,.cells [.mp 3,.mp 4,.mp 5,.mp 6] false),(3,.map .str false tG true),(4,.map .str false (.list .str) false),(5,.map .str false .bool false),(6,.map .str false .bool false)] [] []
@[reducible] def N6:aR:=[(.exit 0,ah.mk [(0,.c (.cB 0 .str)),(5,hI)] [(0,.arr .str false),(1,.cells [.ptr 2 0] false),(2,.cells [.mp 3,.mp 4,.mp 5,.mp 6] false),(3,.map .str false tG true),(4,.map .str false (.list .str) false),(5,.map .str false .bool false),(6,.map .str false .bool false)] [] [])]
noncomputable def N7:D prog 42 none 7:=dO [] (pick (kd prog f97) [(0,false)]) 0
noncomputable def gH97_v1_0:Nat×Int×Int×List ByteArray×bF×bI×aJ×aJ×Unit→aY ((Nat×Int×Int×List ByteArray×bF×bI×aJ×aJ×Unit) ⊕ ((Nat×Int×List ByteArray×bF×bI×aJ×aJ×Unit))):=fun (kD,v5,v6,b0,m3,m4,m5,m6,_) =>
 .br (decide (v6<((kD:Nat):Int))) (
 .nb v6 ((kD:Nat):Int) <|
 .nd (decide (((0:Nat)+(Int.toNat v6))<(b0).length)) <|
 .bd (FH123 ((b0).getD ((0:Nat)+(Int.toNat v6)) (bs [])) m3 m4 m5 m6) fun y1 =>
 .br (!y1.1) (
 .nb v5 ((kD:Nat):Int) <|
 .nd (decide (((0:Nat)+(Int.toNat v5))<(b0).length)) <|
 .ni (v5+(1:Int)) <|
 .ni (v6+(1:Int)) <|
 .ret (.inl (kD,(v5+(1:Int)),(v6+(1:Int)),((b0).set ((0:Nat)+(Int.toNat v5)) ((b0).getD ((0:Nat)+(Int.toNat v6)) (bs []))),y1.2.1,y1.2.2.1,y1.2.2.2.1,y1.2.2.2.2.1,()))) (
 .ni (v6+(1:Int)) <|
 .ret (.inl (kD,v5,(v6+(1:Int)),b0,y1.2.1,y1.2.2.1,y1.2.2.2.1,y1.2.2.2.2.1,())))) (
 .ret (.inr (kD,v5,b0,m3,m4,m5,m6,())))
noncomputable def N8:bL prog 42 none 7:=bp mixed E3 uk [0,1,2,3,4,5,6] rfl N5 N6 rfl (N7) (fun x=>ai (gH97_v1_0 x)) (fun x=>by kernel_rfl)
noncomputable def E4:D prog 42 none 7:=dO [.l N8] (kd prog f97) 0
noncomputable def FH97_v1 (kD:Nat) (b0:List ByteArray) (m3:bF) (m4:bI) (m5:aJ) (m6:aJ):aY (Nat×Nat×List ByteArray×bF×bI×aJ×aJ×Unit) :=
 .bd (FH119_v1 kD b0 m3 m4 m5 m6) fun y0 =>
 .br (y0.1==(-1:Int)) (
 .ret ((0:Nat),kD,y0.2.2.2.2.2.1,y0.2.1,y0.2.2.1,y0.2.2.2.1,y0.2.2.2.2.1,())) (
 .ni (y0.1+(1:Int)) <|
 .bd (.it gH97_v1_0 (kD,y0.1,(y0.1+(1:Int)),y0.2.2.2.2.2.1,y0.2.1,y0.2.2.1,y0.2.2.2.1,y0.2.2.2.2.1,())) fun z2 =>
 .nd (decide ((0:Int)≤z2.2.1)) <|
 .nd (decide (z2.2.1≤((z2.1:Nat):Int))) <|
 .nd (decide (((z2.1:Nat):Int)≤((z2.1:Nat):Int))) <|
 .nd (decide ((0:Int)≤(0:Int))) <|
 .nd (decide ((0:Int)≤z2.2.1)) <|
 .nd (decide (z2.2.1≤((z2.1:Nat):Int))) <|
 .ret (((0:Nat)+(Int.toNat (0:Int))),((Int.toNat z2.2.1) - (Int.toNat (0:Int))),(A5 (bs []) z2.2.2.1 ((0:Nat)+(Int.toNat z2.2.1)) ((Int.toNat ((z2.1:Nat):Int)) - (Int.toNat z2.2.1))),z2.2.2.2.1,z2.2.2.2.2.1,z2.2.2.2.2.2.1,z2.2.2.2.2.2.2.1,()))
theorem IU:bK prog f97=some ⟨42,2,E4.er,[.t 4],[some (.list .str)]⟩:=by kernel_rfl
noncomputable def LJ:Ht:=⟨97,Xb,Xc,(fun x=>ai (FH97_v1 x.1 x.2.1 x.2.2.1 x.2.2.2.1 x.2.2.2.2.1 x.2.2.2.2.2.1))⟩
theorem IV:LJ.Ok prog:=aM mixed uk rfl func97 IU (enters_of func97 rfl rfl) E4 (by kernel_rfl) rfl rfl ⟨_,rfl⟩ rfl (pre:=[0,1,2,3,4,5,6]) rfl (fun x=>by kernel_rfl)

/- 104, lent -/
@[reducible] def ahK:ah:=ah.mk [(0,.c (.ptr 0 0)),(1,.c (.hole .str))] [(0,.cells [.mp 1,.mp 2,.mp 3,.mp 4] false),(1,.map .str false tG true),(2,.map .str false (.list .str) false),(3,.map .str false .bool false),(4,.map .str false .bool false)] [.slot 0,.cell 0 0,.cell 0 1,.cell 0 2,.cell 0 3] []
@[reducible] def ahL:ah:=ah.mk [(0,.c (.PU 5 .str))] [(5,.arr .str false),(0,.cells [.mp 1,.mp 2,.mp 3,.mp 4] false),(1,.map .str false tG true),(2,.map .str false (.list .str) false),(3,.map .str false .bool false),(4,.map .str false .bool false)] [.slot 0] []
noncomputable def ad7:Cx:=(aF [] [Sz,LJ])
theorem N9:ad7.Ok prog:=ag trivial ⟨⟨vu,rfl⟩,⟨IV,rfl⟩,trivial⟩
noncomputable def SX:D prog 14 none 5:=dO [] (kd prog f104) 0
noncomputable def FH104 (v1:ByteArray) (m1:bF) (m2:bI) (m3:aJ) (m4:aJ):aY (Nat×Nat×List ByteArray×bF×bI×aJ×aJ×Unit) :=
 .bd (FH98 (ak .str [] m2 v1)) fun y0 =>
 .bd (FH97_v1 y0.1 y0.2.1 m1 m2 m3 m4) fun y1 =>
 .ret (y1.1,y1.2.1,y1.2.2.1,y1.2.2.2.1,y1.2.2.2.2.1,y1.2.2.2.2.2.1,y1.2.2.2.2.2.2.1,())
theorem SY:bK prog f104=some ⟨14,2,SX.er,[.t 4],[some (.list .str)]⟩:=by kernel_rfl
noncomputable def abc:Ht:=⟨104,ahK,ahL,(fun x=>ai (FH104 x.1 x.2.1 x.2.2.1 x.2.2.2.1 x.2.2.2.2.1))⟩
theorem SZ:abc.Ok prog:=aM mixed N9 rfl func104 SY (enters_of func104 rfl rfl) SX (by kernel_rfl) rfl rfl ⟨_,rfl⟩ rfl (pre:=[0,1,2,3,4]) rfl (fun x=>by kernel_rfl)

/- 76, lent -/
@[reducible] def j5:ah:=ah.mk [(0,.c (.ptr 0 0)),(1,.c (.hole .str))] [(0,.cells [.mp 1,.mp 2,.mp 3,.mp 4] false),(1,.map .str false tG true),(2,.map .str false (.list .str) false),(3,.map .str false .bool false),(4,.map .str false .bool false)] [.slot 0,.cell 0 0,.cell 0 1,.cell 0 2,.cell 0 3] []
@[reducible] def j6:ah:=ah.mk [(0,.c (.cB 5 .str))] [(5,.arr .str false),(0,.cells [.mp 1,.mp 2,.mp 3,.mp 4] false),(1,.map .str false tG true),(2,.map .str false (.list .str) false),(3,.map .str false .bool false),(4,.map .str false .bool false)] [.slot 0] []
noncomputable def S2 (rec:j5.T→Option j6.T):Cx:=(aF [] [abc,⟨76,j5,j6,rec⟩,AO])
theorem E5 (rec:j5.T→Option j6.T) (h:Ht.Ok prog ⟨76,j5,j6,rec⟩):(S2 rec).Ok prog:=ag trivial ⟨⟨SZ,rfl⟩,⟨h,rfl⟩,⟨xK,rfl⟩,trivial⟩
@[reducible] def IW:ah:=ah.mk [(0,.c (.ptr 0 0)),(6,.c (.cB 5 .str)),(17,.c (.PU 6 .str)),(18,hI),(19,hI)] [(0,.cells [.mp 1,.mp 2,.mp 3,.mp 4] false),(5,.arr .str false),(6,.arr .str false),(1,.map .str false tG true),(2,.map .str false (.list .str) false),(3,.map .str false .bool false),(4,.map .str false .bool false)] [.slot 6,.slot 17] []
@[reducible] def IX:aR:=[(.exit 0,ah.mk [(6,.c (.cB 5 .str))] [(5,.arr .str false),(0,.cells [.mp 1,.mp 2,.mp 3,.mp 4] false),(1,.map .str false tG true),(2,.map .str false (.list .str) false),(3,.map .str false .bool false),(4,.map .str false .bool false)] [.slot 6] [])]
noncomputable def S4 (rec:j5.T→Option j6.T) (h:Ht.Ok prog ⟨76,j5,j6,rec⟩):D prog 32 none 5:=dO [] (pick (kd prog f76) [(0,false)]) 0
noncomputable def gH76_0:Nat×Nat×Nat×Int×Int×List ByteArray×List ByteArray×bF×bI×aJ×aJ×Unit→Tr j5.T j6.T ((Nat×Nat×Nat×Int×Int×List ByteArray×List ByteArray×bF×bI×aJ×aJ×Unit) ⊕ ((Nat×List ByteArray×bF×bI×aJ×aJ×Unit))):=fun (nv6,ad8,nv17,v18,IY,b5,b6,m1,m2,m3,m4,_) =>
 .br (decide (IY<v18)) (
 .nb IY ((nv17:Nat):Int) <|
 .nd (decide ((ad8+(Int.toNat IY))<(b6).length)) <|
 .bd (.rc (((b6).getD (ad8+(Int.toNat IY)) (bs [])),m1,m2,m3,m4,())) fun y1 =>
 .nd (decide ((nv6+((((y1.2.1).drop (0:Nat)).take y1.1)).length)<cM)) <|
 .ni (IY+(1:Int)) <|
 .ret (.inl ((nv6+((((y1.2.1).drop (0:Nat)).take y1.1)).length),ad8,nv17,v18,(IY+(1:Int)),((((b5).drop (0:Nat)).take nv6)++(((y1.2.1).drop (0:Nat)).take y1.1)),b6,y1.2.2.1,y1.2.2.2.1,y1.2.2.2.2.1,y1.2.2.2.2.2.1,()))) (
 .ret (.inr (nv6,b5,m1,m2,m3,m4,())))
theorem ad9 (rec:j5.T→Option j6.T) (h:Ht.Ok prog ⟨76,j5,j6,rec⟩):∀x,BT (iN (IW.T ⊕ IX.T)) (S2 rec) dN [0,1,2,3,4] IW IX (S4 rec h) (fun y=>some (.inl y)) (fun b=>some (.inr b)) x=run rec (gH76_0 x):=fun x=>by kernel_rfl
noncomputable def aea (rec:j5.T→Option j6.T) (h:Ht.Ok prog ⟨76,j5,j6,rec⟩):bL prog 32 none 5:=bp mixed (S2 rec) (E5 rec h) [0,1,2,3,4] rfl IW IX rfl (S4 rec h) (fun x=>run rec (gH76_0 x)) (ad9 rec h)
noncomputable def abd (rec:j5.T→Option j6.T) (h:Ht.Ok prog ⟨76,j5,j6,rec⟩):D prog 32 none 5:=dO [.l (aea rec h)] (kd prog f76) 0
noncomputable def FH76 (v1:ByteArray) (m1:bF) (m2:bI) (m3:aJ) (m4:aJ):Tr j5.T j6.T (Nat×List ByteArray×bF×bI×aJ×aJ×Unit) :=
 .bd (.up (FH104 v1 m1 m2 m3 m4)) fun y0 =>
 .br (((y0.2.1:Nat):Int)==(0:Int)) (
 .ret ((1:Nat),(v1::[]),y0.2.2.2.1,y0.2.2.2.2.1,y0.2.2.2.2.2.1,y0.2.2.2.2.2.2.1,())) (
 .bd (.it gH76_0 ((0:Nat),y0.1,y0.2.1,((y0.2.1:Nat):Int),(0:Int),[],y0.2.2.1,y0.2.2.2.1,y0.2.2.2.2.1,y0.2.2.2.2.2.1,y0.2.2.2.2.2.2.1,())) fun z2 =>
 .bd (.up (FH105 z2.1 z2.2.1)) fun y3 =>
 .ret (z2.1,y3.1,z2.2.2.1,z2.2.2.2.1,z2.2.2.2.2.1,z2.2.2.2.2.2.1,()))
theorem Xd (rec:j5.T→Option j6.T) (h:Ht.Ok prog ⟨76,j5,j6,rec⟩):bK prog f76=some ⟨32,2,(abd rec h).er,[.t 4],[some (.list .str)]⟩:=by kernel_rfl
theorem Oa (rec:j5.T→Option j6.T) (h:Ht.Ok prog ⟨76,j5,j6,rec⟩):Ht.Ok prog ⟨76,j5,j6,(fun x=>run rec (FH76 x.1 x.2.1 x.2.2.1 x.2.2.2.1 x.2.2.2.2.1))⟩:=aM mixed (E5 rec h) rfl func76 (Xd rec h) (enters_of func76 rfl rfl) (abd rec h) (by kernel_rfl) rfl rfl ⟨_,rfl⟩ rfl (pre:=[0,1,2,3,4]) rfl (fun x=>by kernel_rfl)
noncomputable def FH76fix (v1:ByteArray) (m1:bF) (m2:bI) (m3:aJ) (m4:aJ):aY (Nat×List ByteArray×bF×bI×aJ×aJ×Unit):=.fx (A1:=j5.T) (B1:=j6.T) (fun x=>FH76 x.1 x.2.1 x.2.2.1 x.2.2.2.1 x.2.2.2.2.1) (v1,m1,m2,m3,m4,())
noncomputable def tD:Ht:=⟨76,j5,j6,fun x=>ai (FH76fix x.1 x.2.1 x.2.2.1 x.2.2.2.1 x.2.2.2.2.1)⟩
theorem jr:tD.Ok prog:=RG (F:=fun rec x=>run rec (FH76 x.1 x.2.1 x.2.2.1 x.2.2.2.1 x.2.2.2.2.1)) (fun rec h=>Oa rec h)

/- 74, lent -/
@[reducible] def pH74:ah:=ah.mk [(0,.c (.ptr 0 0)),(1,.c (.hole .str))] [(0,.cells [.mp 1,.mp 2,.mp 3,.mp 4] false),(1,.map .str false tG true),(2,.map .str false (.list .str) false),(3,.map .str false .bool false),(4,.map .str false .bool false)] [.slot 0,.cell 0 0,.cell 0 1,.cell 0 2,.cell 0 3] []
@[reducible] def qH74:ah:=ah.mk [(0,.bX [.cB 5 .str,.hole .bool])] [(5,.arr .str false),(0,.cells [.mp 1,.mp 2,.mp 3,.mp 4] false),(1,.map .str false tG true),(2,.map .str false (.list .str) false),(3,.map .str false .bool false),(4,.map .str false .bool false)] [.part 0 0] []
noncomputable def abe:Cx:=(aF [] [tD])
theorem E6:abe.Ok prog:=ag trivial ⟨⟨jr,rfl⟩,trivial⟩
@[reducible] def aeb:ah:=ah.mk [(0,.c (.ptr 0 0)),(1,.c (.hole .str)),(11,.c (.mp 1))] [(0,.cells [.mp 1,.mp 2,.mp 3,.mp 4] false),(1,.map .str false tG true),(2,.map .str false (.list .str) false),(3,.map .str false .bool false),(4,.map .str false .bool false)] [] []
@[reducible] def aec:aR:=[(.ret,ah.mk [(4,.c (.cB 5 .str)),(5,.c (.hole .bool))] [(5,.arr .str false),(0,.cells [.mp 1,.mp 2,.mp 3,.mp 4] false),(1,.map .str false tG true),(2,.map .str false (.list .str) false),(3,.map .str false .bool false),(4,.map .str false .bool false)] [.slot 4] [])]
noncomputable def aed:D prog 50 none 6:=dO [] (pick (kd prog f74) [(0,false)]) 0
noncomputable def gH74_0:((ByteArray)×(GG))→ByteArray×bF×bI×aJ×aJ×Unit→aY ((ByteArray×bF×bI×aJ×aJ×Unit) ⊕ ((Nat×Bool×List ByteArray×bF×bI×aJ×aJ×Unit))):=fun e (v1,m1,m2,m3,m4,_) =>
 .br (!(aL .str m1 v1)) (
 .ret (.inr ((0:Nat),false,[],m1,m2,m3,m4,()))) (
 .br ((ak .str ((bs []),(0:Int),(bs []),(bs []),(0:Int)) m1 v1).2.1==(3:Int)) (
 .ret (.inr ((0:Nat),false,[],m1,m2,m3,m4,()))) (
 .br (ak .str false m4 v1) (
 .ret (.inr ((0:Nat),false,[],m1,m2,m3,m4,()))) (
 .br ((ak .str ((bs []),(0:Int),(bs []),(bs []),(0:Int)) m1 v1).2.1==(1:Int)) (
 .bd (FH76fix v1 m1 m2 m3 m4) fun y0 =>
 .ret (.inr (y0.1,true,y0.2.1,y0.2.2.1,y0.2.2.2.1,y0.2.2.2.2.1,y0.2.2.2.2.2.1,()))) (
 .nd (eu m1 m1) <|
 .ret (.inl ((ak .str ((bs []),(0:Int),(bs []),(bs []),(0:Int)) m1 v1).2.2.1,m1,m2,m3,m4,()))))))
noncomputable def aee:o5 prog 50 none 5:=ac3 mixed abe E6 [0,1,2,3,4] rfl aeb aec rfl ( [.op (some 8) none (.mv (.t 0)),.op (some 9) none (.ex dB.eA [.t 8]),.op (some 10) none (.jl 0 [false] (.t 9)),.op (some 11) none (.load false 1 (.t 10))]) 11 12 [13,14] (none) ( .str)  false ( .prod .str (.prod tI (.prod .str (.prod .str tI))))  true 0 rfl 6 rfl (aed) (fun e x=>ai (gH74_0 e x)) (fun e=>fun x=>by kernel_rfl)
noncomputable def abf:D prog 50 none 5:=dO [.m aee] (kd prog f74) 0
noncomputable def FH74 (v1:ByteArray) (m1:bF) (m2:bI) (m3:aJ) (m4:aJ):aY (Nat×Bool×List ByteArray×bF×bI×aJ×aJ×Unit) :=
 .bd (.mp gH74_0 m1 (v1,m1,m2,m3,m4,())) fun z1 =>
 .sm z1 (fun z2 =>
 .ret ((0:Nat),false,[],z2.2.1,z2.2.2.1,z2.2.2.2.1,z2.2.2.2.2.1,())) fun z3 =>
 .ret (z3.1,z3.2.1,z3.2.2.1,z3.2.2.2.1,z3.2.2.2.2.1,z3.2.2.2.2.2.1,z3.2.2.2.2.2.2.1,())
theorem Xe:bK prog f74=some ⟨50,2,abf.er,[.t 4,.t 5],[some (.list .str),some .bool]⟩:=by kernel_rfl
noncomputable def IZ:Ht:=⟨74,pH74,qH74,(fun x=>ai (FH74 x.1 x.2.1 x.2.2.1 x.2.2.2.1 x.2.2.2.2.1))⟩
theorem Cj:IZ.Ok prog:=aM mixed E6 rfl func74 Xe (enters_of func74 rfl rfl) abf (by kernel_rfl) rfl rfl ⟨_,rfl⟩ rfl (pre:=[0,1,2,3,4]) rfl (fun x=>by kernel_rfl)

/- 103 -/
noncomputable def abg:Cx:=(aF [] [])
theorem E7:abg.Ok prog:=ag trivial trivial
@[reducible] def aef:ah:=ah.mk [(0,.c (.hole (.list .str))),(1,.c (.hole .str)),(7,hI),(8,hI)] [] [] []
@[reducible] def aeg:aR:=[(.ret,ah.mk [(4,hI)] [] [] []),(.exit 0,ah.mk [] [] [] [])]
noncomputable def aeh:D prog 19 none 0:=dO [] (pick (kd prog f103) [(0,false)]) 0
noncomputable def g103_0:List ByteArray×ByteArray×Int×Int×Unit→aY ((List ByteArray×ByteArray×Int×Int×Unit) ⊕ ((Int×Unit) ⊕ ((Unit)))):=fun (v0,v1,v7,v8,_) =>
 .br (decide (v8<v7)) (
 .nb v8 (((v0).length:Nat):Int) <|
 .br (seq v1 ((v0).getD (Int.toNat v8) (bs []))) (
 .ret (.inr <| .inl<|(v8,()))) (
 .ni (v8+(1:Int)) <|
 .ret (.inl (v0,v1,v7,(v8+(1:Int)),())))) (
 .ret (.inr <| .inr<|()))
noncomputable def aei:bL prog 19 none 0:=bp mixed abg E7 [] rfl aef aeg rfl (aeh) (fun x=>ai (g103_0 x)) (fun x=>by kernel_rfl)
noncomputable def abh:D prog 19 none 0:=dO [.l aei] (kd prog f103) 0
noncomputable def F103 (a0:List ByteArray) (a1:ByteArray):aY (Int×Unit) :=
 .bd (.it g103_0 (a0,a1,(((a0).length:Nat):Int),(0:Int),())) fun z0 =>
 .sm z0 (fun z1 =>
 .ret (z1.1,())) fun z2 =>
 .ret ((-1:Int),())
theorem Xf:bK prog f103=some ⟨19,2,abh.er,[.t 4],[some tI]⟩:=by kernel_rfl
noncomputable def abi:Ct:=⟨103,[.c (.hole (.list .str)),.c (.hole .str)],hI,fun x=>ai (F103 x.1 x.2.1)⟩
theorem S5:abi.Ok prog:=dX mixed E7 func103 Xf (enters_of func103 rfl rfl) abh (by kernel_rfl) rfl (fun x=>by kernel_rfl)

/- 75 -/
noncomputable def cx75:Cx:=(aF [abi] [])
theorem Xg:cx75.Ok prog:=ag ⟨S5,trivial⟩ trivial
noncomputable def dd75:D prog 9 none 0:=dO [] (kd prog f75) 0
noncomputable def F75 (a0:List ByteArray) (a1:ByteArray):aY (Bool×Unit) :=
 .bd (F103 a0 a1) fun y0 =>
 .ret ((decide ((0:Int)≤y0.1)),())
theorem aej:bK prog f75=some ⟨9,2,dd75.er,[.t 4],[some .bool]⟩:=by kernel_rfl
noncomputable def I1:Ct:=⟨75,[.c (.hole (.list .str)),.c (.hole .str)],.c (.hole .bool),fun x=>ai (F75 x.1 x.2.1)⟩
theorem Ck:I1.Ok prog:=dX mixed Xg func75 aej (enters_of func75 rfl rfl) dd75 (by kernel_rfl) rfl (fun x=>by kernel_rfl)

/- 32, lent -/
@[reducible] def pH32:ah:=ah.mk [(0,.c (.ptr 0 0)),(1,.c (.hole .str))] [(0,.cells [.mp 1] false),(1,.map tG true .bool false)] [.slot 0,.cell 0 0] []
@[reducible] def qH32:ah:=ah.mk [(0,.bX [.hole tI,.hole tI])] [(0,.cells [.mp 1] false),(1,.map tG true .bool false)] [] []
noncomputable def LK:Cx:=(aF [I1] [ql,EY,IZ])
theorem I2:LK.Ok prog:=ag (sA:=[I1]) (hts:=[ql,EY,IZ]) ⟨Ck,trivial⟩ ⟨⟨fH,rfl⟩,⟨rW,rfl⟩,⟨Cj,rfl⟩,trivial⟩
@[reducible] noncomputable def Xh:Go.AM.Fn:=⟨29,2,(dO [] (kd prog f73) 0:D prog 29 none 0).er,[.t 4,.cell 5 true 5,.t 6],[none,some tG,some tI]⟩
noncomputable def LL:Cx:=uL prog LK 73 Xh (fun _=>dO [] (kd prog f73) 0)
theorem I3:LL.Ok prog:=ij mixed I2 func73 (by kernel_rfl) (enters_of func73 rfl rfl) (fun _=>by kernel_rfl)
noncomputable def ahO:Cx:=LL
theorem S6:ahO.Ok prog:=I3
noncomputable def abj:D prog 51 none 2:=dO [] (kd prog f32) 0
noncomputable def FH32 (v1:ByteArray) (m1:List ((GG)×Bool)):aY (Int×Int×(List ((GG)×Bool))×Unit) :=
 .bd (FH54 m1) fun y0 =>
 .br y0.1 (
 .br (!((9:Int)==(0:Int))) (
 .ret ((0:Int),(9:Int),y0.2.1,())) (
 .br ((0:Int)==(3:Int)) (
 .ret ((0:Int),(18:Int),y0.2.1,())) (
 .no))) (
 .bd (FH66 y0.2.1) fun y1 =>
 .br (!(aL .str y1.2.1 v1)) (
 .br (!((5:Int)==(0:Int))) (
 .ret ((0:Int),(5:Int),y1.1,())) (
 .br ((0:Int)==(3:Int)) (
 .ret ((0:Int),(18:Int),y1.1,())) (
 .no))) (
 .br (!((0:Int)==(0:Int))) (
 .ret ((0:Int),(0:Int),y1.1,())) (
 .br ((ak .str ((bs []),(0:Int),(bs []),(bs []),(0:Int)) y1.2.1 v1).2.1==(3:Int)) (
 .ret ((0:Int),(18:Int),y1.1,())) (
 .br (ak .str false y1.2.2.2.2.1 v1) (
 .ret ((2:Int),(0:Int),y1.1,())) (
 .bd (FH74 v1 y1.2.1 y1.2.2.1 y1.2.2.2.1 y1.2.2.2.2.1) fun y2 =>
 .br (!y2.2.1) (
 .ret ((1:Int),(0:Int),y1.1,())) (
 .bd (F75 (((y2.2.2.1).drop (0:Nat)).take y2.1) v1) fun y3 =>
 .br (!y3.1) (
 .ret ((3:Int),(0:Int),y1.1,())) (
 .br (decide ((1:Int)<((y2.1:Nat):Int))) (
 .ret ((5:Int),(0:Int),y1.1,())) (
 .ret ((4:Int),(0:Int),y1.1,())))))))))
theorem Xi:bK prog f32=some ⟨51,2,abj.er,[.t 4,.t 5],[some tI,some tI]⟩:=by kernel_rfl
noncomputable def ht32:Ht:=⟨32,pH32,qH32,(fun x=>ai (FH32 x.1 x.2.1))⟩
theorem Xj:ht32.Ok prog:=aM mixed S6 rfl func32 Xi (enters_of func32 rfl rfl) abj (by kernel_rfl) rfl rfl ⟨_,rfl⟩ rfl (pre:=[0,1]) rfl (fun x=>by kernel_rfl)

/- 104, lent -/
@[reducible] def S7:ah:=ah.mk [(0,.c .b7),(1,.c (.hole .str))] [] [] []
@[reducible] def S8:ah:=ah.mk [(0,.c .any)] [] [] []
noncomputable def Ob:Cx:=(aF [] [])
theorem Cl:Ob.Ok prog:=ag trivial trivial
noncomputable def AS:D prog 14 none 0:=dO [] (kd prog f104) 0
noncomputable def FH104_v1 (v1:ByteArray):aY (Unit) :=
 .no
theorem E8:bK prog f104=some ⟨14,2,AS.er,[.t 4],[some (.list .str)]⟩:=by kernel_rfl
noncomputable def E9:Ht:=⟨104,S7,S8,(fun x=>ai (FH104_v1 x.1))⟩
theorem Fa:E9.Ok prog:=aM mixed Cl rfl func104 E8 (enters_of func104 rfl rfl) AS (by kernel_rfl) rfl rfl ⟨_,rfl⟩ rfl (pre:=[]) rfl (fun x=>by kernel_rfl)

/- 76, lent -/
@[reducible] def Xk:ah:=ah.mk [(0,.c .b7),(1,.c (.hole .str))] [] [] []
@[reducible] def Xl:ah:=ah.mk [(0,.c .any)] [] [] []
noncomputable def S9:Cx:=(aF [] [E9])
theorem Fb:S9.Ok prog:=ag trivial ⟨⟨Fa,rfl⟩,trivial⟩
noncomputable def Fc:D prog 32 none 0:=dO [.x] (kd prog f76) 0
noncomputable def FH76_v1 (v1:ByteArray):aY (Unit) :=
 .bd (FH104_v1 v1) fun y0 =>
 .no
theorem I4:bK prog f76=some ⟨32,2,Fc.er,[.t 4],[some (.list .str)]⟩:=by kernel_rfl
noncomputable def mM:Ht:=⟨76,Xk,Xl,(fun x=>ai (FH76_v1 x.1))⟩
theorem qp:mM.Ok prog:=aM mixed Fb rfl func76 I4 (enters_of func76 rfl rfl) Fc (by kernel_rfl) rfl rfl ⟨_,rfl⟩ rfl (pre:=[]) rfl (fun x=>by kernel_rfl)

/- 33, lent -/
@[reducible] def pH33:ah:=ah.mk [(0,.c (.ptr 0 0)),(1,.c (.hole .str))] [(0,.cells [.mp 1] false),(1,.map tG true .bool false)] [.slot 0,.cell 0 0] []
@[reducible] def qH33:ah:=ah.mk [(0,.bX [.cB 2 .str,.hole tI])] [(2,.arr .str false),(0,.cells [.mp 1] false),(1,.map tG true .bool false)] [.part 0 0] []
noncomputable def LM:Cx:=(aF [] [ql,mM,EY,tD])
theorem I5:LM.Ok prog:=ag (sA:=[]) (hts:=[ql,mM,EY,tD]) trivial ⟨⟨fH,rfl⟩,⟨qp,rfl⟩,⟨rW,rfl⟩,⟨jr,rfl⟩,trivial⟩
@[reducible] noncomputable def Xm:Go.AM.Fn:=⟨29,2,(dO [] (kd prog f73) 0:D prog 29 none 0).er,[.t 4,.cell 5 true 5,.t 6],[none,some tG,some tI]⟩
noncomputable def LN:Cx:=uL prog LM 73 Xm (fun _=>dO [] (kd prog f73) 0)
theorem I6:LN.Ok prog:=ij mixed I5 func73 (by kernel_rfl) (enters_of func73 rfl rfl) (fun _=>by kernel_rfl)
noncomputable def ahQ:Cx:=LN
theorem Ta:ahQ.Ok prog:=I6
noncomputable def abk:D prog 27 none 2:=dO [] (kd prog f33) 0
noncomputable def FH33 (v1:ByteArray) (m1:List ((GG)×Bool)):aY (Nat×Int×List ByteArray×(List ((GG)×Bool))×Unit) :=
 .bd (FH54 m1) fun y0 =>
 .br y0.1 (
 .br (!((9:Int)==(0:Int))) (
 .ret ((0:Nat),(9:Int),[],y0.2.1,())) (
 .br (!((0:Int)==(1:Int))) (
 .ret ((0:Nat),(18:Int),[],y0.2.1,())) (
 .bd (FH76_v1 v1) fun y1 =>
 .no))) (
 .bd (FH66 y0.2.1) fun y2 =>
 .br (!(aL .str y2.2.1 v1)) (
 .br (!((5:Int)==(0:Int))) (
 .ret ((0:Nat),(5:Int),[],y2.1,())) (
 .br (!((0:Int)==(1:Int))) (
 .ret ((0:Nat),(18:Int),[],y2.1,())) (
 .bd (FH76_v1 v1) fun y3 =>
 .no))) (
 .br (!((0:Int)==(0:Int))) (
 .ret ((0:Nat),(0:Int),[],y2.1,())) (
 .br (!((ak .str ((bs []),(0:Int),(bs []),(bs []),(0:Int)) y2.2.1 v1).2.1==(1:Int))) (
 .ret ((0:Nat),(18:Int),[],y2.1,())) (
 .bd (FH76fix v1 y2.2.1 y2.2.2.1 y2.2.2.2.1 y2.2.2.2.2.1) fun y4 =>
 .ret (y4.1,(0:Int),y4.2.1,y2.1,())))))
theorem Xn:bK prog f33=some ⟨27,2,abk.er,[.t 4,.t 5],[some (.list .str),some tI]⟩:=by kernel_rfl
noncomputable def ht33:Ht:=⟨33,pH33,qH33,(fun x=>ai (FH33 x.1 x.2.1))⟩
theorem Xo:ht33.Ok prog:=aM mixed Ta rfl func33 Xn (enters_of func33 rfl rfl) abk (by kernel_rfl) rfl rfl ⟨_,rfl⟩ rfl (pre:=[0,1]) rfl (fun x=>by kernel_rfl)

/- 40, lent -/
@[reducible] def pH40:ah:=ah.mk [(0,.c (.ptr 0 0)),(1,.c (.hole .str)),(2,hI)] [(0,.cells [.mp 1] false),(1,.map tG true .bool false)] [.slot 0,.cell 0 0] []
@[reducible] def qH40:ah:=ah.mk [(0,.c (.hole .bool))] [(0,.cells [.mp 1] false),(1,.map tG true .bool false)] [] []
noncomputable def ahS:Cx:=(aF [] [ht32])
theorem Tb:ahS.Ok prog:=ag trivial ⟨⟨Xj,rfl⟩,trivial⟩
noncomputable def abl:D prog 22 none 2:=dO [] (kd prog f40) 0
noncomputable def FH40 (v1:ByteArray) (v2:Int) (m1:List ((GG)×Bool)):aY (Bool×(List ((GG)×Bool))×Unit) :=
 .bd (FH32 v1 m1) fun y0 =>
 .br (y0.2.1==(0:Int)) (
 .ret ((y0.1==v2),y0.2.2.1,())) (
 .ret (false,y0.2.2.1,()))
theorem Xp:bK prog f40=some ⟨22,3,abl.er,[.t 6],[some .bool]⟩:=by kernel_rfl
noncomputable def ht40:Ht:=⟨40,pH40,qH40,(fun x=>ai (FH40 x.1 x.2.1 x.2.2.1))⟩
theorem Xq:ht40.Ok prog:=aM mixed Tb rfl func40 Xp (enters_of func40 rfl rfl) abl (by kernel_rfl) rfl rfl ⟨_,rfl⟩ rfl (pre:=[0,1]) rfl (fun x=>by kernel_rfl)

/- 100, lent -/
@[reducible] def ahU:ah:=ah.mk [(0,.c (.mp 0)),(1,hI)] [(0,.map tI false .unit true)] [.slot 0] []
@[reducible] def ahV:ah:=ah.mk [(0,.c .any)] [(0,.map tI false .unit true)] [] []
noncomputable def aek:Cx:=(aF [] [])
theorem Oc:aek.Ok prog:=ag trivial trivial
noncomputable def Tc:D prog 7 none 1:=dO [] (kd prog f100) 0
noncomputable def FH100 (v1:Int) (m0:List (Int×Unit)):aY ((List (Int×Unit))×Unit) :=
 .ret ((aS (.int .i64) m0 v1 ()),())
theorem Td:bK prog f100=some ⟨7,2,Tc.er,[],[]⟩:=by kernel_rfl
noncomputable def Te:Ht:=⟨100,ahU,ahV,(fun x=>ai (FH100 x.1 x.2.1))⟩
theorem Fe:Te.Ok prog:=aM mixed Oc rfl func100 Td (enters_of func100 rfl rfl) Tc (by kernel_rfl) rfl rfl ⟨_,rfl⟩ rfl (pre:=[0]) rfl (fun x=>by kernel_rfl)

/- 79, lent -/
@[reducible] def pH79:ah:=ah.mk [(0,.c (.ptr 0 0))] [(0,.cells [.mp 1,.mp 2,.mp 3,.mp 4] false),(1,.map .str false tG true),(2,.map .str false (.list .str) false),(3,.map .str false .bool false),(4,.map .str false .bool false)] [.slot 0,.cell 0 0,.cell 0 1,.cell 0 2,.cell 0 3] []
@[reducible] def qH79:ah:=ah.mk [(0,.fn 106 [] [.ptr 5 0])] [(5,.cells [.ptr 0 0] false),(0,.cells [.mp 1,.mp 2,.mp 3,.mp 4] false),(1,.map .str false tG true),(2,.map .str false (.list .str) false),(3,.map .str false .bool false),(4,.map .str false .bool false)] [.part 0 0] []
noncomputable def ahW:Cx:=(aF [] [])
theorem Tf:ahW.Ok prog:=ag trivial trivial
noncomputable def abm:D prog 4 none 5:=dO [] (kd prog f79) 0
noncomputable def FH79 (m1:bF) (m2:bI) (m3:aJ) (m4:aJ):aY (bF×bI×aJ×aJ×Unit) :=
 .ret (m1,m2,m3,m4,())
theorem Xr:bK prog f79=some ⟨4,1,abm.er,[.t 2],[none]⟩:=by kernel_rfl
noncomputable def Od:Ht:=⟨79,pH79,qH79,(fun x=>ai (FH79 x.1 x.2.1 x.2.2.1 x.2.2.2.1))⟩
theorem rY:Od.Ok prog:=aM mixed Tf rfl func79 Xr (enters_of func79 rfl rfl) abm (by kernel_rfl) rfl rfl ⟨_,rfl⟩ rfl (pre:=[0,1,2,3,4]) rfl (fun x=>by kernel_rfl)

/- 68 -/
noncomputable def cx68:Cx:=(aF [] [])
theorem Xs:cx68.Ok prog:=ag trivial trivial
noncomputable def dd68:D prog 10 none 0:=dO [] (kd prog f68) 0
noncomputable def F68 (a0:GG) (a1:ByteArray):aY (Int×Unit) :=
 .br (!(seq a0.2.2.2.1 a1)) (
 .ret ((0:Int),())) (
 .ret (a0.2.2.2.2,()))
theorem ael:bK prog f68=some ⟨10,2,dd68.er,[.t 3],[some tI]⟩:=by kernel_rfl
noncomputable def ct68:Ct:=⟨68,[.c (.hole tG),.c (.eS .str)],hI,fun x=>ai (F68 x.1 x.2.1)⟩
theorem Xt:ct68.Ok prog:=dX mixed Xs func68 ael (enters_of func68 rfl rfl) dd68 (by kernel_rfl) rfl (fun x=>by kernel_rfl)

/- 120, lent -/
@[reducible] def ahZ:ah:=ah.mk [(0,.c (.mp 0))] [(0,.map tI false .unit true)] [.slot 0] []
@[reducible] def ah0:ah:=ah.mk [(0,.fn 132 [] [.ptr 1 0])] [(1,.cells [.mp 0] false),(0,.map tI false .unit true)] [.part 0 0] []
noncomputable def aem:Cx:=(aF [] [])
theorem Oe:aem.Ok prog:=ag trivial trivial
noncomputable def Tg:D prog 4 none 1:=dO [] (kd prog f120) 0
noncomputable def FH120 (m0:List (Int×Unit)):aY ((List (Int×Unit))×Unit) :=
 .ret (m0,())
theorem Th:bK prog f120=some ⟨4,1,Tg.er,[.t 2],[none]⟩:=by kernel_rfl
noncomputable def abn:Ht:=⟨120,ahZ,ah0,(fun x=>ai (FH120 x.1))⟩
theorem Ti:abn.Ok prog:=aM mixed Oe rfl func120 Th (enters_of func120 rfl rfl) Tg (by kernel_rfl) rfl rfl ⟨_,rfl⟩ rfl (pre:=[0]) rfl (fun x=>by kernel_rfl)

/- 101, lent -/
@[reducible] def ah1:ah:=ah.mk [(0,.c (.mp 0))] [(0,.map tI false .unit true)] [.slot 0] []
@[reducible] def ah2:ah:=ah.mk [(0,.fn 132 [] [.ptr 1 0])] [(1,.cells [.mp 0] false),(0,.map tI false .unit true)] [.part 0 0] []
noncomputable def aen:Cx:=(aF [] [abn])
theorem Of:aen.Ok prog:=ag trivial ⟨⟨Ti,rfl⟩,trivial⟩
noncomputable def Tj:D prog 5 none 1:=dO [] (kd prog f101) 0
noncomputable def FH101 (m0:List (Int×Unit)):aY ((List (Int×Unit))×Unit) :=
 .bd (FH120 m0) fun y0 =>
 .ret (y0.1,())
theorem Tl:bK prog f101=some ⟨5,1,Tj.er,[.t 2],[none]⟩:=by kernel_rfl
noncomputable def Tm:Ht:=⟨101,ah1,ah2,(fun x=>ai (FH101 x.1))⟩
theorem Ff:Tm.Ok prog:=aM mixed Of rfl func101 Tl (enters_of func101 rfl rfl) Tj (by kernel_rfl) rfl rfl ⟨_,rfl⟩ rfl (pre:=[0]) rfl (fun x=>by kernel_rfl)

/- 122, by hand -/
@[reducible] def ah3:ah:=ah.mk [(0,.c (.cB 0 tI))] [(0,.arr tI false)] [.slot 0] []
@[reducible] def ah4:ah:=ah.mk [(0,.c .any)] [(0,.arr tI false)] [] []
noncomputable def FH122 (kD:Nat) (b0:List Int):aY (List Int×Unit) :=
 .of (uK (.int .i64) b0 kD)
noncomputable def Tn:Ht:=⟨122,ah3,ah4,(fun x=>ai (FH122 x.1 x.2.1))⟩
theorem To:Tn.Ok prog:=fun x y h=>RM (ρ:=xF) adl (enters_of func122 rfl rfl) (xs:=x.2.1) (n:=x.1) (y:=y) h

/- 102, lent -/
@[reducible] def ah5:ah:=ah.mk [(0,.fn 132 [] [.ptr 0 0])] [(0,.cells [.mp 1] false),(1,.map tI false .unit true)] [.part 0 0,.cell 0 0] []
@[reducible] def ah6:ah:=ah.mk [(0,.c (.cB 2 tI))] [(2,.arr tI false),(0,.cells [.mp 1] false),(1,.map tI false .unit true)] [.slot 0] []
noncomputable def rZ:Cx:=(aF [] [Tn])
theorem n4:rZ.Ok prog:=ag (sA:=[]) (hts:=[Tn]) trivial ⟨⟨To,rfl⟩,trivial⟩
noncomputable def lQ:D prog 13 (some 4) 7:=dO [] (pick (kd prog f133) [(0,false)]) 0
noncomputable def lR:D prog 13 (some 4) 7:=dO [] (pick (kd prog f133) [(0,true)]) 0
noncomputable def gG:Cx:=uJ rZ (fun kz=>NJ kz rZ dN 4 7 [7] (lQ) (lR))
theorem iI:(gG).Ok prog:=gF n4 (fun h=>jU mixed n4 h)
@[reducible] def qq:ah:=ah.mk [(0,.c (.yl 4)),(4,.c (.mp 1))] [(4,.loop .ready none 3 [(2,.c (.ptr 2 0)),(4,.c .bG),(6,.fn 132 [] [.ptr 0 0])] [7] (.aN [.op (some 5) none (.mv (.t 7))]) (.block 1 (.aN [.op (some 8) none (.load false 1 (.t 2)),.op (some 9) none (.mv (.t 5)),.op (some 10) none (.dH tI [.t 9]),.op (some 11) none (.append 1 (.t 8) (.t 10)),.op none none (.store 1 (.t 2) (.t 11))])) 13),(1,.map tI false .unit true),(3,.ff),(2,.cells [.cB 5 tI] false),(0,.cells [.mp 1] false),(5,.arr tI false)] [.cell 2 0] []
noncomputable def qs:D prog 14 none 7:=dO [] (pick (kd prog f132) [(0,false)]) 0
noncomputable def gH102f121f133_0i_0:((Int)×(Unit))→(List (Int×Unit))×Nat×List Int×Unit→aY ((List (Int×Unit))×Nat×List Int×Unit):=fun e (m1,jY,b5,_) =>
 .nd (decide ((jY+(((((e.1::[])).drop (0:Nat)).take (1:Nat))).length)<cM)) <|
 .nd (eu m1 m1) <|
 .ret (m1,(jY+(((((e.1::[])).drop (0:Nat)).take (1:Nat))).length),((((b5).drop (0:Nat)).take jY)++((((e.1::[])).drop (0:Nat)).take (1:Nat))),())
noncomputable def qt:o5 prog 14 none 5:=vj mixed gG iI [0,1,2,3,4] rfl qq ( [.op (some 4) none (.load false 1 (.t 1))]) 4 5 [6,7] (some 8) ( .int .i64)  false ( .unit)  true 0 rfl 7 rfl (qs) (fun e x=>ai (gH102f121f133_0i_0 e x)) (fun e=>fun x=>by kernel_rfl)
@[reducible] def uO:ah:=ah.mk [(2,.c (.ptr 2 0)),(4,.c .bG),(6,.fn 132 [] [.ptr 0 0])] [(2,.cells [.bG] false),(0,.cells [.mp 1] false),(1,.map tI false .unit true)] [.slot 2] []
@[reducible] def uP:aR:=[(.normal,ah.mk [(2,.c (.ptr 2 0))] [(2,.cells [.cB 3 tI] false),(0,.cells [.mp 1] false),(1,.map tI false .unit true),(3,.arr tI false)] [.slot 2,.cell 2 0] [])]
noncomputable def lS:D prog 14 none 5:=dO [.m qt] (kd prog f132) 0
theorem tE:bK prog f132=some ⟨14,2,(lS).er,[],[]⟩:=by kernel_rfl
noncomputable def nj:eL prog 13 none 2:=rJ mixed gG iI [0,1] rfl uO uP ( .t 6) [7] rfl (lQ).er (lR).er 132 func132 (tE) (enters_of func132 rfl rfl) 5 rfl (lS) rfl
@[reducible] noncomputable def Tp:Go.AM.Fn:=⟨13,2,(dO [.r nj] (kd prog f133) 0:D prog 13 none 2).er,[.t 4],[some tL]⟩
noncomputable def Fg:Cx:=AJ prog rZ 133 Tp 2 (dO [.r nj] (kd prog f133) 0)
theorem Fh:Fg.Ok prog:=rI mixed n4 func133 (by kernel_rfl) (enters_of func133 rfl rfl) rfl
@[reducible] noncomputable def Tq:Go.AM.Fn:=⟨5,1,(dO [] (kd prog f121) 0:D prog 5 none 0).er,[.t 2],[some tL]⟩
noncomputable def Fi:Cx:=uL prog Fg 121 Tq (fun _=>dO [] (kd prog f121) 0)
theorem Fj:Fi.Ok prog:=ij mixed Fh func121 (by kernel_rfl) (enters_of func121 rfl rfl) (fun _=>by kernel_rfl)
noncomputable def aeo:Cx:=Fi
theorem Og:aeo.Ok prog:=Fj
noncomputable def Ts:D prog 9 none 2:=dO [] (kd prog f102) 0
noncomputable def FH102 (m1:List (Int×Unit)):aY (Nat×List Int×(List (Int×Unit))×Unit) :=
 .an m1 fun l0 =>
 .bd (.fm gH102f121f133_0i_0 l0 (m1,(0:Nat),[],())) fun z1 =>
 .bd (FH122 z1.2.1 z1.2.2.1) fun y2 =>
 .ret (z1.2.1,y2.1,z1.1,())
theorem Tt:bK prog f102=some ⟨9,1,Ts.er,[.t 2],[some tL]⟩:=by kernel_rfl
noncomputable def Tu:Ht:=⟨102,ah5,ah6,(fun x=>ai (FH102 x.1))⟩
theorem Fk:Tu.Ok prog:=aM mixed Og rfl func102 Tt (enters_of func102 rfl rfl) Ts (by kernel_rfl) rfl rfl ⟨_,rfl⟩ rfl (pre:=[0,1]) rfl (fun x=>by kernel_rfl)

/- 67, lent -/
@[reducible] def pH67:ah:=ah.mk [(0,.c (.ptr 0 0)),(1,.fn 68 [] [.ptr 1 0])] [(0,.cells [.mp 2,.mp 3,.mp 4,.mp 5] false),(1,.cells [.hole .str] false),(2,.map .str false tG true),(3,.map .str false (.list .str) false),(4,.map .str false .bool false),(5,.map .str false .bool false)] [.slot 0,.part 1 0,.cell 0 0,.cell 0 1,.cell 0 2,.cell 0 3] []
@[reducible] def qH67:ah:=ah.mk [(0,.c (.cB 6 tI))] [(6,.arr tI false),(0,.cells [.mp 2,.mp 3,.mp 4,.mp 5] false),(2,.map .str false tG true),(3,.map .str false (.list .str) false),(4,.map .str false .bool false),(5,.map .str false .bool false),(1,.cells [.hole .str] false)] [.slot 0] []
noncomputable def AU:Cx:=(aF [ct68] [Te,Od,Cf,Cg,tD,Tm,Tu])
theorem lT:AU.Ok prog:=ag ⟨Xt,trivial⟩ ⟨⟨Fe,rfl⟩,⟨rY,rfl⟩,⟨kR,rfl⟩,⟨kU,rfl⟩,⟨jr,rfl⟩,⟨Ff,rfl⟩,⟨Fk,rfl⟩,trivial⟩
noncomputable def xS:D prog 48 (some 26) 29:=dO [] (pick (kd prog f67) [(0,true),(0,false),(0,false)]) 0
noncomputable def xU:D prog 48 (some 26) 29:=dO [] (pick (kd prog f67) [(0,true),(0,false),(0,true)]) 0
noncomputable def n9:Cx:=uJ AU (fun kz=>NJ kz AU dN 26 29 [37] (xS) (xU))
theorem oa:(n9).Ok prog:=gF lT (fun h=>jU mixed lT h)
@[reducible] def Cm:ah:=ah.mk [(0,.c (.yl 26)),(4,.c (.mp 24))] [(26,.loop .ready none 11 [(2,.c (.ptr 6 0)),(3,.c (.ptr 7 0)),(5,.c (.ptr 8 0)),(8,.c (.ptr 21 0)),(11,.c (.ptr 22 0)),(21,.c (.cB 20 .str)),(22,hI),(23,hI),(36,.fn 132 [] [.ptr 23 0])] [37] (.aN [.op (some 12) none (.mv (.t 37))]) (.block 5 (.aN [.op (some 38) none (.load false 1 (.t 8)),.op (some 39) none (.mv (.t 12)),.op (some 40) none (.load false 1 (.t 11)),.op (some 41) none (.bin .add (.t 39) (.t 40)),.call (some 42) none (.c (.fn 100 [] [])) [.t 38,.t 41] [none,some tI]])) 48),(24,.map tI false .unit true),(11,.ff),(6,.cells [.ptr 0 0] false),(0,.cells [.mp 2,.mp 3,.mp 4,.mp 5] false),(2,.map .str false tG true),(3,.map .str false (.list .str) false),(4,.map .str false .bool false),(5,.map .str false .bool false),(7,.cells [.fn 68 .nil (.cons (.ptr 1 0) .nil)] false),(1,.cells [.hole .str] false),(8,.cells [.mp 24] false),(21,.cells [.mp 27] false),(22,.cells [.hole tI] false),(20,.arr .str false),(23,.cells [.mp 24] false),(9,.cells [.ptr 0 0] false),(12,.loop .busy none 11 [(2,.c (.ptr 6 0)),(3,.c (.ptr 7 0)),(4,.c .bG),(5,.c (.ptr 8 0)),(17,.fn 106 [] [.ptr 9 0])] [18,19] (.aN [.op (some 7) none (.mv (.t 19))]) (.block 1 (.seq (.aN [.op (some 20) none (.ex (dB.ir tI false .unit true) []),.op (some 8) none (.alloc [.aO]),.op none none (.store 1 (.t 8) (.t 20))]) (.seq (.seq (.aN [.op (some 21) none (.mv (.t 7)),.op (some 22) none (.len (.t 21)),.op (some 23) none (.mv (.c (.int .i64 (Int.ofNat 0))))]) (.block 2 (.loop (.seq (.aN [.op (some 24) none (.bin .lss (.t 23) (.t 22))]) (.seq (.cond (.t 24) .skip (.exit 2)) (.seq (.block 3 (.seq (.aN [.op (some 25) none (.idx 1 (.t 21) (.t 23)),.op (some 26) none (.load false 1 (.t 25)),.op (some 10) none (.mv (.t 26))]) (.seq (.draw [[],[],[1],[1,2],[1,2,3],[],[1,2,3,4,5],[0,1,2,3,4,5,6],[],[0,1,2,3,4,5,6,7,8]] [.op (some 27) none (.load false 1 (.t 3)),.op (some 28) none (.load false 1 (.t 2)),.op (some 29) none (.ex dB.eA [.t 28]),.op (some 30) none (.jl 0 [false] (.t 29)),.op (some 31) none (.load false 1 (.t 30)),.op (some 32) none (.mv (.t 10)),.op (some 33) none (.ex (dB.dG .str false tG true false) [.t 31,.t 32]),.call (some 34) none (.t 27) [.t 33] [some tG],.op (some 11) none (.alloc [.int .i64 (Int.ofNat 0)]),.op none none (.store 1 (.t 11) (.t 34))]) (.seq (.aN [.op (some 35) none (.load false 1 (.t 5)),.call (some 36) none (.c (.fn 101 [] [])) [.t 35] [none]]) (.block 4 (.bA (.t 36) [37] (.aN [.op (some 12) none (.mv (.t 37))]) (.block 5 (.aN [.op (some 38) none (.load false 1 (.t 8)),.op (some 39) none (.mv (.t 12)),.op (some 40) none (.load false 1 (.t 11)),.op (some 41) none (.bin .add (.t 39) (.t 40)),.call (some 42) none (.c (.fn 100 [] [])) [.t 38,.t 41] [none,some tI]])))))))) (.aN [.op (some 43) none (.bin .add (.t 23) (.c (.int .i64 (Int.ofNat 1)))),.op (some 23) none (.mv (.t 43))]))))))) (.aN [.op (some 44) none (.load false 1 (.t 8)),.op none none (.store 1 (.t 5) (.t 44))])))) 48),(13,.arr .str false),(27,.map tI false .unit true)] [.cell 21 0] []
noncomputable def Cn:D prog 14 none 29:=dO [] (pick (kd prog f132) [(0,false)]) 0
noncomputable def gH67_0b_2i_0:((Int)×(Unit))→Nat×Int×Int×(List (Int×Unit))×bF×bI×aJ×aJ×ByteArray×Int×List ByteArray×List ByteArray×(List (Int×Unit))×Unit→aY (Nat×Int×Int×(List (Int×Unit))×bF×bI×aJ×aJ×ByteArray×Int×List ByteArray×List ByteArray×(List (Int×Unit))×Unit):=fun e (aep,w22,w23,m24,m2,m3,m4,m5,qu,Fl,pq,iO,m27,_) =>
 .ni (e.1+Fl) <|
 .bd (FH100 (e.1+Fl) m27) fun y7 =>
 .nd (eu m24 m24) <|
 .ret (aep,w22,w23,m24,m2,m3,m4,m5,qu,Fl,pq,iO,y7.1,())
noncomputable def Co:o5 prog 14 none 27:=rH mixed n9 oa [0,1,2,3,4,5,6,7,8,9,10,11,12,13,14,15,16,17,18,19,20,21,22,23,24,25,26] rfl Cm ( [.op (some 4) none (.load false 1 (.t 1))]) 4 5 [6,7] (some 8) ( .int .i64)  false ( .unit)  true 0 rfl 29 rfl (Cn) (fun e x=>ai (gH67_0b_2i_0 e x)) (fun e=>fun x=>by kernel_rfl)
@[reducible] def Oh:ah:=ah.mk [(2,.c (.ptr 6 0)),(3,.c (.ptr 7 0)),(5,.c (.ptr 8 0)),(8,.c (.ptr 21 0)),(11,.c (.ptr 22 0)),(21,.c (.cB 20 .str)),(22,hI),(23,hI),(36,.fn 132 [] [.ptr 23 0])] [(6,.cells [.ptr 0 0] false),(7,.cells [.fn 68 .nil (.cons (.ptr 1 0) .nil)] false),(8,.cells [.mp 24] false),(21,.cells [.mp 25] false),(22,.cells [.hole tI] false),(20,.arr .str false),(23,.cells [.mp 24] false),(0,.cells [.mp 2,.mp 3,.mp 4,.mp 5] false),(2,.map .str false tG true),(3,.map .str false (.list .str) false),(4,.map .str false .bool false),(5,.map .str false .bool false),(1,.cells [.hole .str] false),(9,.cells [.ptr 0 0] false),(11,.ff),(12,.loop .busy none 11 [(2,.c (.ptr 6 0)),(3,.c (.ptr 7 0)),(4,.c .bG),(5,.c (.ptr 8 0)),(17,.fn 106 [] [.ptr 9 0])] [18,19] (.aN [.op (some 7) none (.mv (.t 19))]) (.block 1 (.seq (.aN [.op (some 20) none (.ex (dB.ir tI false .unit true) []),.op (some 8) none (.alloc [.aO]),.op none none (.store 1 (.t 8) (.t 20))]) (.seq (.seq (.aN [.op (some 21) none (.mv (.t 7)),.op (some 22) none (.len (.t 21)),.op (some 23) none (.mv (.c (.int .i64 (Int.ofNat 0))))]) (.block 2 (.loop (.seq (.aN [.op (some 24) none (.bin .lss (.t 23) (.t 22))]) (.seq (.cond (.t 24) .skip (.exit 2)) (.seq (.block 3 (.seq (.aN [.op (some 25) none (.idx 1 (.t 21) (.t 23)),.op (some 26) none (.load false 1 (.t 25)),.op (some 10) none (.mv (.t 26))]) (.seq (.draw [[],[],[1],[1,2],[1,2,3],[],[1,2,3,4,5],[0,1,2,3,4,5,6],[],[0,1,2,3,4,5,6,7,8]] [.op (some 27) none (.load false 1 (.t 3)),.op (some 28) none (.load false 1 (.t 2)),.op (some 29) none (.ex dB.eA [.t 28]),.op (some 30) none (.jl 0 [false] (.t 29)),.op (some 31) none (.load false 1 (.t 30)),.op (some 32) none (.mv (.t 10)),.op (some 33) none (.ex (dB.dG .str false tG true false) [.t 31,.t 32]),.call (some 34) none (.t 27) [.t 33] [some tG],.op (some 11) none (.alloc [.int .i64 (Int.ofNat 0)]),.op none none (.store 1 (.t 11) (.t 34))]) (.seq (.aN [.op (some 35) none (.load false 1 (.t 5)),.call (some 36) none (.c (.fn 101 [] [])) [.t 35] [none]]) (.block 4 (.bA (.t 36) [37] (.aN [.op (some 12) none (.mv (.t 37))]) (.block 5 (.aN [.op (some 38) none (.load false 1 (.t 8)),.op (some 39) none (.mv (.t 12)),.op (some 40) none (.load false 1 (.t 11)),.op (some 41) none (.bin .add (.t 39) (.t 40)),.call (some 42) none (.c (.fn 100 [] [])) [.t 38,.t 41] [none,some tI]])))))))) (.aN [.op (some 43) none (.bin .add (.t 23) (.c (.int .i64 (Int.ofNat 1)))),.op (some 23) none (.mv (.t 43))]))))))) (.aN [.op (some 44) none (.load false 1 (.t 8)),.op none none (.store 1 (.t 5) (.t 44))])))) 48),(13,.arr .str false),(24,.map tI false .unit true),(25,.map tI false .unit true)] [.slot 8,.slot 11,.part 36 0,.cell 8 0,.cell 21 0] []
@[reducible] def Oi:aR:=[(.normal,ah.mk [(2,.c (.ptr 6 0)),(3,.c (.ptr 7 0)),(5,.c (.ptr 8 0)),(8,.c (.ptr 21 0)),(21,.c (.cB 20 .str)),(22,hI),(23,hI)] [(6,.cells [.ptr 0 0] false),(7,.cells [.fn 68 .nil (.cons (.ptr 1 0) .nil)] false),(8,.cells [.mp 22] false),(21,.cells [.mp 23] false),(20,.arr .str false),(0,.cells [.mp 2,.mp 3,.mp 4,.mp 5] false),(2,.map .str false tG true),(3,.map .str false (.list .str) false),(4,.map .str false .bool false),(5,.map .str false .bool false),(1,.cells [.hole .str] false),(9,.cells [.ptr 0 0] false),(11,.ff),(12,.loop .busy none 11 [(2,.c (.ptr 6 0)),(3,.c (.ptr 7 0)),(4,.c .bG),(5,.c (.ptr 8 0)),(17,.fn 106 [] [.ptr 9 0])] [18,19] (.aN [.op (some 7) none (.mv (.t 19))]) (.block 1 (.seq (.aN [.op (some 20) none (.ex (dB.ir tI false .unit true) []),.op (some 8) none (.alloc [.aO]),.op none none (.store 1 (.t 8) (.t 20))]) (.seq (.seq (.aN [.op (some 21) none (.mv (.t 7)),.op (some 22) none (.len (.t 21)),.op (some 23) none (.mv (.c (.int .i64 (Int.ofNat 0))))]) (.block 2 (.loop (.seq (.aN [.op (some 24) none (.bin .lss (.t 23) (.t 22))]) (.seq (.cond (.t 24) .skip (.exit 2)) (.seq (.block 3 (.seq (.aN [.op (some 25) none (.idx 1 (.t 21) (.t 23)),.op (some 26) none (.load false 1 (.t 25)),.op (some 10) none (.mv (.t 26))]) (.seq (.draw [[],[],[1],[1,2],[1,2,3],[],[1,2,3,4,5],[0,1,2,3,4,5,6],[],[0,1,2,3,4,5,6,7,8]] [.op (some 27) none (.load false 1 (.t 3)),.op (some 28) none (.load false 1 (.t 2)),.op (some 29) none (.ex dB.eA [.t 28]),.op (some 30) none (.jl 0 [false] (.t 29)),.op (some 31) none (.load false 1 (.t 30)),.op (some 32) none (.mv (.t 10)),.op (some 33) none (.ex (dB.dG .str false tG true false) [.t 31,.t 32]),.call (some 34) none (.t 27) [.t 33] [some tG],.op (some 11) none (.alloc [.int .i64 (Int.ofNat 0)]),.op none none (.store 1 (.t 11) (.t 34))]) (.seq (.aN [.op (some 35) none (.load false 1 (.t 5)),.call (some 36) none (.c (.fn 101 [] [])) [.t 35] [none]]) (.block 4 (.bA (.t 36) [37] (.aN [.op (some 12) none (.mv (.t 37))]) (.block 5 (.aN [.op (some 38) none (.load false 1 (.t 8)),.op (some 39) none (.mv (.t 12)),.op (some 40) none (.load false 1 (.t 11)),.op (some 41) none (.bin .add (.t 39) (.t 40)),.call (some 42) none (.c (.fn 100 [] [])) [.t 38,.t 41] [none,some tI]])))))))) (.aN [.op (some 43) none (.bin .add (.t 23) (.c (.int .i64 (Int.ofNat 1)))),.op (some 23) none (.mv (.t 43))]))))))) (.aN [.op (some 44) none (.load false 1 (.t 8)),.op none none (.store 1 (.t 5) (.t 44))])))) 48),(13,.arr .str false),(22,.map tI false .unit true),(23,.map tI false .unit true)] [.slot 8,.cell 8 0,.cell 21 0] [])]
noncomputable def xV:D prog 14 none 27:=dO [.m Co] (kd prog f132) 0
theorem I7:bK prog f132=some ⟨14,2,(xV).er,[],[]⟩:=by kernel_rfl
noncomputable def gH67_0b_2:Nat×Int×Int×Int×List ByteArray×bF×bI×aJ×aJ×ByteArray×List ByteArray×(List (Int×Unit))×(List (Int×Unit))×Unit→aY ((Nat×Int×Int×List ByteArray×bF×bI×aJ×aJ×ByteArray×List ByteArray×(List (Int×Unit))×(List (Int×Unit))×Unit)):=fun (xW,v22,v23,Fl,pq,m2,m3,m4,m5,qu,iO,m24,m25,_) =>
 .bd (.mq gH67_0b_2i_0 m24 (xW,v22,v23,m24,m2,m3,m4,m5,qu,Fl,pq,iO,m25,())) fun z8 =>
 .ret ((xW,v22,v23,z8.2.2.2.2.2.2.2.2.2.2.1,z8.2.2.2.2.1,z8.2.2.2.2.2.1,z8.2.2.2.2.2.2.1,z8.2.2.2.2.2.2.2.1,z8.2.2.2.2.2.2.2.2.1,z8.2.2.2.2.2.2.2.2.2.2.2.1,z8.2.2.2.1,z8.2.2.2.2.2.2.2.2.2.2.2.2.1,()))
noncomputable def Oj:eL prog 48 (some 12) 21:=mH mixed n9 oa [0,1,2,3,4,5,6,7,8,9,10,11,12,13,14,15,16,17,18,19,20] rfl Oh Oi ( .t 36) [37] rfl (xS).er (xU).er 132 func132 (I7) (enters_of func132 rfl rfl) 27 rfl (xV) rfl (fun x=>ai (gH67_0b_2 x)) (fun x=>by kernel_rfl)
@[reducible] def Ol:ah:=ah.mk [(2,.c (.ptr 6 0)),(3,.c (.ptr 7 0)),(5,.c (.ptr 8 0)),(8,.c (.ptr 21 0)),(21,.c (.cB 20 .str)),(22,hI),(23,hI)] [(6,.cells [.ptr 0 0] false),(7,.cells [.fn 68 .nil (.cons (.ptr 1 0) .nil)] false),(8,.cells [.mp 22] false),(21,.cells [.mp 23] false),(20,.arr .str false),(0,.cells [.mp 2,.mp 3,.mp 4,.mp 5] false),(2,.map .str false tG true),(3,.map .str false (.list .str) false),(4,.map .str false .bool false),(5,.map .str false .bool false),(1,.cells [.hole .str] false),(9,.cells [.ptr 0 0] false),(11,.ff),(12,.loop .busy none 11 [(2,.c (.ptr 6 0)),(3,.c (.ptr 7 0)),(4,.c .bG),(5,.c (.ptr 8 0)),(17,.fn 106 [] [.ptr 9 0])] [18,19] (.aN [.op (some 7) none (.mv (.t 19))]) (.block 1 (.seq (.aN [.op (some 20) none (.ex (dB.ir tI false .unit true) []),.op (some 8) none (.alloc [.aO]),.op none none (.store 1 (.t 8) (.t 20))]) (.seq (.seq (.aN [.op (some 21) none (.mv (.t 7)),.op (some 22) none (.len (.t 21)),.op (some 23) none (.mv (.c (.int .i64 (Int.ofNat 0))))]) (.block 2 (.loop (.seq (.aN [.op (some 24) none (.bin .lss (.t 23) (.t 22))]) (.seq (.cond (.t 24) .skip (.exit 2)) (.seq (.block 3 (.seq (.aN [.op (some 25) none (.idx 1 (.t 21) (.t 23)),.op (some 26) none (.load false 1 (.t 25)),.op (some 10) none (.mv (.t 26))]) (.seq (.draw [[],[],[1],[1,2],[1,2,3],[],[1,2,3,4,5],[0,1,2,3,4,5,6],[],[0,1,2,3,4,5,6,7,8]] [.op (some 27) none (.load false 1 (.t 3)),.op (some 28) none (.load false 1 (.t 2)),.op (some 29) none (.ex dB.eA [.t 28]),.op (some 30) none (.jl 0 [false] (.t 29)),.op (some 31) none (.load false 1 (.t 30)),.op (some 32) none (.mv (.t 10)),.op (some 33) none (.ex (dB.dG .str false tG true false) [.t 31,.t 32]),.call (some 34) none (.t 27) [.t 33] [some tG],.op (some 11) none (.alloc [.int .i64 (Int.ofNat 0)]),.op none none (.store 1 (.t 11) (.t 34))]) (.seq (.aN [.op (some 35) none (.load false 1 (.t 5)),.call (some 36) none (.c (.fn 101 [] [])) [.t 35] [none]]) (.block 4 (.bA (.t 36) [37] (.aN [.op (some 12) none (.mv (.t 37))]) (.block 5 (.aN [.op (some 38) none (.load false 1 (.t 8)),.op (some 39) none (.mv (.t 12)),.op (some 40) none (.load false 1 (.t 11)),.op (some 41) none (.bin .add (.t 39) (.t 40)),.call (some 42) none (.c (.fn 100 [] [])) [.t 38,.t 41] [none,some tI]])))))))) (.aN [.op (some 43) none (.bin .add (.t 23) (.c (.int .i64 (Int.ofNat 1)))),.op (some 23) none (.mv (.t 43))]))))))) (.aN [.op (some 44) none (.load false 1 (.t 8)),.op none none (.store 1 (.t 5) (.t 44))])))) 48),(13,.arr .str false),(22,.map tI false .unit true),(23,.map tI false .unit true)] [.slot 8,.cell 8 0,.cell 21 0] []
@[reducible] def Om:aR:=[(.exit 2,ah.mk [(5,.c (.ptr 8 0)),(8,.c (.ptr 21 0))] [(8,.cells [.mp 22] false),(21,.cells [.mp 23] false),(0,.cells [.mp 2,.mp 3,.mp 4,.mp 5] false),(2,.map .str false tG true),(3,.map .str false (.list .str) false),(4,.map .str false .bool false),(5,.map .str false .bool false),(1,.cells [.hole .str] false),(6,.cells [.ptr 0 0] false),(7,.cells [.fn 68 .nil (.cons (.ptr 1 0) .nil)] false),(9,.cells [.ptr 0 0] false),(11,.ff),(12,.loop .busy none 11 [(2,.c (.ptr 6 0)),(3,.c (.ptr 7 0)),(4,.c .bG),(5,.c (.ptr 8 0)),(17,.fn 106 [] [.ptr 9 0])] [18,19] (.aN [.op (some 7) none (.mv (.t 19))]) (.block 1 (.seq (.aN [.op (some 20) none (.ex (dB.ir tI false .unit true) []),.op (some 8) none (.alloc [.aO]),.op none none (.store 1 (.t 8) (.t 20))]) (.seq (.seq (.aN [.op (some 21) none (.mv (.t 7)),.op (some 22) none (.len (.t 21)),.op (some 23) none (.mv (.c (.int .i64 (Int.ofNat 0))))]) (.block 2 (.loop (.seq (.aN [.op (some 24) none (.bin .lss (.t 23) (.t 22))]) (.seq (.cond (.t 24) .skip (.exit 2)) (.seq (.block 3 (.seq (.aN [.op (some 25) none (.idx 1 (.t 21) (.t 23)),.op (some 26) none (.load false 1 (.t 25)),.op (some 10) none (.mv (.t 26))]) (.seq (.draw [[],[],[1],[1,2],[1,2,3],[],[1,2,3,4,5],[0,1,2,3,4,5,6],[],[0,1,2,3,4,5,6,7,8]] [.op (some 27) none (.load false 1 (.t 3)),.op (some 28) none (.load false 1 (.t 2)),.op (some 29) none (.ex dB.eA [.t 28]),.op (some 30) none (.jl 0 [false] (.t 29)),.op (some 31) none (.load false 1 (.t 30)),.op (some 32) none (.mv (.t 10)),.op (some 33) none (.ex (dB.dG .str false tG true false) [.t 31,.t 32]),.call (some 34) none (.t 27) [.t 33] [some tG],.op (some 11) none (.alloc [.int .i64 (Int.ofNat 0)]),.op none none (.store 1 (.t 11) (.t 34))]) (.seq (.aN [.op (some 35) none (.load false 1 (.t 5)),.call (some 36) none (.c (.fn 101 [] [])) [.t 35] [none]]) (.block 4 (.bA (.t 36) [37] (.aN [.op (some 12) none (.mv (.t 37))]) (.block 5 (.aN [.op (some 38) none (.load false 1 (.t 8)),.op (some 39) none (.mv (.t 12)),.op (some 40) none (.load false 1 (.t 11)),.op (some 41) none (.bin .add (.t 39) (.t 40)),.call (some 42) none (.c (.fn 100 [] [])) [.t 38,.t 41] [none,some tI]])))))))) (.aN [.op (some 43) none (.bin .add (.t 23) (.c (.int .i64 (Int.ofNat 1)))),.op (some 23) none (.mv (.t 43))]))))))) (.aN [.op (some 44) none (.load false 1 (.t 8)),.op none none (.store 1 (.t 5) (.t 44))])))) 48),(13,.arr .str false),(20,.arr .str false),(22,.map tI false .unit true),(23,.map tI false .unit true)] [.slot 8,.cell 8 0,.cell 21 0] [])]
noncomputable def On:D prog 48 (some 12) 21:=dO [.r Oj] (pick (kd prog f67) [(0,true),(0,false)]) 0
noncomputable def gH67_0b_1:Nat×Int×Int×List ByteArray×bF×bI×aJ×aJ×ByteArray×List ByteArray×(List (Int×Unit))×(List (Int×Unit))×Unit→aY ((Nat×Int×Int×List ByteArray×bF×bI×aJ×aJ×ByteArray×List ByteArray×(List (Int×Unit))×(List (Int×Unit))×Unit) ⊕ ((bF×bI×aJ×aJ×ByteArray×List ByteArray×List ByteArray×(List (Int×Unit))×(List (Int×Unit))×Unit))):=fun (xW,v22,v23,pq,m2,m3,m4,m5,qu,iO,m22,m23,_) =>
 .br (decide (v23<v22)) (
 .nb v23 ((xW:Nat):Int) <|
 .nd (decide (((0:Nat)+(Int.toNat v23))<(pq).length)) <|
 .bd (F68 ((ak .str ((bs []),(0:Int),(bs []),(bs []),(0:Int)) m2 ((pq).getD ((0:Nat)+(Int.toNat v23)) (bs []))).1,(ak .str ((bs []),(0:Int),(bs []),(bs []),(0:Int)) m2 ((pq).getD ((0:Nat)+(Int.toNat v23)) (bs []))).2.1,(ak .str ((bs []),(0:Int),(bs []),(bs []),(0:Int)) m2 ((pq).getD ((0:Nat)+(Int.toNat v23)) (bs []))).2.2.1,(ak .str ((bs []),(0:Int),(bs []),(bs []),(0:Int)) m2 ((pq).getD ((0:Nat)+(Int.toNat v23)) (bs []))).2.2.2.1,(ak .str ((bs []),(0:Int),(bs []),(bs []),(0:Int)) m2 ((pq).getD ((0:Nat)+(Int.toNat v23)) (bs []))).2.2.2.2) qu) fun y5 =>
 .bd (FH101 m22) fun y6 =>
 .bd (gH67_0b_2 (xW,v22,v23,y5.1,pq,m2,m3,m4,m5,qu,iO,y6.1,m23,())) fun z9 =>
 .ni (z9.2.2.1+(1:Int)) <|
 .ret (.inl (z9.1,z9.2.1,(z9.2.2.1+(1:Int)),z9.2.2.2.1,z9.2.2.2.2.1,z9.2.2.2.2.2.1,z9.2.2.2.2.2.2.1,z9.2.2.2.2.2.2.2.1,z9.2.2.2.2.2.2.2.2.1,z9.2.2.2.2.2.2.2.2.2.1,z9.2.2.2.2.2.2.2.2.2.2.1,z9.2.2.2.2.2.2.2.2.2.2.2.1,()))) (
 .ret (.inr (m2,m3,m4,m5,qu,iO,pq,m22,m23,())))
noncomputable def Oo:bL prog 48 (some 12) 21:=bp mixed AU lT [0,1,2,3,4,5,6,7,8,9,10,11,12,13,14,15,16,17,18,19,20] rfl Ol Om rfl (On) (fun x=>ai (gH67_0b_1 x)) (fun x=>by kernel_rfl)
noncomputable def LO:D prog 48 (some 12) 21:=dO [] (pick (kd prog f67) [(0,false)]) 0
noncomputable def LP:D prog 48 (some 12) 21:=dO [.l Oo] (pick (kd prog f67) [(0,true)]) 0
noncomputable def xX:Cx:=uJ AU (fun kz=>NJ kz AU dN 12 21 [18,19] (LO) (LP))
theorem um:(xX).Ok prog:=gF lT (fun h=>jU mixed lT h)
@[reducible] def Oq:ah:=ah.mk [(0,.c (.yl 12)),(1,.c (.ptr 9 0)),(10,.c (.cB 13 .str)),(11,hI),(12,hI)] [(12,.loop .ready none 11 [(2,.c (.ptr 6 0)),(3,.c (.ptr 7 0)),(4,.c .bG),(5,.c (.ptr 8 0)),(17,.fn 106 [] [.ptr 9 0])] [18,19] (.aN [.op (some 7) none (.mv (.t 19))]) (.block 1 (.seq (.aN [.op (some 20) none (.ex (dB.ir tI false .unit true) []),.op (some 8) none (.alloc [.aO]),.op none none (.store 1 (.t 8) (.t 20))]) (.seq (.seq (.aN [.op (some 21) none (.mv (.t 7)),.op (some 22) none (.len (.t 21)),.op (some 23) none (.mv (.c (.int .i64 (Int.ofNat 0))))]) (.block 2 (.loop (.seq (.aN [.op (some 24) none (.bin .lss (.t 23) (.t 22))]) (.seq (.cond (.t 24) .skip (.exit 2)) (.seq (.block 3 (.seq (.aN [.op (some 25) none (.idx 1 (.t 21) (.t 23)),.op (some 26) none (.load false 1 (.t 25)),.op (some 10) none (.mv (.t 26))]) (.seq (.draw [[],[],[1],[1,2],[1,2,3],[],[1,2,3,4,5],[0,1,2,3,4,5,6],[],[0,1,2,3,4,5,6,7,8]] [.op (some 27) none (.load false 1 (.t 3)),.op (some 28) none (.load false 1 (.t 2)),.op (some 29) none (.ex dB.eA [.t 28]),.op (some 30) none (.jl 0 [false] (.t 29)),.op (some 31) none (.load false 1 (.t 30)),.op (some 32) none (.mv (.t 10)),.op (some 33) none (.ex (dB.dG .str false tG true false) [.t 31,.t 32]),.call (some 34) none (.t 27) [.t 33] [some tG],.op (some 11) none (.alloc [.int .i64 (Int.ofNat 0)]),.op none none (.store 1 (.t 11) (.t 34))]) (.seq (.aN [.op (some 35) none (.load false 1 (.t 5)),.call (some 36) none (.c (.fn 101 [] [])) [.t 35] [none]]) (.block 4 (.bA (.t 36) [37] (.aN [.op (some 12) none (.mv (.t 37))]) (.block 5 (.aN [.op (some 38) none (.load false 1 (.t 8)),.op (some 39) none (.mv (.t 12)),.op (some 40) none (.load false 1 (.t 11)),.op (some 41) none (.bin .add (.t 39) (.t 40)),.call (some 42) none (.c (.fn 100 [] [])) [.t 38,.t 41] [none,some tI]])))))))) (.aN [.op (some 43) none (.bin .add (.t 23) (.c (.int .i64 (Int.ofNat 1)))),.op (some 23) none (.mv (.t 43))]))))))) (.aN [.op (some 44) none (.load false 1 (.t 8)),.op none none (.store 1 (.t 5) (.t 44))])))) 48),(9,.cells [.ptr 0 0] false),(13,.arr .str false),(11,.ff),(6,.cells [.ptr 0 0] false),(0,.cells [.mp 2,.mp 3,.mp 4,.mp 5] false),(2,.map .str false tG true),(3,.map .str false (.list .str) false),(4,.map .str false .bool false),(5,.map .str false .bool false),(7,.cells [.fn 68 .nil (.cons (.ptr 1 0) .nil)] false),(1,.cells [.hole .str] false),(8,.cells [.mp 14] false),(14,.map tI false .unit true)] [.slot 10,.cell 8 0] []
@[reducible] def Ot:aR:=[(.exit 0,ah.mk [] [(0,.cells [.mp 2,.mp 3,.mp 4,.mp 5] false),(2,.map .str false tG true),(3,.map .str false (.list .str) false),(4,.map .str false .bool false),(5,.map .str false .bool false),(1,.cells [.hole .str] false),(6,.cells [.ptr 0 0] false),(7,.cells [.fn 68 .nil (.cons (.ptr 1 0) .nil)] false),(8,.cells [.mp 13] false),(9,.cells [.ptr 0 0] false),(11,.ff),(12,.loop .ready none 11 [(2,.c (.ptr 6 0)),(3,.c (.ptr 7 0)),(4,.c .bG),(5,.c (.ptr 8 0)),(17,.fn 106 [] [.ptr 9 0])] [18,19] (.aN [.op (some 7) none (.mv (.t 19))]) (.block 1 (.seq (.aN [.op (some 20) none (.ex (dB.ir tI false .unit true) []),.op (some 8) none (.alloc [.aO]),.op none none (.store 1 (.t 8) (.t 20))]) (.seq (.seq (.aN [.op (some 21) none (.mv (.t 7)),.op (some 22) none (.len (.t 21)),.op (some 23) none (.mv (.c (.int .i64 (Int.ofNat 0))))]) (.block 2 (.loop (.seq (.aN [.op (some 24) none (.bin .lss (.t 23) (.t 22))]) (.seq (.cond (.t 24) .skip (.exit 2)) (.seq (.block 3 (.seq (.aN [.op (some 25) none (.idx 1 (.t 21) (.t 23)),.op (some 26) none (.load false 1 (.t 25)),.op (some 10) none (.mv (.t 26))]) (.seq (.draw [[],[],[1],[1,2],[1,2,3],[],[1,2,3,4,5],[0,1,2,3,4,5,6],[],[0,1,2,3,4,5,6,7,8]] [.op (some 27) none (.load false 1 (.t 3)),.op (some 28) none (.load false 1 (.t 2)),.op (some 29) none (.ex dB.eA [.t 28]),.op (some 30) none (.jl 0 [false] (.t 29)),.op (some 31) none (.load false 1 (.t 30)),.op (some 32) none (.mv (.t 10)),.op (some 33) none (.ex (dB.dG .str false tG true false) [.t 31,.t 32]),.call (some 34) none (.t 27) [.t 33] [some tG],.op (some 11) none (.alloc [.int .i64 (Int.ofNat 0)]),.op none none (.store 1 (.t 11) (.t 34))]) (.seq (.aN [.op (some 35) none (.load false 1 (.t 5)),.call (some 36) none (.c (.fn 101 [] [])) [.t 35] [none]]) (.block 4 (.bA (.t 36) [37] (.aN [.op (some 12) none (.mv (.t 37))]) (.block 5 (.aN [.op (some 38) none (.load false 1 (.t 8)),.op (some 39) none (.mv (.t 12)),.op (some 40) none (.load false 1 (.t 11)),.op (some 41) none (.bin .add (.t 39) (.t 40)),.call (some 42) none (.c (.fn 100 [] [])) [.t 38,.t 41] [none,some tI]])))))))) (.aN [.op (some 43) none (.bin .add (.t 23) (.c (.int .i64 (Int.ofNat 1)))),.op (some 23) none (.mv (.t 43))]))))))) (.aN [.op (some 44) none (.load false 1 (.t 8)),.op none none (.store 1 (.t 5) (.t 44))])))) 48),(13,.map tI false .unit true)] [.cell 8 0] [])]
noncomputable def Ou:D prog 34 none 13:=dO [] (pick (kd prog f106) [(0,false)]) 0
noncomputable def gH67_0i_0:Nat×Int×Int×List ByteArray×bF×bI×aJ×aJ×ByteArray×(List (Int×Unit))×Unit→aY ((Nat×Int×Int×List ByteArray×bF×bI×aJ×aJ×ByteArray×(List (Int×Unit))×Unit) ⊕ ((bF×bI×aJ×aJ×ByteArray×(List (Int×Unit))×Unit))):=fun (mN,v11,v12,iO,m2,m3,m4,m5,qu,m14,_) =>
 .br (decide (v12<v11)) (
 .nb v12 ((mN:Nat):Int) <|
 .nd (decide (((0:Nat)+(Int.toNat v12))<(iO).length)) <|
 .br ((ak .str ((bs []),(0:Int),(bs []),(bs []),(0:Int)) m2 ((iO).getD ((0:Nat)+(Int.toNat v12)) (bs []))).2.1==(1:Int)) (
 .bd (FH76fix ((iO).getD ((0:Nat)+(Int.toNat v12)) (bs [])) m2 m3 m4 m5) fun y4 =>
 .bd (.it gH67_0b_1 (y4.1,((y4.1:Nat):Int),(0:Int),y4.2.1,y4.2.2.1,y4.2.2.2.1,y4.2.2.2.2.1,y4.2.2.2.2.2.1,qu,iO,m14,[],())) fun LQ =>
 .ni (v12+(1:Int)) <|
 .ret (.inl (mN,v11,(v12+(1:Int)),LQ.2.2.2.2.2.1,LQ.1,LQ.2.1,LQ.2.2.1,LQ.2.2.2.1,LQ.2.2.2.2.1,LQ.2.2.2.2.2.2.2.2.1,()))) (
 .ni (v12+(1:Int)) <|
 .ret (.inl (mN,v11,(v12+(1:Int)),iO,m2,m3,m4,m5,qu,m14,())))) (
 .ret (.inr (m2,m3,m4,m5,qu,m14,())))
noncomputable def Ov:bL prog 34 none 13:=bp mixed xX um [0,1,2,3,4,5,6,7,8,9,10,11,12] rfl Oq Ot rfl (Ou) (fun x=>ai (gH67_0i_0 x)) (fun x=>by kernel_rfl)
@[reducible] def aeq:ah:=ah.mk [(2,.c (.ptr 6 0)),(3,.c (.ptr 7 0)),(4,.c .bG),(5,.c (.ptr 8 0)),(17,.fn 106 [] [.ptr 9 0])] [(6,.cells [.ptr 0 0] false),(7,.cells [.fn 68 .nil (.cons (.ptr 1 0) .nil)] false),(8,.cells [.mp 10] false),(9,.cells [.ptr 0 0] false),(0,.cells [.mp 2,.mp 3,.mp 4,.mp 5] false),(2,.map .str false tG true),(3,.map .str false (.list .str) false),(4,.map .str false .bool false),(5,.map .str false .bool false),(1,.cells [.hole .str] false),(10,.map tI false .unit true)] [.slot 2,.slot 3,.slot 5,.part 17 0,.cell 8 0] []
@[reducible] def aer:aR:=[(.normal,ah.mk [(5,.c (.ptr 6 0))] [(6,.cells [.mp 7] false),(0,.cells [.mp 2,.mp 3,.mp 4,.mp 5] false),(2,.map .str false tG true),(3,.map .str false (.list .str) false),(4,.map .str false .bool false),(5,.map .str false .bool false),(1,.cells [.hole .str] false),(7,.map tI false .unit true)] [.slot 5,.cell 6 0] [])]
noncomputable def LS:D prog 34 none 13:=dO [.l Ov] (kd prog f106) 0
theorem Xu:bK prog f106=some ⟨34,2,(LS).er,[],[]⟩:=by kernel_rfl
noncomputable def gH67_0:bF×bI×aJ×aJ×ByteArray×(List (Int×Unit))×Unit→aY ((bF×bI×aJ×aJ×ByteArray×(List (Int×Unit))×Unit)):=fun (m2,m3,m4,m5,qu,m10,_) =>
 .bd (FH95 m2) fun y2 =>
 .bd (FH81 y2.1) fun y3 =>
 .bd (.it gH67_0i_0 (y3.1,((y3.1:Nat):Int),(0:Int),y3.2.1,y3.2.2.1,m3,m4,m5,qu,m10,())) fun PX =>
 .ret ((PX.1,PX.2.1,PX.2.2.1,PX.2.2.2.1,PX.2.2.2.2.1,PX.2.2.2.2.2.1,()))
noncomputable def aes:eL prog 48 none 6:=mH mixed xX um [0,1,2,3,4,5] rfl aeq aer ( .t 17) [18,19] rfl (LO).er (LP).er 106 func106 (Xu) (enters_of func106 rfl rfl) 13 rfl (LS) rfl (fun x=>ai (gH67_0 x)) (fun x=>by kernel_rfl)
noncomputable def abo:D prog 48 none 6:=dO [.r aes] (kd prog f67) 0
noncomputable def FH67 (qu:ByteArray) (m2:bF) (m3:bI) (m4:aJ) (m5:aJ):aY (Nat×List Int×bF×bI×aJ×aJ×ByteArray×Unit) :=
 .bd (FH100 (0:Int) []) fun y0 =>
 .bd (FH79 m2 m3 m4 m5) fun y1 =>
 .bd (gH67_0 (y1.1,y1.2.1,y1.2.2.1,y1.2.2.2.1,qu,y0.1,())) fun z12 =>
 .bd (FH101 z12.2.2.2.2.2.1) fun Tv =>
 .bd (FH102 Tv.1) fun PY =>
 .ret (PY.1,PY.2.1,z12.1,z12.2.1,z12.2.2.1,z12.2.2.2.1,z12.2.2.2.2.1,())
theorem Xv:bK prog f67=some ⟨48,2,abo.er,[.t 4],[some tL]⟩:=by kernel_rfl
noncomputable def Xw:Ht:=⟨67,pH67,qH67,(fun x=>ai (FH67 x.1 x.2.1 x.2.2.1 x.2.2.2.1 x.2.2.2.2.1))⟩
theorem Cp:Xw.Ok prog:=aM mixed lT rfl func67 Xv (enters_of func67 rfl rfl) abo (by kernel_rfl) rfl rfl ⟨_,rfl⟩ rfl (pre:=[0,1,2,3,4,5]) rfl (fun x=>by kernel_rfl)

/- 23, lent -/
@[reducible] def pH23:ah:=ah.mk [(0,.c (.ptr 0 0)),(1,.c (.hole .str))] [(0,.cells [.mp 1] false),(1,.map tG true .bool false)] [.slot 0,.cell 0 0] []
@[reducible] def qH23:ah:=ah.mk [(0,.bX [.cB 2 tI,.hole tI])] [(2,.arr tI false),(0,.cells [.mp 1] false),(1,.map tG true .bool false)] [.part 0 0] []
noncomputable def ah7:Cx:=(aF [IC] [ql,EY,Xw])
theorem Tw:ah7.Ok prog:=ag ⟨oT,trivial⟩ ⟨⟨fH,rfl⟩,⟨rW,rfl⟩,⟨Cp,rfl⟩,trivial⟩
noncomputable def abp:D prog 15 none 2:=dO [] (kd prog f23) 0
noncomputable def FH23 (v1:ByteArray) (m1:List ((GG)×Bool)):aY (Nat×Int×List Int×(List ((GG)×Bool))×Unit) :=
 .bd (FH54 m1) fun y0 =>
 .br y0.1 (
 .ret ((0:Nat),(9:Int),[],y0.2.1,())) (
 .bd (F65 v1) fun y1 =>
 .br (!y1.1) (
 .ret ((0:Nat),(8:Int),[],y0.2.1,())) (
 .bd (FH66 y0.2.1) fun y2 =>
 .bd (FH67 v1 y2.2.1 y2.2.2.1 y2.2.2.2.1 y2.2.2.2.2.1) fun y3 =>
 .ret (y3.1,(0:Int),y3.2.1,y2.1,())))
theorem Xx:bK prog f23=some ⟨15,2,abp.er,[.t 4,.t 5],[some tL,some tI]⟩:=by kernel_rfl
noncomputable def aet:Ht:=⟨23,pH23,qH23,(fun x=>ai (FH23 x.1 x.2.1))⟩
theorem LU:aet.Ok prog:=aM mixed Tw rfl func23 Xx (enters_of func23 rfl rfl) abp (by kernel_rfl) rfl rfl ⟨_,rfl⟩ rfl (pre:=[0,1]) rfl (fun x=>by kernel_rfl)

/- 78 -/
noncomputable def cx78:Cx:=(aF [] [])
theorem Xy:cx78.Ok prog:=ag trivial trivial
noncomputable def dd78:D prog 5 none 0:=dO [] (kd prog f78) 0
noncomputable def F78 (a0:GG):aY (Int×Unit) :=
 .ret (a0.2.2.2.2,())
theorem aeu:bK prog f78=some ⟨5,1,dd78.er,[.t 2],[some tI]⟩:=by kernel_rfl
noncomputable def ct78:Ct:=⟨78,[.c (.hole tG)],hI,fun x=>ai (F78 x.1)⟩
theorem Xz:ct78.Ok prog:=dX mixed Xy func78 aeu (enters_of func78 rfl rfl) dd78 (by kernel_rfl) rfl (fun x=>by kernel_rfl)

/- 67, lent -/
@[reducible] def XA:ah:=ah.mk [(0,.c (.ptr 0 0)),(1,.c (.fn0 78))] [(0,.cells [.mp 1,.mp 2,.mp 3,.mp 4] false),(1,.map .str false tG true),(2,.map .str false (.list .str) false),(3,.map .str false .bool false),(4,.map .str false .bool false)] [.slot 0,.cell 0 0,.cell 0 1,.cell 0 2,.cell 0 3] []
@[reducible] def XB:ah:=ah.mk [(0,.c (.cB 5 tI))] [(5,.arr tI false),(0,.cells [.mp 1,.mp 2,.mp 3,.mp 4] false),(1,.map .str false tG true),(2,.map .str false (.list .str) false),(3,.map .str false .bool false),(4,.map .str false .bool false)] [.slot 0] []
noncomputable def lU:Cx:=(aF [ct78] [Te,Od,Cf,Cg,tD,Tm,Tu])
theorem gp:lU.Ok prog:=ag ⟨Xz,trivial⟩ ⟨⟨Fe,rfl⟩,⟨rY,rfl⟩,⟨kR,rfl⟩,⟨kU,rfl⟩,⟨jr,rfl⟩,⟨Ff,rfl⟩,⟨Fk,rfl⟩,trivial⟩
noncomputable def pP:D prog 48 (some 25) 28:=dO [] (pick (kd prog f67) [(0,true),(0,false),(0,false)]) 0
noncomputable def pQ:D prog 48 (some 25) 28:=dO [] (pick (kd prog f67) [(0,true),(0,false),(0,true)]) 0
noncomputable def j7:Cx:=uJ lU (fun kz=>NJ kz lU dN 25 28 [37] (pP) (pQ))
theorem kV:(j7).Ok prog:=gF gp (fun h=>jU mixed gp h)
@[reducible] def uQ:ah:=ah.mk [(0,.c (.yl 25)),(4,.c (.mp 23))] [(25,.loop .ready none 10 [(2,.c (.ptr 5 0)),(3,.c (.ptr 6 0)),(5,.c (.ptr 7 0)),(8,.c (.ptr 20 0)),(11,.c (.ptr 21 0)),(21,.c (.cB 19 .str)),(22,hI),(23,hI),(36,.fn 132 [] [.ptr 22 0])] [37] (.aN [.op (some 12) none (.mv (.t 37))]) (.block 5 (.aN [.op (some 38) none (.load false 1 (.t 8)),.op (some 39) none (.mv (.t 12)),.op (some 40) none (.load false 1 (.t 11)),.op (some 41) none (.bin .add (.t 39) (.t 40)),.call (some 42) none (.c (.fn 100 [] [])) [.t 38,.t 41] [none,some tI]])) 48),(23,.map tI false .unit true),(10,.ff),(5,.cells [.ptr 0 0] false),(0,.cells [.mp 1,.mp 2,.mp 3,.mp 4] false),(1,.map .str false tG true),(2,.map .str false (.list .str) false),(3,.map .str false .bool false),(4,.map .str false .bool false),(6,.cells [.fn0 78] false),(7,.cells [.mp 23] false),(20,.cells [.mp 26] false),(21,.cells [.hole tI] false),(19,.arr .str false),(22,.cells [.mp 23] false),(8,.cells [.ptr 0 0] false),(11,.loop .busy none 10 [(2,.c (.ptr 5 0)),(3,.c (.ptr 6 0)),(4,.c .bG),(5,.c (.ptr 7 0)),(17,.fn 106 [] [.ptr 8 0])] [18,19] (.aN [.op (some 7) none (.mv (.t 19))]) (.block 1 (.seq (.aN [.op (some 20) none (.ex (dB.ir tI false .unit true) []),.op (some 8) none (.alloc [.aO]),.op none none (.store 1 (.t 8) (.t 20))]) (.seq (.seq (.aN [.op (some 21) none (.mv (.t 7)),.op (some 22) none (.len (.t 21)),.op (some 23) none (.mv (.c (.int .i64 (Int.ofNat 0))))]) (.block 2 (.loop (.seq (.aN [.op (some 24) none (.bin .lss (.t 23) (.t 22))]) (.seq (.cond (.t 24) .skip (.exit 2)) (.seq (.block 3 (.seq (.aN [.op (some 25) none (.idx 1 (.t 21) (.t 23)),.op (some 26) none (.load false 1 (.t 25)),.op (some 10) none (.mv (.t 26))]) (.seq (.draw [[],[],[1],[1,2],[1,2,3],[],[1,2,3,4,5],[0,1,2,3,4,5,6],[],[0,1,2,3,4,5,6,7,8]] [.op (some 27) none (.load false 1 (.t 3)),.op (some 28) none (.load false 1 (.t 2)),.op (some 29) none (.ex dB.eA [.t 28]),.op (some 30) none (.jl 0 [false] (.t 29)),.op (some 31) none (.load false 1 (.t 30)),.op (some 32) none (.mv (.t 10)),.op (some 33) none (.ex (dB.dG .str false tG true false) [.t 31,.t 32]),.call (some 34) none (.t 27) [.t 33] [some tG],.op (some 11) none (.alloc [.int .i64 (Int.ofNat 0)]),.op none none (.store 1 (.t 11) (.t 34))]) (.seq (.aN [.op (some 35) none (.load false 1 (.t 5)),.call (some 36) none (.c (.fn 101 [] [])) [.t 35] [none]]) (.block 4 (.bA (.t 36) [37] (.aN [.op (some 12) none (.mv (.t 37))]) (.block 5 (.aN [.op (some 38) none (.load false 1 (.t 8)),.op (some 39) none (.mv (.t 12)),.op (some 40) none (.load false 1 (.t 11)),.op (some 41) none (.bin .add (.t 39) (.t 40)),.call (some 42) none (.c (.fn 100 [] [])) [.t 38,.t 41] [none,some tI]])))))))) (.aN [.op (some 43) none (.bin .add (.t 23) (.c (.int .i64 (Int.ofNat 1)))),.op (some 23) none (.mv (.t 43))]))))))) (.aN [.op (some 44) none (.load false 1 (.t 8)),.op none none (.store 1 (.t 5) (.t 44))])))) 48),(12,.arr .str false),(26,.map tI false .unit true)] [.cell 20 0] []
noncomputable def uR:D prog 14 none 28:=dO [] (pick (kd prog f132) [(0,false)]) 0
noncomputable def gH67_v1_0b_2i_0:((Int)×(Unit))→Nat×Int×Int×(List (Int×Unit))×bF×bI×aJ×aJ×Int×List ByteArray×List ByteArray×(List (Int×Unit))×Unit→aY (Nat×Int×Int×(List (Int×Unit))×bF×bI×aJ×aJ×Int×List ByteArray×List ByteArray×(List (Int×Unit))×Unit):=fun e (aep,w22,w23,m23,m1,m2,m3,m4,Fm,Fo,zx,m26,_) =>
 .ni (e.1+Fm) <|
 .bd (FH100 (e.1+Fm) m26) fun y7 =>
 .nd (eu m23 m23) <|
 .ret (aep,w22,w23,m23,m1,m2,m3,m4,Fm,Fo,zx,y7.1,())
noncomputable def uS:o5 prog 14 none 26:=rH mixed j7 kV [0,1,2,3,4,5,6,7,8,9,10,11,12,13,14,15,16,17,18,19,20,21,22,23,24,25] rfl uQ ( [.op (some 4) none (.load false 1 (.t 1))]) 4 5 [6,7] (some 8) ( .int .i64)  false ( .unit)  true 0 rfl 28 rfl (uR) (fun e x=>ai (gH67_v1_0b_2i_0 e x)) (fun e=>fun x=>by kernel_rfl)
@[reducible] def Cq:ah:=ah.mk [(2,.c (.ptr 5 0)),(3,.c (.ptr 6 0)),(5,.c (.ptr 7 0)),(8,.c (.ptr 20 0)),(11,.c (.ptr 21 0)),(21,.c (.cB 19 .str)),(22,hI),(23,hI),(36,.fn 132 [] [.ptr 22 0])] [(5,.cells [.ptr 0 0] false),(6,.cells [.fn0 78] false),(7,.cells [.mp 23] false),(20,.cells [.mp 24] false),(21,.cells [.hole tI] false),(19,.arr .str false),(22,.cells [.mp 23] false),(0,.cells [.mp 1,.mp 2,.mp 3,.mp 4] false),(1,.map .str false tG true),(2,.map .str false (.list .str) false),(3,.map .str false .bool false),(4,.map .str false .bool false),(8,.cells [.ptr 0 0] false),(10,.ff),(11,.loop .busy none 10 [(2,.c (.ptr 5 0)),(3,.c (.ptr 6 0)),(4,.c .bG),(5,.c (.ptr 7 0)),(17,.fn 106 [] [.ptr 8 0])] [18,19] (.aN [.op (some 7) none (.mv (.t 19))]) (.block 1 (.seq (.aN [.op (some 20) none (.ex (dB.ir tI false .unit true) []),.op (some 8) none (.alloc [.aO]),.op none none (.store 1 (.t 8) (.t 20))]) (.seq (.seq (.aN [.op (some 21) none (.mv (.t 7)),.op (some 22) none (.len (.t 21)),.op (some 23) none (.mv (.c (.int .i64 (Int.ofNat 0))))]) (.block 2 (.loop (.seq (.aN [.op (some 24) none (.bin .lss (.t 23) (.t 22))]) (.seq (.cond (.t 24) .skip (.exit 2)) (.seq (.block 3 (.seq (.aN [.op (some 25) none (.idx 1 (.t 21) (.t 23)),.op (some 26) none (.load false 1 (.t 25)),.op (some 10) none (.mv (.t 26))]) (.seq (.draw [[],[],[1],[1,2],[1,2,3],[],[1,2,3,4,5],[0,1,2,3,4,5,6],[],[0,1,2,3,4,5,6,7,8]] [.op (some 27) none (.load false 1 (.t 3)),.op (some 28) none (.load false 1 (.t 2)),.op (some 29) none (.ex dB.eA [.t 28]),.op (some 30) none (.jl 0 [false] (.t 29)),.op (some 31) none (.load false 1 (.t 30)),.op (some 32) none (.mv (.t 10)),.op (some 33) none (.ex (dB.dG .str false tG true false) [.t 31,.t 32]),.call (some 34) none (.t 27) [.t 33] [some tG],.op (some 11) none (.alloc [.int .i64 (Int.ofNat 0)]),.op none none (.store 1 (.t 11) (.t 34))]) (.seq (.aN [.op (some 35) none (.load false 1 (.t 5)),.call (some 36) none (.c (.fn 101 [] [])) [.t 35] [none]]) (.block 4 (.bA (.t 36) [37] (.aN [.op (some 12) none (.mv (.t 37))]) (.block 5 (.aN [.op (some 38) none (.load false 1 (.t 8)),.op (some 39) none (.mv (.t 12)),.op (some 40) none (.load false 1 (.t 11)),.op (some 41) none (.bin .add (.t 39) (.t 40)),.call (some 42) none (.c (.fn 100 [] [])) [.t 38,.t 41] [none,some tI]])))))))) (.aN [.op (some 43) none (.bin .add (.t 23) (.c (.int .i64 (Int.ofNat 1)))),.op (some 23) none (.mv (.t 43))]))))))) (.aN [.op (some 44) none (.load false 1 (.t 8)),.op none none (.store 1 (.t 5) (.t 44))])))) 48),(12,.arr .str false),(23,.map tI false .unit true),(24,.map tI false .unit true)] [.slot 8,.slot 11,.part 36 0,.cell 7 0,.cell 20 0] []
@[reducible] def Cr:aR:=[(.normal,ah.mk [(2,.c (.ptr 5 0)),(3,.c (.ptr 6 0)),(5,.c (.ptr 7 0)),(8,.c (.ptr 20 0)),(21,.c (.cB 19 .str)),(22,hI),(23,hI)] [(5,.cells [.ptr 0 0] false),(6,.cells [.fn0 78] false),(7,.cells [.mp 21] false),(20,.cells [.mp 22] false),(19,.arr .str false),(0,.cells [.mp 1,.mp 2,.mp 3,.mp 4] false),(1,.map .str false tG true),(2,.map .str false (.list .str) false),(3,.map .str false .bool false),(4,.map .str false .bool false),(8,.cells [.ptr 0 0] false),(10,.ff),(11,.loop .busy none 10 [(2,.c (.ptr 5 0)),(3,.c (.ptr 6 0)),(4,.c .bG),(5,.c (.ptr 7 0)),(17,.fn 106 [] [.ptr 8 0])] [18,19] (.aN [.op (some 7) none (.mv (.t 19))]) (.block 1 (.seq (.aN [.op (some 20) none (.ex (dB.ir tI false .unit true) []),.op (some 8) none (.alloc [.aO]),.op none none (.store 1 (.t 8) (.t 20))]) (.seq (.seq (.aN [.op (some 21) none (.mv (.t 7)),.op (some 22) none (.len (.t 21)),.op (some 23) none (.mv (.c (.int .i64 (Int.ofNat 0))))]) (.block 2 (.loop (.seq (.aN [.op (some 24) none (.bin .lss (.t 23) (.t 22))]) (.seq (.cond (.t 24) .skip (.exit 2)) (.seq (.block 3 (.seq (.aN [.op (some 25) none (.idx 1 (.t 21) (.t 23)),.op (some 26) none (.load false 1 (.t 25)),.op (some 10) none (.mv (.t 26))]) (.seq (.draw [[],[],[1],[1,2],[1,2,3],[],[1,2,3,4,5],[0,1,2,3,4,5,6],[],[0,1,2,3,4,5,6,7,8]] [.op (some 27) none (.load false 1 (.t 3)),.op (some 28) none (.load false 1 (.t 2)),.op (some 29) none (.ex dB.eA [.t 28]),.op (some 30) none (.jl 0 [false] (.t 29)),.op (some 31) none (.load false 1 (.t 30)),.op (some 32) none (.mv (.t 10)),.op (some 33) none (.ex (dB.dG .str false tG true false) [.t 31,.t 32]),.call (some 34) none (.t 27) [.t 33] [some tG],.op (some 11) none (.alloc [.int .i64 (Int.ofNat 0)]),.op none none (.store 1 (.t 11) (.t 34))]) (.seq (.aN [.op (some 35) none (.load false 1 (.t 5)),.call (some 36) none (.c (.fn 101 [] [])) [.t 35] [none]]) (.block 4 (.bA (.t 36) [37] (.aN [.op (some 12) none (.mv (.t 37))]) (.block 5 (.aN [.op (some 38) none (.load false 1 (.t 8)),.op (some 39) none (.mv (.t 12)),.op (some 40) none (.load false 1 (.t 11)),.op (some 41) none (.bin .add (.t 39) (.t 40)),.call (some 42) none (.c (.fn 100 [] [])) [.t 38,.t 41] [none,some tI]])))))))) (.aN [.op (some 43) none (.bin .add (.t 23) (.c (.int .i64 (Int.ofNat 1)))),.op (some 23) none (.mv (.t 43))]))))))) (.aN [.op (some 44) none (.load false 1 (.t 8)),.op none none (.store 1 (.t 5) (.t 44))])))) 48),(12,.arr .str false),(21,.map tI false .unit true),(22,.map tI false .unit true)] [.slot 8,.cell 7 0,.cell 20 0] [])]
noncomputable def pR:D prog 14 none 26:=dO [.m uS] (kd prog f132) 0
theorem zy:bK prog f132=some ⟨14,2,(pR).er,[],[]⟩:=by kernel_rfl
noncomputable def gH67_v1_0b_2:Nat×Int×Int×Int×List ByteArray×bF×bI×aJ×aJ×List ByteArray×(List (Int×Unit))×(List (Int×Unit))×Unit→aY ((Nat×Int×Int×List ByteArray×bF×bI×aJ×aJ×List ByteArray×(List (Int×Unit))×(List (Int×Unit))×Unit)):=fun (xW,v22,v23,Fm,Fo,m1,m2,m3,m4,zx,m23,m24,_) =>
 .bd (.mq gH67_v1_0b_2i_0 m23 (xW,v22,v23,m23,m1,m2,m3,m4,Fm,Fo,zx,m24,())) fun z8 =>
 .ret ((xW,v22,v23,z8.2.2.2.2.2.2.2.2.2.1,z8.2.2.2.2.1,z8.2.2.2.2.2.1,z8.2.2.2.2.2.2.1,z8.2.2.2.2.2.2.2.1,z8.2.2.2.2.2.2.2.2.2.2.1,z8.2.2.2.1,z8.2.2.2.2.2.2.2.2.2.2.2.1,()))
noncomputable def Cs:eL prog 48 (some 11) 20:=mH mixed j7 kV [0,1,2,3,4,5,6,7,8,9,10,11,12,13,14,15,16,17,18,19] rfl Cq Cr ( .t 36) [37] rfl (pP).er (pQ).er 132 func132 (zy) (enters_of func132 rfl rfl) 26 rfl (pR) rfl (fun x=>ai (gH67_v1_0b_2 x)) (fun x=>by kernel_rfl)
@[reducible] def Cu:ah:=ah.mk [(2,.c (.ptr 5 0)),(3,.c (.ptr 6 0)),(5,.c (.ptr 7 0)),(8,.c (.ptr 20 0)),(21,.c (.cB 19 .str)),(22,hI),(23,hI)] [(5,.cells [.ptr 0 0] false),(6,.cells [.fn0 78] false),(7,.cells [.mp 21] false),(20,.cells [.mp 22] false),(19,.arr .str false),(0,.cells [.mp 1,.mp 2,.mp 3,.mp 4] false),(1,.map .str false tG true),(2,.map .str false (.list .str) false),(3,.map .str false .bool false),(4,.map .str false .bool false),(8,.cells [.ptr 0 0] false),(10,.ff),(11,.loop .busy none 10 [(2,.c (.ptr 5 0)),(3,.c (.ptr 6 0)),(4,.c .bG),(5,.c (.ptr 7 0)),(17,.fn 106 [] [.ptr 8 0])] [18,19] (.aN [.op (some 7) none (.mv (.t 19))]) (.block 1 (.seq (.aN [.op (some 20) none (.ex (dB.ir tI false .unit true) []),.op (some 8) none (.alloc [.aO]),.op none none (.store 1 (.t 8) (.t 20))]) (.seq (.seq (.aN [.op (some 21) none (.mv (.t 7)),.op (some 22) none (.len (.t 21)),.op (some 23) none (.mv (.c (.int .i64 (Int.ofNat 0))))]) (.block 2 (.loop (.seq (.aN [.op (some 24) none (.bin .lss (.t 23) (.t 22))]) (.seq (.cond (.t 24) .skip (.exit 2)) (.seq (.block 3 (.seq (.aN [.op (some 25) none (.idx 1 (.t 21) (.t 23)),.op (some 26) none (.load false 1 (.t 25)),.op (some 10) none (.mv (.t 26))]) (.seq (.draw [[],[],[1],[1,2],[1,2,3],[],[1,2,3,4,5],[0,1,2,3,4,5,6],[],[0,1,2,3,4,5,6,7,8]] [.op (some 27) none (.load false 1 (.t 3)),.op (some 28) none (.load false 1 (.t 2)),.op (some 29) none (.ex dB.eA [.t 28]),.op (some 30) none (.jl 0 [false] (.t 29)),.op (some 31) none (.load false 1 (.t 30)),.op (some 32) none (.mv (.t 10)),.op (some 33) none (.ex (dB.dG .str false tG true false) [.t 31,.t 32]),.call (some 34) none (.t 27) [.t 33] [some tG],.op (some 11) none (.alloc [.int .i64 (Int.ofNat 0)]),.op none none (.store 1 (.t 11) (.t 34))]) (.seq (.aN [.op (some 35) none (.load false 1 (.t 5)),.call (some 36) none (.c (.fn 101 [] [])) [.t 35] [none]]) (.block 4 (.bA (.t 36) [37] (.aN [.op (some 12) none (.mv (.t 37))]) (.block 5 (.aN [.op (some 38) none (.load false 1 (.t 8)),.op (some 39) none (.mv (.t 12)),.op (some 40) none (.load false 1 (.t 11)),.op (some 41) none (.bin .add (.t 39) (.t 40)),.call (some 42) none (.c (.fn 100 [] [])) [.t 38,.t 41] [none,some tI]])))))))) (.aN [.op (some 43) none (.bin .add (.t 23) (.c (.int .i64 (Int.ofNat 1)))),.op (some 23) none (.mv (.t 43))]))))))) (.aN [.op (some 44) none (.load false 1 (.t 8)),.op none none (.store 1 (.t 5) (.t 44))])))) 48),(12,.arr .str false),(21,.map tI false .unit true),(22,.map tI false .unit true)] [.slot 8,.cell 7 0,.cell 20 0] []
@[reducible] def Cv:aR:=[(.exit 2,ah.mk [(5,.c (.ptr 7 0)),(8,.c (.ptr 20 0))] [(7,.cells [.mp 21] false),(20,.cells [.mp 22] false),(0,.cells [.mp 1,.mp 2,.mp 3,.mp 4] false),(1,.map .str false tG true),(2,.map .str false (.list .str) false),(3,.map .str false .bool false),(4,.map .str false .bool false),(5,.cells [.ptr 0 0] false),(6,.cells [.fn0 78] false),(8,.cells [.ptr 0 0] false),(10,.ff),(11,.loop .busy none 10 [(2,.c (.ptr 5 0)),(3,.c (.ptr 6 0)),(4,.c .bG),(5,.c (.ptr 7 0)),(17,.fn 106 [] [.ptr 8 0])] [18,19] (.aN [.op (some 7) none (.mv (.t 19))]) (.block 1 (.seq (.aN [.op (some 20) none (.ex (dB.ir tI false .unit true) []),.op (some 8) none (.alloc [.aO]),.op none none (.store 1 (.t 8) (.t 20))]) (.seq (.seq (.aN [.op (some 21) none (.mv (.t 7)),.op (some 22) none (.len (.t 21)),.op (some 23) none (.mv (.c (.int .i64 (Int.ofNat 0))))]) (.block 2 (.loop (.seq (.aN [.op (some 24) none (.bin .lss (.t 23) (.t 22))]) (.seq (.cond (.t 24) .skip (.exit 2)) (.seq (.block 3 (.seq (.aN [.op (some 25) none (.idx 1 (.t 21) (.t 23)),.op (some 26) none (.load false 1 (.t 25)),.op (some 10) none (.mv (.t 26))]) (.seq (.draw [[],[],[1],[1,2],[1,2,3],[],[1,2,3,4,5],[0,1,2,3,4,5,6],[],[0,1,2,3,4,5,6,7,8]] [.op (some 27) none (.load false 1 (.t 3)),.op (some 28) none (.load false 1 (.t 2)),.op (some 29) none (.ex dB.eA [.t 28]),.op (some 30) none (.jl 0 [false] (.t 29)),.op (some 31) none (.load false 1 (.t 30)),.op (some 32) none (.mv (.t 10)),.op (some 33) none (.ex (dB.dG .str false tG true false) [.t 31,.t 32]),.call (some 34) none (.t 27) [.t 33] [some tG],.op (some 11) none (.alloc [.int .i64 (Int.ofNat 0)]),.op none none (.store 1 (.t 11) (.t 34))]) (.seq (.aN [.op (some 35) none (.load false 1 (.t 5)),.call (some 36) none (.c (.fn 101 [] [])) [.t 35] [none]]) (.block 4 (.bA (.t 36) [37] (.aN [.op (some 12) none (.mv (.t 37))]) (.block 5 (.aN [.op (some 38) none (.load false 1 (.t 8)),.op (some 39) none (.mv (.t 12)),.op (some 40) none (.load false 1 (.t 11)),.op (some 41) none (.bin .add (.t 39) (.t 40)),.call (some 42) none (.c (.fn 100 [] [])) [.t 38,.t 41] [none,some tI]])))))))) (.aN [.op (some 43) none (.bin .add (.t 23) (.c (.int .i64 (Int.ofNat 1)))),.op (some 23) none (.mv (.t 43))]))))))) (.aN [.op (some 44) none (.load false 1 (.t 8)),.op none none (.store 1 (.t 5) (.t 44))])))) 48),(12,.arr .str false),(19,.arr .str false),(21,.map tI false .unit true),(22,.map tI false .unit true)] [.slot 8,.cell 7 0,.cell 20 0] [])]
noncomputable def Cw:D prog 48 (some 11) 20:=dO [.r Cs] (pick (kd prog f67) [(0,true),(0,false)]) 0
noncomputable def gH67_v1_0b_1:Nat×Int×Int×List ByteArray×bF×bI×aJ×aJ×List ByteArray×(List (Int×Unit))×(List (Int×Unit))×Unit→aY ((Nat×Int×Int×List ByteArray×bF×bI×aJ×aJ×List ByteArray×(List (Int×Unit))×(List (Int×Unit))×Unit) ⊕ ((bF×bI×aJ×aJ×List ByteArray×List ByteArray×(List (Int×Unit))×(List (Int×Unit))×Unit))):=fun (xW,v22,v23,Fo,m1,m2,m3,m4,zx,m21,m22,_) =>
 .br (decide (v23<v22)) (
 .nb v23 ((xW:Nat):Int) <|
 .nd (decide (((0:Nat)+(Int.toNat v23))<(Fo).length)) <|
 .bd (F78 ((ak .str ((bs []),(0:Int),(bs []),(bs []),(0:Int)) m1 ((Fo).getD ((0:Nat)+(Int.toNat v23)) (bs []))).1,(ak .str ((bs []),(0:Int),(bs []),(bs []),(0:Int)) m1 ((Fo).getD ((0:Nat)+(Int.toNat v23)) (bs []))).2.1,(ak .str ((bs []),(0:Int),(bs []),(bs []),(0:Int)) m1 ((Fo).getD ((0:Nat)+(Int.toNat v23)) (bs []))).2.2.1,(ak .str ((bs []),(0:Int),(bs []),(bs []),(0:Int)) m1 ((Fo).getD ((0:Nat)+(Int.toNat v23)) (bs []))).2.2.2.1,(ak .str ((bs []),(0:Int),(bs []),(bs []),(0:Int)) m1 ((Fo).getD ((0:Nat)+(Int.toNat v23)) (bs []))).2.2.2.2)) fun y5 =>
 .bd (FH101 m21) fun y6 =>
 .bd (gH67_v1_0b_2 (xW,v22,v23,y5.1,Fo,m1,m2,m3,m4,zx,y6.1,m22,())) fun z9 =>
 .ni (z9.2.2.1+(1:Int)) <|
 .ret (.inl (z9.1,z9.2.1,(z9.2.2.1+(1:Int)),z9.2.2.2.1,z9.2.2.2.2.1,z9.2.2.2.2.2.1,z9.2.2.2.2.2.2.1,z9.2.2.2.2.2.2.2.1,z9.2.2.2.2.2.2.2.2.1,z9.2.2.2.2.2.2.2.2.2.1,z9.2.2.2.2.2.2.2.2.2.2.1,()))) (
 .ret (.inr (m1,m2,m3,m4,zx,Fo,m21,m22,())))
noncomputable def Cy:bL prog 48 (some 11) 20:=bp mixed lU gp [0,1,2,3,4,5,6,7,8,9,10,11,12,13,14,15,16,17,18,19] rfl Cu Cv rfl (Cw) (fun x=>ai (gH67_v1_0b_1 x)) (fun x=>by kernel_rfl)
noncomputable def xY:D prog 48 (some 11) 20:=dO [] (pick (kd prog f67) [(0,false)]) 0
noncomputable def xZ:D prog 48 (some 11) 20:=dO [.l Cy] (pick (kd prog f67) [(0,true)]) 0
noncomputable def oc:Cx:=uJ lU (fun kz=>NJ kz lU dN 11 20 [18,19] (xY) (xZ))
theorem od:(oc).Ok prog:=gF gp (fun h=>jU mixed gp h)
@[reducible] def Cz:ah:=ah.mk [(0,.c (.yl 11)),(1,.c (.ptr 8 0)),(10,.c (.cB 12 .str)),(11,hI),(12,hI)] [(11,.loop .ready none 10 [(2,.c (.ptr 5 0)),(3,.c (.ptr 6 0)),(4,.c .bG),(5,.c (.ptr 7 0)),(17,.fn 106 [] [.ptr 8 0])] [18,19] (.aN [.op (some 7) none (.mv (.t 19))]) (.block 1 (.seq (.aN [.op (some 20) none (.ex (dB.ir tI false .unit true) []),.op (some 8) none (.alloc [.aO]),.op none none (.store 1 (.t 8) (.t 20))]) (.seq (.seq (.aN [.op (some 21) none (.mv (.t 7)),.op (some 22) none (.len (.t 21)),.op (some 23) none (.mv (.c (.int .i64 (Int.ofNat 0))))]) (.block 2 (.loop (.seq (.aN [.op (some 24) none (.bin .lss (.t 23) (.t 22))]) (.seq (.cond (.t 24) .skip (.exit 2)) (.seq (.block 3 (.seq (.aN [.op (some 25) none (.idx 1 (.t 21) (.t 23)),.op (some 26) none (.load false 1 (.t 25)),.op (some 10) none (.mv (.t 26))]) (.seq (.draw [[],[],[1],[1,2],[1,2,3],[],[1,2,3,4,5],[0,1,2,3,4,5,6],[],[0,1,2,3,4,5,6,7,8]] [.op (some 27) none (.load false 1 (.t 3)),.op (some 28) none (.load false 1 (.t 2)),.op (some 29) none (.ex dB.eA [.t 28]),.op (some 30) none (.jl 0 [false] (.t 29)),.op (some 31) none (.load false 1 (.t 30)),.op (some 32) none (.mv (.t 10)),.op (some 33) none (.ex (dB.dG .str false tG true false) [.t 31,.t 32]),.call (some 34) none (.t 27) [.t 33] [some tG],.op (some 11) none (.alloc [.int .i64 (Int.ofNat 0)]),.op none none (.store 1 (.t 11) (.t 34))]) (.seq (.aN [.op (some 35) none (.load false 1 (.t 5)),.call (some 36) none (.c (.fn 101 [] [])) [.t 35] [none]]) (.block 4 (.bA (.t 36) [37] (.aN [.op (some 12) none (.mv (.t 37))]) (.block 5 (.aN [.op (some 38) none (.load false 1 (.t 8)),.op (some 39) none (.mv (.t 12)),.op (some 40) none (.load false 1 (.t 11)),.op (some 41) none (.bin .add (.t 39) (.t 40)),.call (some 42) none (.c (.fn 100 [] [])) [.t 38,.t 41] [none,some tI]])))))))) (.aN [.op (some 43) none (.bin .add (.t 23) (.c (.int .i64 (Int.ofNat 1)))),.op (some 23) none (.mv (.t 43))]))))))) (.aN [.op (some 44) none (.load false 1 (.t 8)),.op none none (.store 1 (.t 5) (.t 44))])))) 48),(8,.cells [.ptr 0 0] false),(12,.arr .str false),(10,.ff),(5,.cells [.ptr 0 0] false),(0,.cells [.mp 1,.mp 2,.mp 3,.mp 4] false),(1,.map .str false tG true),(2,.map .str false (.list .str) false),(3,.map .str false .bool false),(4,.map .str false .bool false),(6,.cells [.fn0 78] false),(7,.cells [.mp 13] false),(13,.map tI false .unit true)] [.slot 10,.cell 7 0] []
@[reducible] def CA:aR:=[(.exit 0,ah.mk [] [(0,.cells [.mp 1,.mp 2,.mp 3,.mp 4] false),(1,.map .str false tG true),(2,.map .str false (.list .str) false),(3,.map .str false .bool false),(4,.map .str false .bool false),(5,.cells [.ptr 0 0] false),(6,.cells [.fn0 78] false),(7,.cells [.mp 12] false),(8,.cells [.ptr 0 0] false),(10,.ff),(11,.loop .ready none 10 [(2,.c (.ptr 5 0)),(3,.c (.ptr 6 0)),(4,.c .bG),(5,.c (.ptr 7 0)),(17,.fn 106 [] [.ptr 8 0])] [18,19] (.aN [.op (some 7) none (.mv (.t 19))]) (.block 1 (.seq (.aN [.op (some 20) none (.ex (dB.ir tI false .unit true) []),.op (some 8) none (.alloc [.aO]),.op none none (.store 1 (.t 8) (.t 20))]) (.seq (.seq (.aN [.op (some 21) none (.mv (.t 7)),.op (some 22) none (.len (.t 21)),.op (some 23) none (.mv (.c (.int .i64 (Int.ofNat 0))))]) (.block 2 (.loop (.seq (.aN [.op (some 24) none (.bin .lss (.t 23) (.t 22))]) (.seq (.cond (.t 24) .skip (.exit 2)) (.seq (.block 3 (.seq (.aN [.op (some 25) none (.idx 1 (.t 21) (.t 23)),.op (some 26) none (.load false 1 (.t 25)),.op (some 10) none (.mv (.t 26))]) (.seq (.draw [[],[],[1],[1,2],[1,2,3],[],[1,2,3,4,5],[0,1,2,3,4,5,6],[],[0,1,2,3,4,5,6,7,8]] [.op (some 27) none (.load false 1 (.t 3)),.op (some 28) none (.load false 1 (.t 2)),.op (some 29) none (.ex dB.eA [.t 28]),.op (some 30) none (.jl 0 [false] (.t 29)),.op (some 31) none (.load false 1 (.t 30)),.op (some 32) none (.mv (.t 10)),.op (some 33) none (.ex (dB.dG .str false tG true false) [.t 31,.t 32]),.call (some 34) none (.t 27) [.t 33] [some tG],.op (some 11) none (.alloc [.int .i64 (Int.ofNat 0)]),.op none none (.store 1 (.t 11) (.t 34))]) (.seq (.aN [.op (some 35) none (.load false 1 (.t 5)),.call (some 36) none (.c (.fn 101 [] [])) [.t 35] [none]]) (.block 4 (.bA (.t 36) [37] (.aN [.op (some 12) none (.mv (.t 37))]) (.block 5 (.aN [.op (some 38) none (.load false 1 (.t 8)),.op (some 39) none (.mv (.t 12)),.op (some 40) none (.load false 1 (.t 11)),.op (some 41) none (.bin .add (.t 39) (.t 40)),.call (some 42) none (.c (.fn 100 [] [])) [.t 38,.t 41] [none,some tI]])))))))) (.aN [.op (some 43) none (.bin .add (.t 23) (.c (.int .i64 (Int.ofNat 1)))),.op (some 23) none (.mv (.t 43))]))))))) (.aN [.op (some 44) none (.load false 1 (.t 8)),.op none none (.store 1 (.t 5) (.t 44))])))) 48),(12,.map tI false .unit true)] [.cell 7 0] [])]
noncomputable def CB:D prog 34 none 12:=dO [] (pick (kd prog f106) [(0,false)]) 0
noncomputable def gH67_v1_0i_0:Nat×Int×Int×List ByteArray×bF×bI×aJ×aJ×(List (Int×Unit))×Unit→aY ((Nat×Int×Int×List ByteArray×bF×bI×aJ×aJ×(List (Int×Unit))×Unit) ⊕ ((bF×bI×aJ×aJ×(List (Int×Unit))×Unit))):=fun (mN,v11,v12,zx,m1,m2,m3,m4,m13,_) =>
 .br (decide (v12<v11)) (
 .nb v12 ((mN:Nat):Int) <|
 .nd (decide (((0:Nat)+(Int.toNat v12))<(zx).length)) <|
 .br ((ak .str ((bs []),(0:Int),(bs []),(bs []),(0:Int)) m1 ((zx).getD ((0:Nat)+(Int.toNat v12)) (bs []))).2.1==(1:Int)) (
 .bd (FH76fix ((zx).getD ((0:Nat)+(Int.toNat v12)) (bs [])) m1 m2 m3 m4) fun y4 =>
 .bd (.it gH67_v1_0b_1 (y4.1,((y4.1:Nat):Int),(0:Int),y4.2.1,y4.2.2.1,y4.2.2.2.1,y4.2.2.2.2.1,y4.2.2.2.2.2.1,zx,m13,[],())) fun LQ =>
 .ni (v12+(1:Int)) <|
 .ret (.inl (mN,v11,(v12+(1:Int)),LQ.2.2.2.2.1,LQ.1,LQ.2.1,LQ.2.2.1,LQ.2.2.2.1,LQ.2.2.2.2.2.2.2.1,()))) (
 .ni (v12+(1:Int)) <|
 .ret (.inl (mN,v11,(v12+(1:Int)),zx,m1,m2,m3,m4,m13,())))) (
 .ret (.inr (m1,m2,m3,m4,m13,())))
noncomputable def CC:bL prog 34 none 12:=bp mixed oc od [0,1,2,3,4,5,6,7,8,9,10,11] rfl Cz CA rfl (CB) (fun x=>ai (gH67_v1_0i_0 x)) (fun x=>by kernel_rfl)
@[reducible] def Ow:ah:=ah.mk [(2,.c (.ptr 5 0)),(3,.c (.ptr 6 0)),(4,.c .bG),(5,.c (.ptr 7 0)),(17,.fn 106 [] [.ptr 8 0])] [(5,.cells [.ptr 0 0] false),(6,.cells [.fn0 78] false),(7,.cells [.mp 9] false),(8,.cells [.ptr 0 0] false),(0,.cells [.mp 1,.mp 2,.mp 3,.mp 4] false),(1,.map .str false tG true),(2,.map .str false (.list .str) false),(3,.map .str false .bool false),(4,.map .str false .bool false),(9,.map tI false .unit true)] [.slot 2,.slot 3,.slot 5,.part 17 0,.cell 7 0] []
@[reducible] def Ox:aR:=[(.normal,ah.mk [(5,.c (.ptr 5 0))] [(5,.cells [.mp 6] false),(0,.cells [.mp 1,.mp 2,.mp 3,.mp 4] false),(1,.map .str false tG true),(2,.map .str false (.list .str) false),(3,.map .str false .bool false),(4,.map .str false .bool false),(6,.map tI false .unit true)] [.slot 5,.cell 5 0] [])]
noncomputable def yb:D prog 34 none 12:=dO [.l CC] (kd prog f106) 0
theorem I8:bK prog f106=some ⟨34,2,(yb).er,[],[]⟩:=by kernel_rfl
noncomputable def gH67_v1_0:bF×bI×aJ×aJ×(List (Int×Unit))×Unit→aY ((bF×bI×aJ×aJ×(List (Int×Unit))×Unit)):=fun (m1,m2,m3,m4,m9,_) =>
 .bd (FH95 m1) fun y2 =>
 .bd (FH81 y2.1) fun y3 =>
 .bd (.it gH67_v1_0i_0 (y3.1,((y3.1:Nat):Int),(0:Int),y3.2.1,y3.2.2.1,m2,m3,m4,m9,())) fun PX =>
 .ret ((PX.1,PX.2.1,PX.2.2.1,PX.2.2.2.1,PX.2.2.2.2.1,()))
noncomputable def Oy:eL prog 48 none 5:=mH mixed oc od [0,1,2,3,4] rfl Ow Ox ( .t 17) [18,19] rfl (xY).er (xZ).er 106 func106 (I8) (enters_of func106 rfl rfl) 12 rfl (yb) rfl (fun x=>ai (gH67_v1_0 x)) (fun x=>by kernel_rfl)
noncomputable def Fp:D prog 48 none 5:=dO [.r Oy] (kd prog f67) 0
noncomputable def FH67_v1 (m1:bF) (m2:bI) (m3:aJ) (m4:aJ):aY (Nat×List Int×bF×bI×aJ×aJ×Unit) :=
 .bd (FH100 (0:Int) []) fun y0 =>
 .bd (FH79 m1 m2 m3 m4) fun y1 =>
 .bd (gH67_v1_0 (y1.1,y1.2.1,y1.2.2.1,y1.2.2.2.1,y0.1,())) fun z12 =>
 .bd (FH101 z12.2.2.2.2.1) fun Tv =>
 .bd (FH102 Tv.1) fun PY =>
 .ret (PY.1,PY.2.1,z12.1,z12.2.1,z12.2.2.1,z12.2.2.2.1,())
theorem I9:bK prog f67=some ⟨48,2,Fp.er,[.t 4],[some tL]⟩:=by kernel_rfl
noncomputable def vw:Ht:=⟨67,XA,XB,(fun x=>ai (FH67_v1 x.1 x.2.1 x.2.2.1 x.2.2.2.1))⟩
theorem qv:vw.Ok prog:=aM mixed gp rfl func67 I9 (enters_of func67 rfl rfl) Fp (by kernel_rfl) rfl rfl ⟨_,rfl⟩ rfl (pre:=[0,1,2,3,4]) rfl (fun x=>by kernel_rfl)

/- 72 -/
noncomputable def cx72:Cx:=(aF [] [])
theorem XC:cx72.Ok prog:=ag trivial trivial
noncomputable def dd72:D prog 13 none 0:=dO [] (kd prog f72) 0
noncomputable def F72 (a0:List Int):aY ((Int×Int)×Unit) :=
 .nb (0:Int) (((a0).length:Nat):Int) <|
 .ni ((((a0).length:Nat):Int) - (1:Int)) <|
 .nb ((((a0).length:Nat):Int) - (1:Int)) (((a0).length:Nat):Int) <|
 .ret ((((a0).getD (Int.toNat (0:Int)) (0:Int)),((a0).getD (Int.toNat ((((a0).length:Nat):Int) - (1:Int))) (0:Int))),())
theorem aev:bK prog f72=some ⟨13,1,dd72.er,[.cell 2 true 2],[some (.prod tI tI)]⟩:=by kernel_rfl
noncomputable def Ja:Ct:=⟨72,[hL],.c (.hole (.prod tI tI)),fun x=>ai (F72 x.1)⟩
theorem oU:Ja.Ok prog:=dX mixed XC func72 aev (enters_of func72 rfl rfl) dd72 (by kernel_rfl) rfl (fun x=>by kernel_rfl)

/- 37, lent -/
@[reducible] def pH37:ah:=ah.mk [(0,.c (.ptr 0 0))] [(0,.cells [.mp 1] false),(1,.map tG true .bool false)] [.slot 0,.cell 0 0] []
@[reducible] def qH37:ah:=ah.mk [(0,.bX [.hole (.prod tI tI),.hole tI])] [(0,.cells [.mp 1] false),(1,.map tG true .bool false)] [] []
noncomputable def aib:Cx:=(aF [Ja] [ql,EY,vw])
theorem Tx:aib.Ok prog:=ag ⟨oU,trivial⟩ ⟨⟨fH,rfl⟩,⟨rW,rfl⟩,⟨qv,rfl⟩,trivial⟩
noncomputable def abq:D prog 11 none 2:=dO [] (kd prog f37) 0
noncomputable def FH37 (m1:List ((GG)×Bool)):aY ((Int×Int)×Int×(List ((GG)×Bool))×Unit) :=
 .bd (FH54 m1) fun y0 =>
 .br y0.1 (
 .ret (((0:Int),(0:Int)),(9:Int),y0.2.1,())) (
 .bd (FH66 y0.2.1) fun y1 =>
 .bd (FH67_v1 y1.2.1 y1.2.2.1 y1.2.2.2.1 y1.2.2.2.2.1) fun y2 =>
 .bd (F72 (((y2.2.1).drop (0:Nat)).take y2.1)) fun y3 =>
 .ret ((y3.1.1,y3.1.2),(0:Int),y1.1,()))
theorem XD:bK prog f37=some ⟨11,1,abq.er,[.cell 2 true 2,.t 3],[some (.prod tI tI),some tI]⟩:=by kernel_rfl
noncomputable def aew:Ht:=⟨37,pH37,qH37,(fun x=>ai (FH37 x.1))⟩
theorem LV:aew.Ok prog:=aM mixed Tx rfl func37 XD (enters_of func37 rfl rfl) abq (by kernel_rfl) rfl rfl ⟨_,rfl⟩ rfl (pre:=[0,1]) rfl (fun x=>by kernel_rfl)

/- 25, lent -/
@[reducible] def pH25:ah:=ah.mk [(0,.c (.ptr 0 0)),(1,.c (.hole .str))] [(0,.cells [.mp 1] false),(1,.map tG true .bool false)] [.slot 0,.cell 0 0] []
@[reducible] def qH25:ah:=ah.mk [(0,.bX [.hole (.prod tI tI),.hole tI])] [(0,.cells [.mp 1] false),(1,.map tG true .bool false)] [] []
noncomputable def aic:Cx:=(aF [Ja] [aet])
theorem Tz:aic.Ok prog:=ag ⟨oU,trivial⟩ ⟨⟨LU,rfl⟩,trivial⟩
noncomputable def abr:D prog 20 none 2:=dO [] (kd prog f25) 0
noncomputable def FH25 (v1:ByteArray) (m1:List ((GG)×Bool)):aY ((Int×Int)×Int×(List ((GG)×Bool))×Unit) :=
 .bd (FH23 v1 m1) fun y0 =>
 .br (!(y0.2.1==(0:Int))) (
 .ret (((0:Int),(0:Int)),y0.2.1,y0.2.2.2.1,())) (
 .bd (F72 (((y0.2.2.1).drop (0:Nat)).take y0.1)) fun y1 =>
 .ret ((y1.1.1,y1.1.2),(0:Int),y0.2.2.2.1,()))
theorem XE:bK prog f25=some ⟨20,2,abr.er,[.cell 4 true 2,.t 5],[some (.prod tI tI),some tI]⟩:=by kernel_rfl
noncomputable def ht25:Ht:=⟨25,pH25,qH25,(fun x=>ai (FH25 x.1 x.2.1))⟩
theorem XF:ht25.Ok prog:=aM mixed Tz rfl func25 XE (enters_of func25 rfl rfl) abr (by kernel_rfl) rfl rfl ⟨_,rfl⟩ rfl (pre:=[0,1]) rfl (fun x=>by kernel_rfl)

/- 36 -/
noncomputable def cx36:Cx:=(aF [] [])
theorem LW:cx36.Ok prog:=ag trivial trivial
@[reducible] def aif:ah:=ah.mk [(0,.c (.hole (.list .str))),(1,.c (.hole (.list .str))),(5,hI)] [] [] []
@[reducible] def aih:aR:=[(.ret,ah.mk [(4,.c (.tf false))] [] [] []),(.exit 0,ah.mk [] [] [] [])]
noncomputable def aii:D prog 26 none 0:=dO [] (pick (kd prog f36) [(0,false)]) 0
noncomputable def g36_0:List ByteArray×List ByteArray×Int×Unit→aY ((List ByteArray×List ByteArray×Int×Unit) ⊕ ((Unit) ⊕ ((Unit)))):=fun (v0,v1,v5,_) =>
 .br (decide (v5<(((v0).length:Nat):Int))) (
 .nb v5 (((v0).length:Nat):Int) <|
 .nb v5 (((v1).length:Nat):Int) <|
 .br (!(seq ((v0).getD (Int.toNat v5) (bs [])) ((v1).getD (Int.toNat v5) (bs [])))) (
 .ret (.inr <| .inl<|())) (
 .ni (v5+(1:Int)) <|
 .ret (.inl (v0,v1,(v5+(1:Int)),())))) (
 .ret (.inr <| .inr<|()))
noncomputable def aij:bL prog 26 none 0:=bp mixed cx36 LW [] rfl aif aih rfl (aii) (fun x=>ai (g36_0 x)) (fun x=>by kernel_rfl)
noncomputable def dd36:D prog 26 none 0:=dO [.l aij] (kd prog f36) 0
noncomputable def F36 (a0:List ByteArray) (a1:List ByteArray):aY (Bool×Unit) :=
 .br (!((((a0).length:Nat):Int)==(((a1).length:Nat):Int))) (
 .ret (false,())) (
 .bd (.it g36_0 (a0,a1,(0:Int),())) fun z0 =>
 .sm z0 (fun z1 =>
 .ret (false,())) fun z2 =>
 .ret (true,()))
theorem aex:bK prog f36=some ⟨26,2,dd36.er,[.t 4],[some .bool]⟩:=by kernel_rfl
noncomputable def ct36:Ct:=⟨36,[.c (.hole (.list .str)),.c (.hole (.list .str))],.c (.hole .bool),fun x=>ai (F36 x.1 x.2.1)⟩
theorem XG:ct36.Ok prog:=dX mixed LW func36 aex (enters_of func36 rfl rfl) dd36 (by kernel_rfl) rfl (fun x=>by kernel_rfl)

/- 27 -/
noncomputable def cx27:Cx:=(aF [] [])
theorem LX:cx27.Ok prog:=ag trivial trivial
@[reducible] def ain:ah:=ah.mk [(0,hL),(1,hL),(5,hI)] [] [] []
@[reducible] def aio:aR:=[(.ret,ah.mk [(4,.c (.tf false))] [] [] []),(.exit 0,ah.mk [] [] [] [])]
noncomputable def aip:D prog 26 none 0:=dO [] (pick (kd prog f27) [(0,false)]) 0
noncomputable def g27_0:List Int×List Int×Int×Unit→aY ((List Int×List Int×Int×Unit) ⊕ ((Unit) ⊕ ((Unit)))):=fun (v0,v1,v5,_) =>
 .br (decide (v5<(((v0).length:Nat):Int))) (
 .nb v5 (((v0).length:Nat):Int) <|
 .nb v5 (((v1).length:Nat):Int) <|
 .br (!(((v0).getD (Int.toNat v5) (0:Int))==((v1).getD (Int.toNat v5) (0:Int)))) (
 .ret (.inr <| .inl<|())) (
 .ni (v5+(1:Int)) <|
 .ret (.inl (v0,v1,(v5+(1:Int)),())))) (
 .ret (.inr <| .inr<|()))
noncomputable def aiq:bL prog 26 none 0:=bp mixed cx27 LX [] rfl ain aio rfl (aip) (fun x=>ai (g27_0 x)) (fun x=>by kernel_rfl)
noncomputable def dd27:D prog 26 none 0:=dO [.l aiq] (kd prog f27) 0
noncomputable def F27 (a0:List Int) (a1:List Int):aY (Bool×Unit) :=
 .br (!((((a0).length:Nat):Int)==(((a1).length:Nat):Int))) (
 .ret (false,())) (
 .bd (.it g27_0 (a0,a1,(0:Int),())) fun z0 =>
 .sm z0 (fun z1 =>
 .ret (false,())) fun z2 =>
 .ret (true,()))
theorem aey:bK prog f27=some ⟨26,2,dd27.er,[.t 4],[some .bool]⟩:=by kernel_rfl
noncomputable def ct27:Ct:=⟨27,[hL,hL],.c (.hole .bool),fun x=>ai (F27 x.1 x.2.1)⟩
theorem XH:ct27.Ok prog:=dX mixed LX func27 aey (enters_of func27 rfl rfl) dd27 (by kernel_rfl) rfl (fun x=>by kernel_rfl)

/- 80, lent -/
@[reducible] def pH80:ah:=ah.mk [(0,.c (.mp 0)),(1,.c (.hole .str))] [(0,.map .str false .unit true)] [.slot 0] []
@[reducible] def qH80:ah:=ah.mk [(0,.c .any)] [(0,.map .str false .unit true)] [] []
noncomputable def ait:Cx:=(aF [] [])
theorem TA:ait.Ok prog:=ag trivial trivial
noncomputable def abt:D prog 7 none 1:=dO [] (kd prog f80) 0
noncomputable def FH80 (v1:ByteArray) (m0:List (ByteArray×Unit)):aY ((List (ByteArray×Unit))×Unit) :=
 .ret ((aS .str m0 v1 ()),())
theorem XI:bK prog f80=some ⟨7,2,abt.er,[],[]⟩:=by kernel_rfl
noncomputable def XJ:Ht:=⟨80,pH80,qH80,(fun x=>ai (FH80 x.1 x.2.1))⟩
theorem CD:XJ.Ok prog:=aM mixed TA rfl func80 XI (enters_of func80 rfl rfl) abt (by kernel_rfl) rfl rfl ⟨_,rfl⟩ rfl (pre:=[0]) rfl (fun x=>by kernel_rfl)

/- 108, lent -/
@[reducible] def aiu:ah:=ah.mk [(0,.c (.mp 0))] [(0,.map .str false .unit true)] [.slot 0] []
@[reducible] def aiv:ah:=ah.mk [(0,.fn 127 [] [.ptr 1 0])] [(1,.cells [.mp 0] false),(0,.map .str false .unit true)] [.part 0 0] []
noncomputable def aez:Cx:=(aF [] [])
theorem Oz:aez.Ok prog:=ag trivial trivial
noncomputable def TB:D prog 4 none 1:=dO [] (kd prog f108) 0
noncomputable def FH108 (m0:List (ByteArray×Unit)):aY ((List (ByteArray×Unit))×Unit) :=
 .ret (m0,())
theorem TC:bK prog f108=some ⟨4,1,TB.er,[.t 2],[none]⟩:=by kernel_rfl
noncomputable def abu:Ht:=⟨108,aiu,aiv,(fun x=>ai (FH108 x.1))⟩
theorem TD:abu.Ok prog:=aM mixed Oz rfl func108 TC (enters_of func108 rfl rfl) TB (by kernel_rfl) rfl rfl ⟨_,rfl⟩ rfl (pre:=[0]) rfl (fun x=>by kernel_rfl)

/- 82, lent -/
@[reducible] def pH82:ah:=ah.mk [(0,.c (.mp 0))] [(0,.map .str false .unit true)] [.slot 0] []
@[reducible] def qH82:ah:=ah.mk [(0,.fn 127 [] [.ptr 1 0])] [(1,.cells [.mp 0] false),(0,.map .str false .unit true)] [.part 0 0] []
noncomputable def aiw:Cx:=(aF [] [abu])
theorem TE:aiw.Ok prog:=ag trivial ⟨⟨TD,rfl⟩,trivial⟩
noncomputable def abv:D prog 5 none 1:=dO [] (kd prog f82) 0
noncomputable def FH82 (m0:List (ByteArray×Unit)):aY ((List (ByteArray×Unit))×Unit) :=
 .bd (FH108 m0) fun y0 =>
 .ret (y0.1,())
theorem XK:bK prog f82=some ⟨5,1,abv.er,[.t 2],[none]⟩:=by kernel_rfl
noncomputable def XM:Ht:=⟨82,pH82,qH82,(fun x=>ai (FH82 x.1))⟩
theorem CE:XM.Ok prog:=aM mixed TE rfl func82 XK (enters_of func82 rfl rfl) abv (by kernel_rfl) rfl rfl ⟨_,rfl⟩ rfl (pre:=[0]) rfl (fun x=>by kernel_rfl)

/- 81, lent -/
@[reducible] def XN:ah:=ah.mk [(0,.fn 127 [] [.ptr 0 0])] [(0,.cells [.mp 1] false),(1,.map .str false .unit true)] [.part 0 0,.cell 0 0] []
@[reducible] def XO:ah:=ah.mk [(0,.c (.cB 2 .str))] [(2,.arr .str false),(0,.cells [.mp 1] false),(1,.map .str false .unit true)] [.slot 0] []
noncomputable def mP:Cx:=(aF [] [AO])
theorem lz:mP.Ok prog:=ag (sA:=[]) (hts:=[AO]) trivial ⟨⟨xK,rfl⟩,trivial⟩
noncomputable def j8:D prog 13 (some 4) 7:=dO [] (pick (kd prog f126) [(0,false)]) 0
noncomputable def j9:D prog 13 (some 4) 7:=dO [] (pick (kd prog f126) [(0,true)]) 0
noncomputable def fc:Cx:=uJ mP (fun kz=>NJ kz mP dN 4 7 [7] (j8) (j9))
theorem gH:(fc).Ok prog:=gF lz (fun h=>jU mixed lz h)
@[reducible] def oe:ah:=ah.mk [(0,.c (.yl 4)),(4,.c (.mp 1))] [(4,.loop .ready none 3 [(2,.c (.ptr 2 0)),(4,.c .bG),(6,.fn 127 [] [.ptr 0 0])] [7] (.aN [.op (some 5) none (.mv (.t 7))]) (.block 1 (.aN [.op (some 8) none (.load false 1 (.t 2)),.op (some 9) none (.mv (.t 5)),.op (some 10) none (.dH .str [.t 9]),.op (some 11) none (.append 1 (.t 8) (.t 10)),.op none none (.store 1 (.t 2) (.t 11))])) 13),(1,.map .str false .unit true),(3,.ff),(2,.cells [.cB 5 .str] false),(0,.cells [.mp 1] false),(5,.arr .str false)] [.cell 2 0] []
noncomputable def oh:D prog 14 none 7:=dO [] (pick (kd prog f127) [(0,false)]) 0
noncomputable def gH81_v1f107f126_0i_0:((ByteArray)×(Unit))→(List (ByteArray×Unit))×Nat×List ByteArray×Unit→aY ((List (ByteArray×Unit))×Nat×List ByteArray×Unit):=fun e (m1,jY,b5,_) =>
 .nd (decide ((jY+(((((e.1::[])).drop (0:Nat)).take (1:Nat))).length)<cM)) <|
 .nd (eu m1 m1) <|
 .ret (m1,(jY+(((((e.1::[])).drop (0:Nat)).take (1:Nat))).length),((((b5).drop (0:Nat)).take jY)++((((e.1::[])).drop (0:Nat)).take (1:Nat))),())
noncomputable def oq:o5 prog 14 none 5:=vj mixed fc gH [0,1,2,3,4] rfl oe ( [.op (some 4) none (.load false 1 (.t 1))]) 4 5 [6,7] (some 8) ( .str)  false ( .unit)  true 0 rfl 7 rfl (oh) (fun e x=>ai (gH81_v1f107f126_0i_0 e x)) (fun e=>fun x=>by kernel_rfl)
@[reducible] def r8:ah:=ah.mk [(2,.c (.ptr 2 0)),(4,.c .bG),(6,.fn 127 [] [.ptr 0 0])] [(2,.cells [.bG] false),(0,.cells [.mp 1] false),(1,.map .str false .unit true)] [.slot 2] []
@[reducible] def r9:aR:=[(.normal,ah.mk [(2,.c (.ptr 2 0))] [(2,.cells [.cB 3 .str] false),(0,.cells [.mp 1] false),(1,.map .str false .unit true),(3,.arr .str false)] [.slot 2,.cell 2 0] [])]
noncomputable def kf:D prog 14 none 5:=dO [.m oq] (kd prog f127) 0
theorem qw:bK prog f127=some ⟨14,2,(kf).er,[],[]⟩:=by kernel_rfl
noncomputable def kW:eL prog 13 none 2:=rJ mixed fc gH [0,1] rfl r8 r9 ( .t 6) [7] rfl (j8).er (j9).er 127 func127 (qw) (enters_of func127 rfl rfl) 5 rfl (kf) rfl
@[reducible] noncomputable def Jb:Go.AM.Fn:=⟨13,2,(dO [.r kW] (kd prog f126) 0:D prog 13 none 2).er,[.t 4],[some (.list .str)]⟩
noncomputable def yc:Cx:=AJ prog mP 126 Jb 2 (dO [.r kW] (kd prog f126) 0)
theorem zz:yc.Ok prog:=rI mixed lz func126 (by kernel_rfl) (enters_of func126 rfl rfl) rfl
@[reducible] noncomputable def Jc:Go.AM.Fn:=⟨5,1,(dO [] (kd prog f107) 0:D prog 5 none 0).er,[.t 2],[some (.list .str)]⟩
noncomputable def yd:Cx:=uL prog yc 107 Jc (fun _=>dO [] (kd prog f107) 0)
theorem zA:yd.Ok prog:=ij mixed zz func107 (by kernel_rfl) (enters_of func107 rfl rfl) (fun _=>by kernel_rfl)
noncomputable def TF:Cx:=yd
theorem Fq:TF.Ok prog:=zA
noncomputable def Fs:D prog 9 none 2:=dO [] (kd prog f81) 0
noncomputable def FH81_v1 (m1:List (ByteArray×Unit)):aY (Nat×List ByteArray×(List (ByteArray×Unit))×Unit) :=
 .an m1 fun l0 =>
 .bd (.fm gH81_v1f107f126_0i_0 l0 (m1,(0:Nat),[],())) fun z1 =>
 .bd (FH105 z1.2.1 z1.2.2.1) fun y2 =>
 .ret (z1.2.1,y2.1,z1.1,())
theorem Jd:bK prog f81=some ⟨9,1,Fs.er,[.t 2],[some (.list .str)]⟩:=by kernel_rfl
noncomputable def vz:Ht:=⟨81,XN,XO,(fun x=>ai (FH81_v1 x.1))⟩
theorem qx:vz.Ok prog:=aM mixed Fq rfl func81 Jd (enters_of func81 rfl rfl) Fs (by kernel_rfl) rfl rfl ⟨_,rfl⟩ rfl (pre:=[0,1]) rfl (fun x=>by kernel_rfl)

/- 45, lent -/
@[reducible] def pH45:ah:=ah.mk [(0,.c (.ptr 0 0))] [(0,.cells [.mp 1] false),(1,.map tG true .bool false)] [.slot 0,.cell 0 0] []
@[reducible] def qH45:ah:=ah.mk [(0,.c (.cB 2 .str))] [(2,.arr .str false),(0,.cells [.mp 1] false),(1,.map tG true .bool false)] [.slot 0] []
noncomputable def LY:Cx:=(aF [] [ql,EY,Od,Cf,Cg,tD,XJ,XM,vz])
theorem sg:LY.Ok prog:=ag trivial ⟨⟨fH,rfl⟩,⟨rW,rfl⟩,⟨rY,rfl⟩,⟨kR,rfl⟩,⟨kU,rfl⟩,⟨jr,rfl⟩,⟨CD,rfl⟩,⟨CE,rfl⟩,⟨qx,rfl⟩,trivial⟩
@[reducible] def OA:ah:=ah.mk [(3,.c (.ptr 2 0)),(4,.c (.ptr 3 0)),(18,.c (.cB 20 .str)),(19,hI),(20,hI)] [(2,.cells [.ptr 5 0] false),(3,.cells [.mp 21] false),(20,.arr .str false),(5,.cells [.mp 7,.mp 8,.mp 9,.mp 10] false),(7,.map .str false tG true),(8,.map .str false (.list .str) false),(9,.map .str false .bool false),(10,.map .str false .bool false),(0,.cells [.mp 1] false),(1,.map tG true .bool false),(4,.cells [.ptr 5 0] false),(11,.ff),(12,.loop .busy none 11 [(2,.c .bG),(3,.c (.ptr 2 0)),(4,.c (.ptr 3 0)),(15,.fn 106 [] [.ptr 4 0])] [16,17] (.aN [.op (some 6) none (.mv (.t 17))]) (.block 1 (.seq (.aN [.op (some 18) none (.mv (.t 6)),.op (some 19) none (.len (.t 18)),.op (some 20) none (.mv (.c (.int .i64 (Int.ofNat 0))))]) (.block 2 (.loop (.seq (.aN [.op (some 21) none (.bin .lss (.t 20) (.t 19))]) (.seq (.cond (.t 21) .skip (.exit 2)) (.seq (.block 3 (.seq (.aN [.op (some 22) none (.idx 1 (.t 18) (.t 20)),.op (some 23) none (.load false 1 (.t 22)),.op (some 8) none (.mv (.t 23))]) (.seq (.draw [[],[],[1],[1,2],[1,2,3],[],[1,2,3,4,5],[1,2,3,4,5,6],[0,1,2,3,4,5,6,7]] [.op (some 24) none (.load false 1 (.t 4)),.op (some 25) none (.load false 1 (.t 3)),.op (some 26) none (.ex dB.eA [.t 25]),.op (some 27) none (.jl 0 [false] (.t 26)),.op (some 28) none (.load false 1 (.t 27)),.op (some 29) none (.mv (.t 8)),.op (some 30) none (.ex (dB.dG .str false tG true false) [.t 28,.t 29]),.op (some 31) none (.field false 3 1 (.t 30))]) (.aN [.call (some 32) none (.c (.fn 80 [] [])) [.t 24,.t 31] [none,some .str]])))) (.aN [.op (some 33) none (.bin .add (.t 20) (.c (.int .i64 (Int.ofNat 1)))),.op (some 20) none (.mv (.t 33))])))))))) 37),(13,.arr .str false),(21,.map .str false .unit true)] [.cell 3 0] []
@[reducible] def OB:aR:=[(.exit 2,ah.mk [] [(0,.cells [.mp 1] false),(1,.map tG true .bool false),(2,.cells [.ptr 5 0] false),(5,.cells [.mp 7,.mp 8,.mp 9,.mp 10] false),(7,.map .str false tG true),(8,.map .str false (.list .str) false),(9,.map .str false .bool false),(10,.map .str false .bool false),(3,.cells [.mp 21] false),(4,.cells [.ptr 5 0] false),(11,.ff),(12,.loop .busy none 11 [(2,.c .bG),(3,.c (.ptr 2 0)),(4,.c (.ptr 3 0)),(15,.fn 106 [] [.ptr 4 0])] [16,17] (.aN [.op (some 6) none (.mv (.t 17))]) (.block 1 (.seq (.aN [.op (some 18) none (.mv (.t 6)),.op (some 19) none (.len (.t 18)),.op (some 20) none (.mv (.c (.int .i64 (Int.ofNat 0))))]) (.block 2 (.loop (.seq (.aN [.op (some 21) none (.bin .lss (.t 20) (.t 19))]) (.seq (.cond (.t 21) .skip (.exit 2)) (.seq (.block 3 (.seq (.aN [.op (some 22) none (.idx 1 (.t 18) (.t 20)),.op (some 23) none (.load false 1 (.t 22)),.op (some 8) none (.mv (.t 23))]) (.seq (.draw [[],[],[1],[1,2],[1,2,3],[],[1,2,3,4,5],[1,2,3,4,5,6],[0,1,2,3,4,5,6,7]] [.op (some 24) none (.load false 1 (.t 4)),.op (some 25) none (.load false 1 (.t 3)),.op (some 26) none (.ex dB.eA [.t 25]),.op (some 27) none (.jl 0 [false] (.t 26)),.op (some 28) none (.load false 1 (.t 27)),.op (some 29) none (.mv (.t 8)),.op (some 30) none (.ex (dB.dG .str false tG true false) [.t 28,.t 29]),.op (some 31) none (.field false 3 1 (.t 30))]) (.aN [.call (some 32) none (.c (.fn 80 [] [])) [.t 24,.t 31] [none,some .str]])))) (.aN [.op (some 33) none (.bin .add (.t 20) (.c (.int .i64 (Int.ofNat 1)))),.op (some 20) none (.mv (.t 33))])))))))) 37),(13,.arr .str false),(20,.arr .str false),(21,.map .str false .unit true)] [.cell 3 0] [])]
noncomputable def OC:D prog 37 (some 12) 21:=dO [] (pick (kd prog f45) [(0,true),(0,false)]) 0
noncomputable def gH45_0b_1:Nat×Int×Int×List ByteArray×bF×bI×aJ×aJ×(List ((GG)×Bool))×List ByteArray×(List (ByteArray×Unit))×Unit→aY ((Nat×Int×Int×List ByteArray×bF×bI×aJ×aJ×(List ((GG)×Bool))×List ByteArray×(List (ByteArray×Unit))×Unit) ⊕ (((List ((GG)×Bool))×bF×bI×aJ×aJ×List ByteArray×List ByteArray×(List (ByteArray×Unit))×Unit))):=fun (Ft,IY,v20,pq,m7,m8,m9,m10,m1,iO,m21,_) =>
 .br (decide (v20<IY)) (
 .nb v20 ((Ft:Nat):Int) <|
 .nd (decide (((0:Nat)+(Int.toNat v20))<(pq).length)) <|
 .bd (FH80 (ak .str ((bs []),(0:Int),(bs []),(bs []),(0:Int)) m7 ((pq).getD ((0:Nat)+(Int.toNat v20)) (bs []))).2.2.2.1 m21) fun y6 =>
 .ni (v20+(1:Int)) <|
 .ret (.inl (Ft,IY,(v20+(1:Int)),pq,m7,m8,m9,m10,m1,iO,y6.1,()))) (
 .ret (.inr (m1,m7,m8,m9,m10,iO,pq,m21,())))
noncomputable def OD:bL prog 37 (some 12) 21:=bp mixed LY sg [0,1,2,3,4,5,6,7,8,9,10,11,12,13,14,15,16,17,18,19,20] rfl OA OB rfl (OC) (fun x=>ai (gH45_0b_1 x)) (fun x=>by kernel_rfl)
noncomputable def LZ:D prog 37 (some 12) 21:=dO [] (pick (kd prog f45) [(0,false)]) 0
noncomputable def L5:D prog 37 (some 12) 21:=dO [.l OD] (pick (kd prog f45) [(0,true)]) 0
noncomputable def ye:Cx:=uJ LY (fun kz=>NJ kz LY dN 12 21 [16,17] (LZ) (L5))
theorem uo:(ye).Ok prog:=gF sg (fun h=>jU mixed sg h)
@[reducible] def OE:ah:=ah.mk [(0,.c (.yl 12)),(1,.c (.ptr 4 0)),(10,.c (.cB 13 .str)),(11,hI),(12,hI)] [(12,.loop .ready none 11 [(2,.c .bG),(3,.c (.ptr 2 0)),(4,.c (.ptr 3 0)),(15,.fn 106 [] [.ptr 4 0])] [16,17] (.aN [.op (some 6) none (.mv (.t 17))]) (.block 1 (.seq (.aN [.op (some 18) none (.mv (.t 6)),.op (some 19) none (.len (.t 18)),.op (some 20) none (.mv (.c (.int .i64 (Int.ofNat 0))))]) (.block 2 (.loop (.seq (.aN [.op (some 21) none (.bin .lss (.t 20) (.t 19))]) (.seq (.cond (.t 21) .skip (.exit 2)) (.seq (.block 3 (.seq (.aN [.op (some 22) none (.idx 1 (.t 18) (.t 20)),.op (some 23) none (.load false 1 (.t 22)),.op (some 8) none (.mv (.t 23))]) (.seq (.draw [[],[],[1],[1,2],[1,2,3],[],[1,2,3,4,5],[1,2,3,4,5,6],[0,1,2,3,4,5,6,7]] [.op (some 24) none (.load false 1 (.t 4)),.op (some 25) none (.load false 1 (.t 3)),.op (some 26) none (.ex dB.eA [.t 25]),.op (some 27) none (.jl 0 [false] (.t 26)),.op (some 28) none (.load false 1 (.t 27)),.op (some 29) none (.mv (.t 8)),.op (some 30) none (.ex (dB.dG .str false tG true false) [.t 28,.t 29]),.op (some 31) none (.field false 3 1 (.t 30))]) (.aN [.call (some 32) none (.c (.fn 80 [] [])) [.t 24,.t 31] [none,some .str]])))) (.aN [.op (some 33) none (.bin .add (.t 20) (.c (.int .i64 (Int.ofNat 1)))),.op (some 20) none (.mv (.t 33))])))))))) 37),(4,.cells [.ptr 5 0] false),(13,.arr .str false),(11,.ff),(2,.cells [.ptr 5 0] false),(5,.cells [.mp 7,.mp 8,.mp 9,.mp 10] false),(7,.map .str false tG true),(8,.map .str false (.list .str) false),(9,.map .str false .bool false),(10,.map .str false .bool false),(3,.cells [.mp 14] false),(0,.cells [.mp 1] false),(1,.map tG true .bool false),(14,.map .str false .unit true)] [.slot 10,.cell 3 0] []
@[reducible] def OG:aR:=[(.exit 0,ah.mk [] [(0,.cells [.mp 1] false),(1,.map tG true .bool false),(2,.cells [.ptr 5 0] false),(5,.cells [.mp 7,.mp 8,.mp 9,.mp 10] false),(7,.map .str false tG true),(8,.map .str false (.list .str) false),(9,.map .str false .bool false),(10,.map .str false .bool false),(3,.cells [.mp 13] false),(4,.cells [.ptr 5 0] false),(11,.ff),(12,.loop .ready none 11 [(2,.c .bG),(3,.c (.ptr 2 0)),(4,.c (.ptr 3 0)),(15,.fn 106 [] [.ptr 4 0])] [16,17] (.aN [.op (some 6) none (.mv (.t 17))]) (.block 1 (.seq (.aN [.op (some 18) none (.mv (.t 6)),.op (some 19) none (.len (.t 18)),.op (some 20) none (.mv (.c (.int .i64 (Int.ofNat 0))))]) (.block 2 (.loop (.seq (.aN [.op (some 21) none (.bin .lss (.t 20) (.t 19))]) (.seq (.cond (.t 21) .skip (.exit 2)) (.seq (.block 3 (.seq (.aN [.op (some 22) none (.idx 1 (.t 18) (.t 20)),.op (some 23) none (.load false 1 (.t 22)),.op (some 8) none (.mv (.t 23))]) (.seq (.draw [[],[],[1],[1,2],[1,2,3],[],[1,2,3,4,5],[1,2,3,4,5,6],[0,1,2,3,4,5,6,7]] [.op (some 24) none (.load false 1 (.t 4)),.op (some 25) none (.load false 1 (.t 3)),.op (some 26) none (.ex dB.eA [.t 25]),.op (some 27) none (.jl 0 [false] (.t 26)),.op (some 28) none (.load false 1 (.t 27)),.op (some 29) none (.mv (.t 8)),.op (some 30) none (.ex (dB.dG .str false tG true false) [.t 28,.t 29]),.op (some 31) none (.field false 3 1 (.t 30))]) (.aN [.call (some 32) none (.c (.fn 80 [] [])) [.t 24,.t 31] [none,some .str]])))) (.aN [.op (some 33) none (.bin .add (.t 20) (.c (.int .i64 (Int.ofNat 1)))),.op (some 20) none (.mv (.t 33))])))))))) 37),(13,.map .str false .unit true)] [.cell 3 0] [])]
noncomputable def OH:D prog 34 none 13:=dO [] (pick (kd prog f106) [(0,false)]) 0
noncomputable def gH45_0i_0:Nat×Int×Int×List ByteArray×bF×bI×aJ×aJ×(List ((GG)×Bool))×(List (ByteArray×Unit))×Unit→aY ((Nat×Int×Int×List ByteArray×bF×bI×aJ×aJ×(List ((GG)×Bool))×(List (ByteArray×Unit))×Unit) ⊕ (((List ((GG)×Bool))×bF×bI×aJ×aJ×(List (ByteArray×Unit))×Unit))):=fun (mN,v11,v12,iO,m7,m8,m9,m10,m1,m14,_) =>
 .br (decide (v12<v11)) (
 .nb v12 ((mN:Nat):Int) <|
 .nd (decide (((0:Nat)+(Int.toNat v12))<(iO).length)) <|
 .br ((ak .str ((bs []),(0:Int),(bs []),(bs []),(0:Int)) m7 ((iO).getD ((0:Nat)+(Int.toNat v12)) (bs []))).2.1==(1:Int)) (
 .bd (FH76fix ((iO).getD ((0:Nat)+(Int.toNat v12)) (bs [])) m7 m8 m9 m10) fun y5 =>
 .bd (.it gH45_0b_1 (y5.1,((y5.1:Nat):Int),(0:Int),y5.2.1,y5.2.2.1,y5.2.2.2.1,y5.2.2.2.2.1,y5.2.2.2.2.2.1,m1,iO,m14,())) fun z7 =>
 .ni (v12+(1:Int)) <|
 .ret (.inl (mN,v11,(v12+(1:Int)),z7.2.2.2.2.2.1,z7.2.1,z7.2.2.1,z7.2.2.2.1,z7.2.2.2.2.1,z7.1,z7.2.2.2.2.2.2.2.1,()))) (
 .ni (v12+(1:Int)) <|
 .ret (.inl (mN,v11,(v12+(1:Int)),iO,m7,m8,m9,m10,m1,m14,())))) (
 .ret (.inr (m1,m7,m8,m9,m10,m14,())))
noncomputable def OI:bL prog 34 none 13:=bp mixed ye uo [0,1,2,3,4,5,6,7,8,9,10,11,12] rfl OE OG rfl (OH) (fun x=>ai (gH45_0i_0 x)) (fun x=>by kernel_rfl)
@[reducible] def aeA:ah:=ah.mk [(2,.c .bG),(3,.c (.ptr 2 0)),(4,.c (.ptr 3 0)),(15,.fn 106 [] [.ptr 4 0])] [(2,.cells [.ptr 5 0] false),(3,.cells [.mp 6] false),(4,.cells [.ptr 5 0] false),(0,.cells [.mp 1] false),(1,.map tG true .bool false),(5,.cells [.mp 7,.mp 8,.mp 9,.mp 10] false),(6,.map .str false .unit true),(7,.map .str false tG true),(8,.map .str false (.list .str) false),(9,.map .str false .bool false),(10,.map .str false .bool false)] [.slot 3,.slot 4,.part 15 0,.cell 2 0,.cell 3 0,.cell 5 0,.cell 5 1,.cell 5 2,.cell 5 3] []
@[reducible] def aeB:aR:=[(.normal,ah.mk [(4,.c (.ptr 2 0))] [(2,.cells [.mp 3] false),(0,.cells [.mp 1] false),(1,.map tG true .bool false),(3,.map .str false .unit true)] [.slot 4,.cell 2 0] [])]
noncomputable def Ma:D prog 34 none 13:=dO [.l OI] (kd prog f106) 0
theorem XP:bK prog f106=some ⟨34,2,(Ma).er,[],[]⟩:=by kernel_rfl
noncomputable def gH45_0:(List ((GG)×Bool))×(List (ByteArray×Unit))×bF×bI×aJ×aJ×Unit→aY (((List ((GG)×Bool))×(List (ByteArray×Unit))×Unit)):=fun (m1,m6,m7,m8,m9,m10,_) =>
 .bd (FH95 m7) fun y3 =>
 .bd (FH81 y3.1) fun y4 =>
 .bd (.it gH45_0i_0 (y4.1,((y4.1:Nat):Int),(0:Int),y4.2.1,y4.2.2.1,m8,m9,m10,m1,m6,())) fun z8 =>
 .ret ((z8.1,z8.2.2.2.2.2.1,()))
noncomputable def aeC:eL prog 37 none 2:=mH mixed ye uo [0,1] rfl aeA aeB ( .t 15) [16,17] rfl (LZ).er (L5).er 106 func106 (XP) (enters_of func106 rfl rfl) 13 rfl (Ma) rfl (fun x=>ai (gH45_0 x)) (fun x=>by kernel_rfl)
noncomputable def abw:D prog 37 none 2:=dO [.r aeC] (kd prog f45) 0
noncomputable def FH45 (m1:List ((GG)×Bool)):aY (Nat×List ByteArray×(List ((GG)×Bool))×Unit) :=
 .bd (FH54 m1) fun y0 =>
 .br y0.1 (
 .ret ((0:Nat),[],y0.2.1,())) (
 .bd (FH66 y0.2.1) fun y1 =>
 .bd (FH79 y1.2.1 y1.2.2.1 y1.2.2.2.1 y1.2.2.2.2.1) fun y2 =>
 .bd (gH45_0 (y1.1,[],y2.1,y2.2.1,y2.2.2.1,y2.2.2.2.1,())) fun z9 =>
 .bd (FH82 z9.2.1) fun PZ =>
 .bd (FH81_v1 PZ.1) fun HE =>
 .ret (HE.1,HE.2.1,z9.1,()))
theorem XQ:bK prog f45=some ⟨37,1,abw.er,[.t 2],[some (.list .str)]⟩:=by kernel_rfl
noncomputable def ht45:Ht:=⟨45,pH45,qH45,(fun x=>ai (FH45 x.1))⟩
theorem XR:ht45.Ok prog:=aM mixed sg rfl func45 XQ (enters_of func45 rfl rfl) abw (by kernel_rfl) rfl rfl ⟨_,rfl⟩ rfl (pre:=[0,1]) rfl (fun x=>by kernel_rfl)

/- 17 -/
noncomputable def cx17:Cx:=(aF [ct46,ct36,ct27] [ht29,ht33,aet,aew,ht25,ht45,ht40,Sv])
theorem XS:cx17.Ok prog:=ag ⟨Wo,XG,XH,trivial⟩ ⟨⟨WK,rfl⟩,⟨Xo,rfl⟩,⟨LU,rfl⟩,⟨LV,rfl⟩,⟨XF,rfl⟩,⟨XR,rfl⟩,⟨Xq,rfl⟩,⟨vq,rfl⟩,trivial⟩
noncomputable def dd17:D prog 130 none 0:=dO [] (kd prog f17) 0
noncomputable def F17:aY (Bool×Unit) :=
 .bd (F46) fun y0 =>
 .nd (decide ((0:Int)≤(0:Int))) <|
 .nd (decide ((0:Int)≤(6:Int))) <|
 .nd (decide ((6:Int)≤(((y0.1).length:Nat):Int))) <|
 .bd (FH29 (((y0.1).drop (Int.toNat (0:Int))).take ((Int.toNat (6:Int)) - (Int.toNat (0:Int))))) fun y1 =>
 .bd (F46) fun y2 =>
 .nd (decide ((0:Int)≤(0:Int))) <|
 .nd (decide ((0:Int)≤(7:Int))) <|
 .nd (decide ((7:Int)≤(((y2.1).length:Nat):Int))) <|
 .bd (FH29 (((y2.1).drop (Int.toNat (0:Int))).take ((Int.toNat (7:Int)) - (Int.toNat (0:Int))))) fun y3 =>
 .bd (F46) fun y4 =>
 .bd (FH29 y4.1) fun y5 =>
 .bd (FH33 (bs [116,49]) y1.1) fun y6 =>
 .bd (FH23 (bs [97,110,97]) y6.2.2.2.1) fun y7 =>
 .bd (FH23 (bs [97,110,97]) y3.1) fun y8 =>
 .bd (FH37 y7.2.2.2.1) fun y9 =>
 .bd (FH25 (bs [99,121]) y5.1) fun PZ =>
 .br (y6.2.1==(0:Int)) (
 .br (y7.2.1==(0:Int)) (
 .br (y8.2.1==(0:Int)) (
 .br (y9.2.1==(0:Int)) (
 .br (PZ.2.1==(0:Int)) (
 .bd (F36 (((y6.2.2.1).drop (0:Nat)).take y6.1) (((((bs [99,50])::((bs [99,51])::[]))).drop (0:Nat)).take (2:Nat))) fun HE =>
 .br HE.1 (
 .bd (F27 (((y7.2.2.1).drop (0:Nat)).take y7.1) (((((0:Int)::((41:Int)::[]))).drop (0:Nat)).take (2:Nat))) fun y12 =>
 .br y12.1 (
 .bd (F27 (((y8.2.2.1).drop (0:Nat)).take y8.1) (((((41:Int)::[])).drop (0:Nat)).take (1:Nat))) fun Tv =>
 .br Tv.1 (
 .br ((y9.1.1==(65:Int))&&((y9.1.2==(66:Int))&&true)) (
 .br ((PZ.1.1==(0:Int))&&((PZ.1.2==(40:Int))&&true)) (
 .bd (FH45 y9.2.2.1) fun PY =>
 .bd (F36 (((PY.2.1).drop (0:Nat)).take PY.1) (((((bs [97,110,97])::((bs [98,101,110])::((bs [99,121])::[])))).drop (0:Nat)).take (3:Nat))) fun y15 =>
 .br y15.1 (
 .bd (FH40 (bs [116,49]) (3:Int) PY.2.2.1) fun y16 =>
 .br y16.1 (
 .bd (FH40 (bs [116,50]) (4:Int) y16.2.1) fun y17 =>
 .br y17.1 (
 .bd (FH40 (bs [99,51]) (5:Int) y17.2.1) fun y18 =>
 .br y18.1 (
 .bd (FH40 (bs [119,49]) (1:Int) y18.2.1) fun y19 =>
 .br y19.1 (
 .bd (FH40 (bs [99,50]) (2:Int) y8.2.2.2.1) fun y20 =>
 .br y20.1 (
 .bd (FH40 (bs [99,51]) (4:Int) y20.2.1) fun y21 =>
 .br y21.1 (
 .bd (FH40 (bs [99,50]) (5:Int) PZ.2.2.1) fun y22 =>
 .br y22.1 (
 .bd (FH47 y22.2.1) fun y23 =>
 .ret ((((y23.1:Nat):Int)==(8:Int)),())) (
 .ret (false,()))) (
 .ret (false,()))) (
 .ret (false,()))) (
 .ret (false,()))) (
 .ret (false,()))) (
 .ret (false,()))) (
 .ret (false,()))) (
 .ret (false,()))) (
 .ret (false,()))) (
 .ret (false,()))) (
 .ret (false,()))) (
 .ret (false,()))) (
 .ret (false,()))) (
 .ret (false,()))) (
 .ret (false,()))) (
 .ret (false,()))) (
 .ret (false,()))) (
 .ret (false,()))
theorem aeF:bK prog f17=some ⟨130,0,dd17.er,[.t 0],[some .bool]⟩:=by kernel_rfl
noncomputable def ct17:Ct:=⟨17,[],.c (.hole .bool),fun x=>ai (F17)⟩
theorem XT:ct17.Ok prog:=dX mixed XS func17 aeF (enters_of func17 rfl rfl) dd17 (by kernel_rfl) rfl (fun x=>by kernel_rfl)

/- 29, lent -/
@[reducible] def XU:ah:=ah.mk [(0,.c (.cB 0 tG))] [(0,.arr tG false)] [.slot 0] []
@[reducible] def XV:ah:=ah.mk [(0,.c (.ptr 1 0))] [(1,.cells [.mp 2] false),(0,.arr tG false),(2,.map tG true .bool false)] [.slot 0,.cell 1 0] []
noncomputable def Fu:Cx:=(aF [] [Wq,WI])
theorem uq:Fu.Ok prog:=ag trivial ⟨⟨Ca,rfl⟩,⟨Cd,rfl⟩,trivial⟩
@[reducible] def OJ:ah:=ah.mk [(0,.c (.cB 0 tG)),(3,.c (.ptr 1 0)),(4,hI)] [(0,.arr tG false),(1,.cells [.mp 2] false),(2,.map tG true .bool false)] [.slot 3,.cell 1 0] []
@[reducible] def OK:aR:=[(.exit 0,ah.mk [(3,.c (.ptr 1 0))] [(1,.cells [.mp 2] false),(0,.arr tG false),(2,.map tG true .bool false)] [.slot 3,.cell 1 0] [])]
noncomputable def OL:D prog 19 none 1:=dO [] (pick (kd prog f29) [(0,false)]) 0
noncomputable def gH29_v1_0:Nat×Int×(List (GG))×(List ((GG)×Bool))×Unit→aY ((Nat×Int×(List (GG))×(List ((GG)×Bool))×Unit) ⊕ (((List (GG))×(List ((GG)×Bool))×Unit))):=fun (kD,v4,b0,m2,_) =>
 .br (decide (v4<((kD:Nat):Int))) (
 .nb v4 ((kD:Nat):Int) <|
 .nd (decide (((0:Nat)+(Int.toNat v4))<(b0).length)) <|
 .bd (FH20 (((b0).getD ((0:Nat)+(Int.toNat v4)) ((bs []),(0:Int),(bs []),(bs []),(0:Int))).1,((b0).getD ((0:Nat)+(Int.toNat v4)) ((bs []),(0:Int),(bs []),(bs []),(0:Int))).2.1,((b0).getD ((0:Nat)+(Int.toNat v4)) ((bs []),(0:Int),(bs []),(bs []),(0:Int))).2.2.1,((b0).getD ((0:Nat)+(Int.toNat v4)) ((bs []),(0:Int),(bs []),(bs []),(0:Int))).2.2.2.1,((b0).getD ((0:Nat)+(Int.toNat v4)) ((bs []),(0:Int),(bs []),(bs []),(0:Int))).2.2.2.2) m2) fun y1 =>
 .ni (v4+(1:Int)) <|
 .ret (.inl (kD,(v4+(1:Int)),b0,y1.2.1,()))) (
 .ret (.inr (b0,m2,())))
noncomputable def OM:bL prog 19 none 1:=bp mixed Fu uq [0] rfl OJ OK rfl (OL) (fun x=>ai (gH29_v1_0 x)) (fun x=>by kernel_rfl)
noncomputable def Fv:D prog 19 none 1:=dO [.l OM] (kd prog f29) 0
noncomputable def FH29_v1 (kD:Nat) (b0:List (GG)):aY ((List (GG))×(List ((GG)×Bool))×Unit) :=
 .bd (FH18) fun y0 =>
 .bd (.it gH29_v1_0 (kD,(0:Int),b0,y0.1,())) fun z2 =>
 .ret (z2.1,z2.2.1,())
theorem Je:bK prog f29=some ⟨19,1,Fv.er,[.t 2],[none]⟩:=by kernel_rfl
noncomputable def Mb:Ht:=⟨29,XU,XV,(fun x=>ai (FH29_v1 x.1 x.2.1))⟩
theorem Jf:Mb.Ok prog:=aM mixed uq rfl func29 Je (enters_of func29 rfl rfl) Fv (by kernel_rfl) rfl rfl ⟨_,rfl⟩ rfl (pre:=[0]) rfl (fun x=>by kernel_rfl)

/- 192, lent -/
@[reducible] def aiB:ah:=ah.mk [(0,.c (.ptr 0 0))] [(0,.cells [.mp 1] false),(1,.map tG true .bool false)] [.slot 0,.cell 0 0] []
@[reducible] def aiC:ah:=ah.mk [(0,.c (.cB 2 tG))] [(2,.arr tG false),(0,.cells [.mp 1] false),(1,.map tG true .bool false)] [.slot 0] []
noncomputable def aeG:Cx:=(aF [] [Sv])
theorem ON:aeG.Ok prog:=ag trivial ⟨⟨vq,rfl⟩,trivial⟩
noncomputable def TG:D prog 5 none 2:=dO [] (kd prog f192) 0
noncomputable def FH192 (m1:List ((GG)×Bool)):aY (Nat×(List (GG))×(List ((GG)×Bool))×Unit) :=
 .bd (FH47 m1) fun y0 =>
 .ret (y0.1,y0.2.1,y0.2.2.1,())
theorem TH:bK prog f192=some ⟨5,1,TG.er,[.t 2],[some (.list tG)]⟩:=by kernel_rfl
noncomputable def TI:Ht:=⟨192,aiB,aiC,(fun x=>ai (FH192 x.1))⟩
theorem Fw:TI.Ok prog:=aM mixed ON rfl func192 TH (enters_of func192 rfl rfl) TG (by kernel_rfl) rfl rfl ⟨_,rfl⟩ rfl (pre:=[0,1]) rfl (fun x=>by kernel_rfl)

/- 56, lent -/
@[reducible] def XW:ah:=ah.mk [(0,.c (.ptr 0 0)),(1,.c (.ru 26 false (.cons (.ptr 1 0) .nil)))] [(0,.cells [.mp 2] false),(1,.cells [.mp 3] false),(2,.map tG true .bool false),(3,.map tG true .bool false)] [.slot 0,.slot 1,.cell 0 0,.cell 1 0] []
@[reducible] def XX:ah:=ah.mk [(0,hI)] [(0,.cells [.mp 4] false),(1,.cells [.mp 5] false),(4,.map tG true .bool false),(5,.map tG true .bool false)] [.cell 0 0,.cell 1 0] []
noncomputable def Fy:Cx:=(aF [] [Sf,TI])
theorem ur:Fy.Ok prog:=ag trivial ⟨⟨vm,rfl⟩,⟨Fw,rfl⟩,trivial⟩
@[reducible] def OO:ah:=ah.mk [(0,.c (.ptr 0 0)),(5,.c (.mp 4)),(14,.c (.cB 5 tG)),(15,hI),(16,hI)] [(0,.cells [.mp 2] false),(4,.map tG true .bool false),(5,.arr tG false),(2,.map tG true .bool false),(1,.cells [.mp 3] false),(3,.map tG true .bool false)] [.slot 5,.slot 14] []
@[reducible] def OP:aR:=[(.exit 0,ah.mk [(0,.c (.ptr 0 0)),(5,.c (.mp 4))] [(0,.cells [.mp 2] false),(4,.map tG true .bool false),(2,.map tG true .bool false),(1,.cells [.mp 3] false),(3,.map tG true .bool false)] [.slot 5] [])]
noncomputable def OQ:D prog 30 none 4:=dO [] (pick (kd prog f56) [(0,false)]) 0
noncomputable def gH56_v1_0:Nat×Int×Int×(List ((GG)×Bool))×(List (GG))×(List ((GG)×Bool))×(List ((GG)×Bool))×Unit→aY ((Nat×Int×Int×(List ((GG)×Bool))×(List (GG))×(List ((GG)×Bool))×(List ((GG)×Bool))×Unit) ⊕ (((List ((GG)×Bool))×(List ((GG)×Bool))×(List ((GG)×Bool))×Unit))):=fun (Cc,NU,o9,m4,b5,m2,m3,_) =>
 .br (decide (o9<NU)) (
 .nb o9 ((Cc:Nat):Int) <|
 .nd (decide (((0:Nat)+(Int.toNat o9))<(b5).length)) <|
 .ni (o9+(1:Int)) <|
 .ret (.inl (Cc,NU,(o9+(1:Int)),(aS (.prod .str (.prod (.int .i64) (.prod .str (.prod .str (.int .i64))))) m4 (((b5).getD ((0:Nat)+(Int.toNat o9)) ((bs []),(0:Int),(bs []),(bs []),(0:Int))).1,((b5).getD ((0:Nat)+(Int.toNat o9)) ((bs []),(0:Int),(bs []),(bs []),(0:Int))).2.1,((b5).getD ((0:Nat)+(Int.toNat o9)) ((bs []),(0:Int),(bs []),(bs []),(0:Int))).2.2.1,((b5).getD ((0:Nat)+(Int.toNat o9)) ((bs []),(0:Int),(bs []),(bs []),(0:Int))).2.2.2.1,((b5).getD ((0:Nat)+(Int.toNat o9)) ((bs []),(0:Int),(bs []),(bs []),(0:Int))).2.2.2.2) true),b5,m2,m3,()))) (
 .ret (.inr (m4,m2,m3,())))
noncomputable def OR:bL prog 30 none 4:=bp mixed Fy ur [0,1,2,3] rfl OO OP rfl (OQ) (fun x=>ai (gH56_v1_0 x)) (fun x=>by kernel_rfl)
noncomputable def Fz:D prog 30 none 4:=dO [.l OR] (kd prog f56) 0
noncomputable def FH56_v1 (m2:List ((GG)×Bool)) (m3:List ((GG)×Bool)):aY (Int×(List ((GG)×Bool))×(List ((GG)×Bool))×Unit) :=
 .bd (FH89 m2) fun y0 =>
 .bd (FH192 m3) fun y1 =>
 .bd (.it gH56_v1_0 (y1.1,((y1.1:Nat):Int),(0:Int),y0.1,y1.2.1,y0.2.1,y1.2.2.1,())) fun z2 =>
 .br (decide ((60:Int)<(((z2.1).length:Nat):Int))) (
 .ret ((15:Int),z2.2.1,z2.2.2.1,())) (
 .ret ((0:Int),z2.1,z2.2.2.1,()))
theorem Jg:bK prog f56=some ⟨30,2,Fz.er,[.t 4],[some tI]⟩:=by kernel_rfl
noncomputable def Mc:Ht:=⟨56,XW,XX,(fun x=>ai (FH56_v1 x.1 x.2.1))⟩
theorem Jh:Mc.Ok prog:=aM mixed ur rfl func56 Jg (enters_of func56 rfl rfl) Fz (by kernel_rfl) rfl rfl ⟨_,rfl⟩ rfl (pre:=[0,1,2,3]) rfl (fun x=>by kernel_rfl)

/- 48, lent -/
@[reducible] def pH48:ah:=ah.mk [(0,.c (.ptr 0 0)),(1,.c (.ptr 1 0))] [(0,.cells [.mp 2] false),(1,.cells [.mp 3] false),(2,.map tG true .bool false),(3,.map tG true .bool false)] [.slot 0,.slot 1,.cell 0 0,.cell 1 0] []
@[reducible] def qH48:ah:=ah.mk [(0,hI)] [(0,.cells [.mp 4] false),(1,.cells [.mp 5] false),(4,.map tG true .bool false),(5,.map tG true .bool false)] [.cell 0 0,.cell 1 0] []
noncomputable def aiD:Cx:=(aF [] [ql,Mc])
theorem TJ:aiD.Ok prog:=ag trivial ⟨⟨fH,rfl⟩,⟨Jh,rfl⟩,trivial⟩
noncomputable def abz:D prog 15 none 4:=dO [] (kd prog f48) 0
noncomputable def FH48 (m2:List ((GG)×Bool)) (m3:List ((GG)×Bool)):aY (Int×(List ((GG)×Bool))×(List ((GG)×Bool))×Unit) :=
 .bd (FH54 m2) fun y0 =>
 .br y0.1 (
 .ret ((9:Int),y0.2.1,m3,())) (
 .bd (FH54 m3) fun y1 =>
 .br y1.1 (
 .ret ((9:Int),y0.2.1,y1.2.1,())) (
 .bd (FH56_v1 y0.2.1 y1.2.1) fun y2 =>
 .ret (y2.1,y2.2.1,y2.2.2.1,())))
theorem XY:bK prog f48=some ⟨15,2,abz.er,[.t 4],[some tI]⟩:=by kernel_rfl
noncomputable def ht48:Ht:=⟨48,pH48,qH48,(fun x=>ai (FH48 x.1 x.2.1))⟩
theorem XZ:ht48.Ok prog:=aM mixed TJ rfl func48 XY (enters_of func48 rfl rfl) abz (by kernel_rfl) rfl rfl ⟨_,rfl⟩ rfl (pre:=[0,1,2,3]) rfl (fun x=>by kernel_rfl)

/- 51 -/
noncomputable def cx51:Cx:=(aF [] [])
theorem X0:cx51.Ok prog:=ag trivial trivial
noncomputable def dd51:D prog 13 none 0:=dO [] (kd prog f51) 0
noncomputable def F51 (a0:Int):aY (ByteArray×Unit) :=
 .nd (!((10:Int)==(0:Int))) <|
 .ni (Int.tdiv a0 (10:Int)) <|
 .ni ((48:Int)+(Int.tdiv a0 (10:Int))) <|
 .nd (gZ .u8 ((48:Int)+(Int.tdiv a0 (10:Int)))) <|
 .nd (!((10:Int)==(0:Int))) <|
 .ni ((48:Int)+(Int.tmod a0 (10:Int))) <|
 .nd (gZ .u8 ((48:Int)+(Int.tmod a0 (10:Int)))) <|
 .ret ((yY (((((109:Int)::(((48:Int)+(Int.tdiv a0 (10:Int)))::(((48:Int)+(Int.tmod a0 (10:Int)))::[])))).drop (0:Nat)).take (3:Nat))),())
theorem aeH:bK prog f51=some ⟨13,1,dd51.er,[.t 2],[some .str]⟩:=by kernel_rfl
noncomputable def ct51:Ct:=⟨51,[hI],.c (.hole .str),fun x=>ai (F51 x.1)⟩
theorem X1:ct51.Ok prog:=dX mixed X0 func51 aeH (enters_of func51 rfl rfl) dd51 (by kernel_rfl) rfl (fun x=>by kernel_rfl)

/- 54, lent -/
@[reducible] def X2:ah:=ah.mk [(0,.c .b7)] [] [] []
@[reducible] def X3:ah:=ah.mk [(0,.c (.hole .bool))] [] [] []
noncomputable def TK:Cx:=(aF [] [])
theorem FA:TK.Ok prog:=ag trivial trivial
noncomputable def FB:D prog 12 none 0:=dO [] (kd prog f54) 0
noncomputable def FH54_v1:aY (Bool×Unit) :=
 .ret (true,())
theorem Ji:bK prog f54=some ⟨12,1,FB.er,[.t 2],[some .bool]⟩:=by kernel_rfl
noncomputable def fI:Ht:=⟨54,X2,X3,(fun x=>ai (FH54_v1))⟩
theorem dS:fI.Ok prog:=aM mixed FA rfl func54 Ji (enters_of func54 rfl rfl) FB (by kernel_rfl) rfl rfl ⟨_,rfl⟩ rfl (pre:=[]) rfl (fun x=>by kernel_rfl)

/- 47, lent -/
@[reducible] def X4:ah:=ah.mk [(0,.c .b7)] [] [] []
@[reducible] def X5:ah:=ah.mk [(0,.c .bG)] [] [] []
noncomputable def TL:Cx:=(aF [] [fI])
theorem FC:TL.Ok prog:=ag trivial ⟨⟨dS,rfl⟩,trivial⟩
noncomputable def FD:D prog 11 none 0:=dO [] (kd prog f47) 0
noncomputable def FH47_v1:aY (Unit) :=
 .bd (FH54_v1) fun y0 =>
 .br y0.1 (
 .ret ()) (
 .no)
theorem Jj:bK prog f47=some ⟨11,1,FD.er,[.t 2],[some (.list tG)]⟩:=by kernel_rfl
noncomputable def vA:Ht:=⟨47,X4,X5,(fun x=>ai (FH47_v1))⟩
theorem qy:vA.Ok prog:=aM mixed FC rfl func47 Jj (enters_of func47 rfl rfl) FD (by kernel_rfl) rfl rfl ⟨_,rfl⟩ rfl (pre:=[]) rfl (fun x=>by kernel_rfl)

/- 66, lent -/
@[reducible] def X6:ah:=ah.mk [(0,.c .b7)] [] [] []
@[reducible] def X7:ah:=ah.mk [(0,.c (.ptr 0 0))] [(0,.cells [.mp 1,.mp 2,.mp 3,.mp 4] false),(1,.map .str false tG true),(2,.map .str false (.list .str) false),(3,.map .str false .bool false),(4,.map .str false .bool false)] [.slot 0,.cell 0 0,.cell 0 1,.cell 0 2,.cell 0 3] []
noncomputable def ot:Cx:=(aF [] [vA,Cf,Cg,Sz,W7,W9])
theorem iJ:ot.Ok prog:=ag trivial ⟨⟨qy,rfl⟩,⟨kR,rfl⟩,⟨kU,rfl⟩,⟨vu,rfl⟩,⟨Ch,rfl⟩,⟨Ci,rfl⟩,trivial⟩
@[reducible] def OS:ah:=ah.mk [(3,.c (.ptr 0 0)),(26,.c .bG),(27,hI),(28,hI)] [(0,.cells [.ptr 1 0] false),(1,.cells [.mp 2,.mp 3,.mp 4,.mp 5] false),(2,.map .str false tG true),(3,.map .str false (.list .str) false),(4,.map .str false .bool false),(5,.map .str false .bool false)] [.slot 3,.cell 0 0,.cell 1 0,.cell 1 1,.cell 1 2,.cell 1 3] []
@[reducible] def OT:aR:=[(.exit 0,ah.mk [(3,.c (.ptr 0 0))] [(0,.cells [.ptr 1 0] false),(1,.cells [.mp 2,.mp 3,.mp 4,.mp 5] false),(2,.map .str false tG true),(3,.map .str false (.list .str) false),(4,.map .str false .bool false),(5,.map .str false .bool false)] [.slot 3,.cell 0 0,.cell 1 0,.cell 1 1,.cell 1 2,.cell 1 3] [])]
noncomputable def OU:D prog 148 none 0:=dO [] (pick (kd prog f66) [(0,false)]) 0
noncomputable def gH66_v1_0:Int×Int×bF×bI×aJ×aJ×Unit→aY ((Int×Int×bF×bI×aJ×aJ×Unit) ⊕ ((bF×bI×aJ×aJ×Unit))):=fun (v27,v28,m2,m3,m4,m5,_) =>
 .br (decide (v28<v27)) (
 .no) (
 .ret (.inr (m2,m3,m4,m5,())))
noncomputable def OV:bL prog 148 none 0:=bp mixed ot iJ [] rfl OS OT rfl (OU) (fun x=>ai (gH66_v1_0 x)) (fun x=>by kernel_rfl)
@[reducible] def OW:ah:=ah.mk [(3,.c (.ptr 0 0)),(57,.c (.cB 1 .str)),(58,hI),(59,hI)] [(0,.cells [.ptr 2 0] false),(1,.arr .str false),(2,.cells [.mp 3,.mp 4,.mp 5,.mp 6] false),(3,.map .str false tG true),(4,.map .str false (.list .str) false),(5,.map .str false .bool false),(6,.map .str false .bool false)] [.slot 3,.slot 57,.cell 0 0,.cell 2 0,.cell 2 1,.cell 2 2,.cell 2 3] []
@[reducible] def OX:aR:=[(.exit 2,ah.mk [(3,.c (.ptr 0 0))] [(0,.cells [.ptr 1 0] false),(1,.cells [.mp 2,.mp 3,.mp 4,.mp 5] false),(2,.map .str false tG true),(3,.map .str false (.list .str) false),(4,.map .str false .bool false),(5,.map .str false .bool false)] [.slot 3,.cell 0 0,.cell 1 0,.cell 1 1,.cell 1 2,.cell 1 3] [])]
noncomputable def OY:D prog 148 none 0:=dO [] (pick (kd prog f66) [(1,false)]) 0
noncomputable def gH66_v1_1:Nat×Int×Int×List ByteArray×bF×bI×aJ×aJ×Unit→aY ((Nat×Int×Int×List ByteArray×bF×bI×aJ×aJ×Unit) ⊕ ((bF×bI×aJ×aJ×Unit))):=fun (cF,v58,v59,b1,m3,m4,m5,m6,_) =>
 .br (decide (v59<v58)) (
 .nb v59 ((cF:Nat):Int) <|
 .nd (decide (((0:Nat)+(Int.toNat v59))<(b1).length)) <|
 .br ((ak .str ((bs []),(0:Int),(bs []),(bs []),(0:Int)) m3 ((b1).getD ((0:Nat)+(Int.toNat v59)) (bs []))).2.1==(3:Int)) (
 .ni (v59+(1:Int)) <|
 .ret (.inl (cF,v58,(v59+(1:Int)),b1,m3,m4,(aS .str m5 (ak .str ((bs []),(0:Int),(bs []),(bs []),(0:Int)) m3 ((b1).getD ((0:Nat)+(Int.toNat v59)) (bs []))).2.2.1 true),m6,()))) (
 .br ((ak .str ((bs []),(0:Int),(bs []),(bs []),(0:Int)) m3 ((b1).getD ((0:Nat)+(Int.toNat v59)) (bs []))).2.1==(2:Int)) (
 .no) (
 .ni (v59+(1:Int)) <|
 .ret (.inl (cF,v58,(v59+(1:Int)),b1,m3,m4,m5,m6,()))))) (
 .ret (.inr (m3,m4,m5,m6,())))
noncomputable def OZ:bL prog 148 none 0:=bp mixed ot iJ [] rfl OW OX rfl (OY) (fun x=>ai (gH66_v1_1 x)) (fun x=>by kernel_rfl)
@[reducible] def CF:ah:=ah.mk [(3,.c (.ptr 0 0)),(11,.c (.ptr 1 0)),(16,.c (.PU 8 .str)),(102,.c (.mp 3)),(103,.c (.ptr 7 0)),(121,.c (.ptr 9 1)),(122,hI),(123,.c (.hole .bool)),(132,.c (.hole (.list .str))),(133,hI),(134,hI)] [(0,.cells [.ptr 2 0] false),(1,.cells [.fn 96 .nil (.cons (.ptr 0 0) (.cons (.ptr 1 0) .nil))] false),(8,.arr .str false),(3,.map .str false (.list .str) false),(9,.cells [.hole .str,.hole tI,.hole .str,.hole .str,.hole tI] false),(2,.cells [.mp 4,.mp 3,.mp 5,.mp 6] false),(4,.map .str false tG true),(5,.map .str false .bool false),(6,.map .str false .bool false)] [.slot 16,.slot 121] []
@[reducible] def CG:aR:=[(.exit 7,ah.mk [(3,.c (.ptr 0 0)),(11,.c (.ptr 1 0)),(102,.c (.mp 3)),(103,.c (.ptr 7 0)),(121,.c (.ptr 8 1)),(122,hI),(123,.c (.hole .bool))] [(0,.cells [.ptr 2 0] false),(1,.cells [.fn 96 .nil (.cons (.ptr 0 0) (.cons (.ptr 1 0) .nil))] false),(3,.map .str false (.list .str) false),(8,.cells [.hole .str,.hole tI,.hole .str,.hole .str,.hole tI] false),(2,.cells [.mp 4,.mp 3,.mp 5,.mp 6] false),(4,.map .str false tG true),(5,.map .str false .bool false),(6,.map .str false .bool false)] [.slot 121] [])]
noncomputable def CH:D prog 148 none 8:=dO [] (pick (kd prog f66) [(2,false),(0,false)]) 0
noncomputable def gH66_v1_2b_3:Nat×Nat×Int×Bool×List ByteArray×Int×Int×List ByteArray×bI×ByteArray×Int×ByteArray×ByteArray×Int×bF×aJ×aJ×Unit→aY ((Nat×Nat×Int×Bool×List ByteArray×Int×Int×List ByteArray×bI×ByteArray×Int×ByteArray×ByteArray×Int×bF×aJ×aJ×Unit) ⊕ ((Int×Bool×bI×ByteArray×Int×ByteArray×ByteArray×Int×bF×aJ×aJ×Unit))):=fun (rV,xQ,pg,pn,nZ,xR,iH,b8,m3,aeI,aeJ,aeK,aeL,aeM,m4,m5,m6,_) =>
 .br (decide (iH<xR)) (
 .nb iH (((nZ).length:Nat):Int) <|
 .nb (0:Int) ((xQ:Nat):Int) <|
 .nd (decide ((rV+(Int.toNat (0:Int)))<(b8).length)) <|
 .br (!(seq ((nZ).getD (Int.toNat iH) (bs [])) ((b8).getD (rV+(Int.toNat (0:Int))) (bs [])))) (
 .bd (FH96fix ((nZ).getD (Int.toNat iH) (bs [])) m4 m3 m5 m6) fun y7 =>
 .ni (iH+(1:Int)) <|
 .ret (.inl (rV,xQ,pg,pn,nZ,xR,(iH+(1:Int)),b8,y7.2.1,aeI,aeJ,aeK,aeL,aeM,y7.1,y7.2.2.1,y7.2.2.2.1,()))) (
 .ni (iH+(1:Int)) <|
 .ret (.inl (rV,xQ,pg,pn,nZ,xR,(iH+(1:Int)),b8,m3,aeI,aeJ,aeK,aeL,aeM,m4,m5,m6,())))) (
 .ret (.inr (pg,pn,m3,aeI,aeJ,aeK,aeL,aeM,m4,m5,m6,())))
noncomputable def CI:bL prog 148 none 8:=bp mixed ot iJ [0,1,2,3,4,5,6,7] rfl CF CG rfl (CH) (fun x=>ai (gH66_v1_2b_3 x)) (fun x=>by kernel_rfl)
@[reducible] def O0:ah:=ah.mk [(3,.c (.ptr 0 0)),(11,.c (.ptr 1 0)),(102,.c (.mp 3))] [(0,.cells [.ptr 2 0] false),(1,.cells [.fn 96 .nil (.cons (.ptr 0 0) (.cons (.ptr 1 0) .nil))] false),(2,.cells [.mp 4,.mp 3,.mp 5,.mp 6] false),(3,.map .str false (.list .str) false),(4,.map .str false tG true),(5,.map .str false .bool false),(6,.map .str false .bool false)] [.slot 3,.slot 11,.cell 0 0,.cell 2 1,.cell 2 0,.cell 2 2,.cell 2 3] []
noncomputable def O1:D prog 148 none 8:=dO [.l CI] (pick (kd prog f66) [(2,false)]) 0
noncomputable def gH66_v1_2:((ByteArray)×(List ByteArray))→bI×bF×aJ×aJ×Unit→aY (bI×bF×aJ×aJ×Unit):=fun e (m3,m4,m5,m6,_) =>
 .br (!(aL .str m4 e.1)) (
 .nd (eu m3 m3) <|
 .ret (m3,m4,m5,m6,())) (
 .br ((ak .str ((bs []),(0:Int),(bs []),(bs []),(0:Int)) m4 e.1).2.1==(3:Int)) (
 .nd (eu m3 m3) <|
 .ret (m3,m4,m5,m6,())) (
 .bd (FH98 e.2) fun y5 =>
 .bd (FH97 y5.1 y5.2.1 m4 m3 m5 m6) fun y6 =>
 .br (!(((y6.2.1:Nat):Int)==(1:Int))) (
 .nd (eu y6.2.2.2.2.1 m3) <|
 .ret (y6.2.2.2.2.1,y6.2.2.2.1,y6.2.2.2.2.2.1,y6.2.2.2.2.2.2.1,())) (
 .bd (.it gH66_v1_2b_3 (y6.1,y6.2.1,(ak .str ((bs []),(0:Int),(bs []),(bs []),(0:Int)) m4 e.1).2.1,((ak .str ((bs []),(0:Int),(bs []),(bs []),(0:Int)) m4 e.1).2.1==(3:Int)),e.2,(((e.2).length:Nat):Int),(0:Int),y6.2.2.1,y6.2.2.2.2.1,(ak .str ((bs []),(0:Int),(bs []),(bs []),(0:Int)) m4 e.1).1,(ak .str ((bs []),(0:Int),(bs []),(bs []),(0:Int)) m4 e.1).2.1,(ak .str ((bs []),(0:Int),(bs []),(bs []),(0:Int)) m4 e.1).2.2.1,(ak .str ((bs []),(0:Int),(bs []),(bs []),(0:Int)) m4 e.1).2.2.2.1,(ak .str ((bs []),(0:Int),(bs []),(bs []),(0:Int)) m4 e.1).2.2.2.2,y6.2.2.2.1,y6.2.2.2.2.2.1,y6.2.2.2.2.2.2.1,())) fun z8 =>
 .nd (eu z8.2.2.1 m3) <|
 .ret (z8.2.2.1,z8.2.2.2.2.2.2.2.2.1,z8.2.2.2.2.2.2.2.2.2.1,z8.2.2.2.2.2.2.2.2.2.2.1,()))))
noncomputable def O2:o5 prog 148 none 0:=rH mixed ot iJ [] rfl O0 ( [.op (some 99) none (.load false 1 (.t 3)),.op (some 100) none (.ex dB.eA [.t 99]),.op (some 101) none (.jl 1 [true,false] (.t 100)),.op (some 102) none (.load false 1 (.t 101))]) 102 103 [104,105] (some 106) ( .str)  false ( .list .str)  false 5 rfl 8 rfl (O1) (fun e x=>ai (gH66_v1_2 e x)) (fun e=>fun x=>by kernel_rfl)
noncomputable def FE:D prog 148 none 0:=dO [.l OV,.l OZ,.m O2] (kd prog f66) 0
noncomputable def FH66_v1:aY (bF×bI×aJ×aJ×Unit) :=
 .bd (FH47_v1) fun y0 =>
 .bd (.it gH66_v1_0 ((0:Int),(0:Int),[],[],[],[],())) fun z1 =>
 .bd (FH95 z1.1) fun y2 =>
 .bd (FH81 y2.1) fun y3 =>
 .bd (.it gH66_v1_1 (y3.1,((y3.1:Nat):Int),(0:Int),y3.2.1,y3.2.2.1,z1.2.1,z1.2.2.1,z1.2.2.2.1,())) fun z4 =>
 .bd (.mq gH66_v1_2 z4.2.1 (z4.2.1,z4.1,z4.2.2.1,z4.2.2.2.1,())) fun z9 =>
 .ret (z9.2.1,z9.1,z9.2.2.1,z9.2.2.2.1,())
theorem Jk:bK prog f66=some ⟨148,1,FE.er,[.t 2],[none]⟩:=by kernel_rfl
noncomputable def kX:Ht:=⟨66,X6,X7,(fun x=>ai (FH66_v1))⟩
theorem kj:kX.Ok prog:=aM mixed iJ rfl func66 Jk (enters_of func66 rfl rfl) FE (by kernel_rfl) rfl rfl ⟨_,rfl⟩ rfl (pre:=[]) rfl (fun x=>by kernel_rfl)

/- 32, lent -/
@[reducible] def X8:ah:=ah.mk [(0,.c .b7),(1,.c (.hole .str))] [] [] []
@[reducible] def X9:ah:=ah.mk [(0,.bX [.hole tI,.hole tI])] [] [] []
noncomputable def yf:Cx:=(aF [I1] [fI,kX,IZ])
theorem zB:yf.Ok prog:=ag (sA:=[I1]) (hts:=[fI,kX,IZ]) ⟨Ck,trivial⟩ ⟨⟨dS,rfl⟩,⟨kj,rfl⟩,⟨Cj,rfl⟩,trivial⟩
@[reducible] noncomputable def Jl:Go.AM.Fn:=⟨29,2,(dO [] (kd prog f73) 0:D prog 29 none 0).er,[.t 4,.cell 5 true 5,.t 6],[none,some tG,some tI]⟩
noncomputable def yg:Cx:=uL prog yf 73 Jl (fun _=>dO [] (kd prog f73) 0)
theorem zC:yg.Ok prog:=ij mixed zB func73 (by kernel_rfl) (enters_of func73 rfl rfl) (fun _=>by kernel_rfl)
noncomputable def TM:Cx:=yg
theorem FF:TM.Ok prog:=zC
noncomputable def FG:D prog 51 none 0:=dO [] (kd prog f32) 0
noncomputable def FH32_v1 (v1:ByteArray):aY (Int×Int×Unit) :=
 .bd (FH54_v1) fun y0 =>
 .br y0.1 (
 .br (!((9:Int)==(0:Int))) (
 .ret ((0:Int),(9:Int),())) (
 .br ((0:Int)==(3:Int)) (
 .ret ((0:Int),(18:Int),())) (
 .no))) (
 .bd (FH66_v1) fun y1 =>
 .br (!(aL .str y1.1 v1)) (
 .br (!((5:Int)==(0:Int))) (
 .ret ((0:Int),(5:Int),())) (
 .br ((0:Int)==(3:Int)) (
 .ret ((0:Int),(18:Int),())) (
 .no))) (
 .br (!((0:Int)==(0:Int))) (
 .ret ((0:Int),(0:Int),())) (
 .br ((ak .str ((bs []),(0:Int),(bs []),(bs []),(0:Int)) y1.1 v1).2.1==(3:Int)) (
 .ret ((0:Int),(18:Int),())) (
 .br (ak .str false y1.2.2.2.1 v1) (
 .ret ((2:Int),(0:Int),())) (
 .bd (FH74 v1 y1.1 y1.2.1 y1.2.2.1 y1.2.2.2.1) fun y2 =>
 .br (!y2.2.1) (
 .ret ((1:Int),(0:Int),())) (
 .bd (F75 (((y2.2.2.1).drop (0:Nat)).take y2.1) v1) fun y3 =>
 .br (!y3.1) (
 .ret ((3:Int),(0:Int),())) (
 .br (decide ((1:Int)<((y2.1:Nat):Int))) (
 .ret ((5:Int),(0:Int),())) (
 .ret ((4:Int),(0:Int),())))))))))
theorem Jm:bK prog f32=some ⟨51,2,FG.er,[.t 4,.t 5],[some tI,some tI]⟩:=by kernel_rfl
noncomputable def Md:Ht:=⟨32,X8,X9,(fun x=>ai (FH32_v1 x.1))⟩
theorem Jn:Md.Ok prog:=aM mixed FF rfl func32 Jm (enters_of func32 rfl rfl) FG (by kernel_rfl) rfl rfl ⟨_,rfl⟩ rfl (pre:=[]) rfl (fun x=>by kernel_rfl)

/- 33, lent -/
@[reducible] def Yc:ah:=ah.mk [(0,.c .b7),(1,.c (.hole .str))] [] [] []
@[reducible] def Yd:ah:=ah.mk [(0,.bX [.cB 0 .str,.hole tI])] [(0,.arr .str false)] [.part 0 0] []
noncomputable def yh:Cx:=(aF [] [fI,mM,kX,tD])
theorem zD:yh.Ok prog:=ag (sA:=[]) (hts:=[fI,mM,kX,tD]) trivial ⟨⟨dS,rfl⟩,⟨qp,rfl⟩,⟨kj,rfl⟩,⟨jr,rfl⟩,trivial⟩
@[reducible] noncomputable def Jo:Go.AM.Fn:=⟨29,2,(dO [] (kd prog f73) 0:D prog 29 none 0).er,[.t 4,.cell 5 true 5,.t 6],[none,some tG,some tI]⟩
noncomputable def yj:Cx:=uL prog yh 73 Jo (fun _=>dO [] (kd prog f73) 0)
theorem zF:yj.Ok prog:=ij mixed zD func73 (by kernel_rfl) (enters_of func73 rfl rfl) (fun _=>by kernel_rfl)
noncomputable def TN:Cx:=yj
theorem FH:TN.Ok prog:=zF
noncomputable def FI:D prog 27 none 0:=dO [] (kd prog f33) 0
noncomputable def FH33_v1 (v1:ByteArray):aY (Nat×Int×List ByteArray×Unit) :=
 .bd (FH54_v1) fun y0 =>
 .br y0.1 (
 .br (!((9:Int)==(0:Int))) (
 .ret ((0:Nat),(9:Int),[],())) (
 .br (!((0:Int)==(1:Int))) (
 .ret ((0:Nat),(18:Int),[],())) (
 .bd (FH76_v1 v1) fun y1 =>
 .no))) (
 .bd (FH66_v1) fun y2 =>
 .br (!(aL .str y2.1 v1)) (
 .br (!((5:Int)==(0:Int))) (
 .ret ((0:Nat),(5:Int),[],())) (
 .br (!((0:Int)==(1:Int))) (
 .ret ((0:Nat),(18:Int),[],())) (
 .bd (FH76_v1 v1) fun y3 =>
 .no))) (
 .br (!((0:Int)==(0:Int))) (
 .ret ((0:Nat),(0:Int),[],())) (
 .br (!((ak .str ((bs []),(0:Int),(bs []),(bs []),(0:Int)) y2.1 v1).2.1==(1:Int))) (
 .ret ((0:Nat),(18:Int),[],())) (
 .bd (FH76fix v1 y2.1 y2.2.1 y2.2.2.1 y2.2.2.2.1) fun y4 =>
 .ret (y4.1,(0:Int),y4.2.1,())))))
theorem Jp:bK prog f33=some ⟨27,2,FI.er,[.t 4,.t 5],[some (.list .str),some tI]⟩:=by kernel_rfl
noncomputable def Me:Ht:=⟨33,Yc,Yd,(fun x=>ai (FH33_v1 x.1))⟩
theorem Jq:Me.Ok prog:=aM mixed FH rfl func33 Jp (enters_of func33 rfl rfl) FI (by kernel_rfl) rfl rfl ⟨_,rfl⟩ rfl (pre:=[]) rfl (fun x=>by kernel_rfl)

/- 23, lent -/
@[reducible] def Ye:ah:=ah.mk [(0,.c .b7),(1,.c (.hole .str))] [] [] []
@[reducible] def Yf:ah:=ah.mk [(0,.bX [.cB 0 tI,.hole tI])] [(0,.arr tI false)] [.part 0 0] []
noncomputable def TO:Cx:=(aF [IC] [fI,kX,Xw])
theorem FJ:TO.Ok prog:=ag ⟨oT,trivial⟩ ⟨⟨dS,rfl⟩,⟨kj,rfl⟩,⟨Cp,rfl⟩,trivial⟩
noncomputable def FK:D prog 15 none 0:=dO [] (kd prog f23) 0
noncomputable def FH23_v1 (v1:ByteArray):aY (Nat×Int×List Int×Unit) :=
 .bd (FH54_v1) fun y0 =>
 .br y0.1 (
 .ret ((0:Nat),(9:Int),[],())) (
 .bd (F65 v1) fun y1 =>
 .br (!y1.1) (
 .ret ((0:Nat),(8:Int),[],())) (
 .bd (FH66_v1) fun y2 =>
 .bd (FH67 v1 y2.1 y2.2.1 y2.2.2.1 y2.2.2.2.1) fun y3 =>
 .ret (y3.1,(0:Int),y3.2.1,())))
theorem Jr:bK prog f23=some ⟨15,2,FK.er,[.t 4,.t 5],[some tL,some tI]⟩:=by kernel_rfl
noncomputable def CJ:Ht:=⟨23,Ye,Yf,(fun x=>ai (FH23_v1 x.1))⟩
theorem ym:CJ.Ok prog:=aM mixed FJ rfl func23 Jr (enters_of func23 rfl rfl) FK (by kernel_rfl) rfl rfl ⟨_,rfl⟩ rfl (pre:=[]) rfl (fun x=>by kernel_rfl)

/- 25, lent -/
@[reducible] def Yg:ah:=ah.mk [(0,.c .b7),(1,.c (.hole .str))] [] [] []
@[reducible] def Yh:ah:=ah.mk [(0,.bX [.hole (.prod tI tI),.hole tI])] [] [] []
noncomputable def TP:Cx:=(aF [Ja] [CJ])
theorem FL:TP.Ok prog:=ag ⟨oU,trivial⟩ ⟨⟨ym,rfl⟩,trivial⟩
noncomputable def FM:D prog 20 none 0:=dO [] (kd prog f25) 0
noncomputable def FH25_v1 (v1:ByteArray):aY ((Int×Int)×Int×Unit) :=
 .bd (FH23_v1 v1) fun y0 =>
 .br (!(y0.2.1==(0:Int))) (
 .ret (((0:Int),(0:Int)),y0.2.1,())) (
 .bd (F72 (((y0.2.2.1).drop (0:Nat)).take y0.1)) fun y1 =>
 .ret ((y1.1.1,y1.1.2),(0:Int),()))
theorem Js:bK prog f25=some ⟨20,2,FM.er,[.cell 4 true 2,.t 5],[some (.prod tI tI),some tI]⟩:=by kernel_rfl
noncomputable def Mf:Ht:=⟨25,Yg,Yh,(fun x=>ai (FH25_v1 x.1))⟩
theorem Jt:Mf.Ok prog:=aM mixed FL rfl func25 Js (enters_of func25 rfl rfl) FM (by kernel_rfl) rfl rfl ⟨_,rfl⟩ rfl (pre:=[]) rfl (fun x=>by kernel_rfl)

/- 37, lent -/
@[reducible] def Yi:ah:=ah.mk [(0,.c .b7)] [] [] []
@[reducible] def Yj:ah:=ah.mk [(0,.bX [.hole (.prod tI tI),.hole tI])] [] [] []
noncomputable def TQ:Cx:=(aF [Ja] [fI,kX,vw])
theorem FN:TQ.Ok prog:=ag ⟨oU,trivial⟩ ⟨⟨dS,rfl⟩,⟨kj,rfl⟩,⟨qv,rfl⟩,trivial⟩
noncomputable def FO:D prog 11 none 0:=dO [] (kd prog f37) 0
noncomputable def FH37_v1:aY ((Int×Int)×Int×Unit) :=
 .bd (FH54_v1) fun y0 =>
 .br y0.1 (
 .ret (((0:Int),(0:Int)),(9:Int),())) (
 .bd (FH66_v1) fun y1 =>
 .bd (FH67_v1 y1.1 y1.2.1 y1.2.2.1 y1.2.2.2.1) fun y2 =>
 .bd (F72 (((y2.2.1).drop (0:Nat)).take y2.1)) fun y3 =>
 .ret ((y3.1.1,y3.1.2),(0:Int),()))
theorem Ju:bK prog f37=some ⟨11,1,FO.er,[.cell 2 true 2,.t 3],[some (.prod tI tI),some tI]⟩:=by kernel_rfl
noncomputable def Mh:Ht:=⟨37,Yi,Yj,(fun x=>ai (FH37_v1))⟩
theorem Jv:Mh.Ok prog:=aM mixed FN rfl func37 Ju (enters_of func37 rfl rfl) FO (by kernel_rfl) rfl rfl ⟨_,rfl⟩ rfl (pre:=[]) rfl (fun x=>by kernel_rfl)

/- 56, lent -/
@[reducible] def Yk:ah:=ah.mk [(0,.c .b7),(1,.c (.ru 33 true (.cons (.hole .str) (.cons (.hole tI) (.cons (.hole .str) (.cons (.hole .str) (.cons (.hole tI) .nil)))))))] [] [] []
@[reducible] def Yl:ah:=ah.mk [(0,.c .any)] [] [] []
noncomputable def TS:Cx:=(aF [] [])
theorem FP:TS.Ok prog:=ag trivial trivial
noncomputable def FQ:D prog 30 none 0:=dO [.x] (kd prog f56) 0
noncomputable def FH56_v3 (Wz:ByteArray) (WA:Int) (WB:ByteArray) (WC:ByteArray) (WD:Int):aY (Unit) :=
 .no
theorem Jw:bK prog f56=some ⟨30,2,FQ.er,[.t 4],[some tI]⟩:=by kernel_rfl
noncomputable def Mi:Ht:=⟨56,Yk,Yl,(fun x=>ai (FH56_v3 x.1 x.2.1 x.2.2.1 x.2.2.2.1 x.2.2.2.2.1))⟩
theorem Jx:Mi.Ok prog:=aM mixed FP rfl func56 Jw (enters_of func56 rfl rfl) FQ (by kernel_rfl) rfl rfl ⟨_,rfl⟩ rfl (pre:=[]) rfl (fun x=>by kernel_rfl)

/- 20, lent -/
@[reducible] def Ym:ah:=ah.mk [(0,.c .b7),(1,.c (.hole tG))] [] [] []
@[reducible] def Yn:ah:=ah.mk [(0,hI)] [] [] []
noncomputable def TT:Cx:=(aF [Wy] [fI,Mi])
theorem FR:TT.Ok prog:=ag ⟨Cb,trivial⟩ ⟨⟨dS,rfl⟩,⟨Jx,rfl⟩,trivial⟩
noncomputable def FT:D prog 17 none 0:=dO [] (kd prog f20) 0
noncomputable def FH20_v1 (v1:GG):aY (Int×Unit) :=
 .bd (FH54_v1) fun y0 =>
 .br y0.1 (
 .ret ((9:Int),())) (
 .bd (F55 (v1.1,v1.2.1,v1.2.2.1,v1.2.2.2.1,v1.2.2.2.2)) fun y1 =>
 .br (!(y1.1==(0:Int))) (
 .ret (y1.1,())) (
 .bd (FH56_v3 v1.1 v1.2.1 v1.2.2.1 v1.2.2.2.1 v1.2.2.2.2) fun y2 =>
 .no))
theorem Jy:bK prog f20=some ⟨17,2,FT.er,[.t 4],[some tI]⟩:=by kernel_rfl
noncomputable def Mj:Ht:=⟨20,Ym,Yn,(fun x=>ai (FH20_v1 x.1))⟩
theorem Jz:Mj.Ok prog:=aM mixed FR rfl func20 Jy (enters_of func20 rfl rfl) FT (by kernel_rfl) rfl rfl ⟨_,rfl⟩ rfl (pre:=[]) rfl (fun x=>by kernel_rfl)

/- 56, lent -/
@[reducible] def Yo:ah:=ah.mk [(0,.c .b7),(1,.c (.ru 26 false (.cons (.ptr 0 0) .nil)))] [(0,.cells [.mp 1] false),(1,.map tG true .bool false)] [.slot 1,.cell 0 0] []
@[reducible] def Yp:ah:=ah.mk [(0,.c .any)] [] [] []
noncomputable def TU:Cx:=(aF [] [])
theorem FU:TU.Ok prog:=ag trivial trivial
noncomputable def FV:D prog 30 none 2:=dO [.x] (kd prog f56) 0
noncomputable def FH56_v4 (m1:List ((GG)×Bool)):aY (Unit) :=
 .no
theorem JA:bK prog f56=some ⟨30,2,FV.er,[.t 4],[some tI]⟩:=by kernel_rfl
noncomputable def Mk:Ht:=⟨56,Yo,Yp,(fun x=>ai (FH56_v4 x.1))⟩
theorem JB:Mk.Ok prog:=aM mixed FU rfl func56 JA (enters_of func56 rfl rfl) FV (by kernel_rfl) rfl rfl ⟨_,rfl⟩ rfl (pre:=[0,1]) rfl (fun x=>by kernel_rfl)

/- 48, lent -/
@[reducible] def Yq:ah:=ah.mk [(0,.c .b7),(1,.c (.ptr 0 0))] [(0,.cells [.mp 1] false),(1,.map tG true .bool false)] [.slot 1,.cell 0 0] []
@[reducible] def Yr:ah:=ah.mk [(0,hI)] [(0,.cells [.mp 2] false),(2,.map tG true .bool false)] [.cell 0 0] []
noncomputable def TV:Cx:=(aF [] [fI,ql,Mk])
theorem FW:TV.Ok prog:=ag trivial ⟨⟨dS,rfl⟩,⟨fH,rfl⟩,⟨JB,rfl⟩,trivial⟩
noncomputable def FX:D prog 15 none 2:=dO [] (kd prog f48) 0
noncomputable def FH48_v2 (m1:List ((GG)×Bool)):aY (Int×(List ((GG)×Bool))×Unit) :=
 .bd (FH54_v1) fun y0 =>
 .br y0.1 (
 .ret ((9:Int),m1,())) (
 .bd (FH54 m1) fun y1 =>
 .br y1.1 (
 .ret ((9:Int),y1.2.1,())) (
 .bd (FH56_v4 y1.2.1) fun y2 =>
 .no))
theorem JC:bK prog f48=some ⟨15,2,FX.er,[.t 4],[some tI]⟩:=by kernel_rfl
noncomputable def Ml:Ht:=⟨48,Yq,Yr,(fun x=>ai (FH48_v2 x.1))⟩
theorem JD:Ml.Ok prog:=aM mixed FW rfl func48 JC (enters_of func48 rfl rfl) FX (by kernel_rfl) rfl rfl ⟨_,rfl⟩ rfl (pre:=[0,1]) rfl (fun x=>by kernel_rfl)

/- 192, lent -/
@[reducible] def TW:ah:=ah.mk [(0,.c .b7)] [] [] []
@[reducible] def TX:ah:=ah.mk [(0,.c .bG)] [] [] []
noncomputable def O3:Cx:=(aF [] [vA])
theorem CK:O3.Ok prog:=ag trivial ⟨⟨qy,rfl⟩,trivial⟩
noncomputable def AV:D prog 5 none 0:=dO [] (kd prog f192) 0
noncomputable def FH192_v1:aY (Unit) :=
 .bd (FH47_v1) fun y0 =>
 .ret ()
theorem FY:bK prog f192=some ⟨5,1,AV.er,[.t 2],[some (.list tG)]⟩:=by kernel_rfl
noncomputable def FZ:Ht:=⟨192,TW,TX,(fun x=>ai (FH192_v1))⟩
theorem Ga:FZ.Ok prog:=aM mixed CK rfl func192 FY (enters_of func192 rfl rfl) AV (by kernel_rfl) rfl rfl ⟨_,rfl⟩ rfl (pre:=[]) rfl (fun x=>by kernel_rfl)

/- 56, lent -/
@[reducible] def Ys:ah:=ah.mk [(0,.c (.ptr 0 0)),(1,.c (.ru 26 false (.cons .b7 .nil)))] [(0,.cells [.mp 1] false),(1,.map tG true .bool false)] [.slot 0,.cell 0 0] []
@[reducible] def Yt:ah:=ah.mk [(0,hI)] [(0,.cells [.mp 2] false),(2,.map tG true .bool false)] [.cell 0 0] []
noncomputable def Gb:Cx:=(aF [] [Sf,FZ])
theorem uu:Gb.Ok prog:=ag trivial ⟨⟨vm,rfl⟩,⟨Ga,rfl⟩,trivial⟩
@[reducible] def O4:ah:=ah.mk [(0,.c (.ptr 0 0)),(5,.c (.mp 2)),(14,.c .bG),(15,hI),(16,hI)] [(0,.cells [.mp 1] false),(2,.map tG true .bool false),(1,.map tG true .bool false)] [.slot 5] []
@[reducible] def O5:aR:=[(.exit 0,ah.mk [(0,.c (.ptr 0 0)),(5,.c (.mp 2))] [(0,.cells [.mp 1] false),(2,.map tG true .bool false),(1,.map tG true .bool false)] [.slot 5] [])]
noncomputable def O6:D prog 30 none 2:=dO [] (pick (kd prog f56) [(0,false)]) 0
noncomputable def gH56_v5_0:Int×Int×(List ((GG)×Bool))×(List ((GG)×Bool))×Unit→aY ((Int×Int×(List ((GG)×Bool))×(List ((GG)×Bool))×Unit) ⊕ (((List ((GG)×Bool))×(List ((GG)×Bool))×Unit))):=fun (NU,o9,m2,m1,_) =>
 .br (decide (o9<NU)) (
 .no) (
 .ret (.inr (m2,m1,())))
noncomputable def O7:bL prog 30 none 2:=bp mixed Gb uu [0,1] rfl O4 O5 rfl (O6) (fun x=>ai (gH56_v5_0 x)) (fun x=>by kernel_rfl)
noncomputable def Gc:D prog 30 none 2:=dO [.l O7] (kd prog f56) 0
noncomputable def FH56_v5 (m1:List ((GG)×Bool)):aY (Int×(List ((GG)×Bool))×Unit) :=
 .bd (FH89 m1) fun y0 =>
 .bd (FH192_v1) fun y1 =>
 .bd (.it gH56_v5_0 ((0:Int),(0:Int),y0.1,y0.2.1,())) fun z2 =>
 .br (decide ((60:Int)<(((z2.1).length:Nat):Int))) (
 .ret ((15:Int),z2.2.1,())) (
 .ret ((0:Int),z2.1,()))
theorem JE:bK prog f56=some ⟨30,2,Gc.er,[.t 4],[some tI]⟩:=by kernel_rfl
noncomputable def Mm:Ht:=⟨56,Ys,Yt,(fun x=>ai (FH56_v5 x.1))⟩
theorem JF:Mm.Ok prog:=aM mixed uu rfl func56 JE (enters_of func56 rfl rfl) Gc (by kernel_rfl) rfl rfl ⟨_,rfl⟩ rfl (pre:=[0,1]) rfl (fun x=>by kernel_rfl)

/- 48, lent -/
@[reducible] def Yu:ah:=ah.mk [(0,.c (.ptr 0 0)),(1,.c .b7)] [(0,.cells [.mp 1] false),(1,.map tG true .bool false)] [.slot 0,.cell 0 0] []
@[reducible] def Yv:ah:=ah.mk [(0,hI)] [(0,.cells [.mp 2] false),(2,.map tG true .bool false)] [.cell 0 0] []
noncomputable def TY:Cx:=(aF [] [ql,fI,Mm])
theorem Ge:TY.Ok prog:=ag trivial ⟨⟨fH,rfl⟩,⟨dS,rfl⟩,⟨JF,rfl⟩,trivial⟩
noncomputable def Gf:D prog 15 none 2:=dO [] (kd prog f48) 0
noncomputable def FH48_v3 (m1:List ((GG)×Bool)):aY (Int×(List ((GG)×Bool))×Unit) :=
 .bd (FH54 m1) fun y0 =>
 .br y0.1 (
 .ret ((9:Int),y0.2.1,())) (
 .bd (FH54_v1) fun y1 =>
 .br y1.1 (
 .ret ((9:Int),y0.2.1,())) (
 .bd (FH56_v5 y0.2.1) fun y2 =>
 .ret (y2.1,y2.2.1,())))
theorem JG:bK prog f48=some ⟨15,2,Gf.er,[.t 4],[some tI]⟩:=by kernel_rfl
noncomputable def Mn:Ht:=⟨48,Yu,Yv,(fun x=>ai (FH48_v3 x.1))⟩
theorem JH:Mn.Ok prog:=aM mixed Ge rfl func48 JG (enters_of func48 rfl rfl) Gf (by kernel_rfl) rfl rfl ⟨_,rfl⟩ rfl (pre:=[0,1]) rfl (fun x=>by kernel_rfl)

end Go.Proofs.Tryz

