/- Functions of the program as functions of data, part 1; printed by a program of mine. -/
import Derived.Test.YthemjfloiapaaaaGreatP8
import Derived.Test.YthemjfloiapaaaaGreatProg
set_option linter.unusedSectionVars false
set_option linter.unusedVariables false
set_option linter.unusedSimpArgs false
open Go.AM
namespace Go.Proofs.Tryz
set_option maxRecDepth 100000
set_option synthInstance.maxSize 4000
set_option synthInstance.maxHeartbeats 400000
set_option synthInstance.maxSize 4000
set_option synthInstance.maxHeartbeats 400000
theorem mixed : prog.follows .mixedOrders = true := by kernel_rfl
@[reducible] def tG : Ty := .prod .str (.prod tI (.prod .str (.prod .str tI)))
abbrev GG := ByteArray × Int × ByteArray × ByteArray × Int
abbrev Tbk := List (GG × Bool)
abbrev bn := List (ByteArray × Bool)
abbrev cS := List (ByteArray × List ByteArray)
abbrev cQ := List (ByteArray × GG)
abbrev Tlg := List GG
@[reducible] def oo (n : Nat) (i : I) : eX := .op (some n) none i
@[reducible] def om (n k : Nat) : eX := .op (some n) none (.mv (.t k))
@[reducible] def ol (n k : Nat) : eX := .op (some n) none (.load false 1 (.t k))
@[reducible] def og (n k : Nat) (b : Bool) (i : I) : eX := .op (some n) (some (k, b)) i
@[reducible] def ki (n : Nat) : O := .c (.int .i64 (Int.ofNat n))
@[reducible] def hzI : SP := .c (.hole (.int .i64))
@[reducible] def hzL : SP := .c (.hole (.list (.int .i64)))
@[reducible] def hzM : SP := .c (.hole (.list (.list (.int .i64))))

/- 130 -/
noncomputable def ado:Cx:=(aN [] [])
theorem O2:ado.Ok prog:=av trivial trivial
noncomputable def Wx:D prog 6 none 0:=dO [] (kd prog f130) 0
noncomputable def F130 (a0:ByteArray):bU (Bool×Unit) :=
 .ret ((!(seq a0 a0)),())
theorem Ta:cM prog f130=some ⟨6,1,Wx.er,[.t 2],[some .bool]⟩:=by kernel_rfl
noncomputable def Wy:Ct:=⟨130,[.c (.hole .str)],.c (.hole .bool),fun x=>ak (F130 x.1)⟩
theorem O3:Wy.Ok prog:=cF mixed O2 func130 Ta (enters_of func130 rfl rfl) Wx (by kernel_rfl) rfl (fun x=>by kernel_rfl)

/- 113 -/
noncomputable def adp:Cx:=(aN [Wy] [])
theorem O4:adp.Ok prog:=av ⟨O3,trivial⟩ trivial
noncomputable def Wz:D prog 20 none 0:=dO [] (kd prog f113) 0
noncomputable def F113 (a0:ByteArray) (a1:ByteArray):bU (Int×Unit) :=
 .bd (F130 a0) fun y0 =>
 .bd (F130 a1) fun y1 =>
 .br y0.1 (
 .br y1.1 (
 .ret ((0:Int),())) (
 .ret ((-1:Int),()))) (
 .br y1.1 (
 .ret ((1:Int),())) (
 .br (slt a0 a1) (
 .ret ((-1:Int),())) (
 .br (!(Gn (slt a0 a1) true (seq a0 a1))) (
 .ret ((1:Int),())) (
 .ret ((0:Int),())))))
theorem Tb:cM prog f113=some ⟨20,2,Wz.er,[.t 4],[some tI]⟩:=by kernel_rfl
noncomputable def WA:Ct:=⟨113,[.c (.hole .str),.c (.hole .str)],hI,fun x=>ak (F113 x.1 x.2.1)⟩
theorem O5:WA.Ok prog:=cF mixed O4 func113 Tb (enters_of func113 rfl rfl) Wz (by kernel_rfl) rfl (fun x=>by kernel_rfl)

/- 131 -/
noncomputable def adq:Cx:=(aN [] [])
theorem O6:adq.Ok prog:=av trivial trivial
noncomputable def WB:D prog 6 none 0:=dO [] (kd prog f131) 0
noncomputable def F131 (a0:Int):bU (Bool×Unit) :=
 .ret ((!(a0==a0)),())
theorem Tc:cM prog f131=some ⟨6,1,WB.er,[.t 2],[some .bool]⟩:=by kernel_rfl
noncomputable def WC:Ct:=⟨131,[hI],.c (.hole .bool),fun x=>ak (F131 x.1)⟩
theorem O7:WC.Ok prog:=cF mixed O6 func131 Tc (enters_of func131 rfl rfl) WB (by kernel_rfl) rfl (fun x=>by kernel_rfl)

/- 114 -/
noncomputable def adr:Cx:=(aN [WC] [])
theorem O8:adr.Ok prog:=av ⟨O7,trivial⟩ trivial
noncomputable def WD:D prog 20 none 0:=dO [] (kd prog f114) 0
noncomputable def F114 (a0:Int) (a1:Int):bU (Int×Unit) :=
 .bd (F131 a0) fun y0 =>
 .bd (F131 a1) fun y1 =>
 .br y0.1 (
 .br y1.1 (
 .ret ((0:Int),())) (
 .ret ((-1:Int),()))) (
 .br y1.1 (
 .ret ((1:Int),())) (
 .br (decide (a0<a1)) (
 .ret ((-1:Int),())) (
 .br (decide (a1<a0)) (
 .ret ((1:Int),())) (
 .ret ((0:Int),())))))
theorem Td:cM prog f114=some ⟨20,2,WD.er,[.t 4],[some tI]⟩:=by kernel_rfl
noncomputable def WE:Ct:=⟨114,[hI,hI],hI,fun x=>ak (F114 x.1 x.2.1)⟩
theorem O9:WE.Ok prog:=cF mixed O8 func114 Td (enters_of func114 rfl rfl) WD (by kernel_rfl) rfl (fun x=>by kernel_rfl)

/- 112 -/
noncomputable def WG:Cx:=(aN [] [])
theorem EU:WG.Ok prog:=av trivial trivial
@[reducible] def Zd:az:=az.mk [(3,hI),(6,hL),(7,hI),(8,hI)] [] [] []
@[reducible] def Ze:bf:=[(.ret,az.mk [(2,hI)] [] [] []),(.exit 0,az.mk [(3,hI)] [] [] [])]
noncomputable def Zf:D prog 18 none 0:=dO [] (pick (kd prog f112) [(0,false)]) 0
noncomputable def g112_0:Int×List Int×Int×Int×Unit→bU ((Int×List Int×Int×Int×Unit) ⊕ ((Int×Unit) ⊕ ((Int×Unit)))):=fun (v3,v6,v7,v8,_) =>
 .br (decide (v8<v7)) (
 .nb v8 (((v6).length:Nat):Int) <|
 .br (!(((v6).getD (Int.toNat v8) (0:Int))==v3)) (
 .ret (.inr <| .inl<|(((v6).getD (Int.toNat v8) (0:Int)),()))) (
 .ni (v8+(1:Int)) <|
 .ret (.inl (v3,v6,v7,(v8+(1:Int)),())))) (
 .ret (.inr <| .inr<|(v3,())))
noncomputable def Zg:bQ prog 18 none 0:=bx mixed WG EU [] rfl Zd Ze rfl (Zf) (fun x=>ak (g112_0 x)) (fun x=>by kernel_rfl)
noncomputable def WH:D prog 18 none 0:=dO [.l Zg] (kd prog f112) 0
noncomputable def F112 (a0:List Int):bU (Int×Unit) :=
 .bd (.it g112_0 ((0:Int),a0,(((a0).length:Nat):Int),(0:Int),())) fun z0 =>
 .sm z0 (fun z1 =>
 .ret (z1.1,())) fun z2 =>
 .ret (z2.1,())
theorem Te:cM prog f112=some ⟨18,1,WH.er,[.t 2],[some tI]⟩:=by kernel_rfl
noncomputable def WI:Ct:=⟨112,[hL],hI,fun x=>ak (F112 x.1)⟩
theorem Pa:WI.Ok prog:=cF mixed EU func112 Te (enters_of func112 rfl rfl) WH (by kernel_rfl) rfl (fun x=>by kernel_rfl)

/- 85 -/
noncomputable def cx85:Cx:=(aN [WA,WE,WI] [])
theorem Tf:cx85.Ok prog:=av ⟨O5,O9,Pa,trivial⟩ trivial
noncomputable def dd85:D prog 35 none 0:=dO [] (kd prog f85) 0
noncomputable def F85 (a0:GG) (a1:GG):bU (Int×Unit) :=
 .br ((seq a0.1 a1.1)&&((a0.2.1==a1.2.1)&&((seq a0.2.2.1 a1.2.2.1)&&((seq a0.2.2.2.1 a1.2.2.2.1)&&((a0.2.2.2.2==a1.2.2.2.2)&&true))))) (
 .ret ((0:Int),())) (
 .bd (F113 a0.1 a1.1) fun y0 =>
 .bd (F114 a0.2.1 a1.2.1) fun y1 =>
 .bd (F113 a0.2.2.1 a1.2.2.1) fun y2 =>
 .bd (F113 a0.2.2.2.1 a1.2.2.2.1) fun y3 =>
 .bd (F114 a0.2.2.2.2 a1.2.2.2.2) fun y4 =>
 .bd (F112 ((((y0.1::(y1.1::(y2.1::(y3.1::(y4.1::[])))))).drop (0:Nat)).take (5:Nat))) fun y5 =>
 .ret (y5.1,()))
theorem Zh:cM prog f85=some ⟨35,2,dd85.er,[.t 4],[some tI]⟩:=by kernel_rfl
noncomputable def ct85:Ct:=⟨85,[.c (.hole tG),.c (.hole tG)],hI,fun x=>ak (F85 x.1 x.2.1)⟩
theorem Tg:ct85.Ok prog:=cF mixed Tf func85 Zh (enters_of func85 rfl rfl) dd85 (by kernel_rfl) rfl (fun x=>by kernel_rfl)

/- 50 -/
noncomputable def cx50:Cx:=(aN [] [])
theorem Th:cx50.Ok prog:=av trivial trivial
noncomputable def dd50:D prog 11 none 0:=dO [] (kd prog f50) 0
noncomputable def F50 (a0:ByteArray) (a1:ByteArray) (a2:Int):bU ((GG)×Unit) :=
 .ret ((a0,(1:Int),(bs []),a1,a2),())
theorem Zi:cM prog f50=some ⟨11,3,dd50.er,[.cell 6 true 5],[some tG]⟩:=by kernel_rfl
noncomputable def ct50:Ct:=⟨50,[.c (.hole .str),.c (.hole .str),hI],.c (.hole tG),fun x=>ak (F50 x.1 x.2.1 x.2.2.1)⟩
theorem Ti:ct50.Ok prog:=cF mixed Th func50 Zi (enters_of func50 rfl rfl) dd50 (by kernel_rfl) rfl (fun x=>by kernel_rfl)

/- 42 -/
noncomputable def cx42:Cx:=(aN [] [])
theorem Tj:cx42.Ok prog:=av trivial trivial
noncomputable def dd42:D prog 14 none 0:=dO [] (kd prog f42) 0
noncomputable def F42 (a0:ByteArray) (a1:ByteArray) (a2:ByteArray) (a3:Int):bU ((GG)×Unit) :=
 .ret ((a0,(2:Int),a1,a2,a3),())
theorem Zj:cM prog f42=some ⟨14,4,dd42.er,[.cell 8 true 5],[some tG]⟩:=by kernel_rfl
noncomputable def ct42:Ct:=⟨42,[.c (.hole .str),.c (.hole .str),.c (.hole .str),hI],.c (.hole tG),fun x=>ak (F42 x.1 x.2.1 x.2.2.1 x.2.2.2.1)⟩
theorem Tl:ct42.Ok prog:=cF mixed Tj func42 Zj (enters_of func42 rfl rfl) dd42 (by kernel_rfl) rfl (fun x=>by kernel_rfl)

/- 39 -/
noncomputable def cx39:Cx:=(aN [] [])
theorem Tm:cx39.Ok prog:=av trivial trivial
noncomputable def dd39:D prog 8 none 0:=dO [] (kd prog f39) 0
noncomputable def F39 (a0:ByteArray) (a1:ByteArray):bU ((GG)×Unit) :=
 .ret ((a0,(3:Int),a1,(bs []),(0:Int)),())
theorem Zk:cM prog f39=some ⟨8,2,dd39.er,[.cell 4 true 5],[some tG]⟩:=by kernel_rfl
noncomputable def Zl:Ct:=⟨39,[.c (.hole .str),.c (.hole .str)],.c (.hole tG),fun x=>ak (F39 x.1 x.2.1)⟩
theorem Jp:Zl.Ok prog:=cF mixed Tm func39 Zk (enters_of func39 rfl rfl) dd39 (by kernel_rfl) rfl (fun x=>by kernel_rfl)

/- 46 -/
noncomputable def cx46:Cx:=(aN [ct50,ct42,Zl] [])
theorem Tn:cx46.Ok prog:=av ⟨Ti,Tl,Jp,trivial⟩ trivial
noncomputable def dd46:D prog 10 none 0:=dO [] (kd prog f46) 0
noncomputable def F46:bU ((List (GG))×Unit) :=
 .bd (F50 (bs [116,49]) (bs [97,110,97]) (40:Int)) fun y0 =>
 .bd (F50 (bs [116,50]) (bs [98,101,110]) (25:Int)) fun y1 =>
 .bd (F42 (bs [99,49]) (bs [116,49]) (bs [97,110,97]) (42:Int)) fun y2 =>
 .bd (F42 (bs [99,50]) (bs [116,49]) (bs [99,121]) (40:Int)) fun y3 =>
 .bd (F42 (bs [99,51]) (bs [99,49]) (bs [97,110,97]) (41:Int)) fun y4 =>
 .bd (F42 (bs [119,49]) (bs [120,57]) (bs [98,101,110]) (5:Int)) fun y5 =>
 .bd (F39 (bs [114,49]) (bs [99,49])) fun y6 =>
 .bd (F39 (bs [114,50]) (bs [99,50])) fun y7 =>
 .ret ((((((y0.1.1,y0.1.2.1,y0.1.2.2.1,y0.1.2.2.2.1,y0.1.2.2.2.2)::((y1.1.1,y1.1.2.1,y1.1.2.2.1,y1.1.2.2.2.1,y1.1.2.2.2.2)::((y2.1.1,y2.1.2.1,y2.1.2.2.1,y2.1.2.2.2.1,y2.1.2.2.2.2)::((y3.1.1,y3.1.2.1,y3.1.2.2.1,y3.1.2.2.2.1,y3.1.2.2.2.2)::((y4.1.1,y4.1.2.1,y4.1.2.2.1,y4.1.2.2.2.1,y4.1.2.2.2.2)::((y5.1.1,y5.1.2.1,y5.1.2.2.1,y5.1.2.2.2.1,y5.1.2.2.2.2)::((y6.1.1,y6.1.2.1,y6.1.2.2.1,y6.1.2.2.2.1,y6.1.2.2.2.2)::((y7.1.1,y7.1.2.1,y7.1.2.2.1,y7.1.2.2.2.1,y7.1.2.2.2.2)::[]))))))))).drop (0:Nat)).take (8:Nat)),())
theorem Zm:cM prog f46=some ⟨10,0,dd46.er,[.t 0],[some (.list tG)]⟩:=by kernel_rfl
noncomputable def ct46:Ct:=⟨46,[],.c (.hole (.list tG)),fun x=>ak (F46)⟩
theorem To:ct46.Ok prog:=cF mixed Tn func46 Zm (enters_of func46 rfl rfl) dd46 (by kernel_rfl) rfl (fun x=>by kernel_rfl)

/- 18, lent -/
@[reducible] def pH18:az:=az.mk [] [] [] []
@[reducible] def qH18:az:=az.mk [(0,.c (.ptr 0 0))] [(0,.cells [.mp 1] false),(1,.map tG true .bool false)] [.slot 0,.cell 0 0] []
noncomputable def adA:Cx:=(aN [] [])
theorem Pb:adA.Ok prog:=av trivial trivial
noncomputable def WJ:D prog 4 none 0:=dO [] (kd prog f18) 0
noncomputable def FH18:bU ((List ((GG)×Bool))×Unit) :=
 .ret ([],())
theorem Tp:cM prog f18=some ⟨4,0,WJ.er,[.t 0],[none]⟩:=by kernel_rfl
noncomputable def Zn:Ht:=⟨18,pH18,qH18,(fun x=>ak (FH18))⟩
theorem Jq:Zn.Ok prog:=bW mixed Pb rfl func18 Tp (enters_of func18 rfl rfl) WJ (by kernel_rfl) rfl rfl ⟨_,rfl⟩ rfl (pre:=[]) rfl (fun x=>by kernel_rfl)

/- 54, lent -/
@[reducible] def pH54:az:=az.mk [(0,.c (.ptr 0 0))] [(0,.cells [.mp 1] false),(1,.map tG true .bool false)] [.slot 0,.cell 0 0] []
@[reducible] def qH54:az:=az.mk [(0,.c (.hole .bool))] [(0,.cells [.mp 1] false),(1,.map tG true .bool false)] [] []
noncomputable def adB:Cx:=(aN [] [])
theorem Pc:adB.Ok prog:=av trivial trivial
noncomputable def WK:D prog 12 none 2:=dO [] (kd prog f54) 0
noncomputable def FH54 (m1:List ((GG)×Bool)):bU (Bool×(List ((GG)×Bool))×Unit) :=
 .ret (false,m1,())
theorem Tq:cM prog f54=some ⟨12,1,WK.er,[.t 2],[some .bool]⟩:=by kernel_rfl
noncomputable def Ag:Ht:=⟨54,pH54,qH54,(fun x=>ak (FH54 x.1))⟩
theorem nS:Ag.Ok prog:=bW mixed Pc rfl func54 Tq (enters_of func54 rfl rfl) WK (by kernel_rfl) rfl rfl ⟨_,rfl⟩ rfl (pre:=[0,1]) rfl (fun x=>by kernel_rfl)

/- 65 -/
noncomputable def cx65:Cx:=(aN [] [])
theorem Jr:cx65.Ok prog:=av trivial trivial
@[reducible] def adD:az:=az.mk [(0,.c (.hole .str)),(6,.c (.hole (.list (.int .u8)))),(7,hI),(8,hI)] [] [] []
@[reducible] def adE:bf:=[(.ret,az.mk [(2,.c (.tf false))] [] [] []),(.exit 0,az.mk [(0,.c (.hole .str))] [] [] [])]
noncomputable def adF:D prog 40 none 0:=dO [] (pick (kd prog f65) [(0,false)]) 0
noncomputable def g65_0:ByteArray×List Int×Int×Int×Unit→bU ((ByteArray×List Int×Int×Int×Unit) ⊕ ((Unit) ⊕ ((ByteArray×Unit)))):=fun (v0,v6,v7,v8,_) =>
 .br (decide (v8<v7)) (
 .nb v8 (((v6).length:Nat):Int) <|
 .br (decide (((v6).getD (Int.toNat v8) (0:Int))<(97:Int))) (
 .br (v8==(0:Int)) (
 .ret (.inr <| .inl<|())) (
 .br (decide (((v6).getD (Int.toNat v8) (0:Int))<(48:Int))) (
 .ret (.inr <| .inl<|())) (
 .br (decide ((57:Int)<((v6).getD (Int.toNat v8) (0:Int)))) (
 .ret (.inr <| .inl<|())) (
 .ni (v8+(1:Int)) <|
 .ret (.inl (v0,v6,v7,(v8+(1:Int)),())))))) (
 .br (decide ((122:Int)<((v6).getD (Int.toNat v8) (0:Int)))) (
 .br (v8==(0:Int)) (
 .ret (.inr <| .inl<|())) (
 .br (decide (((v6).getD (Int.toNat v8) (0:Int))<(48:Int))) (
 .ret (.inr <| .inl<|())) (
 .br (decide ((57:Int)<((v6).getD (Int.toNat v8) (0:Int)))) (
 .ret (.inr <| .inl<|())) (
 .ni (v8+(1:Int)) <|
 .ret (.inl (v0,v6,v7,(v8+(1:Int)),())))))) (
 .ni (v8+(1:Int)) <|
 .ret (.inl (v0,v6,v7,(v8+(1:Int)),()))))) (
 .ret (.inr <| .inr<|(v0,())))
noncomputable def adG:bQ prog 40 none 0:=bx mixed cx65 Jr [] rfl adD adE rfl (adF) (fun x=>ak (g65_0 x)) (fun x=>by kernel_rfl)
noncomputable def dd65:D prog 40 none 0:=dO [.l adG] (kd prog f65) 0
noncomputable def F65 (a0:ByteArray):bU (Bool×Unit) :=
 .bd (.it g65_0 (a0,(fB a0),((((fB a0)).length:Nat):Int),(0:Int),())) fun z0 =>
 .sm z0 (fun z1 =>
 .ret (false,())) fun z2 =>
 .br (decide ((0:Int)<((z2.1.size:Nat):Int))) (
 .ret ((decide (((z2.1.size:Nat):Int)≤(10:Int))),())) (
 .ret (false,()))
theorem Zo:cM prog f65=some ⟨40,1,dd65.er,[.t 2],[some .bool]⟩:=by kernel_rfl
noncomputable def Pd:Ct:=⟨65,[.c (.hole .str)],.c (.hole .bool),fun x=>ak (F65 x.1)⟩
theorem wm:Pd.Ok prog:=cF mixed Jr func65 Zo (enters_of func65 rfl rfl) dd65 (by kernel_rfl) rfl (fun x=>by kernel_rfl)

/- 87 -/
noncomputable def cx87:Cx:=(aN [Pd] [])
theorem Ts:cx87.Ok prog:=av ⟨wm,trivial⟩ trivial
noncomputable def dd87:D prog 27 none 0:=dO [] (kd prog f87) 0
noncomputable def F87 (a0:GG):bU (Int×Unit) :=
 .br (a0.2.1==(1:Int)) (
 .br (!(seq a0.2.2.1 (bs []))) (
 .ret ((22:Int),())) (
 .br (a0.2.1==(1:Int)) (
 .ret ((0:Int),())) (
 .bd (F65 a0.2.2.1) fun y0 =>
 .br (!y0.1) (
 .ret ((8:Int),())) (
 .br (seq a0.2.2.1 a0.1) (
 .ret ((22:Int),())) (
 .ret ((0:Int),())))))) (
 .br (a0.2.1==(1:Int)) (
 .ret ((0:Int),())) (
 .bd (F65 a0.2.2.1) fun y1 =>
 .br (!y1.1) (
 .ret ((8:Int),())) (
 .br (seq a0.2.2.1 a0.1) (
 .ret ((22:Int),())) (
 .ret ((0:Int),())))))
theorem Zp:cM prog f87=some ⟨27,1,dd87.er,[.t 2],[some tI]⟩:=by kernel_rfl
noncomputable def ct87:Ct:=⟨87,[.c (.hole tG)],hI,fun x=>ak (F87 x.1)⟩
theorem Tt:ct87.Ok prog:=cF mixed Ts func87 Zp (enters_of func87 rfl rfl) dd87 (by kernel_rfl) rfl (fun x=>by kernel_rfl)

/- 88 -/
noncomputable def cx88:Cx:=(aN [Pd] [])
theorem Tu:cx88.Ok prog:=av ⟨wm,trivial⟩ trivial
noncomputable def dd88:D prog 35 none 0:=dO [] (kd prog f88) 0
noncomputable def F88 (a0:GG):bU (Int×Unit) :=
 .br (a0.2.1==(3:Int)) (
 .br (!(seq a0.2.2.2.1 (bs []))) (
 .ret ((22:Int),())) (
 .br (!(a0.2.2.2.2==(0:Int))) (
 .ret ((22:Int),())) (
 .br (a0.2.1==(3:Int)) (
 .ret ((0:Int),())) (
 .bd (F65 a0.2.2.2.1) fun y0 =>
 .br (!y0.1) (
 .ret ((8:Int),())) (
 .br (decide (a0.2.2.2.2<(-1000:Int))) (
 .ret ((2:Int),())) (
 .br (decide ((1000:Int)<a0.2.2.2.2)) (
 .ret ((2:Int),())) (
 .ret ((0:Int),())))))))) (
 .br (a0.2.1==(3:Int)) (
 .ret ((0:Int),())) (
 .bd (F65 a0.2.2.2.1) fun y1 =>
 .br (!y1.1) (
 .ret ((8:Int),())) (
 .br (decide (a0.2.2.2.2<(-1000:Int))) (
 .ret ((2:Int),())) (
 .br (decide ((1000:Int)<a0.2.2.2.2)) (
 .ret ((2:Int),())) (
 .ret ((0:Int),()))))))
theorem Zq:cM prog f88=some ⟨35,1,dd88.er,[.t 2],[some tI]⟩:=by kernel_rfl
noncomputable def ct88:Ct:=⟨88,[.c (.hole tG)],hI,fun x=>ak (F88 x.1)⟩
theorem Tv:ct88.Ok prog:=cF mixed Tu func88 Zq (enters_of func88 rfl rfl) dd88 (by kernel_rfl) rfl (fun x=>by kernel_rfl)

/- 86 -/
noncomputable def cx86:Cx:=(aN [] [])
theorem Js:cx86.Ok prog:=av trivial trivial
@[reducible] def adN:az:=az.mk [(3,hI),(6,hL),(7,hI),(8,hI)] [] [] []
@[reducible] def adO:bf:=[(.ret,az.mk [(2,hI)] [] [] []),(.exit 0,az.mk [(3,hI)] [] [] [])]
noncomputable def adP:D prog 18 none 0:=dO [] (pick (kd prog f86) [(0,false)]) 0
noncomputable def g86_0:Int×List Int×Int×Int×Unit→bU ((Int×List Int×Int×Int×Unit) ⊕ ((Int×Unit) ⊕ ((Int×Unit)))):=fun (v3,v6,v7,v8,_) =>
 .br (decide (v8<v7)) (
 .nb v8 (((v6).length:Nat):Int) <|
 .br (!(((v6).getD (Int.toNat v8) (0:Int))==v3)) (
 .ret (.inr <| .inl<|(((v6).getD (Int.toNat v8) (0:Int)),()))) (
 .ni (v8+(1:Int)) <|
 .ret (.inl (v3,v6,v7,(v8+(1:Int)),())))) (
 .ret (.inr <| .inr<|(v3,())))
noncomputable def adQ:bQ prog 18 none 0:=bx mixed cx86 Js [] rfl adN adO rfl (adP) (fun x=>ak (g86_0 x)) (fun x=>by kernel_rfl)
noncomputable def dd86:D prog 18 none 0:=dO [.l adQ] (kd prog f86) 0
noncomputable def F86 (a0:List Int):bU (Int×Unit) :=
 .bd (.it g86_0 ((0:Int),a0,(((a0).length:Nat):Int),(0:Int),())) fun z0 =>
 .sm z0 (fun z1 =>
 .ret (z1.1,())) fun z2 =>
 .ret (z2.1,())
theorem Zr:cM prog f86=some ⟨18,1,dd86.er,[.t 2],[some tI]⟩:=by kernel_rfl
noncomputable def ct86:Ct:=⟨86,[hL],hI,fun x=>ak (F86 x.1)⟩
theorem Tw:ct86.Ok prog:=cF mixed Js func86 Zr (enters_of func86 rfl rfl) dd86 (by kernel_rfl) rfl (fun x=>by kernel_rfl)

/- 55 -/
noncomputable def cx55:Cx:=(aN [Pd,ct87,ct88,ct86] [])
theorem Tx:cx55.Ok prog:=av ⟨wm,Tt,Tv,Tw,trivial⟩ trivial
noncomputable def dd55:D prog 23 none 0:=dO [] (kd prog f55) 0
noncomputable def F55 (a0:GG):bU (Int×Unit) :=
 .br (decide (a0.2.1<(1:Int))) (
 .ret ((18:Int),())) (
 .br (decide ((3:Int)<a0.2.1)) (
 .ret ((18:Int),())) (
 .bd (F65 a0.1) fun y0 =>
 .br (!y0.1) (
 .ret ((8:Int),())) (
 .bd (F87 (a0.1,a0.2.1,a0.2.2.1,a0.2.2.2.1,a0.2.2.2.2)) fun y1 =>
 .bd (F88 (a0.1,a0.2.1,a0.2.2.1,a0.2.2.2.1,a0.2.2.2.2)) fun y2 =>
 .bd (F86 ((((y1.1::(y2.1::[]))).drop (0:Nat)).take (2:Nat))) fun y3 =>
 .ret (y3.1,()))))
theorem Zt:cM prog f55=some ⟨23,1,dd55.er,[.t 2],[some tI]⟩:=by kernel_rfl
noncomputable def ct55:Ct:=⟨55,[.c (.hole tG)],hI,fun x=>ak (F55 x.1)⟩
theorem Tz:ct55.Ok prog:=cF mixed Tx func55 Zt (enters_of func55 rfl rfl) dd55 (by kernel_rfl) rfl (fun x=>by kernel_rfl)

/- 89, by hand -/
@[reducible] def pH89:az:=az.mk [(0,.c (.mp 0))] [(0,.map tG true .bool false)] [.slot 0] []
@[reducible] def qH89:az:=az.mk [(0,.c (.mp 1))] [(1,.map tG true .bool false),(0,.map tG true .bool false)] [.slot 0] []
noncomputable def FH89 (m0:List ((GG)×Bool)):bU ((List ((GG)×Bool))×(List ((GG)×Bool))×Unit) :=
 .ret (m0,m0,())
noncomputable def ht89:Ht:=⟨89,pH89,qH89,(fun x=>ak (FH89 x.1))⟩
theorem TA:ht89.Ok prog:=fun x y h=>by
  have h':some (x.1,x.1,())=some y:=h
  cases h'
  exact EK (ρ:=Bi) adn (enters_of func89 rfl rfl)

/- 193, lent -/
@[reducible] def adW:az:=az.mk [(0,.c (.hole tG))] [] [] []
@[reducible] def adX:az:=az.mk [(0,.c (.cn 0 tG))] [(0,.arr tG false)] [.slot 0] []
noncomputable def Zu:Cx:=(aN [] [])
theorem Lw:Zu.Ok prog:=av trivial trivial
noncomputable def Pe:D prog 5 none 0:=dO [] (kd prog f193) 0
noncomputable def FH193 (v0:GG):bU (Nat×(List (GG))×Unit) :=
 .ret ((1:Nat),((v0.1,v0.2.1,v0.2.2.1,v0.2.2.2.1,v0.2.2.2.2)::[]),())
theorem Pf:cM prog f193=some ⟨5,1,Pe.er,[.t 2],[some (.list tG)]⟩:=by kernel_rfl
noncomputable def WL:Ht:=⟨193,adW,adX,(fun x=>ak (FH193 x.1))⟩
theorem Pg:WL.Ok prog:=bW mixed Lw rfl func193 Pf (enters_of func193 rfl rfl) Pe (by kernel_rfl) rfl rfl ⟨_,rfl⟩ rfl (pre:=[]) rfl (fun x=>by kernel_rfl)

/- 56, lent -/
@[reducible] def pH56:az:=az.mk [(0,.c (.ptr 0 0)),(1,.c (.Hg 33 true (.cons (.hole .str) (.cons (.hole tI) (.cons (.hole .str) (.cons (.hole .str) (.cons (.hole tI) .nil)))))))] [(0,.cells [.mp 1] false),(1,.map tG true .bool false)] [.slot 0,.cell 0 0] []
@[reducible] def qH56:az:=az.mk [(0,hI)] [(0,.cells [.mp 2] false),(2,.map tG true .bool false)] [.cell 0 0] []
noncomputable def WM:Cx:=(aN [] [ht89,WL])
theorem EW:WM.Ok prog:=av trivial ⟨⟨TA,rfl⟩,⟨Pg,rfl⟩,trivial⟩
@[reducible] def Zv:az:=az.mk [(0,.c (.ptr 0 0)),(5,.c (.mp 2)),(14,.c (.cn 3 tG)),(15,hI),(16,hI)] [(0,.cells [.mp 1] false),(2,.map tG true .bool false),(3,.arr tG false),(1,.map tG true .bool false)] [.slot 5,.slot 14] []
@[reducible] def Zw:bf:=[(.exit 0,az.mk [(0,.c (.ptr 0 0)),(5,.c (.mp 2))] [(0,.cells [.mp 1] false),(2,.map tG true .bool false),(1,.map tG true .bool false)] [.slot 5] [])]
noncomputable def Zx:D prog 30 none 2:=dO [] (pick (kd prog f56) [(0,false)]) 0
noncomputable def gH56_0:Nat×Int×Int×(List ((GG)×Bool))×(List (GG))×(List ((GG)×Bool))×Unit→bU ((Nat×Int×Int×(List ((GG)×Bool))×(List (GG))×(List ((GG)×Bool))×Unit) ⊕ (((List ((GG)×Bool))×(List ((GG)×Bool))×Unit))):=fun (lP,aK,lQ,m2,b3,m1,_) =>
 .br (decide (lQ<aK)) (
 .nb lQ ((lP:Nat):Int) <|
 .nd (decide (((0:Nat)+(Int.toNat lQ))<(b3).length)) <|
 .ni (lQ+(1:Int)) <|
 .ret (.inl (lP,aK,(lQ+(1:Int)),(bp (.prod .str (.prod (.int .i64) (.prod .str (.prod .str (.int .i64))))) m2 (((b3).getD ((0:Nat)+(Int.toNat lQ)) ((bs []),(0:Int),(bs []),(bs []),(0:Int))).1,((b3).getD ((0:Nat)+(Int.toNat lQ)) ((bs []),(0:Int),(bs []),(bs []),(0:Int))).2.1,((b3).getD ((0:Nat)+(Int.toNat lQ)) ((bs []),(0:Int),(bs []),(bs []),(0:Int))).2.2.1,((b3).getD ((0:Nat)+(Int.toNat lQ)) ((bs []),(0:Int),(bs []),(bs []),(0:Int))).2.2.2.1,((b3).getD ((0:Nat)+(Int.toNat lQ)) ((bs []),(0:Int),(bs []),(bs []),(0:Int))).2.2.2.2) true),b3,m1,()))) (
 .ret (.inr (m2,m1,())))
noncomputable def Zy:bQ prog 30 none 2:=bx mixed WM EW [0,1] rfl Zv Zw rfl (Zx) (fun x=>ak (gH56_0 x)) (fun x=>by kernel_rfl)
noncomputable def WN:D prog 30 none 2:=dO [.l Zy] (kd prog f56) 0
noncomputable def FH56 (v1c0:ByteArray) (v1c1:Int) (v1c2:ByteArray) (v1c3:ByteArray) (v1c4:Int) (m1:List ((GG)×Bool)):bU (Int×(List ((GG)×Bool))×Unit) :=
 .bd (FH89 m1) fun y0 =>
 .bd (FH193 (v1c0,v1c1,v1c2,v1c3,v1c4)) fun y1 =>
 .bd (.it gH56_0 (y1.1,((y1.1:Nat):Int),(0:Int),y0.1,y1.2.1,y0.2.1,())) fun z2 =>
 .br (decide ((60:Int)<(((z2.1).length:Nat):Int))) (
 .ret ((15:Int),z2.2.1,())) (
 .ret ((0:Int),z2.1,()))
theorem TB:cM prog f56=some ⟨30,2,WN.er,[.t 4],[some tI]⟩:=by kernel_rfl
noncomputable def ht56:Ht:=⟨56,pH56,qH56,(fun x=>ak (FH56 x.1 x.2.1 x.2.2.1 x.2.2.2.1 x.2.2.2.2.1 x.2.2.2.2.2.1))⟩
theorem TC:ht56.Ok prog:=bW mixed EW rfl func56 TB (enters_of func56 rfl rfl) WN (by kernel_rfl) rfl rfl ⟨_,rfl⟩ rfl (pre:=[0,1]) rfl (fun x=>by kernel_rfl)

/- 20, lent -/
@[reducible] def pH20:az:=az.mk [(0,.c (.ptr 0 0)),(1,.c (.hole tG))] [(0,.cells [.mp 1] false),(1,.map tG true .bool false)] [.slot 0,.cell 0 0] []
@[reducible] def qH20:az:=az.mk [(0,hI)] [(0,.cells [.mp 2] false),(2,.map tG true .bool false)] [.cell 0 0] []
noncomputable def adZ:Cx:=(aN [ct55] [Ag,ht56])
theorem Ph:adZ.Ok prog:=av ⟨Tz,trivial⟩ ⟨⟨nS,rfl⟩,⟨TC,rfl⟩,trivial⟩
noncomputable def WO:D prog 17 none 2:=dO [] (kd prog f20) 0
noncomputable def FH20 (v1:GG) (m1:List ((GG)×Bool)):bU (Int×(List ((GG)×Bool))×Unit) :=
 .bd (FH54 m1) fun y0 =>
 .br y0.1 (
 .ret ((9:Int),y0.2.1,())) (
 .bd (F55 (v1.1,v1.2.1,v1.2.2.1,v1.2.2.2.1,v1.2.2.2.2)) fun y1 =>
 .br (!(y1.1==(0:Int))) (
 .ret (y1.1,y0.2.1,())) (
 .bd (FH56 v1.1 v1.2.1 v1.2.2.1 v1.2.2.2.1 v1.2.2.2.2 y0.2.1) fun y2 =>
 .ret (y2.1,y2.2.1,())))
theorem TD:cM prog f20=some ⟨17,2,WO.er,[.t 4],[some tI]⟩:=by kernel_rfl
noncomputable def TE:Ht:=⟨20,pH20,qH20,(fun x=>ak (FH20 x.1 x.2.1))⟩
theorem CH:TE.Ok prog:=bW mixed Ph rfl func20 TD (enters_of func20 rfl rfl) WO (by kernel_rfl) rfl rfl ⟨_,rfl⟩ rfl (pre:=[0,1]) rfl (fun x=>by kernel_rfl)

/- 29, lent -/
@[reducible] def pH29:az:=az.mk [(0,.c (.hole (.list tG)))] [] [] []
@[reducible] def qH29:az:=az.mk [(0,.c (.ptr 0 0))] [(0,.cells [.mp 1] false),(1,.map tG true .bool false)] [.slot 0,.cell 0 0] []
noncomputable def WQ:Cx:=(aN [] [Zn,TE])
theorem EX:WQ.Ok prog:=av trivial ⟨⟨Jq,rfl⟩,⟨CH,rfl⟩,trivial⟩
@[reducible] def Zz:az:=az.mk [(0,.c (.hole (.list tG))),(3,.c (.ptr 0 0)),(4,hI)] [(0,.cells [.mp 1] false),(1,.map tG true .bool false)] [.slot 3,.cell 0 0] []
@[reducible] def ZA:bf:=[(.exit 0,az.mk [(3,.c (.ptr 0 0))] [(0,.cells [.mp 1] false),(1,.map tG true .bool false)] [.slot 3,.cell 0 0] [])]
noncomputable def ZB:D prog 19 none 0:=dO [] (pick (kd prog f29) [(0,false)]) 0
noncomputable def gH29_0:(List (GG))×Int×(List ((GG)×Bool))×Unit→bU (((List (GG))×Int×(List ((GG)×Bool))×Unit) ⊕ (((List ((GG)×Bool))×Unit))):=fun (v0,v4,m1,_) =>
 .br (decide (v4<(((v0).length:Nat):Int))) (
 .nb v4 (((v0).length:Nat):Int) <|
 .bd (FH20 (((v0).getD (Int.toNat v4) ((bs []),(0:Int),(bs []),(bs []),(0:Int))).1,((v0).getD (Int.toNat v4) ((bs []),(0:Int),(bs []),(bs []),(0:Int))).2.1,((v0).getD (Int.toNat v4) ((bs []),(0:Int),(bs []),(bs []),(0:Int))).2.2.1,((v0).getD (Int.toNat v4) ((bs []),(0:Int),(bs []),(bs []),(0:Int))).2.2.2.1,((v0).getD (Int.toNat v4) ((bs []),(0:Int),(bs []),(bs []),(0:Int))).2.2.2.2) m1) fun y1 =>
 .ni (v4+(1:Int)) <|
 .ret (.inl (v0,(v4+(1:Int)),y1.2.1,()))) (
 .ret (.inr (m1,())))
noncomputable def ZC:bQ prog 19 none 0:=bx mixed WQ EX [] rfl Zz ZA rfl (ZB) (fun x=>ak (gH29_0 x)) (fun x=>by kernel_rfl)
noncomputable def WR:D prog 19 none 0:=dO [.l ZC] (kd prog f29) 0
noncomputable def FH29 (v0:List (GG)):bU ((List ((GG)×Bool))×Unit) :=
 .bd (FH18) fun y0 =>
 .bd (.it gH29_0 (v0,(0:Int),y0.1,())) fun z2 =>
 .ret (z2.1,())
theorem TF:cM prog f29=some ⟨19,1,WR.er,[.t 2],[none]⟩:=by kernel_rfl
noncomputable def TG:Ht:=⟨29,pH29,qH29,(fun x=>ak (FH29 x.1))⟩
theorem CI:TG.Ok prog:=bW mixed EX rfl func29 TF (enters_of func29 rfl rfl) WR (by kernel_rfl) rfl rfl ⟨_,rfl⟩ rfl (pre:=[]) rfl (fun x=>by kernel_rfl)

/- 84, lent -/
@[reducible] def pH84:az:=az.mk [(0,.c (.mp 0))] [(0,.map tG true .bool false)] [.slot 0] []
@[reducible] def qH84:az:=az.mk [(0,.fn 111 [] [.ptr 1 0])] [(1,.cells [.mp 0] false),(0,.map tG true .bool false)] [.part 0 0] []
noncomputable def ad0:Cx:=(aN [] [])
theorem Pj:ad0.Ok prog:=av trivial trivial
noncomputable def WS:D prog 4 none 1:=dO [] (kd prog f84) 0
noncomputable def FH84 (m0:List ((GG)×Bool)):bU ((List ((GG)×Bool))×Unit) :=
 .ret (m0,())
theorem TH:cM prog f84=some ⟨4,1,WS.er,[.t 2],[none]⟩:=by kernel_rfl
noncomputable def ht84:Ht:=⟨84,pH84,qH84,(fun x=>ak (FH84 x.1))⟩
theorem TI:ht84.Ok prog:=bW mixed Pj rfl func84 TH (enters_of func84 rfl rfl) WS (by kernel_rfl) rfl rfl ⟨_,rfl⟩ rfl (pre:=[0]) rfl (fun x=>by kernel_rfl)

/- 110, by hand -/
@[reducible] def ad2:az:=az.mk [(0,.c (.cn 0 tG)),(1,.c (.fn0 85))] [(0,.arr tG false)] [.slot 0] []
@[reducible] def ad3:az:=az.mk [(0,.c .any)] [(0,.arr tG false)] [] []
noncomputable def FH110 (lR:Nat) (b0:List (GG)):bU ((List (GG))×Unit) :=
 .of (vE (.prod .str (.prod (.int .i64) (.prod .str (.prod .str (.int .i64))))) b0 lR)
noncomputable def Pk:Ht:=⟨110,ad2,ad3,(fun x=>ak (FH110 x.1 x.2.1))⟩
theorem wo (a b:ByteArray):(seq a b=true)↔a=b:=by
  unfold seq
  rw [beq_iff_eq,Go.ByteArray.toList_eq,Go.ByteArray.toList_eq]
  obtain ⟨a⟩:=a;obtain ⟨b⟩:=b
  simp
def oc (a b:ByteArray):Int:=if slt a b=true then -1 else if a=b then 0 else 1
def qx (a b:Int):Int:=if a<b then -1 else if b<a then 1 else 0
def qh : List Int → Int
 |[]=>0
 |a::r=>if a=0 then qh r else a
theorem ad4 (a:ByteArray):ak (F130 a)=some (false,()):=by
  have:seq a a=true:=(wo a a).2 rfl
  simp [F130,aa,this]
theorem ad5 (a:Int):ak (F131 a)=some (false,()):=by simp [F131,aa]
theorem ad6 (a b:ByteArray):ak (F113 a b)=some (oc a b,()):=by
  simp only [F113,ay,ai,aa,ad4,aD,ET,jT,oc]
  cases h:slt a b
  · by_cases he : a = b
    · subst he;simp [(wo a a).2 rfl]
    · have : seq a b = false := by rw [← Bool.not_eq_true]; exact fun h => he ((wo a b).1 h)
      simp [this,he]
  · simp
theorem ad7 (a b:Int):ak (F114 a b)=some (qx a b,()):=by
  simp only [F114,ay,ai,aa,ad5,aD,ET,aU,qx]
  repeat' split
  all_goals rfl
theorem ad8 (l:List Int) (hl:l.length≤1000):ak (F112 l)=some (qh l,()):=by
  simp only [F112,ay,bg,aa]
  refine bind_eq (aL l (fun k (_:Unit)=>((0:Int),l,((l.length:Nat):Int),(k:Int),())) (fun _ r=>if qh r=0 then .inr (0,()) else .inl (qh r,())) (fun _ _=>True) ?_ ?_ (s:=()) trivial) ?_
  · rintro pre x post _ hx -
    have hlen:l.length=pre.length+(post.length+1):=by rw [hx];simp
    have hd:l.getD pre.length 0=x:=by rw [hx];exact aT rfl
    have i1:ee (pre.length:Int) ((l.length:Nat):Int)=true:=bJ (by omega) (by omega)
    have r1:eV .i64 ((pre.length:Int)+1)=true:=aH (by omega) (by omega)
    simp only [g112_0,ai,aP,aG,aW,aa,Int.toNat_natCast,hd,i1,r1,af,aU,aZ,aS]
    rw [if_pos (by omega)]
    by_cases h:x=0
    · left
      refine ⟨(),?_,trivial,by simp [qh,h]⟩
      rw [if_pos h];rfl
    · right
      rw [if_neg h]
      have:qh (x::post)=x:=by simp [qh,h]
      rw [this,if_neg h]
  · rintro _ _
    simp only [g112_0,ai,aU,aa]
    rw [if_neg (by omega)]
    simp [qh]
  · by_cases h : qh l = 0
    · rw [if_pos h,h];rfl
    · rw [if_neg h];rfl
@[reducible] def Pm:Ty:=.prod .str (.prod tI (.prod .str (.prod .str tI)))
def yK (a b:Pm.den):Int:=qh [oc a.1 b.1,qx a.2.1 b.2.1,oc a.2.2.1 b.2.2.1,oc a.2.2.2.1 b.2.2.2.1,qx a.2.2.2.2 b.2.2.2.2]
theorem wq {a b:ByteArray}:oc a b=0↔a=b:=by
  unfold oc
  split
  · rename_i h
    constructor
    · intro h';omega
    · rintro rfl
      have:gq .str a a=true:=h
      rw [Jk (t:=.str) rfl] at this;cases this
  · split<;>simp_all
theorem CJ {a b:Int}:qx a b=0↔a=b:=by
  unfold qx
  repeat' split
  all_goals omega
theorem TJ {a b:ByteArray}:oc a b<0↔gq .str a b=true:=by
  unfold oc
  split
  · rename_i h;simp only [gq];exact ⟨fun _=>h,fun _=>by omega⟩
  · rename_i h
    constructor
    · intro h';split at h'<;>omega
    · intro h';exact absurd h' h
theorem TK {a b:Int}:qx a b<0↔gq tI a b=true:=by
  have e:gq tI a b=decide (a<b):=rfl
  rw [e,decide_eq_true_eq]
  unfold qx
  repeat' split
  all_goals omega
theorem ZD {c:Int} {r:List Int}:qh (c::r)<0↔c<0∨(c=0∧qh r<0):=by
  simp only [qh]
  split<;>omega
theorem TL (a b:Pm.den):decide (yK a b<0)=gq Pm a b:=by
  have hS:∀x y:ByteArray,dM .str x y=true↔x=y:=fun x y=>⟨fun h=>bS h,fun h=>by subst h;exact kV (t:=.str) x rfl⟩
  have hI:∀x y:Int,dM tI x y=true↔x=y:=fun x y=>⟨fun h=>bS (t:=tI) h,fun h=>by subst h;exact kV (t:=tI) x rfl⟩
  rw [Bool.eq_iff_iff,decide_eq_true_eq]
  show _↔(gq .str a.1 b.1||(dM .str a.1 b.1&&(gq tI a.2.1 b.2.1||(dM tI a.2.1 b.2.1&&(gq .str a.2.2.1 b.2.2.1||(dM .str a.2.2.1 b.2.2.1&&(gq .str a.2.2.2.1 b.2.2.2.1||(dM .str a.2.2.2.1 b.2.2.2.1&&gq tI a.2.2.2.2 b.2.2.2.2))))))))=true
  have e:qh []<0↔False:=by simp [qh]
  unfold yK
  simp only [ZD,e,and_false,or_false,wq,CJ,TJ,TK,Bool.or_eq_true,Bool.and_eq_true,hS,hI]
theorem wq85 (a b:Pm.den):ak (F85 a b)=some (yK a b,()):=by
  have hq:∀x y:ByteArray,(x.toList=y.toList)↔x=y:=fun x y=>by rw [←wo];unfold seq;rw [beq_iff_eq]
  simp only [F85,ai,ay,aa,ad6,ad7,aD,jT]
  split
  · rename_i h
    simp only [Bool.and_eq_true,beq_iff_eq,and_true,hq] at h
    obtain ⟨h1,h2,h3,h4,h5⟩:=h
    have:yK a b=0:=by
      unfold yK
      simp only [qh,wq.2 h1,CJ.2 h2,wq.2 h3,wq.2 h4,CJ.2 h5,if_true]
    rw [this]
  · exact bind_eq (ad8 [oc a.1 b.1,qx a.2.1 b.2.1,oc a.2.2.1 b.2.2.1,oc a.2.2.2.1 b.2.2.2.1,qx a.2.2.2.2 b.2.2.2.2] (by simp)) rfl
theorem Pn:Pk.Ok prog:=fun x y h =>
  S5 (ρ := yJ) Zc (enters_of func110 rfl rfl) (g := 85) (t := Pm) (ks := [.s, .i, .s, .s, .i]) rfl (by decide) (fun w => isAgg33 w) (fun w => sizeOf33 w) yK
    (fun a b=>Tg (a,b,()) (yK a b,()) (wq85 a b)) TL (xs:=x.2.1) (n:=x.1) (y:=y) h

/- 83, lent -/
@[reducible] def pH83:az:=az.mk [(0,.fn 111 [] [.ptr 0 0]),(1,.c (.fn0 85))] [(0,.cells [.mp 1] false),(1,.map tG true .bool false)] [.part 0 0,.cell 0 0] []
@[reducible] def qH83:az:=az.mk [(0,.c (.cn 2 tG))] [(2,.arr tG false),(0,.cells [.mp 1] false),(1,.map tG true .bool false)] [.slot 0] []
noncomputable def wu:Cx:=(aN [] [Pk])
theorem qX:wu.Ok prog:=av (vZ:=[]) (hts:=[Pk]) trivial ⟨⟨Pn,rfl⟩,trivial⟩
noncomputable def od:D prog 13 (some 4) 8:=dO [] (pick (kd prog f128) [(0,false)]) 0
noncomputable def oe:D prog 13 (some 4) 8:=dO [] (pick (kd prog f128) [(0,true)]) 0
noncomputable def iQ:Cx:=Ad wu (fun kz=>OB kz wu dY 4 8 [7] (od) (oe))
theorem jU:(iQ).Ok prog:=j6 qX (fun h=>nO mixed qX h)
@[reducible] def sF:az:=az.mk [(0,.c (.yl 4)),(4,.c (.mp 1))] [(4,.loop .ready none 3 [(2,.c (.ptr 2 0)),(4,.c .cq),(6,.fn 111 [] [.ptr 0 0])] [7] (.bh [.op (some 5) none (.alloc [.str (ByteArray.mk (Array.mk [])),.int .i64 (Int.ofNat 0),.str (ByteArray.mk (Array.mk [])),.str (ByteArray.mk (Array.mk [])),.int .i64 (Int.ofNat 0)]),.op none none (.store 5 (.t 5) (.t 7))]) (.block 1 (.bh [.op (some 8) none (.load false 1 (.t 2)),.op (some 9) none (.load true 5 (.t 5)),.op (some 10) none (.dZ tG [.t 9]),.op (some 11) none (.append 5 (.t 8) (.t 10)),.op none none (.store 1 (.t 2) (.t 11))])) 13),(1,.map tG true .bool false),(3,.iz),(2,.cells [.cn 5 tG] false),(0,.cells [.mp 1] false),(5,.arr tG false)] [.cell 2 0] []
noncomputable def sG:D prog 14 none 7:=dO [] (pick (kd prog f111) [(0,false)]) 0
noncomputable def gH83f109f128_0i_0:(((GG))×(Bool))→(List ((GG)×Bool))×Nat×(List (GG))×Unit→bU ((List ((GG)×Bool))×Nat×(List (GG))×Unit):=fun e (m1,kY,b5,_) =>
 .nd (decide ((kY+((((((e.1.1,e.1.2.1,e.1.2.2.1,e.1.2.2.2.1,e.1.2.2.2.2)::[])).drop (0:Nat)).take (1:Nat))).length)<cg)) <|
 .nd (jS m1 m1) <|
 .ret (m1,(kY+((((((e.1.1,e.1.2.1,e.1.2.2.1,e.1.2.2.2.1,e.1.2.2.2.2)::[])).drop (0:Nat)).take (1:Nat))).length),((((b5).drop (0:Nat)).take kY)++(((((e.1.1,e.1.2.1,e.1.2.2.1,e.1.2.2.2.1,e.1.2.2.2.2)::[])).drop (0:Nat)).take (1:Nat))),())
noncomputable def sH:sg prog 14 none 5:=wh mixed iQ jU [0,1,2,3,4] rfl sF ( [.op (some 4) none (.load false 1 (.t 1))]) 4 5 [6,7] (some 8) ( .prod .str (.prod tI (.prod .str (.prod .str tI))))  true ( .bool)  false 0 rfl 7 rfl (sG) (fun e x=>ak (gH83f109f128_0i_0 e x)) (fun e=>fun x=>by kernel_rfl)
@[reducible] def yL:az:=az.mk [(2,.c (.ptr 2 0)),(4,.c .cq),(6,.fn 111 [] [.ptr 0 0])] [(2,.cells [.cq] false),(0,.cells [.mp 1] false),(1,.map tG true .bool false)] [.slot 2] []
@[reducible] def yM:bf:=[(.normal,az.mk [(2,.c (.ptr 2 0))] [(2,.cells [.cn 3 tG] false),(0,.cells [.mp 1] false),(1,.map tG true .bool false),(3,.arr tG false)] [.slot 2,.cell 2 0] [])]
noncomputable def oh:D prog 14 none 5:=dO [.m sH] (kd prog f111) 0
theorem vF:cM prog f111=some ⟨14,2,(oh).er,[],[]⟩:=by kernel_rfl
noncomputable def o3:gB prog 13 none 2:=sB mixed iQ jU [0,1] rfl yL yM ( .t 6) [7] rfl (od).er (oe).er 111 func111 (vF) (enters_of func111 rfl rfl) 5 rfl (oh) rfl
@[reducible] noncomputable def TM:Go.AM.Fn:=⟨13,2,(dO [.r o3] (kd prog f128) 0:D prog 13 none 2).er,[.t 4],[some (.list tG)]⟩
noncomputable def Jt:Cx:=Be prog wu 128 TM 2 (dO [.r o3] (kd prog f128) 0)
theorem Hu:Jt.Ok prog:=sA mixed qX func128 (by kernel_rfl) (enters_of func128 rfl rfl) rfl
@[reducible] noncomputable def TN:Go.AM.Fn:=⟨5,1,(dO [] (kd prog f109) 0:D prog 5 none 0).er,[.t 2],[some (.list tG)]⟩
noncomputable def Ju:Cx:=EG prog Jt 109 TN (fun _=>dO [] (kd prog f109) 0)
theorem Hv:Ju.Ok prog:=pY mixed Hu func109 (by kernel_rfl) (enters_of func109 rfl rfl) (fun _=>by kernel_rfl)
noncomputable def ad9:Cx:=Ju
theorem Po:ad9.Ok prog:=Hv
noncomputable def WT:D prog 12 none 2:=dO [] (kd prog f83) 0
noncomputable def FH83 (m1:List ((GG)×Bool)):bU (Nat×(List (GG))×(List ((GG)×Bool))×Unit) :=
 .an m1 fun l0 =>
 .bd (.fm gH83f109f128_0i_0 l0 (m1,(0:Nat),[],())) fun z1 =>
 .bd (FH110 z1.2.1 z1.2.2.1) fun y2 =>
 .ret (z1.2.1,y2.1,z1.1,())
theorem TO:cM prog f83=some ⟨12,2,WT.er,[.t 4],[some (.list tG)]⟩:=by kernel_rfl
noncomputable def ht83:Ht:=⟨83,pH83,qH83,(fun x=>ak (FH83 x.1))⟩
theorem TP:ht83.Ok prog:=bW mixed Po rfl func83 TO (enters_of func83 rfl rfl) WT (by kernel_rfl) rfl rfl ⟨_,rfl⟩ rfl (pre:=[0,1]) rfl (fun x=>by kernel_rfl)

/- 47, lent -/
@[reducible] def pH47:az:=az.mk [(0,.c (.ptr 0 0))] [(0,.cells [.mp 1] false),(1,.map tG true .bool false)] [.slot 0,.cell 0 0] []
@[reducible] def qH47:az:=az.mk [(0,.c (.cn 2 tG))] [(2,.arr tG false),(0,.cells [.mp 1] false),(1,.map tG true .bool false)] [.slot 0] []
noncomputable def aeb:Cx:=(aN [] [Ag,ht84,ht83])
theorem Pp:aeb.Ok prog:=av trivial ⟨⟨nS,rfl⟩,⟨TI,rfl⟩,⟨TP,rfl⟩,trivial⟩
noncomputable def WU:D prog 11 none 2:=dO [] (kd prog f47) 0
noncomputable def FH47 (m1:List ((GG)×Bool)):bU (Nat×(List (GG))×(List ((GG)×Bool))×Unit) :=
 .bd (FH54 m1) fun y0 =>
 .br y0.1 (
 .ret ((0:Nat),[],y0.2.1,())) (
 .bd (FH84 y0.2.1) fun y1 =>
 .bd (FH83 y1.1) fun y2 =>
 .ret (y2.1,y2.2.1,y2.2.2.1,()))
theorem TQ:cM prog f47=some ⟨11,1,WU.er,[.t 2],[some (.list tG)]⟩:=by kernel_rfl
noncomputable def ZE:Ht:=⟨47,pH47,qH47,(fun x=>ak (FH47 x.1))⟩
theorem Jv:ZE.Ok prog:=bW mixed Pp rfl func47 TQ (enters_of func47 rfl rfl) WU (by kernel_rfl) rfl rfl ⟨_,rfl⟩ rfl (pre:=[0,1]) rfl (fun x=>by kernel_rfl)

/- 95, lent -/
@[reducible] def pH95:az:=az.mk [(0,.c (.mp 0))] [(0,.map .str false tG true)] [.slot 0] []
@[reducible] def qH95:az:=az.mk [(0,.fn 118 [] [.ptr 1 0])] [(1,.cells [.mp 0] false),(0,.map .str false tG true)] [.part 0 0] []
noncomputable def aec:Cx:=(aN [] [])
theorem Pq:aec.Ok prog:=av trivial trivial
noncomputable def WV:D prog 4 none 1:=dO [] (kd prog f95) 0
noncomputable def FH95 (m0:cQ):bU (cQ×Unit) :=
 .ret (m0,())
theorem TS:cM prog f95=some ⟨4,1,WV.er,[.t 2],[none]⟩:=by kernel_rfl
noncomputable def Pr:Ht:=⟨95,pH95,qH95,(fun x=>ak (FH95 x.1))⟩
theorem wv:Pr.Ok prog:=bW mixed Pq rfl func95 TS (enters_of func95 rfl rfl) WV (by kernel_rfl) rfl rfl ⟨_,rfl⟩ rfl (pre:=[0]) rfl (fun x=>by kernel_rfl)

/- 105, by hand -/
@[reducible] def aed:az:=az.mk [(0,.c (.cn 0 .str))] [(0,.arr .str false)] [.slot 0] []
@[reducible] def aee:az:=az.mk [(0,.c .any)] [(0,.arr .str false)] [] []
noncomputable def FH105 (lR:Nat) (b0:List ByteArray):bU (List ByteArray×Unit) :=
 .of (vE .str b0 lR)
noncomputable def Bk:Ht:=⟨105,aed,aee,(fun x=>ak (FH105 x.1 x.2.1))⟩
theorem yN:Bk.Ok prog:=fun x y h=>OO (ρ:=yH) Za (enters_of func105 rfl rfl) (xs:=x.2.1) (n:=x.1) (y:=y) h

/- 81, lent -/
@[reducible] def pH81:az:=az.mk [(0,.fn 118 [] [.ptr 0 0])] [(0,.cells [.mp 1] false),(1,.map .str false tG true)] [.part 0 0,.cell 0 0] []
@[reducible] def qH81:az:=az.mk [(0,.c (.cn 2 .str))] [(2,.arr .str false),(0,.cells [.mp 1] false),(1,.map .str false tG true)] [.slot 0] []
noncomputable def wA:Cx:=(aN [] [Bk])
theorem qY:wA.Ok prog:=av (vZ:=[]) (hts:=[Bk]) trivial ⟨⟨yN,rfl⟩,trivial⟩
noncomputable def oq:D prog 13 (some 4) 7:=dO [] (pick (kd prog f126) [(0,false)]) 0
noncomputable def ot:D prog 13 (some 4) 7:=dO [] (pick (kd prog f126) [(0,true)]) 0
noncomputable def iR:Cx:=Ad wA (fun kz=>OB kz wA dY 4 7 [7] (oq) (ot))
theorem jV:(iR).Ok prog:=j6 qY (fun h=>nO mixed qY h)
@[reducible] def sI:az:=az.mk [(0,.c (.yl 4)),(4,.c (.mp 1))] [(4,.loop .ready none 3 [(2,.c (.ptr 2 0)),(4,.c .cq),(6,.fn 118 [] [.ptr 0 0])] [7] (.bh [.op (some 5) none (.mv (.t 7))]) (.block 1 (.bh [.op (some 8) none (.load false 1 (.t 2)),.op (some 9) none (.mv (.t 5)),.op (some 10) none (.dZ .str [.t 9]),.op (some 11) none (.append 1 (.t 8) (.t 10)),.op none none (.store 1 (.t 2) (.t 11))])) 13),(1,.map .str false tG true),(3,.iz),(2,.cells [.cn 5 .str] false),(0,.cells [.mp 1] false),(5,.arr .str false)] [.cell 2 0] []
noncomputable def sJ:D prog 14 none 7:=dO [] (pick (kd prog f118) [(0,false)]) 0
noncomputable def gH81f107f126_0i_0:((ByteArray)×(GG))→cQ×Nat×List ByteArray×Unit→bU (cQ×Nat×List ByteArray×Unit):=fun e (m1,kY,b5,_) =>
 .nd (decide ((kY+(((((e.1::[])).drop (0:Nat)).take (1:Nat))).length)<cg)) <|
 .nd (jS m1 m1) <|
 .ret (m1,(kY+(((((e.1::[])).drop (0:Nat)).take (1:Nat))).length),((((b5).drop (0:Nat)).take kY)++((((e.1::[])).drop (0:Nat)).take (1:Nat))),())
noncomputable def sK:sg prog 14 none 5:=wh mixed iR jV [0,1,2,3,4] rfl sI ( [.op (some 4) none (.load false 1 (.t 1))]) 4 5 [6,7] (some 8) ( .str)  false ( .prod .str (.prod tI (.prod .str (.prod .str tI))))  true 0 rfl 7 rfl (sJ) (fun e x=>ak (gH81f107f126_0i_0 e x)) (fun e=>fun x=>by kernel_rfl)
@[reducible] def yO:az:=az.mk [(2,.c (.ptr 2 0)),(4,.c .cq),(6,.fn 118 [] [.ptr 0 0])] [(2,.cells [.cq] false),(0,.cells [.mp 1] false),(1,.map .str false tG true)] [.slot 2] []
@[reducible] def yP:bf:=[(.normal,az.mk [(2,.c (.ptr 2 0))] [(2,.cells [.cn 3 .str] false),(0,.cells [.mp 1] false),(1,.map .str false tG true),(3,.arr .str false)] [.slot 2,.cell 2 0] [])]
noncomputable def ou:D prog 14 none 5:=dO [.m sK] (kd prog f118) 0
theorem vG:cM prog f118=some ⟨14,2,(ou).er,[],[]⟩:=by kernel_rfl
noncomputable def o4:gB prog 13 none 2:=sB mixed iR jV [0,1] rfl yO yP ( .t 6) [7] rfl (oq).er (ot).er 118 func118 (vG) (enters_of func118 rfl rfl) 5 rfl (ou) rfl
@[reducible] noncomputable def TT:Go.AM.Fn:=⟨13,2,(dO [.r o4] (kd prog f126) 0:D prog 13 none 2).er,[.t 4],[some (.list .str)]⟩
noncomputable def Jw:Cx:=Be prog wA 126 TT 2 (dO [.r o4] (kd prog f126) 0)
theorem Hw:Jw.Ok prog:=sA mixed qY func126 (by kernel_rfl) (enters_of func126 rfl rfl) rfl
@[reducible] noncomputable def TU:Go.AM.Fn:=⟨5,1,(dO [] (kd prog f107) 0:D prog 5 none 0).er,[.t 2],[some (.list .str)]⟩
noncomputable def Jx:Cx:=EG prog Jw 107 TU (fun _=>dO [] (kd prog f107) 0)
theorem Hx:Jx.Ok prog:=pY mixed Hw func107 (by kernel_rfl) (enters_of func107 rfl rfl) (fun _=>by kernel_rfl)
noncomputable def aef:Cx:=Jx
theorem Pt:aef.Ok prog:=Hx
noncomputable def WW:D prog 9 none 2:=dO [] (kd prog f81) 0
noncomputable def FH81 (m1:cQ):bU (Nat×List ByteArray×cQ×Unit) :=
 .an m1 fun l0 =>
 .bd (.fm gH81f107f126_0i_0 l0 (m1,(0:Nat),[],())) fun z1 =>
 .bd (FH105 z1.2.1 z1.2.2.1) fun y2 =>
 .ret (z1.2.1,y2.1,z1.1,())
theorem TV:cM prog f81=some ⟨9,1,WW.er,[.t 2],[some (.list .str)]⟩:=by kernel_rfl
noncomputable def Pu:Ht:=⟨81,pH81,qH81,(fun x=>ak (FH81 x.1))⟩
theorem wB:Pu.Ok prog:=bW mixed Pt rfl func81 TV (enters_of func81 rfl rfl) WW (by kernel_rfl) rfl rfl ⟨_,rfl⟩ rfl (pre:=[0,1]) rfl (fun x=>by kernel_rfl)

/- 98, lent -/
@[reducible] def pH98:az:=az.mk [(0,.c (.hole (.list .str)))] [] [] []
@[reducible] def qH98:az:=az.mk [(0,.c (.cn 0 .str))] [(0,.arr .str false)] [.slot 0] []
noncomputable def aeg:Cx:=(aN [] [])
theorem Pv:aeg.Ok prog:=av trivial trivial
noncomputable def WX:D prog 8 none 0:=dO [] (kd prog f98) 0
noncomputable def FH98 (v0:List ByteArray):bU (Nat×List ByteArray×Unit) :=
 .br ((((v0).length:Nat):Int)==(0:Int)) (
 .am inferInstance (
 .ret ((0:Nat),[],())) (
 .nd (decide (((0:Nat)+(v0).length)<cg)) <|
 .ret (((0:Nat)+(v0).length),(((([]).drop (0:Nat)).take (0:Nat))++v0),()))) (
 .nd (decide (((0:Nat)+(v0).length)<cg)) <|
 .ret (((0:Nat)+(v0).length),(((([]).drop (0:Nat)).take (0:Nat))++v0),()))
theorem TW:cM prog f98=some ⟨8,1,WX.er,[.t 2],[some (.list .str)]⟩:=by kernel_rfl
noncomputable def ZF:Ht:=⟨98,pH98,qH98,(fun x=>ak (FH98 x.1))⟩
theorem Jy:ZF.Ok prog:=bW mixed Pv rfl func98 TW (enters_of func98 rfl rfl) WX (by kernel_rfl) rfl rfl ⟨_,rfl⟩ rfl (pre:=[]) rfl (fun x=>by kernel_rfl)

/- 99, lent -/
@[reducible] def pH99:az:=az.mk [(0,.c (.hole .str)),(1,.c (.ptr 0 0))] [(0,.cells [.ptr 1 0] false),(1,.cells [.mp 2,.mp 3,.mp 4,.mp 5] false),(2,.map .str false tG true),(3,.map .str false (.list .str) false),(4,.map .str false .bool false),(5,.map .str false .bool false)] [.slot 1,.cell 0 0,.cell 1 0,.cell 1 1,.cell 1 2,.cell 1 3] []
@[reducible] def qH99:az:=az.mk [(0,.c (.hole .bool))] [(0,.cells [.ptr 1 0] false),(1,.cells [.mp 2,.mp 3,.mp 4,.mp 5] false),(2,.map .str false tG true),(3,.map .str false (.list .str) false),(4,.map .str false .bool false),(5,.map .str false .bool false)] [] []
noncomputable def aeh:Cx:=(aN [] [])
theorem Pw:aeh.Ok prog:=av trivial trivial
noncomputable def WY:D prog 11 none 6:=dO [] (kd prog f99) 0
noncomputable def FH99 (v0:ByteArray) (m2:cQ) (m3:cS) (m4:bn) (m5:bn):bU (Bool×cQ×cS×bn×bn×Unit) :=
 .ret ((!(aA .str false m4 v0)),m2,m3,m4,m5,())
theorem TX:cM prog f99=some ⟨11,2,WY.er,[.t 3],[some .bool]⟩:=by kernel_rfl
noncomputable def ZG:Ht:=⟨99,pH99,qH99,(fun x=>ak (FH99 x.1 x.2.1 x.2.2.1 x.2.2.2.1 x.2.2.2.2.1))⟩
theorem Jz:ZG.Ok prog:=bW mixed Pw rfl func99 TX (enters_of func99 rfl rfl) WY (by kernel_rfl) rfl rfl ⟨_,rfl⟩ rfl (pre:=[0,1,2,3,4,5]) rfl (fun x=>by kernel_rfl)

/- 119, lent -/
@[reducible] def aei:az:=az.mk [(0,.c (.cn 0 .str)),(1,.fn 99 [] [.ptr 1 0])] [(0,.arr .str false),(1,.cells [.ptr 2 0] false),(2,.cells [.mp 3,.mp 4,.mp 5,.mp 6] false),(3,.map .str false tG true),(4,.map .str false (.list .str) false),(5,.map .str false .bool false),(6,.map .str false .bool false)] [.slot 0,.part 1 0,.cell 1 0,.cell 2 0,.cell 2 1,.cell 2 2,.cell 2 3] []
@[reducible] def aej:az:=az.mk [(0,hI)] [(1,.cells [.ptr 2 0] false),(2,.cells [.mp 3,.mp 4,.mp 5,.mp 6] false),(3,.map .str false tG true),(4,.map .str false (.list .str) false),(5,.map .str false .bool false),(6,.map .str false .bool false),(0,.arr .str false)] [] []
noncomputable def Px:Cx:=(aN [] [ZG])
theorem Bm:Px.Ok prog:=av trivial ⟨⟨Jz,rfl⟩,trivial⟩
@[reducible] def TY:az:=az.mk [(0,.c (.cn 0 .str)),(1,.fn 99 [] [.ptr 1 0]),(7,hI),(8,hI)] [(0,.arr .str false),(1,.cells [.ptr 2 0] false),(2,.cells [.mp 3,.mp 4,.mp 5,.mp 6] false),(3,.map .str false tG true),(4,.map .str false (.list .str) false),(5,.map .str false .bool false),(6,.map .str false .bool false)] [] []
@[reducible] def TZ:bf:=[(.ret,az.mk [(4,hI)] [(1,.cells [.ptr 2 0] false),(2,.cells [.mp 3,.mp 4,.mp 5,.mp 6] false),(3,.map .str false tG true),(4,.map .str false (.list .str) false),(5,.map .str false .bool false),(6,.map .str false .bool false),(0,.arr .str false)] [] []),(.exit 0,az.mk [] [(1,.cells [.ptr 2 0] false),(2,.cells [.mp 3,.mp 4,.mp 5,.mp 6] false),(3,.map .str false tG true),(4,.map .str false (.list .str) false),(5,.map .str false .bool false),(6,.map .str false .bool false),(0,.arr .str false)] [] [])]
noncomputable def T0:D prog 19 none 7:=dO [] (pick (kd prog f119) [(0,false)]) 0
noncomputable def gH119_0:Nat×Int×Int×List ByteArray×cQ×cS×bn×bn×Unit→bU ((Nat×Int×Int×List ByteArray×cQ×cS×bn×bn×Unit) ⊕ ((Int×cQ×cS×bn×bn×List ByteArray×Unit) ⊕ ((cQ×cS×bn×bn×List ByteArray×Unit)))):=fun (lR,v7,v8,b0,m3,m4,m5,m6,_) =>
 .br (decide (v8<v7)) (
 .nb v8 ((lR:Nat):Int) <|
 .nd (decide (((0:Nat)+(Int.toNat v8))<(b0).length)) <|
 .bd (FH99 ((b0).getD ((0:Nat)+(Int.toNat v8)) (bs [])) m3 m4 m5 m6) fun y0 =>
 .br y0.1 (
 .ret (.inr <| .inl<|(v8,y0.2.1,y0.2.2.1,y0.2.2.2.1,y0.2.2.2.2.1,b0,()))) (
 .ni (v8+(1:Int)) <|
 .ret (.inl (lR,v7,(v8+(1:Int)),b0,y0.2.1,y0.2.2.1,y0.2.2.2.1,y0.2.2.2.2.1,())))) (
 .ret (.inr <| .inr<|(m3,m4,m5,m6,b0,())))
noncomputable def T1:bQ prog 19 none 7:=bx mixed Px Bm [0,1,2,3,4,5,6] rfl TY TZ rfl (T0) (fun x=>ak (gH119_0 x)) (fun x=>by kernel_rfl)
noncomputable def Py:D prog 19 none 7:=dO [.l T1] (kd prog f119) 0
noncomputable def FH119 (lR:Nat) (b0:List ByteArray) (m3:cQ) (m4:cS) (m5:bn) (m6:bn):bU (Int×cQ×cS×bn×bn×List ByteArray×Unit) :=
 .bd (.it gH119_0 (lR,((lR:Nat):Int),(0:Int),b0,m3,m4,m5,m6,())) fun z1 =>
 .sm z1 (fun z2 =>
 .ret (z2.1,z2.2.1,z2.2.2.1,z2.2.2.2.1,z2.2.2.2.2.1,z2.2.2.2.2.2.1,())) fun z3 =>
 .ret ((-1:Int),z3.1,z3.2.1,z3.2.2.1,z3.2.2.2.1,z3.2.2.2.2.1,())
theorem Pz:cM prog f119=some ⟨19,2,Py.er,[.t 4],[some tI]⟩:=by kernel_rfl
noncomputable def WZ:Ht:=⟨119,aei,aej,(fun x=>ak (FH119 x.1 x.2.1 x.2.2.1 x.2.2.2.1 x.2.2.2.2.1 x.2.2.2.2.2.1))⟩
theorem PA:WZ.Ok prog:=bW mixed Bm rfl func119 Pz (enters_of func119 rfl rfl) Py (by kernel_rfl) rfl rfl ⟨_,rfl⟩ rfl (pre:=[0,1,2,3,4,5,6]) rfl (fun x=>by kernel_rfl)

/- 97, lent -/
@[reducible] def pH97:az:=az.mk [(0,.c (.cn 0 .str)),(1,.fn 99 [] [.ptr 1 0])] [(0,.arr .str false),(1,.cells [.ptr 2 0] false),(2,.cells [.mp 3,.mp 4,.mp 5,.mp 6] false),(3,.map .str false tG true),(4,.map .str false (.list .str) false),(5,.map .str false .bool false),(6,.map .str false .bool false)] [.slot 0,.part 1 0,.cell 1 0,.cell 2 0,.cell 2 1,.cell 2 2,.cell 2 3] []
@[reducible] def qH97:az:=az.mk [(0,.c (.Rw 0 .str))] [(0,.arr .str false),(1,.cells [.ptr 2 0] false),(2,.cells [.mp 3,.mp 4,.mp 5,.mp 6] false),(3,.map .str false tG true),(4,.map .str false (.list .str) false),(5,.map .str false .bool false),(6,.map .str false .bool false)] [] []
noncomputable def W0:Cx:=(aN [] [WZ,ZG])
theorem EY:W0.Ok prog:=av trivial ⟨⟨PA,rfl⟩,⟨Jz,rfl⟩,trivial⟩
@[reducible] def ZH:az:=az.mk [(0,.c (.cn 0 .str)),(1,.fn 99 [] [.ptr 1 0]),(5,hI),(6,hI)] [(0,.arr .str false),(1,.cells [.ptr 2 0] false),(2,.cells [.mp 3,.mp 4,.mp 5,.mp 6] false),(3,.map .str false tG true),(4,.map .str false (.list .str) false),(5,.map .str false .bool false),(6,.map .str false .bool false)] [] []
@[reducible] def ZI:bf:=[(.exit 0,az.mk [(0,.c (.cn 0 .str)),(5,hI)] [(0,.arr .str false),(1,.cells [.ptr 2 0] false),(2,.cells [.mp 3,.mp 4,.mp 5,.mp 6] false),(3,.map .str false tG true),(4,.map .str false (.list .str) false),(5,.map .str false .bool false),(6,.map .str false .bool false)] [] [])]
noncomputable def ZJ:D prog 42 none 7:=dO [] (pick (kd prog f97) [(0,false)]) 0
noncomputable def gH97_0:Nat×Int×Int×List ByteArray×cQ×cS×bn×bn×Unit→bU ((Nat×Int×Int×List ByteArray×cQ×cS×bn×bn×Unit) ⊕ ((Nat×Int×List ByteArray×cQ×cS×bn×bn×Unit))):=fun (lR,v5,v6,b0,m3,m4,m5,m6,_) =>
 .br (decide (v6<((lR:Nat):Int))) (
 .nb v6 ((lR:Nat):Int) <|
 .nd (decide (((0:Nat)+(Int.toNat v6))<(b0).length)) <|
 .bd (FH99 ((b0).getD ((0:Nat)+(Int.toNat v6)) (bs [])) m3 m4 m5 m6) fun y1 =>
 .br (!y1.1) (
 .nb v5 ((lR:Nat):Int) <|
 .nd (decide (((0:Nat)+(Int.toNat v5))<(b0).length)) <|
 .ni (v5+(1:Int)) <|
 .ni (v6+(1:Int)) <|
 .ret (.inl (lR,(v5+(1:Int)),(v6+(1:Int)),((b0).set ((0:Nat)+(Int.toNat v5)) ((b0).getD ((0:Nat)+(Int.toNat v6)) (bs []))),y1.2.1,y1.2.2.1,y1.2.2.2.1,y1.2.2.2.2.1,()))) (
 .ni (v6+(1:Int)) <|
 .ret (.inl (lR,v5,(v6+(1:Int)),b0,y1.2.1,y1.2.2.1,y1.2.2.2.1,y1.2.2.2.2.1,())))) (
 .ret (.inr (lR,v5,b0,m3,m4,m5,m6,())))
noncomputable def ZK:bQ prog 42 none 7:=bx mixed W0 EY [0,1,2,3,4,5,6] rfl ZH ZI rfl (ZJ) (fun x=>ak (gH97_0 x)) (fun x=>by kernel_rfl)
noncomputable def W1:D prog 42 none 7:=dO [.l ZK] (kd prog f97) 0
noncomputable def FH97 (lR:Nat) (b0:List ByteArray) (m3:cQ) (m4:cS) (m5:bn) (m6:bn):bU (Nat×Nat×List ByteArray×cQ×cS×bn×bn×Unit) :=
 .bd (FH119 lR b0 m3 m4 m5 m6) fun y0 =>
 .br (y0.1==(-1:Int)) (
 .ret ((0:Nat),lR,y0.2.2.2.2.2.1,y0.2.1,y0.2.2.1,y0.2.2.2.1,y0.2.2.2.2.1,())) (
 .ni (y0.1+(1:Int)) <|
 .bd (.it gH97_0 (lR,y0.1,(y0.1+(1:Int)),y0.2.2.2.2.2.1,y0.2.1,y0.2.2.1,y0.2.2.2.1,y0.2.2.2.2.1,())) fun z2 =>
 .nd (decide ((0:Int)≤z2.2.1)) <|
 .nd (decide (z2.2.1≤((z2.1:Nat):Int))) <|
 .nd (decide (((z2.1:Nat):Int)≤((z2.1:Nat):Int))) <|
 .nd (decide ((0:Int)≤(0:Int))) <|
 .nd (decide ((0:Int)≤z2.2.1)) <|
 .nd (decide (z2.2.1≤((z2.1:Nat):Int))) <|
 .ret (((0:Nat)+(Int.toNat (0:Int))),((Int.toNat z2.2.1) - (Int.toNat (0:Int))),(BE (bs []) z2.2.2.1 ((0:Nat)+(Int.toNat z2.2.1)) ((Int.toNat ((z2.1:Nat):Int)) - (Int.toNat z2.2.1))),z2.2.2.2.1,z2.2.2.2.2.1,z2.2.2.2.2.2.1,z2.2.2.2.2.2.2.1,()))
theorem T2:cM prog f97=some ⟨42,2,W1.er,[.t 4],[some (.list .str)]⟩:=by kernel_rfl
noncomputable def ht97:Ht:=⟨97,pH97,qH97,(fun x=>ak (FH97 x.1 x.2.1 x.2.2.1 x.2.2.2.1 x.2.2.2.2.1 x.2.2.2.2.2.1))⟩
theorem T3:ht97.Ok prog:=bW mixed EY rfl func97 T2 (enters_of func97 rfl rfl) W1 (by kernel_rfl) rfl rfl ⟨_,rfl⟩ rfl (pre:=[0,1,2,3,4,5,6]) rfl (fun x=>by kernel_rfl)

/- 96, lent -/
@[reducible] def kZ:az:=az.mk [(0,.c (.hole .str)),(1,.c (.ptr 0 0)),(2,.c (.ptr 1 0))] [(0,.cells [.ptr 2 0] false),(1,.cells [.fn 96 .nil (.cons (.ptr 0 0) (.cons (.ptr 1 0) .nil))] false),(2,.cells [.mp 3,.mp 4,.mp 5,.mp 6] false),(3,.map .str false tG true),(4,.map .str false (.list .str) false),(5,.map .str false .bool false),(6,.map .str false .bool false)] [.slot 1,.slot 2,.cell 0 0,.cell 2 0,.cell 2 1,.cell 2 2,.cell 2 3] []
@[reducible] def k9:az:=az.mk [(0,.c .any)] [(0,.cells [.ptr 2 0] false),(2,.cells [.mp 3,.mp 4,.mp 5,.mp 6] false),(3,.map .str false tG true),(4,.map .str false (.list .str) false),(5,.map .str false .bool false),(6,.map .str false .bool false),(1,.cells [.fn 96 .nil (.cons (.ptr 0 0) (.cons (.ptr 1 0) .nil))] false)] [] []
noncomputable def PB (rec:kZ.T→Option k9.T):Cx:=(aN [] [⟨96,kZ,k9,rec⟩])
theorem EZ (rec:kZ.T→Option k9.T) (h:Ht.Ok prog ⟨96,kZ,k9,rec⟩):(PB rec).Ok prog:=av trivial ⟨⟨h,rfl⟩,trivial⟩
@[reducible] def Hy:az:=az.mk [(2,.c (.ptr 1 0)),(22,.c (.hole (.list .str))),(23,hI),(24,hI)] [(1,.cells [.fn 96 .nil (.cons (.ptr 0 0) (.cons (.ptr 1 0) .nil))] false),(0,.cells [.ptr 2 0] false),(2,.cells [.mp 3,.mp 4,.mp 5,.mp 6] false),(3,.map .str false tG true),(4,.map .str false (.list .str) false),(5,.map .str false .bool false),(6,.map .str false .bool false)] [] []
@[reducible] def Hz:bf:=[(.exit 0,az.mk [] [(0,.cells [.ptr 2 0] false),(2,.cells [.mp 3,.mp 4,.mp 5,.mp 6] false),(3,.map .str false tG true),(4,.map .str false (.list .str) false),(5,.map .str false .bool false),(6,.map .str false .bool false),(1,.cells [.fn 96 .nil (.cons (.ptr 0 0) (.cons (.ptr 1 0) .nil))] false)] [] [])]
noncomputable def PC (rec:kZ.T→Option k9.T) (h:Ht.Ok prog ⟨96,kZ,k9,rec⟩):D prog 32 none 7:=dO [] (pick (kd prog f96) [(0,false)]) 0
noncomputable def gH96_0:List ByteArray×Int×Int×cQ×cS×bn×bn×Unit→Tr kZ.T k9.T ((List ByteArray×Int×Int×cQ×cS×bn×bn×Unit) ⊕ ((cQ×cS×bn×bn×Unit))):=fun (v22,v23,v24,m3,m4,m5,m6,_) =>
 .br (decide (v24<v23)) (
 .nb v24 (((v22).length:Nat):Int) <|
 .bd (.rc (((v22).getD (Int.toNat v24) (bs [])),m3,m4,m5,m6,())) fun y0 =>
 .ni (v24+(1:Int)) <|
 .ret (.inl (v22,v23,(v24+(1:Int)),y0.1,y0.2.1,y0.2.2.1,y0.2.2.2.1,()))) (
 .ret (.inr (m3,m4,m5,m6,())))
theorem ZL (rec:kZ.T→Option k9.T) (h:Ht.Ok prog ⟨96,kZ,k9,rec⟩):∀x,qS (iN (Hy.T ⊕ Hz.T)) (PB rec) dY [0,1,2,3,4,5,6] Hy Hz (PC rec h) (fun y=>some (.inl y)) (fun b=>some (.inr b)) x=run rec (gH96_0 x):=fun x=>by kernel_rfl
noncomputable def ZM (rec:kZ.T→Option k9.T) (h:Ht.Ok prog ⟨96,kZ,k9,rec⟩):bQ prog 32 none 7:=bx mixed (PB rec) (EZ rec h) [0,1,2,3,4,5,6] rfl Hy Hz rfl (PC rec h) (fun x=>run rec (gH96_0 x)) (ZL rec h)
noncomputable def W2 (rec:kZ.T→Option k9.T) (h:Ht.Ok prog ⟨96,kZ,k9,rec⟩):D prog 32 none 7:=dO [.l (ZM rec h)] (kd prog f96) 0
noncomputable def FH96 (v0:ByteArray) (m3:cQ) (m4:cS) (m5:bn) (m6:bn):Tr kZ.T k9.T (cQ×cS×bn×bn×Unit) :=
 .br (aA .str false m6 v0) (
 .ret (m3,m4,m5,m6,())) (
 .bd (.it gH96_0 ((aA .str [] m4 v0),((((aA .str [] m4 v0)).length:Nat):Int),(0:Int),m3,m4,m5,(bp .str m6 v0 true),())) fun z1 =>
 .ret (z1.1,z1.2.1,z1.2.2.1,z1.2.2.2.1,()))
theorem T4 (rec:kZ.T→Option k9.T) (h:Ht.Ok prog ⟨96,kZ,k9,rec⟩):cM prog f96=some ⟨32,3,(W2 rec h).er,[],[]⟩:=by kernel_rfl
theorem Lx (rec:kZ.T→Option k9.T) (h:Ht.Ok prog ⟨96,kZ,k9,rec⟩):Ht.Ok prog ⟨96,kZ,k9,(fun x=>run rec (FH96 x.1 x.2.1 x.2.2.1 x.2.2.2.1 x.2.2.2.2.1))⟩:=bW mixed (EZ rec h) rfl func96 (T4 rec h) (enters_of func96 rfl rfl) (W2 rec h) (by kernel_rfl) rfl rfl ⟨_,rfl⟩ rfl (pre:=[0,1,2,3,4,5,6]) rfl (fun x=>by kernel_rfl)
noncomputable def FH96fix (v0:ByteArray) (m3:cQ) (m4:cS) (m5:bn) (m6:bn):bU (cQ×cS×bn×bn×Unit):=.fx (A1:=kZ.T) (B1:=k9.T) (fun x=>FH96 x.1 x.2.1 x.2.2.1 x.2.2.2.1 x.2.2.2.2.1) (v0,m3,m4,m5,m6,())
noncomputable def ht96:Ht:=⟨96,kZ,k9,fun x=>ak (FH96fix x.1 x.2.1 x.2.2.1 x.2.2.2.1 x.2.2.2.2.1)⟩
theorem T5:ht96.Ok prog:=OI (F:=fun rec x=>run rec (FH96 x.1 x.2.1 x.2.2.1 x.2.2.2.1 x.2.2.2.2.1)) (fun rec h=>Lx rec h)

/- 66, lent -/
@[reducible] def pH66:az:=az.mk [(0,.c (.ptr 0 0))] [(0,.cells [.mp 1] false),(1,.map tG true .bool false)] [.slot 0,.cell 0 0] []
@[reducible] def qH66:az:=az.mk [(0,.c (.ptr 2 0))] [(2,.cells [.mp 3,.mp 4,.mp 5,.mp 6] false),(0,.cells [.mp 1] false),(1,.map tG true .bool false),(3,.map .str false tG true),(4,.map .str false (.list .str) false),(5,.map .str false .bool false),(6,.map .str false .bool false)] [.slot 0,.cell 2 0,.cell 2 1,.cell 2 2,.cell 2 3] []
noncomputable def JA:Cx:=(aN [] [ZE,Pr,Pu,ZF,ht97,ht96])
theorem sL:JA.Ok prog:=av trivial ⟨⟨Jv,rfl⟩,⟨wv,rfl⟩,⟨wB,rfl⟩,⟨Jy,rfl⟩,⟨T3,rfl⟩,⟨T5,rfl⟩,trivial⟩
@[reducible] def ZN:az:=az.mk [(3,.c (.ptr 2 0)),(26,.c (.cn 3 tG)),(27,hI),(28,hI)] [(2,.cells [.ptr 4 0] false),(3,.arr tG false),(0,.cells [.mp 1] false),(1,.map tG true .bool false),(4,.cells [.mp 5,.mp 6,.mp 7,.mp 8] false),(5,.map .str false tG true),(6,.map .str false (.list .str) false),(7,.map .str false .bool false),(8,.map .str false .bool false)] [.slot 3,.slot 26,.cell 2 0,.cell 4 0,.cell 4 1,.cell 4 2,.cell 4 3] []
@[reducible] def ZO:bf:=[(.exit 0,az.mk [(3,.c (.ptr 2 0))] [(2,.cells [.ptr 3 0] false),(0,.cells [.mp 1] false),(1,.map tG true .bool false),(3,.cells [.mp 4,.mp 5,.mp 6,.mp 7] false),(4,.map .str false tG true),(5,.map .str false (.list .str) false),(6,.map .str false .bool false),(7,.map .str false .bool false)] [.slot 3,.cell 2 0,.cell 3 0,.cell 3 1,.cell 3 2,.cell 3 3] [])]
noncomputable def ZP:D prog 148 none 2:=dO [] (pick (kd prog f66) [(0,false)]) 0
noncomputable def gH66_0:Nat×Int×Int×(List (GG))×(List ((GG)×Bool))×cQ×cS×bn×bn×Unit→bU ((Nat×Int×Int×(List (GG))×(List ((GG)×Bool))×cQ×cS×bn×bn×Unit) ⊕ (((List ((GG)×Bool))×cQ×cS×bn×bn×Unit))):=fun (ZQ,v27,v28,b3,m1,m5,m6,m7,m8,_) =>
 .br (decide (v28<v27)) (
 .nb v28 ((ZQ:Nat):Int) <|
 .nd (decide (((0:Nat)+(Int.toNat v28))<(b3).length)) <|
 .br (!(aQ .str m5 ((b3).getD ((0:Nat)+(Int.toNat v28)) ((bs []),(0:Int),(bs []),(bs []),(0:Int))).1)) (
 .ni (v28+(1:Int)) <|
 .ret (.inl (ZQ,v27,(v28+(1:Int)),b3,m1,(bp .str m5 ((b3).getD ((0:Nat)+(Int.toNat v28)) ((bs []),(0:Int),(bs []),(bs []),(0:Int))).1 (((b3).getD ((0:Nat)+(Int.toNat v28)) ((bs []),(0:Int),(bs []),(bs []),(0:Int))).1,((b3).getD ((0:Nat)+(Int.toNat v28)) ((bs []),(0:Int),(bs []),(bs []),(0:Int))).2.1,((b3).getD ((0:Nat)+(Int.toNat v28)) ((bs []),(0:Int),(bs []),(bs []),(0:Int))).2.2.1,((b3).getD ((0:Nat)+(Int.toNat v28)) ((bs []),(0:Int),(bs []),(bs []),(0:Int))).2.2.2.1,((b3).getD ((0:Nat)+(Int.toNat v28)) ((bs []),(0:Int),(bs []),(bs []),(0:Int))).2.2.2.2)),m6,m7,m8,()))) (
 .ni (v28+(1:Int)) <|
 .ret (.inl (ZQ,v27,(v28+(1:Int)),b3,m1,m5,m6,m7,m8,())))) (
 .ret (.inr (m1,m5,m6,m7,m8,())))
noncomputable def ZR:bQ prog 148 none 2:=bx mixed JA sL [0,1] rfl ZN ZO rfl (ZP) (fun x=>ak (gH66_0 x)) (fun x=>by kernel_rfl)
@[reducible] def qZ:az:=az.mk [(3,.c (.ptr 2 0)),(57,.c (.cn 3 .str)),(58,hI),(59,hI)] [(2,.cells [.ptr 4 0] false),(3,.arr .str false),(0,.cells [.mp 1] false),(1,.map tG true .bool false),(4,.cells [.mp 5,.mp 6,.mp 7,.mp 8] false),(5,.map .str false tG true),(6,.map .str false (.list .str) false),(7,.map .str false .bool false),(8,.map .str false .bool false)] [.slot 3,.slot 57,.cell 2 0,.cell 4 0,.cell 4 1,.cell 4 2,.cell 4 3] []
@[reducible] def uy:bf:=[(.exit 2,az.mk [(3,.c (.ptr 2 0))] [(2,.cells [.ptr 3 0] false),(0,.cells [.mp 1] false),(1,.map tG true .bool false),(3,.cells [.mp 4,.mp 5,.mp 6,.mp 7] false),(4,.map .str false tG true),(5,.map .str false (.list .str) false),(6,.map .str false .bool false),(7,.map .str false .bool false)] [.slot 3,.cell 2 0,.cell 3 0,.cell 3 1,.cell 3 2,.cell 3 3] [])]
noncomputable def ZS:D prog 148 none 2:=dO [] (pick (kd prog f66) [(1,false)]) 0
noncomputable def gH66_1:Nat×Int×Int×List ByteArray×(List ((GG)×Bool))×cQ×cS×bn×bn×Unit→bU ((Nat×Int×Int×List ByteArray×(List ((GG)×Bool))×cQ×cS×bn×bn×Unit) ⊕ (((List ((GG)×Bool))×cQ×cS×bn×bn×Unit))):=fun (dS,v58,v59,b3,m1,m5,m6,m7,m8,_) =>
 .br (decide (v59<v58)) (
 .nb v59 ((dS:Nat):Int) <|
 .nd (decide (((0:Nat)+(Int.toNat v59))<(b3).length)) <|
 .br ((aA .str ((bs []),(0:Int),(bs []),(bs []),(0:Int)) m5 ((b3).getD ((0:Nat)+(Int.toNat v59)) (bs []))).2.1==(3:Int)) (
 .ni (v59+(1:Int)) <|
 .ret (.inl (dS,v58,(v59+(1:Int)),b3,m1,m5,m6,(bp .str m7 (aA .str ((bs []),(0:Int),(bs []),(bs []),(0:Int)) m5 ((b3).getD ((0:Nat)+(Int.toNat v59)) (bs []))).2.2.1 true),m8,()))) (
 .br ((aA .str ((bs []),(0:Int),(bs []),(bs []),(0:Int)) m5 ((b3).getD ((0:Nat)+(Int.toNat v59)) (bs []))).2.1==(2:Int)) (
 .nd (decide (((aA .str [] m6 (aA .str ((bs []),(0:Int),(bs []),(bs []),(0:Int)) m5 ((b3).getD ((0:Nat)+(Int.toNat v59)) (bs []))).2.2.1)).length+1<cg)) <|
 .ni (v59+(1:Int)) <|
 .ret (.inl (dS,v58,(v59+(1:Int)),b3,m1,m5,(bp .str m6 (aA .str ((bs []),(0:Int),(bs []),(bs []),(0:Int)) m5 ((b3).getD ((0:Nat)+(Int.toNat v59)) (bs []))).2.2.1 ((aA .str [] m6 (aA .str ((bs []),(0:Int),(bs []),(bs []),(0:Int)) m5 ((b3).getD ((0:Nat)+(Int.toNat v59)) (bs []))).2.2.1)++(((b3).getD ((0:Nat)+(Int.toNat v59)) (bs []))::[]))),m7,m8,()))) (
 .ni (v59+(1:Int)) <|
 .ret (.inl (dS,v58,(v59+(1:Int)),b3,m1,m5,m6,m7,m8,()))))) (
 .ret (.inr (m1,m5,m6,m7,m8,())))
/-! The loop in which lists grow that lie in a map, by hand. -/
@[reducible] def uz:Ty:=.prod .str (.prod tI (.prod .str (.prod .str tI)))
def gG (b3:List ByteArray) (m1:List (uz.den×Bool)) (m5:List (ByteArray×uz.den)) (m7 m8:bn):aq :=
 [(2,.cells [.ptr 4 0] false),(3,.arr .str b3 false),(0,.cells [.mp 1] false),(1,.map uz true .bool false m1),(4,.cells [.mp 5,.mp 6,.mp 7,.mp 8] false),(5,.map .str false uz true m5),(7,.map .str false .bool false m7),(8,.map .str false .bool false m8)]
def yQ (dS:Nat) (v58 v59:Int):Env:=[(3,.ptr 2 0),(57,.sl 3 .str 0 dS),(58,.int .i64 v58),(59,.int .i64 v59)]
def I66 (x:qZ.T):St:=⟨yQ x.1 x.2.1 x.2.2.1,⟨9,gG x.2.2.2.1 x.2.2.2.2.1 x.2.2.2.2.2.1 x.2.2.2.2.2.2.2.1 x.2.2.2.2.2.2.2.2.1⟩,[]⟩
def HA:C:=.bh [.op (some 97) none (.bin .add (.t 59) (.c (.int .i64 (Int.ofNat 1)))),.op (some 59) none (.mv (.t 97))]
def ZT : C := .draw [[], [0], [0, 1], [0, 1, 2], [], [4], [0, 1, 2, 3, 4, 5]]
 [.op (some 73) none (.load false 1 (.t 3)),.op (some 74) none (.ex .ja [.t 73]),.op (some 75) none (.nu 2 [true,true,false] (.t 74)),.op (some 76) none (.load false 1 (.t 75)),.op (some 77) none (.nu 2 [true,true,false] (.t 10)),.op (some 78) none (.load false 1 (.t 77)),
 .op none none (.ex (.iC .str false .bool false) [.t 76,.t 78,.c (.tf true)])]
def in66 : C := .block 4 (.seq (.bh [.op (some 72) none (.bin .eql (.t 70) (.c (.int .i64 (Int.ofNat 3)))), .op (some 71) none (.mv (.t 72))])
 (.cond (.t 71) ZT (.seq (.bh [.op (some 80) none (.bin .eql (.t 70) (.c (.int .i64 (Int.ofNat 2)))),.op (some 79) none (.mv (.t 80))]) (.cond (.t 79) (.draw nR EN) .skip))))
def W3 : C := .seq (.block 3 (.seq (.bh [.op (some 61) none (.idx 1 (.t 57) (.t 59)), .op (some 62) none (.load false 1 (.t 61)), .op (some 9) none (.mv (.t 62))])
 (.seq (.bh [.op (some 63) none (.load false 1 (.t 3)),.op (some 64) none (.ex .ja [.t 63]),.op (some 65) none (.nu 0 [false] (.t 64)),.op (some 66) none (.load false 1 (.t 65)),.op (some 67) none (.mv (.t 9)),
 .op (some 68) none (.ex (.gv .str false uz true false) [.t 66,.t 67]),.op (some 10) none (.alloc [.str ⟨⟨[]⟩⟩,.int .i64 (Int.ofNat 0),.str ⟨⟨[]⟩⟩,.str ⟨⟨[]⟩⟩,.int .i64 (Int.ofNat 0)]),.op none none (.store 5 (.t 10) (.t 68))])
 (.seq (.bh [.op (some 69) none (.nu 1 [true,false] (.t 10)),.op (some 70) none (.load false 1 (.t 69))]) in66)))) HA
def c66:C:=.seq (.bh [.op (some 60) none (.bin .lss (.t 59) (.t 58))]) (.seq (.cond (.t 60) .skip (.exit 2)) W3)
theorem aen {dS : Nat} {v58 v59 : Int} {b3 : List ByteArray} {m1 : List (uz.den × Bool)} {m5 : List (ByteArray × uz.den)} {m7 m8 : bn} {env : Env} {nx : Nat} {bl : aq}
    (h3:get 3 env = .ptr 2 0) (h57:get 57 env = .sl 3 .str 0 dS) (h58:get 58 env = .int .i64 v58) (h59:get 59 env = .int .i64 v59) (hb:∀p∈gG b3 m1 m5 m7 m8,ax p.1 bl=some p.2) :
    jE 2 (List.range 9) ⟨env,⟨nx,bl⟩,[]⟩ ⟨yQ dS v58 v59,⟨9,gG b3 m1 m5 m7 m8⟩,[]⟩:=by
  refine Lv (by omega) rfl rfl rfl (fun p hp=>?_) (fun p hp=>?_)
  · simp only [yQ, List.mem_cons, List.not_mem_nil, or_false] at hp
    rcases hp with rfl|rfl|rfl|rfl
    · rw [h3];exact .ptr 2 2 0 rfl
    · rw [h57];exact .sl 3 3 .str 0 dS rfl
    · rw [h58];exact .int _ _
    · rw [h59];exact .int _ _
  · have hg := hb p hp
    simp only [gG,List.mem_cons,List.not_mem_nil,or_false] at hp
    rcases hp with rfl|rfl|rfl|rfl|rfl|rfl|rfl|rfl
    · exact ⟨by omega,2,rfl,_,hg,.cons (.ptr 4 4 0 rfl) .nil⟩
    · exact ⟨by omega,3,rfl,.inl hg⟩
    · exact ⟨by omega,0,rfl,_,hg,.cons (.mp 1 1 rfl) .nil⟩
    · exact ⟨by omega,1,rfl,hg⟩
    · exact ⟨by omega,4,rfl,_,hg,.cons (.mp 5 5 rfl) (.cons (.mp 6 6 rfl) (.cons (.mp 7 7 rfl) (.cons (.mp 8 8 rfl) .nil)))⟩
    · exact ⟨by omega,5,rfl,hg⟩
    · exact ⟨by omega,7,rfl,hg⟩
    · exact ⟨by omega,8,rfl,hg⟩
def P66:qZ.T ⊕ uy.T→Ex→St→cS→Prop:=GRnd 6 2 I66 (fun x=>x.2.2.2.2.2.2.1) (uy.st 2) (fun b=>b.2.2.1)
theorem PD {dS : Nat} {v58 v59 : Int} {b3 : List ByteArray} {m1 : List (uz.den × Bool)} {m5 : List (ByteArray × uz.den)} {m6 : cS} {m7 m8 : bn} {env : Env} {nx : Nat} {bl : aq} (u : Unit) (hi : eV .i64 (v59 + 1) = true)
    (h3:get 3 env = .ptr 2 0) (h57:get 57 env = .sl 3 .str 0 dS) (h58:get 58 env = .int .i64 v58) (h59:get 59 env = .int .i64 v59) (hb:∀p∈gG b3 m1 m5 m7 m8,ax p.1 bl=some p.2) :
    gC prog 148 none 6 HA ⟨env,⟨nx,bl⟩,[]⟩ m6 (P66 (.inl (dS,v58,v59+1,b3,m1,m5,m6,m7,m8,u))):=by
  refine EP (env':=(59,.int .i64 (v59+1))::(97,.int .i64 (v59+1))::env) (Gc:=nx) (bT:=bl) (ms':=[]) mixed (fun _=>rfl) (fun base=>?_) ⟨rfl,rfl,List.range 9,rfl,aen h3 h57 h58 rfl hb⟩
  refine Eq.trans (b:=need (eV .i64 (v59+1)) (some (Ex.normal,(59,.int .i64 (v59+1))::(97,.int .i64 (v59+1))::env,nx,bl,[]))) ?_ (by rw [gA hi])
  have h1:V9 dY (.bin .add (.t 59) (.c (.int .i64 (Int.ofNat 1)))) env bl nx=some ([eV .i64 (v59+1)],.int .i64 (v59+1),[]):=by
    show (match (O.t 59).ev env,(O.c (V.int .i64 (Int.ofNat 1))).ev env with
      | .int k a,.int k' b=>_
      | .str a,.str b=>_
      |_,_=>_)=_
    rw [show (O.t 59).ev env = .int .i64 v59 from h59]
    rfl
  show (match V9 dY (.bin .add (.t 59) (.c (.int .i64 (Int.ofNat 1)))) env bl nx with
    |some (ob,v,u)=>_
    |none=>_)=_
  rw [h1]
  rfl
def JB (dS:Nat) (v58 v59:Int):Env:=(60,.tf true)::(60,.bool (decide (v59<v58)))::yQ dS v58 v59
def sM (dS:Nat) (v58 v59:Int) (id:ByteArray) (m:uz.den):Env :=
 (70,.int .i64 m.2.1)::(69,.ptr 9 1)::(10,.ptr 9 0)::(68,.agg [.str m.1,.int .i64 m.2.1,.str m.2.2.1,.str m.2.2.2.1,.int .i64 m.2.2.2.2])::(67,.str id)::(66,.mp 5)::(65,.ptr 4 0)::(64,.ptr 4 0)::(63,.ptr 4 0) ::
 (9,.str id)::(62,.str id)::(61,.ep 3 .str (0+Int.toNat v59) [])::JB dS v58 v59
/-- Up to the switch. -/
theorem yR {dS : Nat} {v58 v59 : Int} {b3 : List ByteArray} {m1 : List (uz.den × Bool)} {m5 : List (ByteArray × uz.den)} {m6 : cS} {m7 m8 : bn} {Q R : Ex → St → cS → Prop}
    (jh:ee v59 (dS:Int)=true) (eW:decide (0+Int.toNat v59<b3.length)=true) {id:ByteArray} {m:uz.den} (hid:id=b3.getD (0+Int.toNat v59) (bs [])) (hm:m=aA .str (bs [],(0:Int),bs [],bs [],(0:Int)) m5 id)
    (hin:gC prog 148 none 6 in66 ⟨sM dS v58 v59 id m,⟨10,(9,.cells [.str m.1,.int .i64 m.2.1,.str m.2.2.1,.str m.2.2.2.1,.int .i64 m.2.2.2.2] false)::gG b3 m1 m5 m7 m8⟩,[]⟩ m6 fun e S' es'=>e = .normal∧R .normal S' es')
    (h18:∀S' es',R .normal S' es'→gC prog 148 none 6 HA S' es' Q):gC prog 148 none 6 W3 ⟨JB dS v58 v59,⟨9,gG b3 m1 m5 m7 m8⟩,[]⟩ m6 Q:=by
  subst hm;subst hid
  refine Jm (Q1:=fun e S' es'=>e = .normal∧R .normal S' es') (fun _ _ h=>by cases h) (wk (Q1:=fun e S' es'=>e = .normal∧R .normal S' es') ?_ (fun _ _ h=>h) (fun i _ _ h=>by cases h.1) (fun _ _ h=>by cases h.1)) (fun S' es' hq=>h18 _ _ hq.2) (fun i S' es' hq=>by cases hq.1) (fun S' es' hq=>by cases hq.1)
  generalize hE3:((9,V.str (b3.getD (0+Int.toNat v59) (bs [])))::(62,V.str (b3.getD (0+Int.toNat v59) (bs [])))::(61,V.ep 3 .str (0+Int.toNat v59) [])::JB dS v58 v59:Env)=e3
  refine gj (env':=e3) (Gc:=9) (bT:=gG b3 m1 m5 m7 m8) (ms':=[]) mixed (fun base=>Eq.trans (b:=need (ee v59 (dS:Int)) (need (decide (0+Int.toNat v59<b3.length)) (some (Ex.normal,e3,9,gG b3 m1 m5 m7 m8,[])))) (by subst hE3;kernel_rfl) (by rw [gA jh,gA eW])) ?_
  subst hE3
  refine gj (Gc := 10) (ms' := []) (bT := (9, .cells [.str (aA .str (bs [], (0 : Int), bs [], bs [], (0 : Int)) m5 (b3.getD (0 + Int.toNat v59) (bs []))).1, .int .i64 (aA .str (bs [], (0 : Int), bs [], bs [], (0 : Int)) m5 (b3.getD (0 + Int.toNat v59) (bs []))).2.1, .str (aA .str (bs [], (0 : Int), bs [], bs [], (0 : Int)) m5 (b3.getD (0 + Int.toNat v59) (bs []))).2.2.1, .str (aA .str (bs [], (0 : Int), bs [], bs [], (0 : Int)) m5 (b3.getD (0 + Int.toNat v59) (bs []))).2.2.2.1, .int .i64 (aA .str (bs [], (0 : Int), bs [], bs [], (0 : Int)) m5 (b3.getD (0 + Int.toNat v59) (bs []))).2.2.2.2] false) :: gG b3 m1 m5 m7 m8)
    (env':=(sM dS v58 v59 (b3.getD (0+Int.toNat v59) (bs [])) (aA .str (bs [],(0:Int),bs [],bs [],(0:Int)) m5 (b3.getD (0+Int.toNat v59) (bs [])))).drop 2) mixed (fun base=>by kernel_rfl) ?_
  exact gj (Gc:=10) (ms':=[]) mixed (fun base=>by kernel_rfl) hin
theorem ZU:∀(x:qZ.T) (r:qZ.T ⊕ uy.T),ak (gH66_1 x)=some r→gC prog 148 none 6 c66 (I66 x) x.2.2.2.2.2.2.1 (P66 r):=by
  rintro ⟨dS,v58,v59,b3,m1,m5,m6,m7,m8,u⟩ r hr
  have hr:u9 (decide (v59<v58)) _ _=some r:=hr
  rcases iO hr with ⟨hlt,hr⟩|⟨hlt,hr⟩
  · obtain ⟨jh, hr⟩ := cU hr
    obtain ⟨eW,hr⟩:=cU hr
    refine gj (env':=(60,.bool (decide (v59<v58)))::yQ dS v58 v59) (Gc:=9) (bT:=gG b3 m1 m5 m7 m8) (ms':=[]) mixed (fun base=>by kernel_rfl) ?_
    refine Jm (Q1:=fun e S' es'=>e = .normal∧S'=⟨JB dS v58 v59,⟨9,gG b3 m1 m5 m7 m8⟩,[]⟩∧es'=m6) (fun _ _ h=>by cases h) (qW (t:=true) (by show V.bool _=_;rw [hlt]) (EP mixed (fun _=>rfl) (fun base=>by kernel_rfl) ⟨rfl,rfl,rfl⟩)) (fun S' es' hq=>?_) (fun i S' es' hq=>by cases hq.1) (fun S' es' hq=>by cases hq.1)
    obtain ⟨-,rfl,rfl⟩:=hq
    obtain ⟨id,hid⟩:∃id,id=b3.getD (0+Int.toNat v59) (bs []):=⟨_,rfl⟩
    obtain ⟨m,hm⟩:∃m,m=aA .str (bs [],(0:Int),bs [],bs [],(0:Int)) m5 id:=⟨_,rfl⟩
    rw [←hid,←hm] at hr
    have hr:u9 (m.2.1==3) _ _=some r:=hr
    rcases iO hr with ⟨h3,hr⟩|⟨h3,hr⟩
    · obtain ⟨hi, hr⟩ := cU hr
      cases hr
      refine yR (R:=fun _ S' FZ=>FZ=es'∧S'=⟨(78,.str m.2.2.1)::(77,.ptr 9 2)::(76,.mp 7)::(75,.ptr 4 2)::(74,.ptr 4 0)::(73,.ptr 4 0)::(71,.tf true)::(71,.bool (m.2.1==3))::(72,.bool (m.2.1==3))::sM dS v58 v59 id m,⟨17,(7,.map .str false .bool false (bp .str m7 m.2.2.1 true))::(9,.cells [.str m.1,.int .i64 m.2.1,.str m.2.2.1,.str m.2.2.2.1,.int .i64 m.2.2.2.2] false)::bE 7 (gG b3 m1 m5 m7 m8)⟩,[]⟩) jh eW hid hm ?_ ?_
      · refine wk (Q1 := fun e S' FZ => e = .normal ∧ (FZ = es' ∧ S' = _)) ?_ (fun _ _ h => h) (fun i _ _ h => by cases h.1) (fun _ _ h => by cases h.1)
        refine gj (env':=(71,.bool (m.2.1==3))::(72,.bool (m.2.1==3))::sM dS v58 v59 id m) (Gc:=10) (ms':=[]) (bT:=(9,.cells [.str m.1,.int .i64 m.2.1,.str m.2.2.1,.str m.2.2.2.1,.int .i64 m.2.2.2.2] false)::gG b3 m1 m5 m7 m8) mixed (fun base=>by kernel_rfl) ?_
        refine qW (t:=true) (by show V.bool _=_;rw [h3]) ?_
        exact EP mixed (fun _=>rfl) (fun base=>by kernel_rfl) ⟨rfl,rfl,rfl⟩
      · rintro S' FZ ⟨rfl, rfl⟩
        refine PD u hi rfl rfl rfl rfl fun p hp=>?_
        simp only [gG,List.mem_cons,List.not_mem_nil,or_false] at hp
        rcases hp with rfl|rfl|rfl|rfl|rfl|rfl|rfl|rfl<;>rfl
    · have hr : u9 (m.2.1 == 2) _ _ = some r := hr
      rcases iO hr with ⟨h2,hr⟩|⟨h2,hr⟩
      · obtain ⟨mw, hr⟩ := cU hr
        obtain ⟨hi,hr⟩:=cU hr
        cases hr
        refine yR (R:=fun _ S' FZ=>FZ=bp .str es' m.2.2.1 (aA .str [] es' m.2.2.1++[id])∧S'=⟨yQ dS v58 v59,⟨28,gG b3 m1 m5 m7 m8⟩,[]⟩) jh eW hid hm ?_ ?_
        · refine wk (Q1 := fun e S' FZ => e = .normal ∧ (FZ = _ ∧ S' = _)) ?_ (fun _ _ h => h) (fun i _ _ h => by cases h.1) (fun _ _ h => by cases h.1)
          refine gj (env':=(71,.bool (m.2.1==3))::(72,.bool (m.2.1==3))::sM dS v58 v59 id m) (Gc:=10) (ms':=[]) (bT:=(9,.cells [.str m.1,.int .i64 m.2.1,.str m.2.2.1,.str m.2.2.2.1,.int .i64 m.2.2.2.2] false)::gG b3 m1 m5 m7 m8) mixed (fun base=>by kernel_rfl) ?_
          refine qW (t:=false) (by show V.bool _=_;rw [h3]) ?_
          refine gj (env':=(79,.bool (m.2.1==2))::(80,.bool (m.2.1==2))::(71,.tf false)::(71,.bool (m.2.1==3))::(72,.bool (m.2.1==3))::sM dS v58 v59 id m) (Gc:=10) (ms':=[]) (bT:=(9,.cells [.str m.1,.int .i64 m.2.1,.str m.2.2.1,.str m.2.2.2.1,.int .i64 m.2.2.2.2] false)::gG b3 m1 m5 m7 m8) mixed (fun base=>by kernel_rfl) ?_
          refine qW (t:=true) (by show V.bool _=_;rw [h2]) ?_
          refine OU (OZ (c2:=2) (c4:=4) (c9:=9) (k:=m.2.2.1) (x:=id) (env':=yQ dS v58 v59) (bT:=gG b3 m1 m5 m7 m8) mixed rfl rfl rfl rfl rfl rfl (of_decide_eq_true mw) (fun i B hB=>?_) (fun t=>?_)) fun e S' FZ hq=>⟨hq.1,hq.2.2,hq.2.1⟩
          · have hm := dA hB
            simp only [gG,List.mem_cons,List.not_mem_nil,or_false,Prod.mk.injEq] at hm
            rcases hm with ⟨rfl,rfl⟩|⟨rfl,rfl⟩|⟨rfl,rfl⟩|⟨rfl,rfl⟩|⟨rfl,rfl⟩|⟨rfl,rfl⟩|⟨rfl,rfl⟩|⟨rfl,rfl⟩<;>rfl
          · by_cases ht : t = 3 ∨ t = 57 ∨ t = 58 ∨ t = 59
            · rcases ht with rfl|rfl|rfl|rfl<;>exact .inr ⟨rfl,by omega⟩
            · refine .inl (get_none ?_)
              simp only [yQ,List.map_cons,List.map_nil,List.mem_cons,List.not_mem_nil,or_false]
              omega
        · rintro S' FZ ⟨rfl, rfl⟩
          refine PD u hi rfl rfl rfl rfl fun p hp=>?_
          simp only [gG,List.mem_cons,List.not_mem_nil,or_false] at hp
          rcases hp with rfl|rfl|rfl|rfl|rfl|rfl|rfl|rfl<;>rfl
      · obtain ⟨hi, hr⟩ := cU hr
        cases hr
        refine yR (R:=fun _ S' FZ=>FZ=es'∧S'=⟨(79,.tf false)::(79,.bool (m.2.1==2))::(80,.bool (m.2.1==2))::(71,.tf false)::(71,.bool (m.2.1==3))::(72,.bool (m.2.1==3))::sM dS v58 v59 id m,⟨10,(9,.cells [.str m.1,.int .i64 m.2.1,.str m.2.2.1,.str m.2.2.2.1,.int .i64 m.2.2.2.2] false)::gG b3 m1 m5 m7 m8⟩,[]⟩) jh eW hid hm ?_ ?_
        · refine wk (Q1 := fun e S' FZ => e = .normal ∧ (FZ = es' ∧ S' = _)) ?_ (fun _ _ h => h) (fun i _ _ h => by cases h.1) (fun _ _ h => by cases h.1)
          refine gj (env':=(71,.bool (m.2.1==3))::(72,.bool (m.2.1==3))::sM dS v58 v59 id m) (Gc:=10) (ms':=[]) (bT:=(9,.cells [.str m.1,.int .i64 m.2.1,.str m.2.2.1,.str m.2.2.2.1,.int .i64 m.2.2.2.2] false)::gG b3 m1 m5 m7 m8) mixed (fun base=>by kernel_rfl) ?_
          refine qW (t:=false) (by show V.bool _=_;rw [h3]) ?_
          refine gj (env':=(79,.bool (m.2.1==2))::(80,.bool (m.2.1==2))::(71,.tf false)::(71,.bool (m.2.1==3))::(72,.bool (m.2.1==3))::sM dS v58 v59 id m) (Gc:=10) (ms':=[]) (bT:=(9,.cells [.str m.1,.int .i64 m.2.1,.str m.2.2.1,.str m.2.2.2.1,.int .i64 m.2.2.2.2] false)::gG b3 m1 m5 m7 m8) mixed (fun base=>by kernel_rfl) ?_
          refine qW (t:=false) (by show V.bool _=_;rw [h2]) ?_
          exact EP mixed (fun _=>rfl) (fun base=>by kernel_rfl) ⟨rfl,rfl,rfl⟩
        · rintro S' FZ ⟨rfl, rfl⟩
          refine PD u hi rfl rfl rfl rfl fun p hp=>?_
          simp only [gG,List.mem_cons,List.not_mem_nil,or_false] at hp
          rcases hp with rfl|rfl|rfl|rfl|rfl|rfl|rfl|rfl<;>rfl
  · cases hr
    refine gj (env':=(60,.bool (decide (v59<v58)))::yQ dS v58 v59) (Gc:=9) (bT:=gG b3 m1 m5 m7 m8) (ms':=[]) mixed (fun base=>by kernel_rfl) ?_
    refine Jm (Q1:=fun e S' es'=>e = .exit 2∧S'=⟨(60,.tf false)::(60,.bool (decide (v59<v58)))::yQ dS v58 v59,⟨9,gG b3 m1 m5 m7 m8⟩,[]⟩∧es'=m6) (fun _ _ h=>by cases h) (qW (t:=false) (by show V.bool _=_;rw [hlt]) ?_) (fun S' es' hq=>by cases hq.1) (fun i S' es' hq=>?_) (fun S' es' hq=>by cases hq.1)
    · exact EP mixed (fun _=>rfl) (fun base=>by kernel_rfl) ⟨rfl,rfl,rfl⟩
    · obtain ⟨h1, rfl, rfl⟩ := hq
      cases h1
      refine ⟨by simp,rfl,by show 6<9;omega,rfl,?_⟩
      obtain ⟨b',π,h1,h2,h3⟩:=bf.dL (base:=2) (xs:=uy) (e:=.exit 2) (k:=fun x=>some x) (r:=(m1,m5,es',m7,m8,u)) (env:=(60,.tf false)::(60,.bool (decide (v59<v58)))::yQ dS v58 v59) (nx:=9) (bl:=(6,.map .str false (.list .str) false es')::bE 6 (gG b3 m1 m5 m7 m8)) (ms:=[]) (by kernel_rfl)
      cases h1
      exact ⟨π,h3⟩
noncomputable def ZV:bQ prog 148 none 2 where
  c:=(ZS).er
  run kz env nx bl ms K:=qZ.rd kz.no [0,1] 2 env nx bl ms fun x=>kz.nd x.2.2.2.2.2.2.1.isEmpty (kz.bd (iter (fun x=>ak (gH66_1 x)) x) fun b=>uy.go kz 2 b K)
  ok:=by
    intro X env nx bl ms K r h Q hQ
    obtain ⟨x,π,h1,h2⟩:=az.dL (base:=2) (show az.rd none (List.range 2) 2 qZ _ _ _ _ _=some r from h)
    obtain ⟨hemp,h1⟩:=cU h1
    obtain ⟨b,h3,h4⟩:=pU h1
    have h5:=bf.A4 h4
    intro body hbody Y ι μ a w ho hb hR
    have rF:=h2.rep hb hR
    obtain ⟨dS,v58,v59,b3,m1,m5,m6,m7,m8,u⟩:=x
    have hm:m6=[]:=List.isEmpty_iff.1 hemp
    subst hm
    have rE:∀id B,ax id (gG b3 m1 m5 m7 m8)=some B→ax id (qZ.st 2 (dS,v58,v59,b3,m1,m5,[],m7,m8,u)).H.bl=some B∧id≠6:=by
      intro id B hB
      have hm:=dA hB
      simp only [gG,List.mem_cons,List.not_mem_nil,or_false,Prod.mk.injEq] at hm
      rcases hm with ⟨rfl,rfl⟩|⟨rfl,rfl⟩|⟨rfl,rfl⟩|⟨rfl,rfl⟩|⟨rfl,rfl⟩|⟨rfl,rfl⟩|⟨rfl,rfl⟩|⟨rfl,rfl⟩<;>exact ⟨rfl,by omega⟩
    obtain ⟨hI,hG⟩:=S9 (gi:=6) (bT:=gG b3 m1 m5 m7 m8) rF.inv rfl rE
    exact Y9 (I:=I66) (ES:=fun x=>x.2.2.2.2.2.2.1) (X:=uy.st 2) (nb:=fun b=>b.2.2.1) (c:=c66) ZU h3 (hQ _ _ _ _ _ h5) (by rw [hbody];kernel_rfl) ho hb ⟨rF.env,rF.sz,hI,rF.ms⟩ hG
@[reducible] def Lz:az:=az.mk [(3,.c (.ptr 2 0)),(11,.c (.ptr 3 0)),(16,.c (.Rw 10 .str)),(102,.c (.mp 5)),(103,.c (.ptr 9 0)),(121,.c (.ptr 11 1)),(122,hI),(123,.c (.hole .bool)),(132,.c (.hole (.list .str))),(133,hI),(134,hI)] [(2,.cells [.ptr 4 0] false),(3,.cells [.fn 96 .nil (.cons (.ptr 2 0) (.cons (.ptr 3 0) .nil))] false),(10,.arr .str false),(5,.map .str false (.list .str) false),(11,.cells [.hole .str,.hole tI,.hole .str,.hole .str,.hole tI] false),(4,.cells [.mp 6,.mp 5,.mp 7,.mp 8] false),(6,.map .str false tG true),(7,.map .str false .bool false),(8,.map .str false .bool false),(0,.cells [.mp 1] false),(1,.map tG true .bool false)] [.slot 16,.slot 121] []
@[reducible] def LA:bf:=[(.exit 7,az.mk [(3,.c (.ptr 2 0)),(11,.c (.ptr 3 0)),(102,.c (.mp 5)),(103,.c (.ptr 9 0)),(121,.c (.ptr 10 1)),(122,hI),(123,.c (.hole .bool))] [(2,.cells [.ptr 4 0] false),(3,.cells [.fn 96 .nil (.cons (.ptr 2 0) (.cons (.ptr 3 0) .nil))] false),(5,.map .str false (.list .str) false),(10,.cells [.hole .str,.hole tI,.hole .str,.hole .str,.hole tI] false),(4,.cells [.mp 6,.mp 5,.mp 7,.mp 8] false),(6,.map .str false tG true),(7,.map .str false .bool false),(8,.map .str false .bool false),(0,.cells [.mp 1] false),(1,.map tG true .bool false)] [.slot 121] [])]
noncomputable def LB:D prog 148 none 10:=dO [] (pick (kd prog f66) [(2,false),(0,false)]) 0
noncomputable def gH66_2b_3:Nat×Nat×Int×Bool×List ByteArray×Int×Int×List ByteArray×cS×ByteArray×Int×ByteArray×ByteArray×Int×cQ×bn×bn×(List ((GG)×Bool))×Unit→bU ((Nat×Nat×Int×Bool×List ByteArray×Int×Int×List ByteArray×cS×ByteArray×Int×ByteArray×ByteArray×Int×cQ×bn×bn×(List ((GG)×Bool))×Unit) ⊕ ((Int×Bool×cS×ByteArray×Int×ByteArray×ByteArray×Int×cQ×bn×bn×(List ((GG)×Bool))×Unit))):=fun (T6,ZW,E0,E1,PE,ZX,E2,RA,m5,PF,PG,PI,PJ,PK,m6,m7,m8,m1,_) =>
 .br (decide (E2<ZX)) (
 .nb E2 (((PE).length:Nat):Int) <|
 .nb (0:Int) ((ZW:Nat):Int) <|
 .nd (decide ((T6+(Int.toNat (0:Int)))<(RA).length)) <|
 .br (!(seq ((PE).getD (Int.toNat E2) (bs [])) ((RA).getD (T6+(Int.toNat (0:Int))) (bs [])))) (
 .bd (FH96fix ((PE).getD (Int.toNat E2) (bs [])) m6 m5 m7 m8) fun y7 =>
 .ni (E2+(1:Int)) <|
 .ret (.inl (T6,ZW,E0,E1,PE,ZX,(E2+(1:Int)),RA,y7.2.1,PF,PG,PI,PJ,PK,y7.1,y7.2.2.1,y7.2.2.2.1,m1,()))) (
 .ni (E2+(1:Int)) <|
 .ret (.inl (T6,ZW,E0,E1,PE,ZX,(E2+(1:Int)),RA,m5,PF,PG,PI,PJ,PK,m6,m7,m8,m1,())))) (
 .ret (.inr (E0,E1,m5,PF,PG,PI,PJ,PK,m6,m7,m8,m1,())))
noncomputable def LC:bQ prog 148 none 10:=bx mixed JA sL [0,1,2,3,4,5,6,7,8,9] rfl Lz LA rfl (LB) (fun x=>ak (gH66_2b_3 x)) (fun x=>by kernel_rfl)
@[reducible] def ZY:az:=az.mk [(3,.c (.ptr 2 0)),(11,.c (.ptr 3 0)),(102,.c (.mp 5))] [(2,.cells [.ptr 4 0] false),(3,.cells [.fn 96 .nil (.cons (.ptr 2 0) (.cons (.ptr 3 0) .nil))] false),(4,.cells [.mp 6,.mp 5,.mp 7,.mp 8] false),(5,.map .str false (.list .str) false),(0,.cells [.mp 1] false),(1,.map tG true .bool false),(6,.map .str false tG true),(7,.map .str false .bool false),(8,.map .str false .bool false)] [.slot 3,.slot 11,.cell 2 0,.cell 4 1,.cell 4 0,.cell 4 2,.cell 4 3] []
noncomputable def ZZ:D prog 148 none 10:=dO [.l LC] (pick (kd prog f66) [(2,false)]) 0
noncomputable def gH66_2:((ByteArray)×(List ByteArray))→cS×(List ((GG)×Bool))×cQ×bn×bn×Unit→bU (cS×(List ((GG)×Bool))×cQ×bn×bn×Unit):=fun e (m5,m1,m6,m7,m8,_) =>
 .br (!(aQ .str m6 e.1)) (
 .nd (jS m5 m5) <|
 .ret (m5,m1,m6,m7,m8,())) (
 .br ((aA .str ((bs []),(0:Int),(bs []),(bs []),(0:Int)) m6 e.1).2.1==(3:Int)) (
 .nd (jS m5 m5) <|
 .ret (m5,m1,m6,m7,m8,())) (
 .bd (FH98 e.2) fun y5 =>
 .bd (FH97 y5.1 y5.2.1 m6 m5 m7 m8) fun y6 =>
 .br (!(((y6.2.1:Nat):Int)==(1:Int))) (
 .nd (jS y6.2.2.2.2.1 m5) <|
 .ret (y6.2.2.2.2.1,m1,y6.2.2.2.1,y6.2.2.2.2.2.1,y6.2.2.2.2.2.2.1,())) (
 .bd (.it gH66_2b_3 (y6.1,y6.2.1,(aA .str ((bs []),(0:Int),(bs []),(bs []),(0:Int)) m6 e.1).2.1,((aA .str ((bs []),(0:Int),(bs []),(bs []),(0:Int)) m6 e.1).2.1==(3:Int)),e.2,(((e.2).length:Nat):Int),(0:Int),y6.2.2.1,y6.2.2.2.2.1,(aA .str ((bs []),(0:Int),(bs []),(bs []),(0:Int)) m6 e.1).1,(aA .str ((bs []),(0:Int),(bs []),(bs []),(0:Int)) m6 e.1).2.1,(aA .str ((bs []),(0:Int),(bs []),(bs []),(0:Int)) m6 e.1).2.2.1,(aA .str ((bs []),(0:Int),(bs []),(bs []),(0:Int)) m6 e.1).2.2.2.1,(aA .str ((bs []),(0:Int),(bs []),(bs []),(0:Int)) m6 e.1).2.2.2.2,y6.2.2.2.1,y6.2.2.2.2.2.1,y6.2.2.2.2.2.2.1,m1,())) fun z8 =>
 .nd (jS z8.2.2.1 m5) <|
 .ret (z8.2.2.1,z8.2.2.2.2.2.2.2.2.2.2.2.1,z8.2.2.2.2.2.2.2.2.1,z8.2.2.2.2.2.2.2.2.2.1,z8.2.2.2.2.2.2.2.2.2.2.1,()))))
noncomputable def Z0:sg prog 148 none 2:=CD mixed JA sL [0,1] rfl ZY ( [.op (some 99) none (.load false 1 (.t 3)),.op (some 100) none (.ex gH.ja [.t 99]),.op (some 101) none (.nu 1 [true,false] (.t 100)),.op (some 102) none (.load false 1 (.t 101))]) 102 103 [104,105] (some 106) ( .str)  false ( .list .str)  false 5 rfl 10 rfl (ZZ) (fun e x=>ak (gH66_2 e x)) (fun e=>fun x=>by kernel_rfl)
noncomputable def W4:D prog 148 none 2:=dO [.l ZR,.l ZV,.m Z0] (kd prog f66) 0
noncomputable def FH66 (m1:List ((GG)×Bool)):bU ((List ((GG)×Bool))×cQ×cS×bn×bn×Unit) :=
 .bd (FH47 m1) fun y0 =>
 .bd (.it gH66_0 (y0.1,((y0.1:Nat):Int),(0:Int),y0.2.1,y0.2.2.1,[],[],[],[],())) fun z1 =>
 .bd (FH95 z1.2.1) fun y2 =>
 .bd (FH81 y2.1) fun y3 =>
 .nd (z1.2.2.1).isEmpty <|
 .bd (.it gH66_1 (y3.1,((y3.1:Nat):Int),(0:Int),y3.2.1,z1.1,y3.2.2.1,z1.2.2.1,z1.2.2.2.1,z1.2.2.2.2.1,())) fun z4 =>
 .bd (.mq gH66_2 z4.2.2.1 (z4.2.2.1,z4.1,z4.2.1,z4.2.2.2.1,z4.2.2.2.2.1,())) fun z9 =>
 .ret (z9.2.1,z9.2.2.1,z9.1,z9.2.2.2.1,z9.2.2.2.2.1,())
theorem T7:cM prog f66=some ⟨148,1,W4.er,[.t 2],[none]⟩:=by kernel_rfl
noncomputable def E3:Ht:=⟨66,pH66,qH66,(fun x=>ak (FH66 x.1))⟩
theorem sN:E3.Ok prog:=bW mixed sL rfl func66 T7 (enters_of func66 rfl rfl) W4 (by kernel_rfl) rfl rfl ⟨_,rfl⟩ rfl (pre:=[0,1]) rfl (fun x=>by kernel_rfl)

/- 123, lent -/
@[reducible] def aeo:az:=az.mk [(0,.c (.hole .str)),(1,.c (.ptr 0 0))] [(0,.cells [.ptr 1 0] false),(1,.cells [.mp 2,.mp 3,.mp 4,.mp 5] false),(2,.map .str false tG true),(3,.map .str false (.list .str) false),(4,.map .str false .bool false),(5,.map .str false .bool false)] [.slot 1,.cell 0 0,.cell 1 0,.cell 1 1,.cell 1 2,.cell 1 3] []
@[reducible] def aep:az:=az.mk [(0,.c (.hole .bool))] [(0,.cells [.ptr 1 0] false),(1,.cells [.mp 2,.mp 3,.mp 4,.mp 5] false),(2,.map .str false tG true),(3,.map .str false (.list .str) false),(4,.map .str false .bool false),(5,.map .str false .bool false)] [] []
noncomputable def Z1:Cx:=(aN [] [])
theorem LD:Z1.Ok prog:=av trivial trivial
noncomputable def PL:D prog 10 none 6:=dO [] (kd prog f123) 0
noncomputable def FH123 (v0:ByteArray) (m2:cQ) (m3:cS) (m4:bn) (m5:bn):bU (Bool×cQ×cS×bn×bn×Unit) :=
 .ret ((aA .str false m5 v0),m2,m3,m4,m5,())
theorem PM:cM prog f123=some ⟨10,2,PL.er,[.t 3],[some .bool]⟩:=by kernel_rfl
noncomputable def PN:Ht:=⟨123,aeo,aep,(fun x=>ak (FH123 x.1 x.2.1 x.2.2.1 x.2.2.2.1 x.2.2.2.2.1))⟩
theorem E4:PN.Ok prog:=bW mixed LD rfl func123 PM (enters_of func123 rfl rfl) PL (by kernel_rfl) rfl rfl ⟨_,rfl⟩ rfl (pre:=[0,1,2,3,4,5]) rfl (fun x=>by kernel_rfl)

/- 119, lent -/
@[reducible] def PO:az:=az.mk [(0,.c (.cn 0 .str)),(1,.fn 123 [] [.ptr 1 0])] [(0,.arr .str false),(1,.cells [.ptr 2 0] false),(2,.cells [.mp 3,.mp 4,.mp 5,.mp 6] false),(3,.map .str false tG true),(4,.map .str false (.list .str) false),(5,.map .str false .bool false),(6,.map .str false .bool false)] [.slot 0,.part 1 0,.cell 1 0,.cell 2 0,.cell 2 1,.cell 2 2,.cell 2 3] []
@[reducible] def PR:az:=az.mk [(0,hI)] [(1,.cells [.ptr 2 0] false),(2,.cells [.mp 3,.mp 4,.mp 5,.mp 6] false),(3,.map .str false tG true),(4,.map .str false (.list .str) false),(5,.map .str false .bool false),(6,.map .str false .bool false),(0,.arr .str false)] [] []
noncomputable def Bn:Cx:=(aN [] [PN])
theorem sP:Bn.Ok prog:=av trivial ⟨⟨E4,rfl⟩,trivial⟩
@[reducible] def HB:az:=az.mk [(0,.c (.cn 0 .str)),(1,.fn 123 [] [.ptr 1 0]),(7,hI),(8,hI)] [(0,.arr .str false),(1,.cells [.ptr 2 0] false),(2,.cells [.mp 3,.mp 4,.mp 5,.mp 6] false),(3,.map .str false tG true),(4,.map .str false (.list .str) false),(5,.map .str false .bool false),(6,.map .str false .bool false)] [] []
@[reducible] def HC:bf:=[(.ret,az.mk [(4,hI)] [(1,.cells [.ptr 2 0] false),(2,.cells [.mp 3,.mp 4,.mp 5,.mp 6] false),(3,.map .str false tG true),(4,.map .str false (.list .str) false),(5,.map .str false .bool false),(6,.map .str false .bool false),(0,.arr .str false)] [] []),(.exit 0,az.mk [] [(1,.cells [.ptr 2 0] false),(2,.cells [.mp 3,.mp 4,.mp 5,.mp 6] false),(3,.map .str false tG true),(4,.map .str false (.list .str) false),(5,.map .str false .bool false),(6,.map .str false .bool false),(0,.arr .str false)] [] [])]
noncomputable def HD:D prog 19 none 7:=dO [] (pick (kd prog f119) [(0,false)]) 0
noncomputable def gH119_v1_0:Nat×Int×Int×List ByteArray×cQ×cS×bn×bn×Unit→bU ((Nat×Int×Int×List ByteArray×cQ×cS×bn×bn×Unit) ⊕ ((Int×cQ×cS×bn×bn×List ByteArray×Unit) ⊕ ((cQ×cS×bn×bn×List ByteArray×Unit)))):=fun (lR,v7,v8,b0,m3,m4,m5,m6,_) =>
 .br (decide (v8<v7)) (
 .nb v8 ((lR:Nat):Int) <|
 .nd (decide (((0:Nat)+(Int.toNat v8))<(b0).length)) <|
 .bd (FH123 ((b0).getD ((0:Nat)+(Int.toNat v8)) (bs [])) m3 m4 m5 m6) fun y0 =>
 .br y0.1 (
 .ret (.inr <| .inl<|(v8,y0.2.1,y0.2.2.1,y0.2.2.2.1,y0.2.2.2.2.1,b0,()))) (
 .ni (v8+(1:Int)) <|
 .ret (.inl (lR,v7,(v8+(1:Int)),b0,y0.2.1,y0.2.2.1,y0.2.2.2.1,y0.2.2.2.2.1,())))) (
 .ret (.inr <| .inr<|(m3,m4,m5,m6,b0,())))
noncomputable def HE:bQ prog 19 none 7:=bx mixed Bn sP [0,1,2,3,4,5,6] rfl HB HC rfl (HD) (fun x=>ak (gH119_v1_0 x)) (fun x=>by kernel_rfl)
noncomputable def Bo:D prog 19 none 7:=dO [.l HE] (kd prog f119) 0
noncomputable def FH119_v1 (lR:Nat) (b0:List ByteArray) (m3:cQ) (m4:cS) (m5:bn) (m6:bn):bU (Int×cQ×cS×bn×bn×List ByteArray×Unit) :=
 .bd (.it gH119_v1_0 (lR,((lR:Nat):Int),(0:Int),b0,m3,m4,m5,m6,())) fun z1 =>
 .sm z1 (fun z2 =>
 .ret (z2.1,z2.2.1,z2.2.2.1,z2.2.2.2.1,z2.2.2.2.2.1,z2.2.2.2.2.2.1,())) fun z3 =>
 .ret ((-1:Int),z3.1,z3.2.1,z3.2.2.1,z3.2.2.2.1,z3.2.2.2.2.1,())
theorem E5:cM prog f119=some ⟨19,2,Bo.er,[.t 4],[some tI]⟩:=by kernel_rfl
noncomputable def E6:Ht:=⟨119,PO,PR,(fun x=>ak (FH119_v1 x.1 x.2.1 x.2.2.1 x.2.2.2.1 x.2.2.2.2.1 x.2.2.2.2.2.1))⟩
theorem E7:E6.Ok prog:=bW mixed sP rfl func119 E5 (enters_of func119 rfl rfl) Bo (by kernel_rfl) rfl rfl ⟨_,rfl⟩ rfl (pre:=[0,1,2,3,4,5,6]) rfl (fun x=>by kernel_rfl)

/- 97, lent -/
@[reducible] def T8:az:=az.mk [(0,.c (.cn 0 .str)),(1,.fn 123 [] [.ptr 1 0])] [(0,.arr .str false),(1,.cells [.ptr 2 0] false),(2,.cells [.mp 3,.mp 4,.mp 5,.mp 6] false),(3,.map .str false tG true),(4,.map .str false (.list .str) false),(5,.map .str false .bool false),(6,.map .str false .bool false)] [.slot 0,.part 1 0,.cell 1 0,.cell 2 0,.cell 2 1,.cell 2 2,.cell 2 3] []
@[reducible] def T9:az:=az.mk [(0,.c (.Rw 0 .str))] [(0,.arr .str false),(1,.cells [.ptr 2 0] false),(2,.cells [.mp 3,.mp 4,.mp 5,.mp 6] false),(3,.map .str false tG true),(4,.map .str false (.list .str) false),(5,.map .str false .bool false),(6,.map .str false .bool false)] [] []
noncomputable def E8:Cx:=(aN [] [E6,PN])
theorem vj:E8.Ok prog:=av trivial ⟨⟨E7,rfl⟩,⟨E4,rfl⟩,trivial⟩
@[reducible] def LF:az:=az.mk [(0,.c (.cn 0 .str)),(1,.fn 123 [] [.ptr 1 0]),(5,hI),(6,hI)] [(0,.arr .str false),(1,.cells [.ptr 2 0] false),(2,.cells [.mp 3,.mp 4,.mp 5,.mp 6] false),(3,.map .str false tG true),(4,.map .str false (.list .str) false),(5,.map .str false .bool false),(6,.map .str false .bool false)] [] []
@[reducible] def LG:bf:=[(.exit 0,az.mk [(0,.c (.cn 0 .str)),(5,hI)] [(0,.arr .str false),(1,.cells [.ptr 2 0] false),(2,.cells [.mp 3,.mp 4,.mp 5,.mp 6] false),(3,.map .str false tG true),(4,.map .str false (.list .str) false),(5,.map .str false .bool false),(6,.map .str false .bool false)] [] [])]
noncomputable def LH:D prog 42 none 7:=dO [] (pick (kd prog f97) [(0,false)]) 0
noncomputable def gH97_v1_0:Nat×Int×Int×List ByteArray×cQ×cS×bn×bn×Unit→bU ((Nat×Int×Int×List ByteArray×cQ×cS×bn×bn×Unit) ⊕ ((Nat×Int×List ByteArray×cQ×cS×bn×bn×Unit))):=fun (lR,v5,v6,b0,m3,m4,m5,m6,_) =>
 .br (decide (v6<((lR:Nat):Int))) (
 .nb v6 ((lR:Nat):Int) <|
 .nd (decide (((0:Nat)+(Int.toNat v6))<(b0).length)) <|
 .bd (FH123 ((b0).getD ((0:Nat)+(Int.toNat v6)) (bs [])) m3 m4 m5 m6) fun y1 =>
 .br (!y1.1) (
 .nb v5 ((lR:Nat):Int) <|
 .nd (decide (((0:Nat)+(Int.toNat v5))<(b0).length)) <|
 .ni (v5+(1:Int)) <|
 .ni (v6+(1:Int)) <|
 .ret (.inl (lR,(v5+(1:Int)),(v6+(1:Int)),((b0).set ((0:Nat)+(Int.toNat v5)) ((b0).getD ((0:Nat)+(Int.toNat v6)) (bs []))),y1.2.1,y1.2.2.1,y1.2.2.2.1,y1.2.2.2.2.1,()))) (
 .ni (v6+(1:Int)) <|
 .ret (.inl (lR,v5,(v6+(1:Int)),b0,y1.2.1,y1.2.2.1,y1.2.2.2.1,y1.2.2.2.2.1,())))) (
 .ret (.inr (lR,v5,b0,m3,m4,m5,m6,())))
noncomputable def LI:bQ prog 42 none 7:=bx mixed E8 vj [0,1,2,3,4,5,6] rfl LF LG rfl (LH) (fun x=>ak (gH97_v1_0 x)) (fun x=>by kernel_rfl)
noncomputable def E9:D prog 42 none 7:=dO [.l LI] (kd prog f97) 0
noncomputable def FH97_v1 (lR:Nat) (b0:List ByteArray) (m3:cQ) (m4:cS) (m5:bn) (m6:bn):bU (Nat×Nat×List ByteArray×cQ×cS×bn×bn×Unit) :=
 .bd (FH119_v1 lR b0 m3 m4 m5 m6) fun y0 =>
 .br (y0.1==(-1:Int)) (
 .ret ((0:Nat),lR,y0.2.2.2.2.2.1,y0.2.1,y0.2.2.1,y0.2.2.2.1,y0.2.2.2.2.1,())) (
 .ni (y0.1+(1:Int)) <|
 .bd (.it gH97_v1_0 (lR,y0.1,(y0.1+(1:Int)),y0.2.2.2.2.2.1,y0.2.1,y0.2.2.1,y0.2.2.2.1,y0.2.2.2.2.1,())) fun z2 =>
 .nd (decide ((0:Int)≤z2.2.1)) <|
 .nd (decide (z2.2.1≤((z2.1:Nat):Int))) <|
 .nd (decide (((z2.1:Nat):Int)≤((z2.1:Nat):Int))) <|
 .nd (decide ((0:Int)≤(0:Int))) <|
 .nd (decide ((0:Int)≤z2.2.1)) <|
 .nd (decide (z2.2.1≤((z2.1:Nat):Int))) <|
 .ret (((0:Nat)+(Int.toNat (0:Int))),((Int.toNat z2.2.1) - (Int.toNat (0:Int))),(BE (bs []) z2.2.2.1 ((0:Nat)+(Int.toNat z2.2.1)) ((Int.toNat ((z2.1:Nat):Int)) - (Int.toNat z2.2.1))),z2.2.2.2.1,z2.2.2.2.2.1,z2.2.2.2.2.2.1,z2.2.2.2.2.2.2.1,()))
theorem HF:cM prog f97=some ⟨42,2,E9.er,[.t 4],[some (.list .str)]⟩:=by kernel_rfl
noncomputable def JC:Ht:=⟨97,T8,T9,(fun x=>ak (FH97_v1 x.1 x.2.1 x.2.2.1 x.2.2.2.1 x.2.2.2.2.1 x.2.2.2.2.2.1))⟩
theorem HG:JC.Ok prog:=bW mixed vj rfl func97 HF (enters_of func97 rfl rfl) E9 (by kernel_rfl) rfl rfl ⟨_,rfl⟩ rfl (pre:=[0,1,2,3,4,5,6]) rfl (fun x=>by kernel_rfl)

/- 104, lent -/
@[reducible] def aeq:az:=az.mk [(0,.c (.ptr 0 0)),(1,.c (.hole .str))] [(0,.cells [.mp 1,.mp 2,.mp 3,.mp 4] false),(1,.map .str false tG true),(2,.map .str false (.list .str) false),(3,.map .str false .bool false),(4,.map .str false .bool false)] [.slot 0,.cell 0 0,.cell 0 1,.cell 0 2,.cell 0 3] []
@[reducible] def aer:az:=az.mk [(0,.c (.Rw 5 .str))] [(5,.arr .str false),(0,.cells [.mp 1,.mp 2,.mp 3,.mp 4] false),(1,.map .str false tG true),(2,.map .str false (.list .str) false),(3,.map .str false .bool false),(4,.map .str false .bool false)] [.slot 0] []
noncomputable def Z2:Cx:=(aN [] [ZF,JC])
theorem LJ:Z2.Ok prog:=av trivial ⟨⟨Jy,rfl⟩,⟨HG,rfl⟩,trivial⟩
noncomputable def PS:D prog 14 none 5:=dO [] (kd prog f104) 0
noncomputable def FH104 (v1:ByteArray) (m1:cQ) (m2:cS) (m3:bn) (m4:bn):bU (Nat×Nat×List ByteArray×cQ×cS×bn×bn×Unit) :=
 .bd (FH98 (aA .str [] m2 v1)) fun y0 =>
 .bd (FH97_v1 y0.1 y0.2.1 m1 m2 m3 m4) fun y1 =>
 .ret (y1.1,y1.2.1,y1.2.2.1,y1.2.2.2.1,y1.2.2.2.2.1,y1.2.2.2.2.2.1,y1.2.2.2.2.2.2.1,())
theorem PT:cM prog f104=some ⟨14,2,PS.er,[.t 4],[some (.list .str)]⟩:=by kernel_rfl
noncomputable def W5:Ht:=⟨104,aeq,aer,(fun x=>ak (FH104 x.1 x.2.1 x.2.2.1 x.2.2.2.1 x.2.2.2.2.1))⟩
theorem PU:W5.Ok prog:=bW mixed LJ rfl func104 PT (enters_of func104 rfl rfl) PS (by kernel_rfl) rfl rfl ⟨_,rfl⟩ rfl (pre:=[0,1,2,3,4]) rfl (fun x=>by kernel_rfl)

/- 76, lent -/
@[reducible] def lg:az:=az.mk [(0,.c (.ptr 0 0)),(1,.c (.hole .str))] [(0,.cells [.mp 1,.mp 2,.mp 3,.mp 4] false),(1,.map .str false tG true),(2,.map .str false (.list .str) false),(3,.map .str false .bool false),(4,.map .str false .bool false)] [.slot 0,.cell 0 0,.cell 0 1,.cell 0 2,.cell 0 3] []
@[reducible] def lp:az:=az.mk [(0,.c (.cn 5 .str))] [(5,.arr .str false),(0,.cells [.mp 1,.mp 2,.mp 3,.mp 4] false),(1,.map .str false tG true),(2,.map .str false (.list .str) false),(3,.map .str false .bool false),(4,.map .str false .bool false)] [.slot 0] []
noncomputable def PV (rec:lg.T→Option lp.T):Cx:=(aN [] [W5,⟨76,lg,lp,rec⟩,Bk])
theorem Fa (rec:lg.T→Option lp.T) (h:Ht.Ok prog ⟨76,lg,lp,rec⟩):(PV rec).Ok prog:=av trivial ⟨⟨PU,rfl⟩,⟨h,rfl⟩,⟨yN,rfl⟩,trivial⟩
@[reducible] def HH:az:=az.mk [(0,.c (.ptr 0 0)),(6,.c (.cn 5 .str)),(17,.c (.Rw 6 .str)),(18,hI),(19,hI)] [(0,.cells [.mp 1,.mp 2,.mp 3,.mp 4] false),(5,.arr .str false),(6,.arr .str false),(1,.map .str false tG true),(2,.map .str false (.list .str) false),(3,.map .str false .bool false),(4,.map .str false .bool false)] [.slot 6,.slot 17] []
@[reducible] def HI:bf:=[(.exit 0,az.mk [(6,.c (.cn 5 .str))] [(5,.arr .str false),(0,.cells [.mp 1,.mp 2,.mp 3,.mp 4] false),(1,.map .str false tG true),(2,.map .str false (.list .str) false),(3,.map .str false .bool false),(4,.map .str false .bool false)] [.slot 6] [])]
noncomputable def PW (rec:lg.T→Option lp.T) (h:Ht.Ok prog ⟨76,lg,lp,rec⟩):D prog 32 none 5:=dO [] (pick (kd prog f76) [(0,false)]) 0
noncomputable def gH76_0:Nat×Nat×Nat×Int×Int×List ByteArray×List ByteArray×cQ×cS×bn×bn×Unit→Tr lg.T lp.T ((Nat×Nat×Nat×Int×Int×List ByteArray×List ByteArray×cQ×cS×bn×bn×Unit) ⊕ ((Nat×List ByteArray×cQ×cS×bn×bn×Unit))):=fun (Ua,Z3,nv17,LK,HJ,b5,b6,m1,m2,m3,m4,_) =>
 .br (decide (HJ<LK)) (
 .nb HJ ((nv17:Nat):Int) <|
 .nd (decide ((Z3+(Int.toNat HJ))<(b6).length)) <|
 .bd (.rc (((b6).getD (Z3+(Int.toNat HJ)) (bs [])),m1,m2,m3,m4,())) fun y1 =>
 .nd (decide ((Ua+((((y1.2.1).drop (0:Nat)).take y1.1)).length)<cg)) <|
 .ni (HJ+(1:Int)) <|
 .ret (.inl ((Ua+((((y1.2.1).drop (0:Nat)).take y1.1)).length),Z3,nv17,LK,(HJ+(1:Int)),((((b5).drop (0:Nat)).take Ua)++(((y1.2.1).drop (0:Nat)).take y1.1)),b6,y1.2.2.1,y1.2.2.2.1,y1.2.2.2.2.1,y1.2.2.2.2.2.1,()))) (
 .ret (.inr (Ua,b5,m1,m2,m3,m4,())))
theorem Z4 (rec:lg.T→Option lp.T) (h:Ht.Ok prog ⟨76,lg,lp,rec⟩):∀x,qS (iN (HH.T ⊕ HI.T)) (PV rec) dY [0,1,2,3,4] HH HI (PW rec h) (fun y=>some (.inl y)) (fun b=>some (.inr b)) x=run rec (gH76_0 x):=fun x=>by kernel_rfl
noncomputable def Z5 (rec:lg.T→Option lp.T) (h:Ht.Ok prog ⟨76,lg,lp,rec⟩):bQ prog 32 none 5:=bx mixed (PV rec) (Fa rec h) [0,1,2,3,4] rfl HH HI rfl (PW rec h) (fun x=>run rec (gH76_0 x)) (Z4 rec h)
noncomputable def W6 (rec:lg.T→Option lp.T) (h:Ht.Ok prog ⟨76,lg,lp,rec⟩):D prog 32 none 5:=dO [.l (Z5 rec h)] (kd prog f76) 0
noncomputable def FH76 (v1:ByteArray) (m1:cQ) (m2:cS) (m3:bn) (m4:bn):Tr lg.T lp.T (Nat×List ByteArray×cQ×cS×bn×bn×Unit) :=
 .bd (.up (FH104 v1 m1 m2 m3 m4)) fun y0 =>
 .br (((y0.2.1:Nat):Int)==(0:Int)) (
 .ret ((1:Nat),(v1::[]),y0.2.2.2.1,y0.2.2.2.2.1,y0.2.2.2.2.2.1,y0.2.2.2.2.2.2.1,())) (
 .bd (.it gH76_0 ((0:Nat),y0.1,y0.2.1,((y0.2.1:Nat):Int),(0:Int),[],y0.2.2.1,y0.2.2.2.1,y0.2.2.2.2.1,y0.2.2.2.2.2.1,y0.2.2.2.2.2.2.1,())) fun z2 =>
 .bd (.up (FH105 z2.1 z2.2.1)) fun y3 =>
 .ret (z2.1,y3.1,z2.2.2.1,z2.2.2.2.1,z2.2.2.2.2.1,z2.2.2.2.2.2.1,()))
theorem Ub (rec:lg.T→Option lp.T) (h:Ht.Ok prog ⟨76,lg,lp,rec⟩):cM prog f76=some ⟨32,2,(W6 rec h).er,[.t 4],[some (.list .str)]⟩:=by kernel_rfl
theorem LL (rec:lg.T→Option lp.T) (h:Ht.Ok prog ⟨76,lg,lp,rec⟩):Ht.Ok prog ⟨76,lg,lp,(fun x=>run rec (FH76 x.1 x.2.1 x.2.2.1 x.2.2.2.1 x.2.2.2.2.1))⟩:=bW mixed (Fa rec h) rfl func76 (Ub rec h) (enters_of func76 rfl rfl) (W6 rec h) (by kernel_rfl) rfl rfl ⟨_,rfl⟩ rfl (pre:=[0,1,2,3,4]) rfl (fun x=>by kernel_rfl)
noncomputable def FH76fix (v1:ByteArray) (m1:cQ) (m2:cS) (m3:bn) (m4:bn):bU (Nat×List ByteArray×cQ×cS×bn×bn×Unit):=.fx (A1:=lg.T) (B1:=lp.T) (fun x=>FH76 x.1 x.2.1 x.2.2.1 x.2.2.2.1 x.2.2.2.2.1) (v1,m1,m2,m3,m4,())
noncomputable def HK:Ht:=⟨76,lg,lp,fun x=>ak (FH76fix x.1 x.2.1 x.2.2.1 x.2.2.2.1 x.2.2.2.2.1)⟩
theorem sQ:HK.Ok prog:=OI (F:=fun rec x=>run rec (FH76 x.1 x.2.1 x.2.2.1 x.2.2.2.1 x.2.2.2.2.1)) (fun rec h=>LL rec h)

/- 74, lent -/
@[reducible] def pH74:az:=az.mk [(0,.c (.ptr 0 0)),(1,.c (.hole .str))] [(0,.cells [.mp 1,.mp 2,.mp 3,.mp 4] false),(1,.map .str false tG true),(2,.map .str false (.list .str) false),(3,.map .str false .bool false),(4,.map .str false .bool false)] [.slot 0,.cell 0 0,.cell 0 1,.cell 0 2,.cell 0 3] []
@[reducible] def qH74:az:=az.mk [(0,.cO [.cn 5 .str,.hole .bool])] [(5,.arr .str false),(0,.cells [.mp 1,.mp 2,.mp 3,.mp 4] false),(1,.map .str false tG true),(2,.map .str false (.list .str) false),(3,.map .str false .bool false),(4,.map .str false .bool false)] [.part 0 0] []
noncomputable def W7:Cx:=(aN [] [HK])
theorem Fb:W7.Ok prog:=av trivial ⟨⟨sQ,rfl⟩,trivial⟩
@[reducible] def Z6:az:=az.mk [(0,.c (.ptr 0 0)),(1,.c (.hole .str)),(11,.c (.mp 1))] [(0,.cells [.mp 1,.mp 2,.mp 3,.mp 4] false),(1,.map .str false tG true),(2,.map .str false (.list .str) false),(3,.map .str false .bool false),(4,.map .str false .bool false)] [] []
@[reducible] def Z7:bf:=[(.ret,az.mk [(4,.c (.cn 5 .str)),(5,.c (.hole .bool))] [(5,.arr .str false),(0,.cells [.mp 1,.mp 2,.mp 3,.mp 4] false),(1,.map .str false tG true),(2,.map .str false (.list .str) false),(3,.map .str false .bool false),(4,.map .str false .bool false)] [.slot 4] [])]
noncomputable def Z8:D prog 50 none 6:=dO [] (pick (kd prog f74) [(0,false)]) 0
noncomputable def gH74_0:((ByteArray)×(GG))→ByteArray×cQ×cS×bn×bn×Unit→bU ((ByteArray×cQ×cS×bn×bn×Unit) ⊕ ((Nat×Bool×List ByteArray×cQ×cS×bn×bn×Unit))):=fun e (v1,m1,m2,m3,m4,_) =>
 .br (!(aQ .str m1 v1)) (
 .ret (.inr ((0:Nat),false,[],m1,m2,m3,m4,()))) (
 .br ((aA .str ((bs []),(0:Int),(bs []),(bs []),(0:Int)) m1 v1).2.1==(3:Int)) (
 .ret (.inr ((0:Nat),false,[],m1,m2,m3,m4,()))) (
 .br (aA .str false m4 v1) (
 .ret (.inr ((0:Nat),false,[],m1,m2,m3,m4,()))) (
 .br ((aA .str ((bs []),(0:Int),(bs []),(bs []),(0:Int)) m1 v1).2.1==(1:Int)) (
 .bd (FH76fix v1 m1 m2 m3 m4) fun y0 =>
 .ret (.inr (y0.1,true,y0.2.1,y0.2.2.1,y0.2.2.2.1,y0.2.2.2.2.1,y0.2.2.2.2.2.1,()))) (
 .nd (jS m1 m1) <|
 .ret (.inl ((aA .str ((bs []),(0:Int),(bs []),(bs []),(0:Int)) m1 v1).2.2.1,m1,m2,m3,m4,()))))))
noncomputable def Z9:sg prog 50 none 5:=YS mixed W7 Fb [0,1,2,3,4] rfl Z6 Z7 rfl ( [.op (some 8) none (.mv (.t 0)),.op (some 9) none (.ex gH.ja [.t 8]),.op (some 10) none (.nu 0 [false] (.t 9)),.op (some 11) none (.load false 1 (.t 10))]) 11 12 [13,14] (none) ( .str)  false ( .prod .str (.prod tI (.prod .str (.prod .str tI))))  true 0 rfl 6 rfl (Z8) (fun e x=>ak (gH74_0 e x)) (fun e=>fun x=>by kernel_rfl)
noncomputable def W8:D prog 50 none 5:=dO [.m Z9] (kd prog f74) 0
noncomputable def FH74 (v1:ByteArray) (m1:cQ) (m2:cS) (m3:bn) (m4:bn):bU (Nat×Bool×List ByteArray×cQ×cS×bn×bn×Unit) :=
 .bd (.mp gH74_0 m1 (v1,m1,m2,m3,m4,())) fun z1 =>
 .sm z1 (fun z2 =>
 .ret ((0:Nat),false,[],z2.2.1,z2.2.2.1,z2.2.2.2.1,z2.2.2.2.2.1,())) fun z3 =>
 .ret (z3.1,z3.2.1,z3.2.2.1,z3.2.2.2.1,z3.2.2.2.2.1,z3.2.2.2.2.2.1,z3.2.2.2.2.2.2.1,())
theorem Uc:cM prog f74=some ⟨50,2,W8.er,[.t 4,.t 5],[some (.list .str),some .bool]⟩:=by kernel_rfl
noncomputable def aaa:Ht:=⟨74,pH74,qH74,(fun x=>ak (FH74 x.1 x.2.1 x.2.2.1 x.2.2.2.1 x.2.2.2.2.1))⟩
theorem Ud:aaa.Ok prog:=bW mixed Fb rfl func74 Uc (enters_of func74 rfl rfl) W8 (by kernel_rfl) rfl rfl ⟨_,rfl⟩ rfl (pre:=[0,1,2,3,4]) rfl (fun x=>by kernel_rfl)

/- 103 -/
noncomputable def W9:Cx:=(aN [] [])
theorem Fc:W9.Ok prog:=av trivial trivial
@[reducible] def aab:az:=az.mk [(0,.c (.hole (.list .str))),(1,.c (.hole .str)),(7,hI),(8,hI)] [] [] []
@[reducible] def aac:bf:=[(.ret,az.mk [(4,hI)] [] [] []),(.exit 0,az.mk [] [] [] [])]
noncomputable def aad:D prog 19 none 0:=dO [] (pick (kd prog f103) [(0,false)]) 0
noncomputable def g103_0:List ByteArray×ByteArray×Int×Int×Unit→bU ((List ByteArray×ByteArray×Int×Int×Unit) ⊕ ((Int×Unit) ⊕ ((Unit)))):=fun (v0,v1,v7,v8,_) =>
 .br (decide (v8<v7)) (
 .nb v8 (((v0).length:Nat):Int) <|
 .br (seq v1 ((v0).getD (Int.toNat v8) (bs []))) (
 .ret (.inr <| .inl<|(v8,()))) (
 .ni (v8+(1:Int)) <|
 .ret (.inl (v0,v1,v7,(v8+(1:Int)),())))) (
 .ret (.inr <| .inr<|()))
noncomputable def aae:bQ prog 19 none 0:=bx mixed W9 Fc [] rfl aab aac rfl (aad) (fun x=>ak (g103_0 x)) (fun x=>by kernel_rfl)
noncomputable def Xa:D prog 19 none 0:=dO [.l aae] (kd prog f103) 0
noncomputable def F103 (a0:List ByteArray) (a1:ByteArray):bU (Int×Unit) :=
 .bd (.it g103_0 (a0,a1,(((a0).length:Nat):Int),(0:Int),())) fun z0 =>
 .sm z0 (fun z1 =>
 .ret (z1.1,())) fun z2 =>
 .ret ((-1:Int),())
theorem Ue:cM prog f103=some ⟨19,2,Xa.er,[.t 4],[some tI]⟩:=by kernel_rfl
noncomputable def Xb:Ct:=⟨103,[.c (.hole (.list .str)),.c (.hole .str)],hI,fun x=>ak (F103 x.1 x.2.1)⟩
theorem PX:Xb.Ok prog:=cF mixed Fc func103 Ue (enters_of func103 rfl rfl) Xa (by kernel_rfl) rfl (fun x=>by kernel_rfl)

/- 75 -/
noncomputable def cx75:Cx:=(aN [Xb] [])
theorem Uf:cx75.Ok prog:=av ⟨PX,trivial⟩ trivial
noncomputable def dd75:D prog 9 none 0:=dO [] (kd prog f75) 0
noncomputable def F75 (a0:List ByteArray) (a1:ByteArray):bU (Bool×Unit) :=
 .bd (F103 a0 a1) fun y0 =>
 .ret ((decide ((0:Int)≤y0.1)),())
theorem aaf:cM prog f75=some ⟨9,2,dd75.er,[.t 4],[some .bool]⟩:=by kernel_rfl
noncomputable def aag:Ct:=⟨75,[.c (.hole (.list .str)),.c (.hole .str)],.c (.hole .bool),fun x=>ak (F75 x.1 x.2.1)⟩
theorem Ug:aag.Ok prog:=cF mixed Uf func75 aaf (enters_of func75 rfl rfl) dd75 (by kernel_rfl) rfl (fun x=>by kernel_rfl)

/- 32, lent -/
@[reducible] def pH32:az:=az.mk [(0,.c (.ptr 0 0)),(1,.c (.hole .str))] [(0,.cells [.mp 1] false),(1,.map tG true .bool false)] [.slot 0,.cell 0 0] []
@[reducible] def qH32:az:=az.mk [(0,.cO [.hole tI,.hole tI])] [(0,.cells [.mp 1] false),(1,.map tG true .bool false)] [] []
noncomputable def JD:Cx:=(aN [aag] [Ag,E3,aaa])
theorem HL:JD.Ok prog:=av (vZ:=[aag]) (hts:=[Ag,E3,aaa]) ⟨Ug,trivial⟩ ⟨⟨nS,rfl⟩,⟨sN,rfl⟩,⟨Ud,rfl⟩,trivial⟩
@[reducible] noncomputable def Uh:Go.AM.Fn:=⟨29,2,(dO [] (kd prog f73) 0:D prog 29 none 0).er,[.t 4,.cell 5 true 5,.t 6],[none,some tG,some tI]⟩
noncomputable def JE:Cx:=EG prog JD 73 Uh (fun _=>dO [] (kd prog f73) 0)
theorem HM:JE.Ok prog:=pY mixed HL func73 (by kernel_rfl) (enters_of func73 rfl rfl) (fun _=>by kernel_rfl)
noncomputable def aeu:Cx:=JE
theorem PY:aeu.Ok prog:=HM
noncomputable def Xc:D prog 51 none 2:=dO [] (kd prog f32) 0
noncomputable def FH32 (v1:ByteArray) (m1:List ((GG)×Bool)):bU (Int×Int×(List ((GG)×Bool))×Unit) :=
 .bd (FH54 m1) fun y0 =>
 .br y0.1 (
 .br (!((9:Int)==(0:Int))) (
 .ret ((0:Int),(9:Int),y0.2.1,())) (
 .br ((0:Int)==(3:Int)) (
 .ret ((0:Int),(18:Int),y0.2.1,())) (
 .no))) (
 .bd (FH66 y0.2.1) fun y1 =>
 .br (!(aQ .str y1.2.1 v1)) (
 .br (!((5:Int)==(0:Int))) (
 .ret ((0:Int),(5:Int),y1.1,())) (
 .br ((0:Int)==(3:Int)) (
 .ret ((0:Int),(18:Int),y1.1,())) (
 .no))) (
 .br (!((0:Int)==(0:Int))) (
 .ret ((0:Int),(0:Int),y1.1,())) (
 .br ((aA .str ((bs []),(0:Int),(bs []),(bs []),(0:Int)) y1.2.1 v1).2.1==(3:Int)) (
 .ret ((0:Int),(18:Int),y1.1,())) (
 .br (aA .str false y1.2.2.2.2.1 v1) (
 .ret ((2:Int),(0:Int),y1.1,())) (
 .bd (FH74 v1 y1.2.1 y1.2.2.1 y1.2.2.2.1 y1.2.2.2.2.1) fun y2 =>
 .br (!y2.2.1) (
 .ret ((1:Int),(0:Int),y1.1,())) (
 .bd (F75 (((y2.2.2.1).drop (0:Nat)).take y2.1) v1) fun y3 =>
 .br (!y3.1) (
 .ret ((3:Int),(0:Int),y1.1,())) (
 .br (decide ((1:Int)<((y2.1:Nat):Int))) (
 .ret ((5:Int),(0:Int),y1.1,())) (
 .ret ((4:Int),(0:Int),y1.1,())))))))))
theorem Ui:cM prog f32=some ⟨51,2,Xc.er,[.t 4,.t 5],[some tI,some tI]⟩:=by kernel_rfl
noncomputable def Uj:Ht:=⟨32,pH32,qH32,(fun x=>ak (FH32 x.1 x.2.1))⟩
theorem CK:Uj.Ok prog:=bW mixed PY rfl func32 Ui (enters_of func32 rfl rfl) Xc (by kernel_rfl) rfl rfl ⟨_,rfl⟩ rfl (pre:=[0,1]) rfl (fun x=>by kernel_rfl)

/- 104, lent -/
@[reducible] def PZ:az:=az.mk [(0,.c .eH),(1,.c (.hole .str))] [] [] []
@[reducible] def P0:az:=az.mk [(0,.c .any)] [] [] []
noncomputable def LM:Cx:=(aN [] [])
theorem CL:LM.Ok prog:=av trivial trivial
noncomputable def Bp:D prog 14 none 0:=dO [] (kd prog f104) 0
noncomputable def FH104_v1 (v1:ByteArray):bU (Unit) :=
 .no
theorem Fe:cM prog f104=some ⟨14,2,Bp.er,[.t 4],[some (.list .str)]⟩:=by kernel_rfl
noncomputable def Ff:Ht:=⟨104,PZ,P0,(fun x=>ak (FH104_v1 x.1))⟩
theorem Fg:Ff.Ok prog:=bW mixed CL rfl func104 Fe (enters_of func104 rfl rfl) Bp (by kernel_rfl) rfl rfl ⟨_,rfl⟩ rfl (pre:=[]) rfl (fun x=>by kernel_rfl)

/- 76, lent -/
@[reducible] def Uk:az:=az.mk [(0,.c .eH),(1,.c (.hole .str))] [] [] []
@[reducible] def Ul:az:=az.mk [(0,.c .any)] [] [] []
noncomputable def P3:Cx:=(aN [] [Ff])
theorem Fh:P3.Ok prog:=av trivial ⟨⟨Fg,rfl⟩,trivial⟩
noncomputable def Fi:D prog 32 none 0:=dO [.x] (kd prog f76) 0
noncomputable def FH76_v1 (v1:ByteArray):bU (Unit) :=
 .bd (FH104_v1 v1) fun y0 =>
 .no
theorem HN:cM prog f76=some ⟨32,2,Fi.er,[.t 4],[some (.list .str)]⟩:=by kernel_rfl
noncomputable def CM:Ht:=⟨76,Uk,Ul,(fun x=>ak (FH76_v1 x.1))⟩
theorem HO:CM.Ok prog:=bW mixed Fh rfl func76 HN (enters_of func76 rfl rfl) Fi (by kernel_rfl) rfl rfl ⟨_,rfl⟩ rfl (pre:=[]) rfl (fun x=>by kernel_rfl)

/- 33, lent -/
@[reducible] def pH33:az:=az.mk [(0,.c (.ptr 0 0)),(1,.c (.hole .str))] [(0,.cells [.mp 1] false),(1,.map tG true .bool false)] [.slot 0,.cell 0 0] []
@[reducible] def qH33:az:=az.mk [(0,.cO [.cn 2 .str,.hole tI])] [(2,.arr .str false),(0,.cells [.mp 1] false),(1,.map tG true .bool false)] [.part 0 0] []
noncomputable def JF:Cx:=(aN [] [Ag,CM,E3,HK])
theorem HP:JF.Ok prog:=av (vZ:=[]) (hts:=[Ag,CM,E3,HK]) trivial ⟨⟨nS,rfl⟩,⟨HO,rfl⟩,⟨sN,rfl⟩,⟨sQ,rfl⟩,trivial⟩
@[reducible] noncomputable def Um:Go.AM.Fn:=⟨29,2,(dO [] (kd prog f73) 0:D prog 29 none 0).er,[.t 4,.cell 5 true 5,.t 6],[none,some tG,some tI]⟩
noncomputable def JG:Cx:=EG prog JF 73 Um (fun _=>dO [] (kd prog f73) 0)
theorem HQ:JG.Ok prog:=pY mixed HP func73 (by kernel_rfl) (enters_of func73 rfl rfl) (fun _=>by kernel_rfl)
noncomputable def aev:Cx:=JG
theorem P4:aev.Ok prog:=HQ
noncomputable def Xd:D prog 27 none 2:=dO [] (kd prog f33) 0
noncomputable def FH33 (v1:ByteArray) (m1:List ((GG)×Bool)):bU (Nat×Int×List ByteArray×(List ((GG)×Bool))×Unit) :=
 .bd (FH54 m1) fun y0 =>
 .br y0.1 (
 .br (!((9:Int)==(0:Int))) (
 .ret ((0:Nat),(9:Int),[],y0.2.1,())) (
 .br (!((0:Int)==(1:Int))) (
 .ret ((0:Nat),(18:Int),[],y0.2.1,())) (
 .bd (FH76_v1 v1) fun y1 =>
 .no))) (
 .bd (FH66 y0.2.1) fun y2 =>
 .br (!(aQ .str y2.2.1 v1)) (
 .br (!((5:Int)==(0:Int))) (
 .ret ((0:Nat),(5:Int),[],y2.1,())) (
 .br (!((0:Int)==(1:Int))) (
 .ret ((0:Nat),(18:Int),[],y2.1,())) (
 .bd (FH76_v1 v1) fun y3 =>
 .no))) (
 .br (!((0:Int)==(0:Int))) (
 .ret ((0:Nat),(0:Int),[],y2.1,())) (
 .br (!((aA .str ((bs []),(0:Int),(bs []),(bs []),(0:Int)) y2.2.1 v1).2.1==(1:Int))) (
 .ret ((0:Nat),(18:Int),[],y2.1,())) (
 .bd (FH76fix v1 y2.2.1 y2.2.2.1 y2.2.2.2.1 y2.2.2.2.2.1) fun y4 =>
 .ret (y4.1,(0:Int),y4.2.1,y2.1,())))))
theorem Un:cM prog f33=some ⟨27,2,Xd.er,[.t 4,.t 5],[some (.list .str),some tI]⟩:=by kernel_rfl
noncomputable def aah:Ht:=⟨33,pH33,qH33,(fun x=>ak (FH33 x.1 x.2.1))⟩
theorem JH:aah.Ok prog:=bW mixed P4 rfl func33 Un (enters_of func33 rfl rfl) Xd (by kernel_rfl) rfl rfl ⟨_,rfl⟩ rfl (pre:=[0,1]) rfl (fun x=>by kernel_rfl)

/- 40, lent -/
@[reducible] def pH40:az:=az.mk [(0,.c (.ptr 0 0)),(1,.c (.hole .str)),(2,hI)] [(0,.cells [.mp 1] false),(1,.map tG true .bool false)] [.slot 0,.cell 0 0] []
@[reducible] def qH40:az:=az.mk [(0,.c (.hole .bool))] [(0,.cells [.mp 1] false),(1,.map tG true .bool false)] [] []
noncomputable def aew:Cx:=(aN [] [Uj])
theorem P5:aew.Ok prog:=av trivial ⟨⟨CK,rfl⟩,trivial⟩
noncomputable def Xe:D prog 22 none 2:=dO [] (kd prog f40) 0
noncomputable def FH40 (v1:ByteArray) (v2:Int) (m1:List ((GG)×Bool)):bU (Bool×(List ((GG)×Bool))×Unit) :=
 .bd (FH32 v1 m1) fun y0 =>
 .br (y0.2.1==(0:Int)) (
 .ret ((y0.1==v2),y0.2.2.1,())) (
 .ret (false,y0.2.2.1,()))
theorem Uo:cM prog f40=some ⟨22,3,Xe.er,[.t 6],[some .bool]⟩:=by kernel_rfl
noncomputable def aai:Ht:=⟨40,pH40,qH40,(fun x=>ak (FH40 x.1 x.2.1 x.2.2.1))⟩
theorem JI:aai.Ok prog:=bW mixed P5 rfl func40 Uo (enters_of func40 rfl rfl) Xe (by kernel_rfl) rfl rfl ⟨_,rfl⟩ rfl (pre:=[0,1]) rfl (fun x=>by kernel_rfl)

/- 100, lent -/
@[reducible] def aex:az:=az.mk [(0,.c (.mp 0)),(1,hI)] [(0,.map tI false .unit true)] [.slot 0] []
@[reducible] def aey:az:=az.mk [(0,.c .any)] [(0,.map tI false .unit true)] [] []
noncomputable def aaj:Cx:=(aN [] [])
theorem LN:aaj.Ok prog:=av trivial trivial
noncomputable def P6:D prog 7 none 1:=dO [] (kd prog f100) 0
noncomputable def FH100 (v1:Int) (m0:List (Int×Unit)):bU ((List (Int×Unit))×Unit) :=
 .ret ((bp (.int .i64) m0 v1 ()),())
theorem P7:cM prog f100=some ⟨7,2,P6.er,[],[]⟩:=by kernel_rfl
noncomputable def P8:Ht:=⟨100,aex,aey,(fun x=>ak (FH100 x.1 x.2.1))⟩
theorem Fj:P8.Ok prog:=bW mixed LN rfl func100 P7 (enters_of func100 rfl rfl) P6 (by kernel_rfl) rfl rfl ⟨_,rfl⟩ rfl (pre:=[0]) rfl (fun x=>by kernel_rfl)

/- 79, lent -/
@[reducible] def pH79:az:=az.mk [(0,.c (.ptr 0 0))] [(0,.cells [.mp 1,.mp 2,.mp 3,.mp 4] false),(1,.map .str false tG true),(2,.map .str false (.list .str) false),(3,.map .str false .bool false),(4,.map .str false .bool false)] [.slot 0,.cell 0 0,.cell 0 1,.cell 0 2,.cell 0 3] []
@[reducible] def qH79:az:=az.mk [(0,.fn 106 [] [.ptr 5 0])] [(5,.cells [.ptr 0 0] false),(0,.cells [.mp 1,.mp 2,.mp 3,.mp 4] false),(1,.map .str false tG true),(2,.map .str false (.list .str) false),(3,.map .str false .bool false),(4,.map .str false .bool false)] [.part 0 0] []
noncomputable def aez:Cx:=(aN [] [])
theorem P9:aez.Ok prog:=av trivial trivial
noncomputable def Xf:D prog 4 none 5:=dO [] (kd prog f79) 0
noncomputable def FH79 (m1:cQ) (m2:cS) (m3:bn) (m4:bn):bU (cQ×cS×bn×bn×Unit) :=
 .ret (m1,m2,m3,m4,())
theorem Uq:cM prog f79=some ⟨4,1,Xf.er,[.t 2],[none]⟩:=by kernel_rfl
noncomputable def Ur:Ht:=⟨79,pH79,qH79,(fun x=>ak (FH79 x.1 x.2.1 x.2.2.1 x.2.2.2.1))⟩
theorem CO:Ur.Ok prog:=bW mixed P9 rfl func79 Uq (enters_of func79 rfl rfl) Xf (by kernel_rfl) rfl rfl ⟨_,rfl⟩ rfl (pre:=[0,1,2,3,4]) rfl (fun x=>by kernel_rfl)

/- 68 -/
noncomputable def cx68:Cx:=(aN [] [])
theorem Us:cx68.Ok prog:=av trivial trivial
noncomputable def dd68:D prog 10 none 0:=dO [] (kd prog f68) 0
noncomputable def F68 (a0:GG) (a1:ByteArray):bU (Int×Unit) :=
 .br (!(seq a0.2.2.2.1 a1)) (
 .ret ((0:Int),())) (
 .ret (a0.2.2.2.2,()))
theorem aak:cM prog f68=some ⟨10,2,dd68.er,[.t 3],[some tI]⟩:=by kernel_rfl
noncomputable def ct68:Ct:=⟨68,[.c (.hole tG),.c (.fH .str)],hI,fun x=>ak (F68 x.1 x.2.1)⟩
theorem Ut:ct68.Ok prog:=cF mixed Us func68 aak (enters_of func68 rfl rfl) dd68 (by kernel_rfl) rfl (fun x=>by kernel_rfl)

/- 120, lent -/
@[reducible] def aeC:az:=az.mk [(0,.c (.mp 0))] [(0,.map tI false .unit true)] [.slot 0] []
@[reducible] def aeD:az:=az.mk [(0,.fn 132 [] [.ptr 1 0])] [(1,.cells [.mp 0] false),(0,.map tI false .unit true)] [.part 0 0] []
noncomputable def aal:Cx:=(aN [] [])
theorem LO:aal.Ok prog:=av trivial trivial
noncomputable def Qa:D prog 4 none 1:=dO [] (kd prog f120) 0
noncomputable def FH120 (m0:List (Int×Unit)):bU ((List (Int×Unit))×Unit) :=
 .ret (m0,())
theorem Qb:cM prog f120=some ⟨4,1,Qa.er,[.t 2],[none]⟩:=by kernel_rfl
noncomputable def Xg:Ht:=⟨120,aeC,aeD,(fun x=>ak (FH120 x.1))⟩
theorem Qc:Xg.Ok prog:=bW mixed LO rfl func120 Qb (enters_of func120 rfl rfl) Qa (by kernel_rfl) rfl rfl ⟨_,rfl⟩ rfl (pre:=[0]) rfl (fun x=>by kernel_rfl)

/- 101, lent -/
@[reducible] def aeE:az:=az.mk [(0,.c (.mp 0))] [(0,.map tI false .unit true)] [.slot 0] []
@[reducible] def aeF:az:=az.mk [(0,.fn 132 [] [.ptr 1 0])] [(1,.cells [.mp 0] false),(0,.map tI false .unit true)] [.part 0 0] []
noncomputable def aam:Cx:=(aN [] [Xg])
theorem LP:aam.Ok prog:=av trivial ⟨⟨Qc,rfl⟩,trivial⟩
noncomputable def Qd:D prog 5 none 1:=dO [] (kd prog f101) 0
noncomputable def FH101 (m0:List (Int×Unit)):bU ((List (Int×Unit))×Unit) :=
 .bd (FH120 m0) fun y0 =>
 .ret (y0.1,())
theorem Qe:cM prog f101=some ⟨5,1,Qd.er,[.t 2],[none]⟩:=by kernel_rfl
noncomputable def Qf:Ht:=⟨101,aeE,aeF,(fun x=>ak (FH101 x.1))⟩
theorem Fk:Qf.Ok prog:=bW mixed LP rfl func101 Qe (enters_of func101 rfl rfl) Qd (by kernel_rfl) rfl rfl ⟨_,rfl⟩ rfl (pre:=[0]) rfl (fun x=>by kernel_rfl)

/- 122, by hand -/
@[reducible] def aeG:az:=az.mk [(0,.c (.cn 0 tI))] [(0,.arr tI false)] [.slot 0] []
@[reducible] def aeH:az:=az.mk [(0,.c .any)] [(0,.arr tI false)] [] []
noncomputable def FH122 (lR:Nat) (b0:List Int):bU (List Int×Unit) :=
 .of (vE (.int .i64) b0 lR)
noncomputable def Qg:Ht:=⟨122,aeG,aeH,(fun x=>ak (FH122 x.1 x.2.1))⟩
theorem Qh:Qg.Ok prog:=fun x y h=>ON (ρ:=yI) Zb (enters_of func122 rfl rfl) (xs:=x.2.1) (n:=x.1) (y:=y) h

/- 102, lent -/
@[reducible] def aeI:az:=az.mk [(0,.fn 132 [] [.ptr 0 0])] [(0,.cells [.mp 1] false),(1,.map tI false .unit true)] [.part 0 0,.cell 0 0] []
@[reducible] def aeJ:az:=az.mk [(0,.c (.cn 2 tI))] [(2,.arr tI false),(0,.cells [.mp 1] false),(1,.map tI false .unit true)] [.slot 0] []
noncomputable def sR:Cx:=(aN [] [Qg])
theorem o5:sR.Ok prog:=av (vZ:=[]) (hts:=[Qg]) trivial ⟨⟨Qh,rfl⟩,trivial⟩
noncomputable def mT:D prog 13 (some 4) 7:=dO [] (pick (kd prog f133) [(0,false)]) 0
noncomputable def mU:D prog 13 (some 4) 7:=dO [] (pick (kd prog f133) [(0,true)]) 0
noncomputable def iq:Cx:=Ad sR (fun kz=>OB kz sR dY 4 7 [7] (mT) (mU))
theorem jo:(iq).Ok prog:=j6 o5 (fun h=>nO mixed o5 h)
@[reducible] def rj:az:=az.mk [(0,.c (.yl 4)),(4,.c (.mp 1))] [(4,.loop .ready none 3 [(2,.c (.ptr 2 0)),(4,.c .cq),(6,.fn 132 [] [.ptr 0 0])] [7] (.bh [.op (some 5) none (.mv (.t 7))]) (.block 1 (.bh [.op (some 8) none (.load false 1 (.t 2)),.op (some 9) none (.mv (.t 5)),.op (some 10) none (.dZ tI [.t 9]),.op (some 11) none (.append 1 (.t 8) (.t 10)),.op none none (.store 1 (.t 2) (.t 11))])) 13),(1,.map tI false .unit true),(3,.iz),(2,.cells [.cn 5 tI] false),(0,.cells [.mp 1] false),(5,.arr tI false)] [.cell 2 0] []
noncomputable def rq:D prog 14 none 7:=dO [] (pick (kd prog f132) [(0,false)]) 0
noncomputable def gH102f121f133_0i_0:((Int)×(Unit))→(List (Int×Unit))×Nat×List Int×Unit→bU ((List (Int×Unit))×Nat×List Int×Unit):=fun e (m1,kY,b5,_) =>
 .nd (decide ((kY+(((((e.1::[])).drop (0:Nat)).take (1:Nat))).length)<cg)) <|
 .nd (jS m1 m1) <|
 .ret (m1,(kY+(((((e.1::[])).drop (0:Nat)).take (1:Nat))).length),((((b5).drop (0:Nat)).take kY)++((((e.1::[])).drop (0:Nat)).take (1:Nat))),())
noncomputable def ru:sg prog 14 none 5:=wh mixed iq jo [0,1,2,3,4] rfl rj ( [.op (some 4) none (.load false 1 (.t 1))]) 4 5 [6,7] (some 8) ( .int .i64)  false ( .unit)  true 0 rfl 7 rfl (rq) (fun e x=>ak (gH102f121f133_0i_0 e x)) (fun e=>fun x=>by kernel_rfl)
@[reducible] def vH:az:=az.mk [(2,.c (.ptr 2 0)),(4,.c .cq),(6,.fn 132 [] [.ptr 0 0])] [(2,.cells [.cq] false),(0,.cells [.mp 1] false),(1,.map tI false .unit true)] [.slot 2] []
@[reducible] def vI:bf:=[(.normal,az.mk [(2,.c (.ptr 2 0))] [(2,.cells [.cn 3 tI] false),(0,.cells [.mp 1] false),(1,.map tI false .unit true),(3,.arr tI false)] [.slot 2,.cell 2 0] [])]
noncomputable def mV:D prog 14 none 5:=dO [.m ru] (kd prog f132) 0
theorem uA:cM prog f132=some ⟨14,2,(mV).er,[],[]⟩:=by kernel_rfl
noncomputable def ov:gB prog 13 none 2:=sB mixed iq jo [0,1] rfl vH vI ( .t 6) [7] rfl (mT).er (mU).er 132 func132 (uA) (enters_of func132 rfl rfl) 5 rfl (mV) rfl
@[reducible] noncomputable def Qi:Go.AM.Fn:=⟨13,2,(dO [.r ov] (kd prog f133) 0:D prog 13 none 2).er,[.t 4],[some tL]⟩
noncomputable def Fl:Cx:=Be prog sR 133 Qi 2 (dO [.r ov] (kd prog f133) 0)
theorem Fm:Fl.Ok prog:=sA mixed o5 func133 (by kernel_rfl) (enters_of func133 rfl rfl) rfl
@[reducible] noncomputable def Qj:Go.AM.Fn:=⟨5,1,(dO [] (kd prog f121) 0:D prog 5 none 0).er,[.t 2],[some tL]⟩
noncomputable def Fo:Cx:=EG prog Fl 121 Qj (fun _=>dO [] (kd prog f121) 0)
theorem Fp:Fo.Ok prog:=pY mixed Fm func121 (by kernel_rfl) (enters_of func121 rfl rfl) (fun _=>by kernel_rfl)
noncomputable def aan:Cx:=Fo
theorem LQ:aan.Ok prog:=Fp
noncomputable def Qk:D prog 9 none 2:=dO [] (kd prog f102) 0
noncomputable def FH102 (m1:List (Int×Unit)):bU (Nat×List Int×(List (Int×Unit))×Unit) :=
 .an m1 fun l0 =>
 .bd (.fm gH102f121f133_0i_0 l0 (m1,(0:Nat),[],())) fun z1 =>
 .bd (FH122 z1.2.1 z1.2.2.1) fun y2 =>
 .ret (z1.2.1,y2.1,z1.1,())
theorem Ql:cM prog f102=some ⟨9,1,Qk.er,[.t 2],[some tL]⟩:=by kernel_rfl
noncomputable def Qm:Ht:=⟨102,aeI,aeJ,(fun x=>ak (FH102 x.1))⟩
theorem Fq:Qm.Ok prog:=bW mixed LQ rfl func102 Ql (enters_of func102 rfl rfl) Qk (by kernel_rfl) rfl rfl ⟨_,rfl⟩ rfl (pre:=[0,1]) rfl (fun x=>by kernel_rfl)

/- 67, lent -/
@[reducible] def pH67:az:=az.mk [(0,.c (.ptr 0 0)),(1,.fn 68 [] [.ptr 1 0])] [(0,.cells [.mp 2,.mp 3,.mp 4,.mp 5] false),(1,.cells [.hole .str] false),(2,.map .str false tG true),(3,.map .str false (.list .str) false),(4,.map .str false .bool false),(5,.map .str false .bool false)] [.slot 0,.part 1 0,.cell 0 0,.cell 0 1,.cell 0 2,.cell 0 3] []
@[reducible] def qH67:az:=az.mk [(0,.c (.cn 6 tI))] [(6,.arr tI false),(0,.cells [.mp 2,.mp 3,.mp 4,.mp 5] false),(2,.map .str false tG true),(3,.map .str false (.list .str) false),(4,.map .str false .bool false),(5,.map .str false .bool false),(1,.cells [.hole .str] false)] [.slot 0] []
noncomputable def Bq:Cx:=(aN [ct68] [P8,Ur,Pr,Pu,HK,Qf,Qm])
theorem mW:Bq.Ok prog:=av ⟨Ut,trivial⟩ ⟨⟨Fj,rfl⟩,⟨CO,rfl⟩,⟨wv,rfl⟩,⟨wB,rfl⟩,⟨sQ,rfl⟩,⟨Fk,rfl⟩,⟨Fq,rfl⟩,trivial⟩
noncomputable def yS:D prog 48 (some 26) 29:=dO [] (pick (kd prog f67) [(0,true),(0,false),(0,false)]) 0
noncomputable def yT:D prog 48 (some 26) 29:=dO [] (pick (kd prog f67) [(0,true),(0,false),(0,true)]) 0
noncomputable def o9:Cx:=Ad Bq (fun kz=>OB kz Bq dY 26 29 [37] (yS) (yT))
theorem pe:(o9).Ok prog:=j6 mW (fun h=>nO mixed mW h)
@[reducible] def CQ:az:=az.mk [(0,.c (.yl 26)),(4,.c (.mp 24))] [(26,.loop .ready none 11 [(2,.c (.ptr 6 0)),(3,.c (.ptr 7 0)),(5,.c (.ptr 8 0)),(8,.c (.ptr 21 0)),(11,.c (.ptr 22 0)),(21,.c (.cn 20 .str)),(22,hI),(23,hI),(36,.fn 132 [] [.ptr 23 0])] [37] (.bh [.op (some 12) none (.mv (.t 37))]) (.block 5 (.bh [.op (some 38) none (.load false 1 (.t 8)),.op (some 39) none (.mv (.t 12)),.op (some 40) none (.load false 1 (.t 11)),.op (some 41) none (.bin .add (.t 39) (.t 40)),.call (some 42) none (.c (.fn 100 [] [])) [.t 38,.t 41] [none,some tI]])) 48),(24,.map tI false .unit true),(11,.iz),(6,.cells [.ptr 0 0] false),(0,.cells [.mp 2,.mp 3,.mp 4,.mp 5] false),(2,.map .str false tG true),(3,.map .str false (.list .str) false),(4,.map .str false .bool false),(5,.map .str false .bool false),(7,.cells [.fn 68 .nil (.cons (.ptr 1 0) .nil)] false),(1,.cells [.hole .str] false),(8,.cells [.mp 24] false),(21,.cells [.mp 27] false),(22,.cells [.hole tI] false),(20,.arr .str false),(23,.cells [.mp 24] false),(9,.cells [.ptr 0 0] false),(12,.loop .busy none 11 [(2,.c (.ptr 6 0)),(3,.c (.ptr 7 0)),(4,.c .cq),(5,.c (.ptr 8 0)),(17,.fn 106 [] [.ptr 9 0])] [18,19] (.bh [.op (some 7) none (.mv (.t 19))]) (.block 1 (.seq (.bh [.op (some 20) none (.ex (gH.jc tI false .unit true) []),.op (some 8) none (.alloc [.cH]),.op none none (.store 1 (.t 8) (.t 20))]) (.seq (.seq (.bh [.op (some 21) none (.mv (.t 7)),.op (some 22) none (.len (.t 21)),.op (some 23) none (.mv (.c (.int .i64 (Int.ofNat 0))))]) (.block 2 (.loop (.seq (.bh [.op (some 24) none (.bin .lss (.t 23) (.t 22))]) (.seq (.cond (.t 24) .skip (.exit 2)) (.seq (.block 3 (.seq (.bh [.op (some 25) none (.idx 1 (.t 21) (.t 23)),.op (some 26) none (.load false 1 (.t 25)),.op (some 10) none (.mv (.t 26))]) (.seq (.draw [[],[],[1],[1,2],[1,2,3],[],[1,2,3,4,5],[0,1,2,3,4,5,6],[],[0,1,2,3,4,5,6,7,8]] [.op (some 27) none (.load false 1 (.t 3)),.op (some 28) none (.load false 1 (.t 2)),.op (some 29) none (.ex gH.ja [.t 28]),.op (some 30) none (.nu 0 [false] (.t 29)),.op (some 31) none (.load false 1 (.t 30)),.op (some 32) none (.mv (.t 10)),.op (some 33) none (.ex (gH.gv .str false tG true false) [.t 31,.t 32]),.call (some 34) none (.t 27) [.t 33] [some tG],.op (some 11) none (.alloc [.int .i64 (Int.ofNat 0)]),.op none none (.store 1 (.t 11) (.t 34))]) (.seq (.bh [.op (some 35) none (.load false 1 (.t 5)),.call (some 36) none (.c (.fn 101 [] [])) [.t 35] [none]]) (.block 4 (.bM (.t 36) [37] (.bh [.op (some 12) none (.mv (.t 37))]) (.block 5 (.bh [.op (some 38) none (.load false 1 (.t 8)),.op (some 39) none (.mv (.t 12)),.op (some 40) none (.load false 1 (.t 11)),.op (some 41) none (.bin .add (.t 39) (.t 40)),.call (some 42) none (.c (.fn 100 [] [])) [.t 38,.t 41] [none,some tI]])))))))) (.bh [.op (some 43) none (.bin .add (.t 23) (.c (.int .i64 (Int.ofNat 1)))),.op (some 23) none (.mv (.t 43))]))))))) (.bh [.op (some 44) none (.load false 1 (.t 8)),.op none none (.store 1 (.t 5) (.t 44))])))) 48),(13,.arr .str false),(27,.map tI false .unit true)] [.cell 21 0] []
noncomputable def CR:D prog 14 none 29:=dO [] (pick (kd prog f132) [(0,false)]) 0
noncomputable def gH67_0b_2i_0:((Int)×(Unit))→Nat×Int×Int×(List (Int×Unit))×cQ×cS×bn×bn×ByteArray×Int×List ByteArray×List ByteArray×(List (Int×Unit))×Unit→bU (Nat×Int×Int×(List (Int×Unit))×cQ×cS×bn×bn×ByteArray×Int×List ByteArray×List ByteArray×(List (Int×Unit))×Unit):=fun e (aao,w22,w23,m24,m2,m3,m4,m5,dV,Fs,qi,jA,m27,_) =>
 .ni (e.1+Fs) <|
 .bd (FH100 (e.1+Fs) m27) fun y7 =>
 .nd (jS m24 m24) <|
 .ret (aao,w22,w23,m24,m2,m3,m4,m5,dV,Fs,qi,jA,y7.1,())
noncomputable def CS:sg prog 14 none 27:=CD mixed o9 pe [0,1,2,3,4,5,6,7,8,9,10,11,12,13,14,15,16,17,18,19,20,21,22,23,24,25,26] rfl CQ ( [.op (some 4) none (.load false 1 (.t 1))]) 4 5 [6,7] (some 8) ( .int .i64)  false ( .unit)  true 0 rfl 29 rfl (CR) (fun e x=>ak (gH67_0b_2i_0 e x)) (fun e=>fun x=>by kernel_rfl)
@[reducible] def LS:az:=az.mk [(2,.c (.ptr 6 0)),(3,.c (.ptr 7 0)),(5,.c (.ptr 8 0)),(8,.c (.ptr 21 0)),(11,.c (.ptr 22 0)),(21,.c (.cn 20 .str)),(22,hI),(23,hI),(36,.fn 132 [] [.ptr 23 0])] [(6,.cells [.ptr 0 0] false),(7,.cells [.fn 68 .nil (.cons (.ptr 1 0) .nil)] false),(8,.cells [.mp 24] false),(21,.cells [.mp 25] false),(22,.cells [.hole tI] false),(20,.arr .str false),(23,.cells [.mp 24] false),(0,.cells [.mp 2,.mp 3,.mp 4,.mp 5] false),(2,.map .str false tG true),(3,.map .str false (.list .str) false),(4,.map .str false .bool false),(5,.map .str false .bool false),(1,.cells [.hole .str] false),(9,.cells [.ptr 0 0] false),(11,.iz),(12,.loop .busy none 11 [(2,.c (.ptr 6 0)),(3,.c (.ptr 7 0)),(4,.c .cq),(5,.c (.ptr 8 0)),(17,.fn 106 [] [.ptr 9 0])] [18,19] (.bh [.op (some 7) none (.mv (.t 19))]) (.block 1 (.seq (.bh [.op (some 20) none (.ex (gH.jc tI false .unit true) []),.op (some 8) none (.alloc [.cH]),.op none none (.store 1 (.t 8) (.t 20))]) (.seq (.seq (.bh [.op (some 21) none (.mv (.t 7)),.op (some 22) none (.len (.t 21)),.op (some 23) none (.mv (.c (.int .i64 (Int.ofNat 0))))]) (.block 2 (.loop (.seq (.bh [.op (some 24) none (.bin .lss (.t 23) (.t 22))]) (.seq (.cond (.t 24) .skip (.exit 2)) (.seq (.block 3 (.seq (.bh [.op (some 25) none (.idx 1 (.t 21) (.t 23)),.op (some 26) none (.load false 1 (.t 25)),.op (some 10) none (.mv (.t 26))]) (.seq (.draw [[],[],[1],[1,2],[1,2,3],[],[1,2,3,4,5],[0,1,2,3,4,5,6],[],[0,1,2,3,4,5,6,7,8]] [.op (some 27) none (.load false 1 (.t 3)),.op (some 28) none (.load false 1 (.t 2)),.op (some 29) none (.ex gH.ja [.t 28]),.op (some 30) none (.nu 0 [false] (.t 29)),.op (some 31) none (.load false 1 (.t 30)),.op (some 32) none (.mv (.t 10)),.op (some 33) none (.ex (gH.gv .str false tG true false) [.t 31,.t 32]),.call (some 34) none (.t 27) [.t 33] [some tG],.op (some 11) none (.alloc [.int .i64 (Int.ofNat 0)]),.op none none (.store 1 (.t 11) (.t 34))]) (.seq (.bh [.op (some 35) none (.load false 1 (.t 5)),.call (some 36) none (.c (.fn 101 [] [])) [.t 35] [none]]) (.block 4 (.bM (.t 36) [37] (.bh [.op (some 12) none (.mv (.t 37))]) (.block 5 (.bh [.op (some 38) none (.load false 1 (.t 8)),.op (some 39) none (.mv (.t 12)),.op (some 40) none (.load false 1 (.t 11)),.op (some 41) none (.bin .add (.t 39) (.t 40)),.call (some 42) none (.c (.fn 100 [] [])) [.t 38,.t 41] [none,some tI]])))))))) (.bh [.op (some 43) none (.bin .add (.t 23) (.c (.int .i64 (Int.ofNat 1)))),.op (some 23) none (.mv (.t 43))]))))))) (.bh [.op (some 44) none (.load false 1 (.t 8)),.op none none (.store 1 (.t 5) (.t 44))])))) 48),(13,.arr .str false),(24,.map tI false .unit true),(25,.map tI false .unit true)] [.slot 8,.slot 11,.part 36 0,.cell 8 0,.cell 21 0] []
@[reducible] def LU:bf:=[(.normal,az.mk [(2,.c (.ptr 6 0)),(3,.c (.ptr 7 0)),(5,.c (.ptr 8 0)),(8,.c (.ptr 21 0)),(21,.c (.cn 20 .str)),(22,hI),(23,hI)] [(6,.cells [.ptr 0 0] false),(7,.cells [.fn 68 .nil (.cons (.ptr 1 0) .nil)] false),(8,.cells [.mp 22] false),(21,.cells [.mp 23] false),(20,.arr .str false),(0,.cells [.mp 2,.mp 3,.mp 4,.mp 5] false),(2,.map .str false tG true),(3,.map .str false (.list .str) false),(4,.map .str false .bool false),(5,.map .str false .bool false),(1,.cells [.hole .str] false),(9,.cells [.ptr 0 0] false),(11,.iz),(12,.loop .busy none 11 [(2,.c (.ptr 6 0)),(3,.c (.ptr 7 0)),(4,.c .cq),(5,.c (.ptr 8 0)),(17,.fn 106 [] [.ptr 9 0])] [18,19] (.bh [.op (some 7) none (.mv (.t 19))]) (.block 1 (.seq (.bh [.op (some 20) none (.ex (gH.jc tI false .unit true) []),.op (some 8) none (.alloc [.cH]),.op none none (.store 1 (.t 8) (.t 20))]) (.seq (.seq (.bh [.op (some 21) none (.mv (.t 7)),.op (some 22) none (.len (.t 21)),.op (some 23) none (.mv (.c (.int .i64 (Int.ofNat 0))))]) (.block 2 (.loop (.seq (.bh [.op (some 24) none (.bin .lss (.t 23) (.t 22))]) (.seq (.cond (.t 24) .skip (.exit 2)) (.seq (.block 3 (.seq (.bh [.op (some 25) none (.idx 1 (.t 21) (.t 23)),.op (some 26) none (.load false 1 (.t 25)),.op (some 10) none (.mv (.t 26))]) (.seq (.draw [[],[],[1],[1,2],[1,2,3],[],[1,2,3,4,5],[0,1,2,3,4,5,6],[],[0,1,2,3,4,5,6,7,8]] [.op (some 27) none (.load false 1 (.t 3)),.op (some 28) none (.load false 1 (.t 2)),.op (some 29) none (.ex gH.ja [.t 28]),.op (some 30) none (.nu 0 [false] (.t 29)),.op (some 31) none (.load false 1 (.t 30)),.op (some 32) none (.mv (.t 10)),.op (some 33) none (.ex (gH.gv .str false tG true false) [.t 31,.t 32]),.call (some 34) none (.t 27) [.t 33] [some tG],.op (some 11) none (.alloc [.int .i64 (Int.ofNat 0)]),.op none none (.store 1 (.t 11) (.t 34))]) (.seq (.bh [.op (some 35) none (.load false 1 (.t 5)),.call (some 36) none (.c (.fn 101 [] [])) [.t 35] [none]]) (.block 4 (.bM (.t 36) [37] (.bh [.op (some 12) none (.mv (.t 37))]) (.block 5 (.bh [.op (some 38) none (.load false 1 (.t 8)),.op (some 39) none (.mv (.t 12)),.op (some 40) none (.load false 1 (.t 11)),.op (some 41) none (.bin .add (.t 39) (.t 40)),.call (some 42) none (.c (.fn 100 [] [])) [.t 38,.t 41] [none,some tI]])))))))) (.bh [.op (some 43) none (.bin .add (.t 23) (.c (.int .i64 (Int.ofNat 1)))),.op (some 23) none (.mv (.t 43))]))))))) (.bh [.op (some 44) none (.load false 1 (.t 8)),.op none none (.store 1 (.t 5) (.t 44))])))) 48),(13,.arr .str false),(22,.map tI false .unit true),(23,.map tI false .unit true)] [.slot 8,.cell 8 0,.cell 21 0] [])]
noncomputable def yU:D prog 14 none 27:=dO [.m CS] (kd prog f132) 0
theorem HR:cM prog f132=some ⟨14,2,(yU).er,[],[]⟩:=by kernel_rfl
noncomputable def gH67_0b_2:Nat×Int×Int×Int×List ByteArray×cQ×cS×bn×bn×ByteArray×List ByteArray×(List (Int×Unit))×(List (Int×Unit))×Unit→bU ((Nat×Int×Int×List ByteArray×cQ×cS×bn×bn×ByteArray×List ByteArray×(List (Int×Unit))×(List (Int×Unit))×Unit)):=fun (yV,v22,v23,Fs,qi,m2,m3,m4,m5,dV,jA,m24,m25,_) =>
 .bd (.mq gH67_0b_2i_0 m24 (yV,v22,v23,m24,m2,m3,m4,m5,dV,Fs,qi,jA,m25,())) fun z8 =>
 .ret ((yV,v22,v23,z8.2.2.2.2.2.2.2.2.2.2.1,z8.2.2.2.2.1,z8.2.2.2.2.2.1,z8.2.2.2.2.2.2.1,z8.2.2.2.2.2.2.2.1,z8.2.2.2.2.2.2.2.2.1,z8.2.2.2.2.2.2.2.2.2.2.2.1,z8.2.2.2.1,z8.2.2.2.2.2.2.2.2.2.2.2.2.1,()))
noncomputable def LV:gB prog 48 (some 12) 21:=sx mixed o9 pe [0,1,2,3,4,5,6,7,8,9,10,11,12,13,14,15,16,17,18,19,20] rfl LS LU ( .t 36) [37] rfl (yS).er (yT).er 132 func132 (HR) (enters_of func132 rfl rfl) 27 rfl (yU) rfl (fun x=>ak (gH67_0b_2 x)) (fun x=>by kernel_rfl)
@[reducible] def LW:az:=az.mk [(2,.c (.ptr 6 0)),(3,.c (.ptr 7 0)),(5,.c (.ptr 8 0)),(8,.c (.ptr 21 0)),(21,.c (.cn 20 .str)),(22,hI),(23,hI)] [(6,.cells [.ptr 0 0] false),(7,.cells [.fn 68 .nil (.cons (.ptr 1 0) .nil)] false),(8,.cells [.mp 22] false),(21,.cells [.mp 23] false),(20,.arr .str false),(0,.cells [.mp 2,.mp 3,.mp 4,.mp 5] false),(2,.map .str false tG true),(3,.map .str false (.list .str) false),(4,.map .str false .bool false),(5,.map .str false .bool false),(1,.cells [.hole .str] false),(9,.cells [.ptr 0 0] false),(11,.iz),(12,.loop .busy none 11 [(2,.c (.ptr 6 0)),(3,.c (.ptr 7 0)),(4,.c .cq),(5,.c (.ptr 8 0)),(17,.fn 106 [] [.ptr 9 0])] [18,19] (.bh [.op (some 7) none (.mv (.t 19))]) (.block 1 (.seq (.bh [.op (some 20) none (.ex (gH.jc tI false .unit true) []),.op (some 8) none (.alloc [.cH]),.op none none (.store 1 (.t 8) (.t 20))]) (.seq (.seq (.bh [.op (some 21) none (.mv (.t 7)),.op (some 22) none (.len (.t 21)),.op (some 23) none (.mv (.c (.int .i64 (Int.ofNat 0))))]) (.block 2 (.loop (.seq (.bh [.op (some 24) none (.bin .lss (.t 23) (.t 22))]) (.seq (.cond (.t 24) .skip (.exit 2)) (.seq (.block 3 (.seq (.bh [.op (some 25) none (.idx 1 (.t 21) (.t 23)),.op (some 26) none (.load false 1 (.t 25)),.op (some 10) none (.mv (.t 26))]) (.seq (.draw [[],[],[1],[1,2],[1,2,3],[],[1,2,3,4,5],[0,1,2,3,4,5,6],[],[0,1,2,3,4,5,6,7,8]] [.op (some 27) none (.load false 1 (.t 3)),.op (some 28) none (.load false 1 (.t 2)),.op (some 29) none (.ex gH.ja [.t 28]),.op (some 30) none (.nu 0 [false] (.t 29)),.op (some 31) none (.load false 1 (.t 30)),.op (some 32) none (.mv (.t 10)),.op (some 33) none (.ex (gH.gv .str false tG true false) [.t 31,.t 32]),.call (some 34) none (.t 27) [.t 33] [some tG],.op (some 11) none (.alloc [.int .i64 (Int.ofNat 0)]),.op none none (.store 1 (.t 11) (.t 34))]) (.seq (.bh [.op (some 35) none (.load false 1 (.t 5)),.call (some 36) none (.c (.fn 101 [] [])) [.t 35] [none]]) (.block 4 (.bM (.t 36) [37] (.bh [.op (some 12) none (.mv (.t 37))]) (.block 5 (.bh [.op (some 38) none (.load false 1 (.t 8)),.op (some 39) none (.mv (.t 12)),.op (some 40) none (.load false 1 (.t 11)),.op (some 41) none (.bin .add (.t 39) (.t 40)),.call (some 42) none (.c (.fn 100 [] [])) [.t 38,.t 41] [none,some tI]])))))))) (.bh [.op (some 43) none (.bin .add (.t 23) (.c (.int .i64 (Int.ofNat 1)))),.op (some 23) none (.mv (.t 43))]))))))) (.bh [.op (some 44) none (.load false 1 (.t 8)),.op none none (.store 1 (.t 5) (.t 44))])))) 48),(13,.arr .str false),(22,.map tI false .unit true),(23,.map tI false .unit true)] [.slot 8,.cell 8 0,.cell 21 0] []
@[reducible] def LX:bf:=[(.exit 2,az.mk [(5,.c (.ptr 8 0)),(8,.c (.ptr 21 0))] [(8,.cells [.mp 22] false),(21,.cells [.mp 23] false),(0,.cells [.mp 2,.mp 3,.mp 4,.mp 5] false),(2,.map .str false tG true),(3,.map .str false (.list .str) false),(4,.map .str false .bool false),(5,.map .str false .bool false),(1,.cells [.hole .str] false),(6,.cells [.ptr 0 0] false),(7,.cells [.fn 68 .nil (.cons (.ptr 1 0) .nil)] false),(9,.cells [.ptr 0 0] false),(11,.iz),(12,.loop .busy none 11 [(2,.c (.ptr 6 0)),(3,.c (.ptr 7 0)),(4,.c .cq),(5,.c (.ptr 8 0)),(17,.fn 106 [] [.ptr 9 0])] [18,19] (.bh [.op (some 7) none (.mv (.t 19))]) (.block 1 (.seq (.bh [.op (some 20) none (.ex (gH.jc tI false .unit true) []),.op (some 8) none (.alloc [.cH]),.op none none (.store 1 (.t 8) (.t 20))]) (.seq (.seq (.bh [.op (some 21) none (.mv (.t 7)),.op (some 22) none (.len (.t 21)),.op (some 23) none (.mv (.c (.int .i64 (Int.ofNat 0))))]) (.block 2 (.loop (.seq (.bh [.op (some 24) none (.bin .lss (.t 23) (.t 22))]) (.seq (.cond (.t 24) .skip (.exit 2)) (.seq (.block 3 (.seq (.bh [.op (some 25) none (.idx 1 (.t 21) (.t 23)),.op (some 26) none (.load false 1 (.t 25)),.op (some 10) none (.mv (.t 26))]) (.seq (.draw [[],[],[1],[1,2],[1,2,3],[],[1,2,3,4,5],[0,1,2,3,4,5,6],[],[0,1,2,3,4,5,6,7,8]] [.op (some 27) none (.load false 1 (.t 3)),.op (some 28) none (.load false 1 (.t 2)),.op (some 29) none (.ex gH.ja [.t 28]),.op (some 30) none (.nu 0 [false] (.t 29)),.op (some 31) none (.load false 1 (.t 30)),.op (some 32) none (.mv (.t 10)),.op (some 33) none (.ex (gH.gv .str false tG true false) [.t 31,.t 32]),.call (some 34) none (.t 27) [.t 33] [some tG],.op (some 11) none (.alloc [.int .i64 (Int.ofNat 0)]),.op none none (.store 1 (.t 11) (.t 34))]) (.seq (.bh [.op (some 35) none (.load false 1 (.t 5)),.call (some 36) none (.c (.fn 101 [] [])) [.t 35] [none]]) (.block 4 (.bM (.t 36) [37] (.bh [.op (some 12) none (.mv (.t 37))]) (.block 5 (.bh [.op (some 38) none (.load false 1 (.t 8)),.op (some 39) none (.mv (.t 12)),.op (some 40) none (.load false 1 (.t 11)),.op (some 41) none (.bin .add (.t 39) (.t 40)),.call (some 42) none (.c (.fn 100 [] [])) [.t 38,.t 41] [none,some tI]])))))))) (.bh [.op (some 43) none (.bin .add (.t 23) (.c (.int .i64 (Int.ofNat 1)))),.op (some 23) none (.mv (.t 43))]))))))) (.bh [.op (some 44) none (.load false 1 (.t 8)),.op none none (.store 1 (.t 5) (.t 44))])))) 48),(13,.arr .str false),(20,.arr .str false),(22,.map tI false .unit true),(23,.map tI false .unit true)] [.slot 8,.cell 8 0,.cell 21 0] [])]
noncomputable def LY:D prog 48 (some 12) 21:=dO [.r LV] (pick (kd prog f67) [(0,true),(0,false)]) 0
noncomputable def gH67_0b_1:Nat×Int×Int×List ByteArray×cQ×cS×bn×bn×ByteArray×List ByteArray×(List (Int×Unit))×(List (Int×Unit))×Unit→bU ((Nat×Int×Int×List ByteArray×cQ×cS×bn×bn×ByteArray×List ByteArray×(List (Int×Unit))×(List (Int×Unit))×Unit) ⊕ ((cQ×cS×bn×bn×ByteArray×List ByteArray×List ByteArray×(List (Int×Unit))×(List (Int×Unit))×Unit))):=fun (yV,v22,v23,qi,m2,m3,m4,m5,dV,jA,m22,m23,_) =>
 .br (decide (v23<v22)) (
 .nb v23 ((yV:Nat):Int) <|
 .nd (decide (((0:Nat)+(Int.toNat v23))<(qi).length)) <|
 .bd (F68 ((aA .str ((bs []),(0:Int),(bs []),(bs []),(0:Int)) m2 ((qi).getD ((0:Nat)+(Int.toNat v23)) (bs []))).1,(aA .str ((bs []),(0:Int),(bs []),(bs []),(0:Int)) m2 ((qi).getD ((0:Nat)+(Int.toNat v23)) (bs []))).2.1,(aA .str ((bs []),(0:Int),(bs []),(bs []),(0:Int)) m2 ((qi).getD ((0:Nat)+(Int.toNat v23)) (bs []))).2.2.1,(aA .str ((bs []),(0:Int),(bs []),(bs []),(0:Int)) m2 ((qi).getD ((0:Nat)+(Int.toNat v23)) (bs []))).2.2.2.1,(aA .str ((bs []),(0:Int),(bs []),(bs []),(0:Int)) m2 ((qi).getD ((0:Nat)+(Int.toNat v23)) (bs []))).2.2.2.2) dV) fun y5 =>
 .bd (FH101 m22) fun y6 =>
 .bd (gH67_0b_2 (yV,v22,v23,y5.1,qi,m2,m3,m4,m5,dV,jA,y6.1,m23,())) fun z9 =>
 .ni (z9.2.2.1+(1:Int)) <|
 .ret (.inl (z9.1,z9.2.1,(z9.2.2.1+(1:Int)),z9.2.2.2.1,z9.2.2.2.2.1,z9.2.2.2.2.2.1,z9.2.2.2.2.2.2.1,z9.2.2.2.2.2.2.2.1,z9.2.2.2.2.2.2.2.2.1,z9.2.2.2.2.2.2.2.2.2.1,z9.2.2.2.2.2.2.2.2.2.2.1,z9.2.2.2.2.2.2.2.2.2.2.2.1,()))) (
 .ret (.inr (m2,m3,m4,m5,dV,jA,qi,m22,m23,())))
noncomputable def LZ:bQ prog 48 (some 12) 21:=bx mixed Bq mW [0,1,2,3,4,5,6,7,8,9,10,11,12,13,14,15,16,17,18,19,20] rfl LW LX rfl (LY) (fun x=>ak (gH67_0b_1 x)) (fun x=>by kernel_rfl)
noncomputable def JJ:D prog 48 (some 12) 21:=dO [] (pick (kd prog f67) [(0,false)]) 0
noncomputable def JK:D prog 48 (some 12) 21:=dO [.l LZ] (pick (kd prog f67) [(0,true)]) 0
noncomputable def yW:Cx:=Ad Bq (fun kz=>OB kz Bq dY 12 21 [18,19] (JJ) (JK))
theorem vk:(yW).Ok prog:=j6 mW (fun h=>nO mixed mW h)
@[reducible] def L5:az:=az.mk [(0,.c (.yl 12)),(1,.c (.ptr 9 0)),(10,.c (.cn 13 .str)),(11,hI),(12,hI)] [(12,.loop .ready none 11 [(2,.c (.ptr 6 0)),(3,.c (.ptr 7 0)),(4,.c .cq),(5,.c (.ptr 8 0)),(17,.fn 106 [] [.ptr 9 0])] [18,19] (.bh [.op (some 7) none (.mv (.t 19))]) (.block 1 (.seq (.bh [.op (some 20) none (.ex (gH.jc tI false .unit true) []),.op (some 8) none (.alloc [.cH]),.op none none (.store 1 (.t 8) (.t 20))]) (.seq (.seq (.bh [.op (some 21) none (.mv (.t 7)),.op (some 22) none (.len (.t 21)),.op (some 23) none (.mv (.c (.int .i64 (Int.ofNat 0))))]) (.block 2 (.loop (.seq (.bh [.op (some 24) none (.bin .lss (.t 23) (.t 22))]) (.seq (.cond (.t 24) .skip (.exit 2)) (.seq (.block 3 (.seq (.bh [.op (some 25) none (.idx 1 (.t 21) (.t 23)),.op (some 26) none (.load false 1 (.t 25)),.op (some 10) none (.mv (.t 26))]) (.seq (.draw [[],[],[1],[1,2],[1,2,3],[],[1,2,3,4,5],[0,1,2,3,4,5,6],[],[0,1,2,3,4,5,6,7,8]] [.op (some 27) none (.load false 1 (.t 3)),.op (some 28) none (.load false 1 (.t 2)),.op (some 29) none (.ex gH.ja [.t 28]),.op (some 30) none (.nu 0 [false] (.t 29)),.op (some 31) none (.load false 1 (.t 30)),.op (some 32) none (.mv (.t 10)),.op (some 33) none (.ex (gH.gv .str false tG true false) [.t 31,.t 32]),.call (some 34) none (.t 27) [.t 33] [some tG],.op (some 11) none (.alloc [.int .i64 (Int.ofNat 0)]),.op none none (.store 1 (.t 11) (.t 34))]) (.seq (.bh [.op (some 35) none (.load false 1 (.t 5)),.call (some 36) none (.c (.fn 101 [] [])) [.t 35] [none]]) (.block 4 (.bM (.t 36) [37] (.bh [.op (some 12) none (.mv (.t 37))]) (.block 5 (.bh [.op (some 38) none (.load false 1 (.t 8)),.op (some 39) none (.mv (.t 12)),.op (some 40) none (.load false 1 (.t 11)),.op (some 41) none (.bin .add (.t 39) (.t 40)),.call (some 42) none (.c (.fn 100 [] [])) [.t 38,.t 41] [none,some tI]])))))))) (.bh [.op (some 43) none (.bin .add (.t 23) (.c (.int .i64 (Int.ofNat 1)))),.op (some 23) none (.mv (.t 43))]))))))) (.bh [.op (some 44) none (.load false 1 (.t 8)),.op none none (.store 1 (.t 5) (.t 44))])))) 48),(9,.cells [.ptr 0 0] false),(13,.arr .str false),(11,.iz),(6,.cells [.ptr 0 0] false),(0,.cells [.mp 2,.mp 3,.mp 4,.mp 5] false),(2,.map .str false tG true),(3,.map .str false (.list .str) false),(4,.map .str false .bool false),(5,.map .str false .bool false),(7,.cells [.fn 68 .nil (.cons (.ptr 1 0) .nil)] false),(1,.cells [.hole .str] false),(8,.cells [.mp 14] false),(14,.map tI false .unit true)] [.slot 10,.cell 8 0] []
@[reducible] def Ma:bf:=[(.exit 0,az.mk [] [(0,.cells [.mp 2,.mp 3,.mp 4,.mp 5] false),(2,.map .str false tG true),(3,.map .str false (.list .str) false),(4,.map .str false .bool false),(5,.map .str false .bool false),(1,.cells [.hole .str] false),(6,.cells [.ptr 0 0] false),(7,.cells [.fn 68 .nil (.cons (.ptr 1 0) .nil)] false),(8,.cells [.mp 13] false),(9,.cells [.ptr 0 0] false),(11,.iz),(12,.loop .ready none 11 [(2,.c (.ptr 6 0)),(3,.c (.ptr 7 0)),(4,.c .cq),(5,.c (.ptr 8 0)),(17,.fn 106 [] [.ptr 9 0])] [18,19] (.bh [.op (some 7) none (.mv (.t 19))]) (.block 1 (.seq (.bh [.op (some 20) none (.ex (gH.jc tI false .unit true) []),.op (some 8) none (.alloc [.cH]),.op none none (.store 1 (.t 8) (.t 20))]) (.seq (.seq (.bh [.op (some 21) none (.mv (.t 7)),.op (some 22) none (.len (.t 21)),.op (some 23) none (.mv (.c (.int .i64 (Int.ofNat 0))))]) (.block 2 (.loop (.seq (.bh [.op (some 24) none (.bin .lss (.t 23) (.t 22))]) (.seq (.cond (.t 24) .skip (.exit 2)) (.seq (.block 3 (.seq (.bh [.op (some 25) none (.idx 1 (.t 21) (.t 23)),.op (some 26) none (.load false 1 (.t 25)),.op (some 10) none (.mv (.t 26))]) (.seq (.draw [[],[],[1],[1,2],[1,2,3],[],[1,2,3,4,5],[0,1,2,3,4,5,6],[],[0,1,2,3,4,5,6,7,8]] [.op (some 27) none (.load false 1 (.t 3)),.op (some 28) none (.load false 1 (.t 2)),.op (some 29) none (.ex gH.ja [.t 28]),.op (some 30) none (.nu 0 [false] (.t 29)),.op (some 31) none (.load false 1 (.t 30)),.op (some 32) none (.mv (.t 10)),.op (some 33) none (.ex (gH.gv .str false tG true false) [.t 31,.t 32]),.call (some 34) none (.t 27) [.t 33] [some tG],.op (some 11) none (.alloc [.int .i64 (Int.ofNat 0)]),.op none none (.store 1 (.t 11) (.t 34))]) (.seq (.bh [.op (some 35) none (.load false 1 (.t 5)),.call (some 36) none (.c (.fn 101 [] [])) [.t 35] [none]]) (.block 4 (.bM (.t 36) [37] (.bh [.op (some 12) none (.mv (.t 37))]) (.block 5 (.bh [.op (some 38) none (.load false 1 (.t 8)),.op (some 39) none (.mv (.t 12)),.op (some 40) none (.load false 1 (.t 11)),.op (some 41) none (.bin .add (.t 39) (.t 40)),.call (some 42) none (.c (.fn 100 [] [])) [.t 38,.t 41] [none,some tI]])))))))) (.bh [.op (some 43) none (.bin .add (.t 23) (.c (.int .i64 (Int.ofNat 1)))),.op (some 23) none (.mv (.t 43))]))))))) (.bh [.op (some 44) none (.load false 1 (.t 8)),.op none none (.store 1 (.t 5) (.t 44))])))) 48),(13,.map tI false .unit true)] [.cell 8 0] [])]
noncomputable def Mb:D prog 34 none 13:=dO [] (pick (kd prog f106) [(0,false)]) 0
noncomputable def gH67_0i_0:Nat×Int×Int×List ByteArray×cQ×cS×bn×bn×ByteArray×(List (Int×Unit))×Unit→bU ((Nat×Int×Int×List ByteArray×cQ×cS×bn×bn×ByteArray×(List (Int×Unit))×Unit) ⊕ ((cQ×cS×bn×bn×ByteArray×(List (Int×Unit))×Unit))):=fun (yX,v11,v12,jA,m2,m3,m4,m5,dV,m14,_) =>
 .br (decide (v12<v11)) (
 .nb v12 ((yX:Nat):Int) <|
 .nd (decide (((0:Nat)+(Int.toNat v12))<(jA).length)) <|
 .br ((aA .str ((bs []),(0:Int),(bs []),(bs []),(0:Int)) m2 ((jA).getD ((0:Nat)+(Int.toNat v12)) (bs []))).2.1==(1:Int)) (
 .bd (FH76fix ((jA).getD ((0:Nat)+(Int.toNat v12)) (bs [])) m2 m3 m4 m5) fun y4 =>
 .bd (.it gH67_0b_1 (y4.1,((y4.1:Nat):Int),(0:Int),y4.2.1,y4.2.2.1,y4.2.2.2.1,y4.2.2.2.2.1,y4.2.2.2.2.2.1,dV,jA,m14,[],())) fun Ge =>
 .ni (v12+(1:Int)) <|
 .ret (.inl (yX,v11,(v12+(1:Int)),Ge.2.2.2.2.2.1,Ge.1,Ge.2.1,Ge.2.2.1,Ge.2.2.2.1,Ge.2.2.2.2.1,Ge.2.2.2.2.2.2.2.2.1,()))) (
 .ni (v12+(1:Int)) <|
 .ret (.inl (yX,v11,(v12+(1:Int)),jA,m2,m3,m4,m5,dV,m14,())))) (
 .ret (.inr (m2,m3,m4,m5,dV,m14,())))
noncomputable def Mc:bQ prog 34 none 13:=bx mixed yW vk [0,1,2,3,4,5,6,7,8,9,10,11,12] rfl L5 Ma rfl (Mb) (fun x=>ak (gH67_0i_0 x)) (fun x=>by kernel_rfl)
@[reducible] def aap:az:=az.mk [(2,.c (.ptr 6 0)),(3,.c (.ptr 7 0)),(4,.c .cq),(5,.c (.ptr 8 0)),(17,.fn 106 [] [.ptr 9 0])] [(6,.cells [.ptr 0 0] false),(7,.cells [.fn 68 .nil (.cons (.ptr 1 0) .nil)] false),(8,.cells [.mp 10] false),(9,.cells [.ptr 0 0] false),(0,.cells [.mp 2,.mp 3,.mp 4,.mp 5] false),(2,.map .str false tG true),(3,.map .str false (.list .str) false),(4,.map .str false .bool false),(5,.map .str false .bool false),(1,.cells [.hole .str] false),(10,.map tI false .unit true)] [.slot 2,.slot 3,.slot 5,.part 17 0,.cell 8 0] []
@[reducible] def aaq:bf:=[(.normal,az.mk [(5,.c (.ptr 6 0))] [(6,.cells [.mp 7] false),(0,.cells [.mp 2,.mp 3,.mp 4,.mp 5] false),(2,.map .str false tG true),(3,.map .str false (.list .str) false),(4,.map .str false .bool false),(5,.map .str false .bool false),(1,.cells [.hole .str] false),(7,.map tI false .unit true)] [.slot 5,.cell 6 0] [])]
noncomputable def JL:D prog 34 none 13:=dO [.l Mc] (kd prog f106) 0
theorem Uu:cM prog f106=some ⟨34,2,(JL).er,[],[]⟩:=by kernel_rfl
noncomputable def gH67_0:cQ×cS×bn×bn×ByteArray×(List (Int×Unit))×Unit→bU ((cQ×cS×bn×bn×ByteArray×(List (Int×Unit))×Unit)):=fun (m2,m3,m4,m5,dV,m10,_) =>
 .bd (FH95 m2) fun y2 =>
 .bd (FH81 y2.1) fun y3 =>
 .bd (.it gH67_0i_0 (y3.1,((y3.1:Nat):Int),(0:Int),y3.2.1,y3.2.2.1,m3,m4,m5,dV,m10,())) fun JM =>
 .ret ((JM.1,JM.2.1,JM.2.2.1,JM.2.2.2.1,JM.2.2.2.2.1,JM.2.2.2.2.2.1,()))
noncomputable def aar:gB prog 48 none 6:=sx mixed yW vk [0,1,2,3,4,5] rfl aap aaq ( .t 17) [18,19] rfl (JJ).er (JK).er 106 func106 (Uu) (enters_of func106 rfl rfl) 13 rfl (JL) rfl (fun x=>ak (gH67_0 x)) (fun x=>by kernel_rfl)
noncomputable def Xh:D prog 48 none 6:=dO [.r aar] (kd prog f67) 0
noncomputable def FH67 (dV:ByteArray) (m2:cQ) (m3:cS) (m4:bn) (m5:bn):bU (Nat×List Int×cQ×cS×bn×bn×ByteArray×Unit) :=
 .bd (FH100 (0:Int) []) fun y0 =>
 .bd (FH79 m2 m3 m4 m5) fun y1 =>
 .bd (gH67_0 (y1.1,y1.2.1,y1.2.2.1,y1.2.2.2.1,dV,y0.1,())) fun z12 =>
 .bd (FH101 z12.2.2.2.2.2.1) fun y13 =>
 .bd (FH102 y13.1) fun Qn =>
 .ret (Qn.1,Qn.2.1,z12.1,z12.2.1,z12.2.2.1,z12.2.2.2.1,z12.2.2.2.2.1,())
theorem Uv:cM prog f67=some ⟨48,2,Xh.er,[.t 4],[some tL]⟩:=by kernel_rfl
noncomputable def ht67:Ht:=⟨67,pH67,qH67,(fun x=>ak (FH67 x.1 x.2.1 x.2.2.1 x.2.2.2.1 x.2.2.2.2.1))⟩
theorem Uw:ht67.Ok prog:=bW mixed mW rfl func67 Uv (enters_of func67 rfl rfl) Xh (by kernel_rfl) rfl rfl ⟨_,rfl⟩ rfl (pre:=[0,1,2,3,4,5]) rfl (fun x=>by kernel_rfl)

/- 23, lent -/
@[reducible] def pH23:az:=az.mk [(0,.c (.ptr 0 0)),(1,.c (.hole .str))] [(0,.cells [.mp 1] false),(1,.map tG true .bool false)] [.slot 0,.cell 0 0] []
@[reducible] def qH23:az:=az.mk [(0,.cO [.cn 2 tI,.hole tI])] [(2,.arr tI false),(0,.cells [.mp 1] false),(1,.map tG true .bool false)] [.part 0 0] []
noncomputable def aeL:Cx:=(aN [Pd] [Ag,E3,ht67])
theorem Qo:aeL.Ok prog:=av ⟨wm,trivial⟩ ⟨⟨nS,rfl⟩,⟨sN,rfl⟩,⟨Uw,rfl⟩,trivial⟩
noncomputable def Xi:D prog 15 none 2:=dO [] (kd prog f23) 0
noncomputable def FH23 (v1:ByteArray) (m1:List ((GG)×Bool)):bU (Nat×Int×List Int×(List ((GG)×Bool))×Unit) :=
 .bd (FH54 m1) fun y0 =>
 .br y0.1 (
 .ret ((0:Nat),(9:Int),[],y0.2.1,())) (
 .bd (F65 v1) fun y1 =>
 .br (!y1.1) (
 .ret ((0:Nat),(8:Int),[],y0.2.1,())) (
 .bd (FH66 y0.2.1) fun y2 =>
 .bd (FH67 v1 y2.2.1 y2.2.2.1 y2.2.2.2.1 y2.2.2.2.2.1) fun y3 =>
 .ret (y3.1,(0:Int),y3.2.1,y2.1,())))
theorem Ux:cM prog f23=some ⟨15,2,Xi.er,[.t 4,.t 5],[some tL,some tI]⟩:=by kernel_rfl
noncomputable def Uy:Ht:=⟨23,pH23,qH23,(fun x=>ak (FH23 x.1 x.2.1))⟩
theorem CT:Uy.Ok prog:=bW mixed Qo rfl func23 Ux (enters_of func23 rfl rfl) Xi (by kernel_rfl) rfl rfl ⟨_,rfl⟩ rfl (pre:=[0,1]) rfl (fun x=>by kernel_rfl)

/- 78 -/
noncomputable def cx78:Cx:=(aN [] [])
theorem Uz:cx78.Ok prog:=av trivial trivial
noncomputable def dd78:D prog 5 none 0:=dO [] (kd prog f78) 0
noncomputable def F78 (a0:GG):bU (Int×Unit) :=
 .ret (a0.2.2.2.2,())
theorem aat:cM prog f78=some ⟨5,1,dd78.er,[.t 2],[some tI]⟩:=by kernel_rfl
noncomputable def ct78:Ct:=⟨78,[.c (.hole tG)],hI,fun x=>ak (F78 x.1)⟩
theorem UA:ct78.Ok prog:=cF mixed Uz func78 aat (enters_of func78 rfl rfl) dd78 (by kernel_rfl) rfl (fun x=>by kernel_rfl)

/- 67, lent -/
@[reducible] def UB:az:=az.mk [(0,.c (.ptr 0 0)),(1,.c (.fn0 78))] [(0,.cells [.mp 1,.mp 2,.mp 3,.mp 4] false),(1,.map .str false tG true),(2,.map .str false (.list .str) false),(3,.map .str false .bool false),(4,.map .str false .bool false)] [.slot 0,.cell 0 0,.cell 0 1,.cell 0 2,.cell 0 3] []
@[reducible] def UC:az:=az.mk [(0,.c (.cn 5 tI))] [(5,.arr tI false),(0,.cells [.mp 1,.mp 2,.mp 3,.mp 4] false),(1,.map .str false tG true),(2,.map .str false (.list .str) false),(3,.map .str false .bool false),(4,.map .str false .bool false)] [.slot 0] []
noncomputable def mX:Cx:=(aN [ct78] [P8,Ur,Pr,Pu,HK,Qf,Qm])
theorem gO:mX.Ok prog:=av ⟨UA,trivial⟩ ⟨⟨Fj,rfl⟩,⟨CO,rfl⟩,⟨wv,rfl⟩,⟨wB,rfl⟩,⟨sQ,rfl⟩,⟨Fk,rfl⟩,⟨Fq,rfl⟩,trivial⟩
noncomputable def qy:D prog 48 (some 25) 28:=dO [] (pick (kd prog f67) [(0,true),(0,false),(0,false)]) 0
noncomputable def qz:D prog 48 (some 25) 28:=dO [] (pick (kd prog f67) [(0,true),(0,false),(0,true)]) 0
noncomputable def lq:Cx:=Ad mX (fun kz=>OB kz mX dY 25 28 [37] (qy) (qz))
theorem l9:(lq).Ok prog:=j6 gO (fun h=>nO mixed gO h)
@[reducible] def vJ:az:=az.mk [(0,.c (.yl 25)),(4,.c (.mp 23))] [(25,.loop .ready none 10 [(2,.c (.ptr 5 0)),(3,.c (.ptr 6 0)),(5,.c (.ptr 7 0)),(8,.c (.ptr 20 0)),(11,.c (.ptr 21 0)),(21,.c (.cn 19 .str)),(22,hI),(23,hI),(36,.fn 132 [] [.ptr 22 0])] [37] (.bh [.op (some 12) none (.mv (.t 37))]) (.block 5 (.bh [.op (some 38) none (.load false 1 (.t 8)),.op (some 39) none (.mv (.t 12)),.op (some 40) none (.load false 1 (.t 11)),.op (some 41) none (.bin .add (.t 39) (.t 40)),.call (some 42) none (.c (.fn 100 [] [])) [.t 38,.t 41] [none,some tI]])) 48),(23,.map tI false .unit true),(10,.iz),(5,.cells [.ptr 0 0] false),(0,.cells [.mp 1,.mp 2,.mp 3,.mp 4] false),(1,.map .str false tG true),(2,.map .str false (.list .str) false),(3,.map .str false .bool false),(4,.map .str false .bool false),(6,.cells [.fn0 78] false),(7,.cells [.mp 23] false),(20,.cells [.mp 26] false),(21,.cells [.hole tI] false),(19,.arr .str false),(22,.cells [.mp 23] false),(8,.cells [.ptr 0 0] false),(11,.loop .busy none 10 [(2,.c (.ptr 5 0)),(3,.c (.ptr 6 0)),(4,.c .cq),(5,.c (.ptr 7 0)),(17,.fn 106 [] [.ptr 8 0])] [18,19] (.bh [.op (some 7) none (.mv (.t 19))]) (.block 1 (.seq (.bh [.op (some 20) none (.ex (gH.jc tI false .unit true) []),.op (some 8) none (.alloc [.cH]),.op none none (.store 1 (.t 8) (.t 20))]) (.seq (.seq (.bh [.op (some 21) none (.mv (.t 7)),.op (some 22) none (.len (.t 21)),.op (some 23) none (.mv (.c (.int .i64 (Int.ofNat 0))))]) (.block 2 (.loop (.seq (.bh [.op (some 24) none (.bin .lss (.t 23) (.t 22))]) (.seq (.cond (.t 24) .skip (.exit 2)) (.seq (.block 3 (.seq (.bh [.op (some 25) none (.idx 1 (.t 21) (.t 23)),.op (some 26) none (.load false 1 (.t 25)),.op (some 10) none (.mv (.t 26))]) (.seq (.draw [[],[],[1],[1,2],[1,2,3],[],[1,2,3,4,5],[0,1,2,3,4,5,6],[],[0,1,2,3,4,5,6,7,8]] [.op (some 27) none (.load false 1 (.t 3)),.op (some 28) none (.load false 1 (.t 2)),.op (some 29) none (.ex gH.ja [.t 28]),.op (some 30) none (.nu 0 [false] (.t 29)),.op (some 31) none (.load false 1 (.t 30)),.op (some 32) none (.mv (.t 10)),.op (some 33) none (.ex (gH.gv .str false tG true false) [.t 31,.t 32]),.call (some 34) none (.t 27) [.t 33] [some tG],.op (some 11) none (.alloc [.int .i64 (Int.ofNat 0)]),.op none none (.store 1 (.t 11) (.t 34))]) (.seq (.bh [.op (some 35) none (.load false 1 (.t 5)),.call (some 36) none (.c (.fn 101 [] [])) [.t 35] [none]]) (.block 4 (.bM (.t 36) [37] (.bh [.op (some 12) none (.mv (.t 37))]) (.block 5 (.bh [.op (some 38) none (.load false 1 (.t 8)),.op (some 39) none (.mv (.t 12)),.op (some 40) none (.load false 1 (.t 11)),.op (some 41) none (.bin .add (.t 39) (.t 40)),.call (some 42) none (.c (.fn 100 [] [])) [.t 38,.t 41] [none,some tI]])))))))) (.bh [.op (some 43) none (.bin .add (.t 23) (.c (.int .i64 (Int.ofNat 1)))),.op (some 23) none (.mv (.t 43))]))))))) (.bh [.op (some 44) none (.load false 1 (.t 8)),.op none none (.store 1 (.t 5) (.t 44))])))) 48),(12,.arr .str false),(26,.map tI false .unit true)] [.cell 20 0] []
noncomputable def vK:D prog 14 none 28:=dO [] (pick (kd prog f132) [(0,false)]) 0
noncomputable def gH67_v1_0b_2i_0:((Int)×(Unit))→Nat×Int×Int×(List (Int×Unit))×cQ×cS×bn×bn×Int×List ByteArray×List ByteArray×(List (Int×Unit))×Unit→bU (Nat×Int×Int×(List (Int×Unit))×cQ×cS×bn×bn×Int×List ByteArray×List ByteArray×(List (Int×Unit))×Unit):=fun e (aao,w22,w23,m23,m1,m2,m3,m4,Ft,MR,MS,m26,_) =>
 .ni (e.1+Ft) <|
 .bd (FH100 (e.1+Ft) m26) fun y7 =>
 .nd (jS m23 m23) <|
 .ret (aao,w22,w23,m23,m1,m2,m3,m4,Ft,MR,MS,y7.1,())
noncomputable def vL:sg prog 14 none 26:=CD mixed lq l9 [0,1,2,3,4,5,6,7,8,9,10,11,12,13,14,15,16,17,18,19,20,21,22,23,24,25] rfl vJ ( [.op (some 4) none (.load false 1 (.t 1))]) 4 5 [6,7] (some 8) ( .int .i64)  false ( .unit)  true 0 rfl 28 rfl (vK) (fun e x=>ak (gH67_v1_0b_2i_0 e x)) (fun e=>fun x=>by kernel_rfl)
@[reducible] def CU:az:=az.mk [(2,.c (.ptr 5 0)),(3,.c (.ptr 6 0)),(5,.c (.ptr 7 0)),(8,.c (.ptr 20 0)),(11,.c (.ptr 21 0)),(21,.c (.cn 19 .str)),(22,hI),(23,hI),(36,.fn 132 [] [.ptr 22 0])] [(5,.cells [.ptr 0 0] false),(6,.cells [.fn0 78] false),(7,.cells [.mp 23] false),(20,.cells [.mp 24] false),(21,.cells [.hole tI] false),(19,.arr .str false),(22,.cells [.mp 23] false),(0,.cells [.mp 1,.mp 2,.mp 3,.mp 4] false),(1,.map .str false tG true),(2,.map .str false (.list .str) false),(3,.map .str false .bool false),(4,.map .str false .bool false),(8,.cells [.ptr 0 0] false),(10,.iz),(11,.loop .busy none 10 [(2,.c (.ptr 5 0)),(3,.c (.ptr 6 0)),(4,.c .cq),(5,.c (.ptr 7 0)),(17,.fn 106 [] [.ptr 8 0])] [18,19] (.bh [.op (some 7) none (.mv (.t 19))]) (.block 1 (.seq (.bh [.op (some 20) none (.ex (gH.jc tI false .unit true) []),.op (some 8) none (.alloc [.cH]),.op none none (.store 1 (.t 8) (.t 20))]) (.seq (.seq (.bh [.op (some 21) none (.mv (.t 7)),.op (some 22) none (.len (.t 21)),.op (some 23) none (.mv (.c (.int .i64 (Int.ofNat 0))))]) (.block 2 (.loop (.seq (.bh [.op (some 24) none (.bin .lss (.t 23) (.t 22))]) (.seq (.cond (.t 24) .skip (.exit 2)) (.seq (.block 3 (.seq (.bh [.op (some 25) none (.idx 1 (.t 21) (.t 23)),.op (some 26) none (.load false 1 (.t 25)),.op (some 10) none (.mv (.t 26))]) (.seq (.draw [[],[],[1],[1,2],[1,2,3],[],[1,2,3,4,5],[0,1,2,3,4,5,6],[],[0,1,2,3,4,5,6,7,8]] [.op (some 27) none (.load false 1 (.t 3)),.op (some 28) none (.load false 1 (.t 2)),.op (some 29) none (.ex gH.ja [.t 28]),.op (some 30) none (.nu 0 [false] (.t 29)),.op (some 31) none (.load false 1 (.t 30)),.op (some 32) none (.mv (.t 10)),.op (some 33) none (.ex (gH.gv .str false tG true false) [.t 31,.t 32]),.call (some 34) none (.t 27) [.t 33] [some tG],.op (some 11) none (.alloc [.int .i64 (Int.ofNat 0)]),.op none none (.store 1 (.t 11) (.t 34))]) (.seq (.bh [.op (some 35) none (.load false 1 (.t 5)),.call (some 36) none (.c (.fn 101 [] [])) [.t 35] [none]]) (.block 4 (.bM (.t 36) [37] (.bh [.op (some 12) none (.mv (.t 37))]) (.block 5 (.bh [.op (some 38) none (.load false 1 (.t 8)),.op (some 39) none (.mv (.t 12)),.op (some 40) none (.load false 1 (.t 11)),.op (some 41) none (.bin .add (.t 39) (.t 40)),.call (some 42) none (.c (.fn 100 [] [])) [.t 38,.t 41] [none,some tI]])))))))) (.bh [.op (some 43) none (.bin .add (.t 23) (.c (.int .i64 (Int.ofNat 1)))),.op (some 23) none (.mv (.t 43))]))))))) (.bh [.op (some 44) none (.load false 1 (.t 8)),.op none none (.store 1 (.t 5) (.t 44))])))) 48),(12,.arr .str false),(23,.map tI false .unit true),(24,.map tI false .unit true)] [.slot 8,.slot 11,.part 36 0,.cell 7 0,.cell 20 0] []
@[reducible] def CV:bf:=[(.normal,az.mk [(2,.c (.ptr 5 0)),(3,.c (.ptr 6 0)),(5,.c (.ptr 7 0)),(8,.c (.ptr 20 0)),(21,.c (.cn 19 .str)),(22,hI),(23,hI)] [(5,.cells [.ptr 0 0] false),(6,.cells [.fn0 78] false),(7,.cells [.mp 21] false),(20,.cells [.mp 22] false),(19,.arr .str false),(0,.cells [.mp 1,.mp 2,.mp 3,.mp 4] false),(1,.map .str false tG true),(2,.map .str false (.list .str) false),(3,.map .str false .bool false),(4,.map .str false .bool false),(8,.cells [.ptr 0 0] false),(10,.iz),(11,.loop .busy none 10 [(2,.c (.ptr 5 0)),(3,.c (.ptr 6 0)),(4,.c .cq),(5,.c (.ptr 7 0)),(17,.fn 106 [] [.ptr 8 0])] [18,19] (.bh [.op (some 7) none (.mv (.t 19))]) (.block 1 (.seq (.bh [.op (some 20) none (.ex (gH.jc tI false .unit true) []),.op (some 8) none (.alloc [.cH]),.op none none (.store 1 (.t 8) (.t 20))]) (.seq (.seq (.bh [.op (some 21) none (.mv (.t 7)),.op (some 22) none (.len (.t 21)),.op (some 23) none (.mv (.c (.int .i64 (Int.ofNat 0))))]) (.block 2 (.loop (.seq (.bh [.op (some 24) none (.bin .lss (.t 23) (.t 22))]) (.seq (.cond (.t 24) .skip (.exit 2)) (.seq (.block 3 (.seq (.bh [.op (some 25) none (.idx 1 (.t 21) (.t 23)),.op (some 26) none (.load false 1 (.t 25)),.op (some 10) none (.mv (.t 26))]) (.seq (.draw [[],[],[1],[1,2],[1,2,3],[],[1,2,3,4,5],[0,1,2,3,4,5,6],[],[0,1,2,3,4,5,6,7,8]] [.op (some 27) none (.load false 1 (.t 3)),.op (some 28) none (.load false 1 (.t 2)),.op (some 29) none (.ex gH.ja [.t 28]),.op (some 30) none (.nu 0 [false] (.t 29)),.op (some 31) none (.load false 1 (.t 30)),.op (some 32) none (.mv (.t 10)),.op (some 33) none (.ex (gH.gv .str false tG true false) [.t 31,.t 32]),.call (some 34) none (.t 27) [.t 33] [some tG],.op (some 11) none (.alloc [.int .i64 (Int.ofNat 0)]),.op none none (.store 1 (.t 11) (.t 34))]) (.seq (.bh [.op (some 35) none (.load false 1 (.t 5)),.call (some 36) none (.c (.fn 101 [] [])) [.t 35] [none]]) (.block 4 (.bM (.t 36) [37] (.bh [.op (some 12) none (.mv (.t 37))]) (.block 5 (.bh [.op (some 38) none (.load false 1 (.t 8)),.op (some 39) none (.mv (.t 12)),.op (some 40) none (.load false 1 (.t 11)),.op (some 41) none (.bin .add (.t 39) (.t 40)),.call (some 42) none (.c (.fn 100 [] [])) [.t 38,.t 41] [none,some tI]])))))))) (.bh [.op (some 43) none (.bin .add (.t 23) (.c (.int .i64 (Int.ofNat 1)))),.op (some 23) none (.mv (.t 43))]))))))) (.bh [.op (some 44) none (.load false 1 (.t 8)),.op none none (.store 1 (.t 5) (.t 44))])))) 48),(12,.arr .str false),(21,.map tI false .unit true),(22,.map tI false .unit true)] [.slot 8,.cell 7 0,.cell 20 0] [])]
noncomputable def qA:D prog 14 none 26:=dO [.m vL] (kd prog f132) 0
theorem Ah:cM prog f132=some ⟨14,2,(qA).er,[],[]⟩:=by kernel_rfl
noncomputable def gH67_v1_0b_2:Nat×Int×Int×Int×List ByteArray×cQ×cS×bn×bn×List ByteArray×(List (Int×Unit))×(List (Int×Unit))×Unit→bU ((Nat×Int×Int×List ByteArray×cQ×cS×bn×bn×List ByteArray×(List (Int×Unit))×(List (Int×Unit))×Unit)):=fun (yV,v22,v23,Ft,MR,m1,m2,m3,m4,MS,m23,m24,_) =>
 .bd (.mq gH67_v1_0b_2i_0 m23 (yV,v22,v23,m23,m1,m2,m3,m4,Ft,MR,MS,m24,())) fun z8 =>
 .ret ((yV,v22,v23,z8.2.2.2.2.2.2.2.2.2.1,z8.2.2.2.2.1,z8.2.2.2.2.2.1,z8.2.2.2.2.2.2.1,z8.2.2.2.2.2.2.2.1,z8.2.2.2.2.2.2.2.2.2.2.1,z8.2.2.2.1,z8.2.2.2.2.2.2.2.2.2.2.2.1,()))
noncomputable def CW:gB prog 48 (some 11) 20:=sx mixed lq l9 [0,1,2,3,4,5,6,7,8,9,10,11,12,13,14,15,16,17,18,19] rfl CU CV ( .t 36) [37] rfl (qy).er (qz).er 132 func132 (Ah) (enters_of func132 rfl rfl) 26 rfl (qA) rfl (fun x=>ak (gH67_v1_0b_2 x)) (fun x=>by kernel_rfl)
@[reducible] def CX:az:=az.mk [(2,.c (.ptr 5 0)),(3,.c (.ptr 6 0)),(5,.c (.ptr 7 0)),(8,.c (.ptr 20 0)),(21,.c (.cn 19 .str)),(22,hI),(23,hI)] [(5,.cells [.ptr 0 0] false),(6,.cells [.fn0 78] false),(7,.cells [.mp 21] false),(20,.cells [.mp 22] false),(19,.arr .str false),(0,.cells [.mp 1,.mp 2,.mp 3,.mp 4] false),(1,.map .str false tG true),(2,.map .str false (.list .str) false),(3,.map .str false .bool false),(4,.map .str false .bool false),(8,.cells [.ptr 0 0] false),(10,.iz),(11,.loop .busy none 10 [(2,.c (.ptr 5 0)),(3,.c (.ptr 6 0)),(4,.c .cq),(5,.c (.ptr 7 0)),(17,.fn 106 [] [.ptr 8 0])] [18,19] (.bh [.op (some 7) none (.mv (.t 19))]) (.block 1 (.seq (.bh [.op (some 20) none (.ex (gH.jc tI false .unit true) []),.op (some 8) none (.alloc [.cH]),.op none none (.store 1 (.t 8) (.t 20))]) (.seq (.seq (.bh [.op (some 21) none (.mv (.t 7)),.op (some 22) none (.len (.t 21)),.op (some 23) none (.mv (.c (.int .i64 (Int.ofNat 0))))]) (.block 2 (.loop (.seq (.bh [.op (some 24) none (.bin .lss (.t 23) (.t 22))]) (.seq (.cond (.t 24) .skip (.exit 2)) (.seq (.block 3 (.seq (.bh [.op (some 25) none (.idx 1 (.t 21) (.t 23)),.op (some 26) none (.load false 1 (.t 25)),.op (some 10) none (.mv (.t 26))]) (.seq (.draw [[],[],[1],[1,2],[1,2,3],[],[1,2,3,4,5],[0,1,2,3,4,5,6],[],[0,1,2,3,4,5,6,7,8]] [.op (some 27) none (.load false 1 (.t 3)),.op (some 28) none (.load false 1 (.t 2)),.op (some 29) none (.ex gH.ja [.t 28]),.op (some 30) none (.nu 0 [false] (.t 29)),.op (some 31) none (.load false 1 (.t 30)),.op (some 32) none (.mv (.t 10)),.op (some 33) none (.ex (gH.gv .str false tG true false) [.t 31,.t 32]),.call (some 34) none (.t 27) [.t 33] [some tG],.op (some 11) none (.alloc [.int .i64 (Int.ofNat 0)]),.op none none (.store 1 (.t 11) (.t 34))]) (.seq (.bh [.op (some 35) none (.load false 1 (.t 5)),.call (some 36) none (.c (.fn 101 [] [])) [.t 35] [none]]) (.block 4 (.bM (.t 36) [37] (.bh [.op (some 12) none (.mv (.t 37))]) (.block 5 (.bh [.op (some 38) none (.load false 1 (.t 8)),.op (some 39) none (.mv (.t 12)),.op (some 40) none (.load false 1 (.t 11)),.op (some 41) none (.bin .add (.t 39) (.t 40)),.call (some 42) none (.c (.fn 100 [] [])) [.t 38,.t 41] [none,some tI]])))))))) (.bh [.op (some 43) none (.bin .add (.t 23) (.c (.int .i64 (Int.ofNat 1)))),.op (some 23) none (.mv (.t 43))]))))))) (.bh [.op (some 44) none (.load false 1 (.t 8)),.op none none (.store 1 (.t 5) (.t 44))])))) 48),(12,.arr .str false),(21,.map tI false .unit true),(22,.map tI false .unit true)] [.slot 8,.cell 7 0,.cell 20 0] []
@[reducible] def CY:bf:=[(.exit 2,az.mk [(5,.c (.ptr 7 0)),(8,.c (.ptr 20 0))] [(7,.cells [.mp 21] false),(20,.cells [.mp 22] false),(0,.cells [.mp 1,.mp 2,.mp 3,.mp 4] false),(1,.map .str false tG true),(2,.map .str false (.list .str) false),(3,.map .str false .bool false),(4,.map .str false .bool false),(5,.cells [.ptr 0 0] false),(6,.cells [.fn0 78] false),(8,.cells [.ptr 0 0] false),(10,.iz),(11,.loop .busy none 10 [(2,.c (.ptr 5 0)),(3,.c (.ptr 6 0)),(4,.c .cq),(5,.c (.ptr 7 0)),(17,.fn 106 [] [.ptr 8 0])] [18,19] (.bh [.op (some 7) none (.mv (.t 19))]) (.block 1 (.seq (.bh [.op (some 20) none (.ex (gH.jc tI false .unit true) []),.op (some 8) none (.alloc [.cH]),.op none none (.store 1 (.t 8) (.t 20))]) (.seq (.seq (.bh [.op (some 21) none (.mv (.t 7)),.op (some 22) none (.len (.t 21)),.op (some 23) none (.mv (.c (.int .i64 (Int.ofNat 0))))]) (.block 2 (.loop (.seq (.bh [.op (some 24) none (.bin .lss (.t 23) (.t 22))]) (.seq (.cond (.t 24) .skip (.exit 2)) (.seq (.block 3 (.seq (.bh [.op (some 25) none (.idx 1 (.t 21) (.t 23)),.op (some 26) none (.load false 1 (.t 25)),.op (some 10) none (.mv (.t 26))]) (.seq (.draw [[],[],[1],[1,2],[1,2,3],[],[1,2,3,4,5],[0,1,2,3,4,5,6],[],[0,1,2,3,4,5,6,7,8]] [.op (some 27) none (.load false 1 (.t 3)),.op (some 28) none (.load false 1 (.t 2)),.op (some 29) none (.ex gH.ja [.t 28]),.op (some 30) none (.nu 0 [false] (.t 29)),.op (some 31) none (.load false 1 (.t 30)),.op (some 32) none (.mv (.t 10)),.op (some 33) none (.ex (gH.gv .str false tG true false) [.t 31,.t 32]),.call (some 34) none (.t 27) [.t 33] [some tG],.op (some 11) none (.alloc [.int .i64 (Int.ofNat 0)]),.op none none (.store 1 (.t 11) (.t 34))]) (.seq (.bh [.op (some 35) none (.load false 1 (.t 5)),.call (some 36) none (.c (.fn 101 [] [])) [.t 35] [none]]) (.block 4 (.bM (.t 36) [37] (.bh [.op (some 12) none (.mv (.t 37))]) (.block 5 (.bh [.op (some 38) none (.load false 1 (.t 8)),.op (some 39) none (.mv (.t 12)),.op (some 40) none (.load false 1 (.t 11)),.op (some 41) none (.bin .add (.t 39) (.t 40)),.call (some 42) none (.c (.fn 100 [] [])) [.t 38,.t 41] [none,some tI]])))))))) (.bh [.op (some 43) none (.bin .add (.t 23) (.c (.int .i64 (Int.ofNat 1)))),.op (some 23) none (.mv (.t 43))]))))))) (.bh [.op (some 44) none (.load false 1 (.t 8)),.op none none (.store 1 (.t 5) (.t 44))])))) 48),(12,.arr .str false),(19,.arr .str false),(21,.map tI false .unit true),(22,.map tI false .unit true)] [.slot 8,.cell 7 0,.cell 20 0] [])]
noncomputable def C0:D prog 48 (some 11) 20:=dO [.r CW] (pick (kd prog f67) [(0,true),(0,false)]) 0
noncomputable def gH67_v1_0b_1:Nat×Int×Int×List ByteArray×cQ×cS×bn×bn×List ByteArray×(List (Int×Unit))×(List (Int×Unit))×Unit→bU ((Nat×Int×Int×List ByteArray×cQ×cS×bn×bn×List ByteArray×(List (Int×Unit))×(List (Int×Unit))×Unit) ⊕ ((cQ×cS×bn×bn×List ByteArray×List ByteArray×(List (Int×Unit))×(List (Int×Unit))×Unit))):=fun (yV,v22,v23,MR,m1,m2,m3,m4,MS,m21,m22,_) =>
 .br (decide (v23<v22)) (
 .nb v23 ((yV:Nat):Int) <|
 .nd (decide (((0:Nat)+(Int.toNat v23))<(MR).length)) <|
 .bd (F78 ((aA .str ((bs []),(0:Int),(bs []),(bs []),(0:Int)) m1 ((MR).getD ((0:Nat)+(Int.toNat v23)) (bs []))).1,(aA .str ((bs []),(0:Int),(bs []),(bs []),(0:Int)) m1 ((MR).getD ((0:Nat)+(Int.toNat v23)) (bs []))).2.1,(aA .str ((bs []),(0:Int),(bs []),(bs []),(0:Int)) m1 ((MR).getD ((0:Nat)+(Int.toNat v23)) (bs []))).2.2.1,(aA .str ((bs []),(0:Int),(bs []),(bs []),(0:Int)) m1 ((MR).getD ((0:Nat)+(Int.toNat v23)) (bs []))).2.2.2.1,(aA .str ((bs []),(0:Int),(bs []),(bs []),(0:Int)) m1 ((MR).getD ((0:Nat)+(Int.toNat v23)) (bs []))).2.2.2.2)) fun y5 =>
 .bd (FH101 m21) fun y6 =>
 .bd (gH67_v1_0b_2 (yV,v22,v23,y5.1,MR,m1,m2,m3,m4,MS,y6.1,m22,())) fun z9 =>
 .ni (z9.2.2.1+(1:Int)) <|
 .ret (.inl (z9.1,z9.2.1,(z9.2.2.1+(1:Int)),z9.2.2.2.1,z9.2.2.2.2.1,z9.2.2.2.2.2.1,z9.2.2.2.2.2.2.1,z9.2.2.2.2.2.2.2.1,z9.2.2.2.2.2.2.2.2.1,z9.2.2.2.2.2.2.2.2.2.1,z9.2.2.2.2.2.2.2.2.2.2.1,()))) (
 .ret (.inr (m1,m2,m3,m4,MS,MR,m21,m22,())))
noncomputable def C1:bQ prog 48 (some 11) 20:=bx mixed mX gO [0,1,2,3,4,5,6,7,8,9,10,11,12,13,14,15,16,17,18,19] rfl CX CY rfl (C0) (fun x=>ak (gH67_v1_0b_1 x)) (fun x=>by kernel_rfl)
noncomputable def yY:D prog 48 (some 11) 20:=dO [] (pick (kd prog f67) [(0,false)]) 0
noncomputable def yZ:D prog 48 (some 11) 20:=dO [.l C1] (pick (kd prog f67) [(0,true)]) 0
noncomputable def pg:Cx:=Ad mX (fun kz=>OB kz mX dY 11 20 [18,19] (yY) (yZ))
theorem pn:(pg).Ok prog:=j6 gO (fun h=>nO mixed gO h)
@[reducible] def C2:az:=az.mk [(0,.c (.yl 11)),(1,.c (.ptr 8 0)),(10,.c (.cn 12 .str)),(11,hI),(12,hI)] [(11,.loop .ready none 10 [(2,.c (.ptr 5 0)),(3,.c (.ptr 6 0)),(4,.c .cq),(5,.c (.ptr 7 0)),(17,.fn 106 [] [.ptr 8 0])] [18,19] (.bh [.op (some 7) none (.mv (.t 19))]) (.block 1 (.seq (.bh [.op (some 20) none (.ex (gH.jc tI false .unit true) []),.op (some 8) none (.alloc [.cH]),.op none none (.store 1 (.t 8) (.t 20))]) (.seq (.seq (.bh [.op (some 21) none (.mv (.t 7)),.op (some 22) none (.len (.t 21)),.op (some 23) none (.mv (.c (.int .i64 (Int.ofNat 0))))]) (.block 2 (.loop (.seq (.bh [.op (some 24) none (.bin .lss (.t 23) (.t 22))]) (.seq (.cond (.t 24) .skip (.exit 2)) (.seq (.block 3 (.seq (.bh [.op (some 25) none (.idx 1 (.t 21) (.t 23)),.op (some 26) none (.load false 1 (.t 25)),.op (some 10) none (.mv (.t 26))]) (.seq (.draw [[],[],[1],[1,2],[1,2,3],[],[1,2,3,4,5],[0,1,2,3,4,5,6],[],[0,1,2,3,4,5,6,7,8]] [.op (some 27) none (.load false 1 (.t 3)),.op (some 28) none (.load false 1 (.t 2)),.op (some 29) none (.ex gH.ja [.t 28]),.op (some 30) none (.nu 0 [false] (.t 29)),.op (some 31) none (.load false 1 (.t 30)),.op (some 32) none (.mv (.t 10)),.op (some 33) none (.ex (gH.gv .str false tG true false) [.t 31,.t 32]),.call (some 34) none (.t 27) [.t 33] [some tG],.op (some 11) none (.alloc [.int .i64 (Int.ofNat 0)]),.op none none (.store 1 (.t 11) (.t 34))]) (.seq (.bh [.op (some 35) none (.load false 1 (.t 5)),.call (some 36) none (.c (.fn 101 [] [])) [.t 35] [none]]) (.block 4 (.bM (.t 36) [37] (.bh [.op (some 12) none (.mv (.t 37))]) (.block 5 (.bh [.op (some 38) none (.load false 1 (.t 8)),.op (some 39) none (.mv (.t 12)),.op (some 40) none (.load false 1 (.t 11)),.op (some 41) none (.bin .add (.t 39) (.t 40)),.call (some 42) none (.c (.fn 100 [] [])) [.t 38,.t 41] [none,some tI]])))))))) (.bh [.op (some 43) none (.bin .add (.t 23) (.c (.int .i64 (Int.ofNat 1)))),.op (some 23) none (.mv (.t 43))]))))))) (.bh [.op (some 44) none (.load false 1 (.t 8)),.op none none (.store 1 (.t 5) (.t 44))])))) 48),(8,.cells [.ptr 0 0] false),(12,.arr .str false),(10,.iz),(5,.cells [.ptr 0 0] false),(0,.cells [.mp 1,.mp 2,.mp 3,.mp 4] false),(1,.map .str false tG true),(2,.map .str false (.list .str) false),(3,.map .str false .bool false),(4,.map .str false .bool false),(6,.cells [.fn0 78] false),(7,.cells [.mp 13] false),(13,.map tI false .unit true)] [.slot 10,.cell 7 0] []
@[reducible] def C3:bf:=[(.exit 0,az.mk [] [(0,.cells [.mp 1,.mp 2,.mp 3,.mp 4] false),(1,.map .str false tG true),(2,.map .str false (.list .str) false),(3,.map .str false .bool false),(4,.map .str false .bool false),(5,.cells [.ptr 0 0] false),(6,.cells [.fn0 78] false),(7,.cells [.mp 12] false),(8,.cells [.ptr 0 0] false),(10,.iz),(11,.loop .ready none 10 [(2,.c (.ptr 5 0)),(3,.c (.ptr 6 0)),(4,.c .cq),(5,.c (.ptr 7 0)),(17,.fn 106 [] [.ptr 8 0])] [18,19] (.bh [.op (some 7) none (.mv (.t 19))]) (.block 1 (.seq (.bh [.op (some 20) none (.ex (gH.jc tI false .unit true) []),.op (some 8) none (.alloc [.cH]),.op none none (.store 1 (.t 8) (.t 20))]) (.seq (.seq (.bh [.op (some 21) none (.mv (.t 7)),.op (some 22) none (.len (.t 21)),.op (some 23) none (.mv (.c (.int .i64 (Int.ofNat 0))))]) (.block 2 (.loop (.seq (.bh [.op (some 24) none (.bin .lss (.t 23) (.t 22))]) (.seq (.cond (.t 24) .skip (.exit 2)) (.seq (.block 3 (.seq (.bh [.op (some 25) none (.idx 1 (.t 21) (.t 23)),.op (some 26) none (.load false 1 (.t 25)),.op (some 10) none (.mv (.t 26))]) (.seq (.draw [[],[],[1],[1,2],[1,2,3],[],[1,2,3,4,5],[0,1,2,3,4,5,6],[],[0,1,2,3,4,5,6,7,8]] [.op (some 27) none (.load false 1 (.t 3)),.op (some 28) none (.load false 1 (.t 2)),.op (some 29) none (.ex gH.ja [.t 28]),.op (some 30) none (.nu 0 [false] (.t 29)),.op (some 31) none (.load false 1 (.t 30)),.op (some 32) none (.mv (.t 10)),.op (some 33) none (.ex (gH.gv .str false tG true false) [.t 31,.t 32]),.call (some 34) none (.t 27) [.t 33] [some tG],.op (some 11) none (.alloc [.int .i64 (Int.ofNat 0)]),.op none none (.store 1 (.t 11) (.t 34))]) (.seq (.bh [.op (some 35) none (.load false 1 (.t 5)),.call (some 36) none (.c (.fn 101 [] [])) [.t 35] [none]]) (.block 4 (.bM (.t 36) [37] (.bh [.op (some 12) none (.mv (.t 37))]) (.block 5 (.bh [.op (some 38) none (.load false 1 (.t 8)),.op (some 39) none (.mv (.t 12)),.op (some 40) none (.load false 1 (.t 11)),.op (some 41) none (.bin .add (.t 39) (.t 40)),.call (some 42) none (.c (.fn 100 [] [])) [.t 38,.t 41] [none,some tI]])))))))) (.bh [.op (some 43) none (.bin .add (.t 23) (.c (.int .i64 (Int.ofNat 1)))),.op (some 23) none (.mv (.t 43))]))))))) (.bh [.op (some 44) none (.load false 1 (.t 8)),.op none none (.store 1 (.t 5) (.t 44))])))) 48),(12,.map tI false .unit true)] [.cell 7 0] [])]
noncomputable def C4:D prog 34 none 12:=dO [] (pick (kd prog f106) [(0,false)]) 0
noncomputable def gH67_v1_0i_0:Nat×Int×Int×List ByteArray×cQ×cS×bn×bn×(List (Int×Unit))×Unit→bU ((Nat×Int×Int×List ByteArray×cQ×cS×bn×bn×(List (Int×Unit))×Unit) ⊕ ((cQ×cS×bn×bn×(List (Int×Unit))×Unit))):=fun (yX,v11,v12,MS,m1,m2,m3,m4,m13,_) =>
 .br (decide (v12<v11)) (
 .nb v12 ((yX:Nat):Int) <|
 .nd (decide (((0:Nat)+(Int.toNat v12))<(MS).length)) <|
 .br ((aA .str ((bs []),(0:Int),(bs []),(bs []),(0:Int)) m1 ((MS).getD ((0:Nat)+(Int.toNat v12)) (bs []))).2.1==(1:Int)) (
 .bd (FH76fix ((MS).getD ((0:Nat)+(Int.toNat v12)) (bs [])) m1 m2 m3 m4) fun y4 =>
 .bd (.it gH67_v1_0b_1 (y4.1,((y4.1:Nat):Int),(0:Int),y4.2.1,y4.2.2.1,y4.2.2.2.1,y4.2.2.2.2.1,y4.2.2.2.2.2.1,MS,m13,[],())) fun Ge =>
 .ni (v12+(1:Int)) <|
 .ret (.inl (yX,v11,(v12+(1:Int)),Ge.2.2.2.2.1,Ge.1,Ge.2.1,Ge.2.2.1,Ge.2.2.2.1,Ge.2.2.2.2.2.2.2.1,()))) (
 .ni (v12+(1:Int)) <|
 .ret (.inl (yX,v11,(v12+(1:Int)),MS,m1,m2,m3,m4,m13,())))) (
 .ret (.inr (m1,m2,m3,m4,m13,())))
noncomputable def C5:bQ prog 34 none 12:=bx mixed pg pn [0,1,2,3,4,5,6,7,8,9,10,11] rfl C2 C3 rfl (C4) (fun x=>ak (gH67_v1_0i_0 x)) (fun x=>by kernel_rfl)
@[reducible] def Md:az:=az.mk [(2,.c (.ptr 5 0)),(3,.c (.ptr 6 0)),(4,.c .cq),(5,.c (.ptr 7 0)),(17,.fn 106 [] [.ptr 8 0])] [(5,.cells [.ptr 0 0] false),(6,.cells [.fn0 78] false),(7,.cells [.mp 9] false),(8,.cells [.ptr 0 0] false),(0,.cells [.mp 1,.mp 2,.mp 3,.mp 4] false),(1,.map .str false tG true),(2,.map .str false (.list .str) false),(3,.map .str false .bool false),(4,.map .str false .bool false),(9,.map tI false .unit true)] [.slot 2,.slot 3,.slot 5,.part 17 0,.cell 7 0] []
@[reducible] def Me:bf:=[(.normal,az.mk [(5,.c (.ptr 5 0))] [(5,.cells [.mp 6] false),(0,.cells [.mp 1,.mp 2,.mp 3,.mp 4] false),(1,.map .str false tG true),(2,.map .str false (.list .str) false),(3,.map .str false .bool false),(4,.map .str false .bool false),(6,.map tI false .unit true)] [.slot 5,.cell 5 0] [])]
noncomputable def ze:D prog 34 none 12:=dO [.l C5] (kd prog f106) 0
theorem HS:cM prog f106=some ⟨34,2,(ze).er,[],[]⟩:=by kernel_rfl
noncomputable def gH67_v1_0:cQ×cS×bn×bn×(List (Int×Unit))×Unit→bU ((cQ×cS×bn×bn×(List (Int×Unit))×Unit)):=fun (m1,m2,m3,m4,m9,_) =>
 .bd (FH95 m1) fun y2 =>
 .bd (FH81 y2.1) fun y3 =>
 .bd (.it gH67_v1_0i_0 (y3.1,((y3.1:Nat):Int),(0:Int),y3.2.1,y3.2.2.1,m2,m3,m4,m9,())) fun JM =>
 .ret ((JM.1,JM.2.1,JM.2.2.1,JM.2.2.2.1,JM.2.2.2.2.1,()))
noncomputable def Mf:gB prog 48 none 5:=sx mixed pg pn [0,1,2,3,4] rfl Md Me ( .t 17) [18,19] rfl (yY).er (yZ).er 106 func106 (HS) (enters_of func106 rfl rfl) 12 rfl (ze) rfl (fun x=>ak (gH67_v1_0 x)) (fun x=>by kernel_rfl)
noncomputable def Fu:D prog 48 none 5:=dO [.r Mf] (kd prog f67) 0
noncomputable def FH67_v1 (m1:cQ) (m2:cS) (m3:bn) (m4:bn):bU (Nat×List Int×cQ×cS×bn×bn×Unit) :=
 .bd (FH100 (0:Int) []) fun y0 =>
 .bd (FH79 m1 m2 m3 m4) fun y1 =>
 .bd (gH67_v1_0 (y1.1,y1.2.1,y1.2.2.1,y1.2.2.2.1,y0.1,())) fun z12 =>
 .bd (FH101 z12.2.2.2.2.1) fun y13 =>
 .bd (FH102 y13.1) fun Qn =>
 .ret (Qn.1,Qn.2.1,z12.1,z12.2.1,z12.2.2.1,z12.2.2.2.1,())
theorem HT:cM prog f67=some ⟨48,2,Fu.er,[.t 4],[some tL]⟩:=by kernel_rfl
noncomputable def JN:Ht:=⟨67,UB,UC,(fun x=>ak (FH67_v1 x.1 x.2.1 x.2.2.1 x.2.2.2.1))⟩
theorem HU:JN.Ok prog:=bW mixed gO rfl func67 HT (enters_of func67 rfl rfl) Fu (by kernel_rfl) rfl rfl ⟨_,rfl⟩ rfl (pre:=[0,1,2,3,4]) rfl (fun x=>by kernel_rfl)

/- 72 -/
noncomputable def cx72:Cx:=(aN [] [])
theorem UD:cx72.Ok prog:=av trivial trivial
noncomputable def dd72:D prog 13 none 0:=dO [] (kd prog f72) 0
noncomputable def F72 (a0:List Int):bU ((Int×Int)×Unit) :=
 .nb (0:Int) (((a0).length:Nat):Int) <|
 .ni ((((a0).length:Nat):Int) - (1:Int)) <|
 .nb ((((a0).length:Nat):Int) - (1:Int)) (((a0).length:Nat):Int) <|
 .ret ((((a0).getD (Int.toNat (0:Int)) (0:Int)),((a0).getD (Int.toNat ((((a0).length:Nat):Int) - (1:Int))) (0:Int))),())
theorem aau:cM prog f72=some ⟨13,1,dd72.er,[.cell 2 true 2],[some (.prod tI tI)]⟩:=by kernel_rfl
noncomputable def aav:Ct:=⟨72,[hL],.c (.hole (.prod tI tI)),fun x=>ak (F72 x.1)⟩
theorem JO:aav.Ok prog:=cF mixed UD func72 aau (enters_of func72 rfl rfl) dd72 (by kernel_rfl) rfl (fun x=>by kernel_rfl)

/- 37, lent -/
@[reducible] def pH37:az:=az.mk [(0,.c (.ptr 0 0))] [(0,.cells [.mp 1] false),(1,.map tG true .bool false)] [.slot 0,.cell 0 0] []
@[reducible] def qH37:az:=az.mk [(0,.cO [.hole (.prod tI tI),.hole tI])] [(0,.cells [.mp 1] false),(1,.map tG true .bool false)] [] []
noncomputable def aeP:Cx:=(aN [aav] [Ag,E3,JN])
theorem Qp:aeP.Ok prog:=av ⟨JO,trivial⟩ ⟨⟨nS,rfl⟩,⟨sN,rfl⟩,⟨HU,rfl⟩,trivial⟩
noncomputable def Xj:D prog 11 none 2:=dO [] (kd prog f37) 0
noncomputable def FH37 (m1:List ((GG)×Bool)):bU ((Int×Int)×Int×(List ((GG)×Bool))×Unit) :=
 .bd (FH54 m1) fun y0 =>
 .br y0.1 (
 .ret (((0:Int),(0:Int)),(9:Int),y0.2.1,())) (
 .bd (FH66 y0.2.1) fun y1 =>
 .bd (FH67_v1 y1.2.1 y1.2.2.1 y1.2.2.2.1 y1.2.2.2.2.1) fun y2 =>
 .bd (F72 (((y2.2.1).drop (0:Nat)).take y2.1)) fun y3 =>
 .ret ((y3.1.1,y3.1.2),(0:Int),y1.1,()))
theorem UE:cM prog f37=some ⟨11,1,Xj.er,[.cell 2 true 2,.t 3],[some (.prod tI tI),some tI]⟩:=by kernel_rfl
noncomputable def UF:Ht:=⟨37,pH37,qH37,(fun x=>ak (FH37 x.1))⟩
theorem C6:UF.Ok prog:=bW mixed Qp rfl func37 UE (enters_of func37 rfl rfl) Xj (by kernel_rfl) rfl rfl ⟨_,rfl⟩ rfl (pre:=[0,1]) rfl (fun x=>by kernel_rfl)

/- 25, lent -/
@[reducible] def pH25:az:=az.mk [(0,.c (.ptr 0 0)),(1,.c (.hole .str))] [(0,.cells [.mp 1] false),(1,.map tG true .bool false)] [.slot 0,.cell 0 0] []
@[reducible] def qH25:az:=az.mk [(0,.cO [.hole (.prod tI tI),.hole tI])] [(0,.cells [.mp 1] false),(1,.map tG true .bool false)] [] []
noncomputable def aeQ:Cx:=(aN [aav] [Uy])
theorem Qq:aeQ.Ok prog:=av ⟨JO,trivial⟩ ⟨⟨CT,rfl⟩,trivial⟩
noncomputable def Xk:D prog 20 none 2:=dO [] (kd prog f25) 0
noncomputable def FH25 (v1:ByteArray) (m1:List ((GG)×Bool)):bU ((Int×Int)×Int×(List ((GG)×Bool))×Unit) :=
 .bd (FH23 v1 m1) fun y0 =>
 .br (!(y0.2.1==(0:Int))) (
 .ret (((0:Int),(0:Int)),y0.2.1,y0.2.2.2.1,())) (
 .bd (F72 (((y0.2.2.1).drop (0:Nat)).take y0.1)) fun y1 =>
 .ret ((y1.1.1,y1.1.2),(0:Int),y0.2.2.2.1,()))
theorem UG:cM prog f25=some ⟨20,2,Xk.er,[.cell 4 true 2,.t 5],[some (.prod tI tI),some tI]⟩:=by kernel_rfl
noncomputable def ht25:Ht:=⟨25,pH25,qH25,(fun x=>ak (FH25 x.1 x.2.1))⟩
theorem UH:ht25.Ok prog:=bW mixed Qq rfl func25 UG (enters_of func25 rfl rfl) Xk (by kernel_rfl) rfl rfl ⟨_,rfl⟩ rfl (pre:=[0,1]) rfl (fun x=>by kernel_rfl)

/- 36 -/
noncomputable def cx36:Cx:=(aN [] [])
theorem JP:cx36.Ok prog:=av trivial trivial
@[reducible] def aeT:az:=az.mk [(0,.c (.hole (.list .str))),(1,.c (.hole (.list .str))),(5,hI)] [] [] []
@[reducible] def aeU:bf:=[(.ret,az.mk [(4,.c (.tf false))] [] [] []),(.exit 0,az.mk [] [] [] [])]
noncomputable def aeV:D prog 26 none 0:=dO [] (pick (kd prog f36) [(0,false)]) 0
noncomputable def g36_0:List ByteArray×List ByteArray×Int×Unit→bU ((List ByteArray×List ByteArray×Int×Unit) ⊕ ((Unit) ⊕ ((Unit)))):=fun (v0,v1,v5,_) =>
 .br (decide (v5<(((v0).length:Nat):Int))) (
 .nb v5 (((v0).length:Nat):Int) <|
 .nb v5 (((v1).length:Nat):Int) <|
 .br (!(seq ((v0).getD (Int.toNat v5) (bs [])) ((v1).getD (Int.toNat v5) (bs [])))) (
 .ret (.inr <| .inl<|())) (
 .ni (v5+(1:Int)) <|
 .ret (.inl (v0,v1,(v5+(1:Int)),())))) (
 .ret (.inr <| .inr<|()))
noncomputable def aeW:bQ prog 26 none 0:=bx mixed cx36 JP [] rfl aeT aeU rfl (aeV) (fun x=>ak (g36_0 x)) (fun x=>by kernel_rfl)
noncomputable def dd36:D prog 26 none 0:=dO [.l aeW] (kd prog f36) 0
noncomputable def F36 (a0:List ByteArray) (a1:List ByteArray):bU (Bool×Unit) :=
 .br (!((((a0).length:Nat):Int)==(((a1).length:Nat):Int))) (
 .ret (false,())) (
 .bd (.it g36_0 (a0,a1,(0:Int),())) fun z0 =>
 .sm z0 (fun z1 =>
 .ret (false,())) fun z2 =>
 .ret (true,()))
theorem aaw:cM prog f36=some ⟨26,2,dd36.er,[.t 4],[some .bool]⟩:=by kernel_rfl
noncomputable def aax:Ct:=⟨36,[.c (.hole (.list .str)),.c (.hole (.list .str))],.c (.hole .bool),fun x=>ak (F36 x.1 x.2.1)⟩
theorem JQ:aax.Ok prog:=cF mixed JP func36 aaw (enters_of func36 rfl rfl) dd36 (by kernel_rfl) rfl (fun x=>by kernel_rfl)

/- 27 -/
noncomputable def cx27:Cx:=(aN [] [])
theorem JR:cx27.Ok prog:=av trivial trivial
@[reducible] def aeZ:az:=az.mk [(0,hL),(1,hL),(5,hI)] [] [] []
@[reducible] def ae0:bf:=[(.ret,az.mk [(4,.c (.tf false))] [] [] []),(.exit 0,az.mk [] [] [] [])]
noncomputable def ae1:D prog 26 none 0:=dO [] (pick (kd prog f27) [(0,false)]) 0
noncomputable def g27_0:List Int×List Int×Int×Unit→bU ((List Int×List Int×Int×Unit) ⊕ ((Unit) ⊕ ((Unit)))):=fun (v0,v1,v5,_) =>
 .br (decide (v5<(((v0).length:Nat):Int))) (
 .nb v5 (((v0).length:Nat):Int) <|
 .nb v5 (((v1).length:Nat):Int) <|
 .br (!(((v0).getD (Int.toNat v5) (0:Int))==((v1).getD (Int.toNat v5) (0:Int)))) (
 .ret (.inr <| .inl<|())) (
 .ni (v5+(1:Int)) <|
 .ret (.inl (v0,v1,(v5+(1:Int)),())))) (
 .ret (.inr <| .inr<|()))
noncomputable def ae2:bQ prog 26 none 0:=bx mixed cx27 JR [] rfl aeZ ae0 rfl (ae1) (fun x=>ak (g27_0 x)) (fun x=>by kernel_rfl)
noncomputable def dd27:D prog 26 none 0:=dO [.l ae2] (kd prog f27) 0
noncomputable def F27 (a0:List Int) (a1:List Int):bU (Bool×Unit) :=
 .br (!((((a0).length:Nat):Int)==(((a1).length:Nat):Int))) (
 .ret (false,())) (
 .bd (.it g27_0 (a0,a1,(0:Int),())) fun z0 =>
 .sm z0 (fun z1 =>
 .ret (false,())) fun z2 =>
 .ret (true,()))
theorem aay:cM prog f27=some ⟨26,2,dd27.er,[.t 4],[some .bool]⟩:=by kernel_rfl
noncomputable def aaz:Ct:=⟨27,[hL,hL],.c (.hole .bool),fun x=>ak (F27 x.1 x.2.1)⟩
theorem JS:aaz.Ok prog:=cF mixed JR func27 aay (enters_of func27 rfl rfl) dd27 (by kernel_rfl) rfl (fun x=>by kernel_rfl)

/- 80, lent -/
@[reducible] def pH80:az:=az.mk [(0,.c (.mp 0)),(1,.c (.hole .str))] [(0,.map .str false .unit true)] [.slot 0] []
@[reducible] def qH80:az:=az.mk [(0,.c .any)] [(0,.map .str false .unit true)] [] []
noncomputable def ae4:Cx:=(aN [] [])
theorem Qr:ae4.Ok prog:=av trivial trivial
noncomputable def Xl:D prog 7 none 1:=dO [] (kd prog f80) 0
noncomputable def FH80 (v1:ByteArray) (m0:List (ByteArray×Unit)):bU ((List (ByteArray×Unit))×Unit) :=
 .ret ((bp .str m0 v1 ()),())
theorem UI:cM prog f80=some ⟨7,2,Xl.er,[],[]⟩:=by kernel_rfl
noncomputable def ht80:Ht:=⟨80,pH80,qH80,(fun x=>ak (FH80 x.1 x.2.1))⟩
theorem UJ:ht80.Ok prog:=bW mixed Qr rfl func80 UI (enters_of func80 rfl rfl) Xl (by kernel_rfl) rfl rfl ⟨_,rfl⟩ rfl (pre:=[0]) rfl (fun x=>by kernel_rfl)

/- 108, lent -/
@[reducible] def ae6:az:=az.mk [(0,.c (.mp 0))] [(0,.map .str false .unit true)] [.slot 0] []
@[reducible] def ae7:az:=az.mk [(0,.fn 127 [] [.ptr 1 0])] [(1,.cells [.mp 0] false),(0,.map .str false .unit true)] [.part 0 0] []
noncomputable def aaA:Cx:=(aN [] [])
theorem Mh:aaA.Ok prog:=av trivial trivial
noncomputable def Qs:D prog 4 none 1:=dO [] (kd prog f108) 0
noncomputable def FH108 (m0:List (ByteArray×Unit)):bU ((List (ByteArray×Unit))×Unit) :=
 .ret (m0,())
theorem Qt:cM prog f108=some ⟨4,1,Qs.er,[.t 2],[none]⟩:=by kernel_rfl
noncomputable def Xm:Ht:=⟨108,ae6,ae7,(fun x=>ak (FH108 x.1))⟩
theorem Qu:Xm.Ok prog:=bW mixed Mh rfl func108 Qt (enters_of func108 rfl rfl) Qs (by kernel_rfl) rfl rfl ⟨_,rfl⟩ rfl (pre:=[0]) rfl (fun x=>by kernel_rfl)

/- 82, lent -/
@[reducible] def pH82:az:=az.mk [(0,.c (.mp 0))] [(0,.map .str false .unit true)] [.slot 0] []
@[reducible] def qH82:az:=az.mk [(0,.fn 127 [] [.ptr 1 0])] [(1,.cells [.mp 0] false),(0,.map .str false .unit true)] [.part 0 0] []
noncomputable def ae8:Cx:=(aN [] [Xm])
theorem Qv:ae8.Ok prog:=av trivial ⟨⟨Qu,rfl⟩,trivial⟩
noncomputable def Xn:D prog 5 none 1:=dO [] (kd prog f82) 0
noncomputable def FH82 (m0:List (ByteArray×Unit)):bU ((List (ByteArray×Unit))×Unit) :=
 .bd (FH108 m0) fun y0 =>
 .ret (y0.1,())
theorem UK:cM prog f82=some ⟨5,1,Xn.er,[.t 2],[none]⟩:=by kernel_rfl
noncomputable def ht82:Ht:=⟨82,pH82,qH82,(fun x=>ak (FH82 x.1))⟩
theorem UL:ht82.Ok prog:=bW mixed Qv rfl func82 UK (enters_of func82 rfl rfl) Xn (by kernel_rfl) rfl rfl ⟨_,rfl⟩ rfl (pre:=[0]) rfl (fun x=>by kernel_rfl)

/- 81, lent -/
@[reducible] def UM:az:=az.mk [(0,.fn 127 [] [.ptr 0 0])] [(0,.cells [.mp 1] false),(1,.map .str false .unit true)] [.part 0 0,.cell 0 0] []
@[reducible] def UN:az:=az.mk [(0,.c (.cn 2 .str))] [(2,.arr .str false),(0,.cells [.mp 1] false),(1,.map .str false .unit true)] [.slot 0] []
noncomputable def nT:Cx:=(aN [] [Bk])
theorem mD:nT.Ok prog:=av (vZ:=[]) (hts:=[Bk]) trivial ⟨⟨yN,rfl⟩,trivial⟩
noncomputable def lu:D prog 13 (some 4) 7:=dO [] (pick (kd prog f126) [(0,false)]) 0
noncomputable def lz:D prog 13 (some 4) 7:=dO [] (pick (kd prog f126) [(0,true)]) 0
noncomputable def fP:Cx:=Ad nT (fun kz=>OB kz nT dY 4 7 [7] (lu) (lz))
theorem ir:(fP).Ok prog:=j6 mD (fun h=>nO mixed mD h)
@[reducible] def pq:az:=az.mk [(0,.c (.yl 4)),(4,.c (.mp 1))] [(4,.loop .ready none 3 [(2,.c (.ptr 2 0)),(4,.c .cq),(6,.fn 127 [] [.ptr 0 0])] [7] (.bh [.op (some 5) none (.mv (.t 7))]) (.block 1 (.bh [.op (some 8) none (.load false 1 (.t 2)),.op (some 9) none (.mv (.t 5)),.op (some 10) none (.dZ .str [.t 9]),.op (some 11) none (.append 1 (.t 8) (.t 10)),.op none none (.store 1 (.t 2) (.t 11))])) 13),(1,.map .str false .unit true),(3,.iz),(2,.cells [.cn 5 .str] false),(0,.cells [.mp 1] false),(5,.arr .str false)] [.cell 2 0] []
noncomputable def pz:D prog 14 none 7:=dO [] (pick (kd prog f127) [(0,false)]) 0
noncomputable def gH81_v1f107f126_0i_0:((ByteArray)×(Unit))→(List (ByteArray×Unit))×Nat×List ByteArray×Unit→bU ((List (ByteArray×Unit))×Nat×List ByteArray×Unit):=fun e (m1,kY,b5,_) =>
 .nd (decide ((kY+(((((e.1::[])).drop (0:Nat)).take (1:Nat))).length)<cg)) <|
 .nd (jS m1 m1) <|
 .ret (m1,(kY+(((((e.1::[])).drop (0:Nat)).take (1:Nat))).length),((((b5).drop (0:Nat)).take kY)++((((e.1::[])).drop (0:Nat)).take (1:Nat))),())
noncomputable def pE:sg prog 14 none 5:=wh mixed fP ir [0,1,2,3,4] rfl pq ( [.op (some 4) none (.load false 1 (.t 1))]) 4 5 [6,7] (some 8) ( .str)  false ( .unit)  true 0 rfl 7 rfl (pz) (fun e x=>ak (gH81_v1f107f126_0i_0 e x)) (fun e=>fun x=>by kernel_rfl)
@[reducible] def sS:az:=az.mk [(2,.c (.ptr 2 0)),(4,.c .cq),(6,.fn 127 [] [.ptr 0 0])] [(2,.cells [.cq] false),(0,.cells [.mp 1] false),(1,.map .str false .unit true)] [.slot 2] []
@[reducible] def sU:bf:=[(.normal,az.mk [(2,.c (.ptr 2 0))] [(2,.cells [.cn 3 .str] false),(0,.cells [.mp 1] false),(1,.map .str false .unit true),(3,.arr .str false)] [.slot 2,.cell 2 0] [])]
noncomputable def lB:D prog 14 none 5:=dO [.m pE] (kd prog f127) 0
theorem rz:cM prog f127=some ⟨14,2,(lB).er,[],[]⟩:=by kernel_rfl
noncomputable def mb:gB prog 13 none 2:=sB mixed fP ir [0,1] rfl sS sU ( .t 6) [7] rfl (lu).er (lz).er 127 func127 (rz) (enters_of func127 rfl rfl) 5 rfl (lB) rfl
@[reducible] noncomputable def HV:Go.AM.Fn:=⟨13,2,(dO [.r mb] (kd prog f126) 0:D prog 13 none 2).er,[.t 4],[some (.list .str)]⟩
noncomputable def zf:Cx:=Be prog nT 126 HV 2 (dO [.r mb] (kd prog f126) 0)
theorem Ai:zf.Ok prog:=sA mixed mD func126 (by kernel_rfl) (enters_of func126 rfl rfl) rfl
@[reducible] noncomputable def HW:Go.AM.Fn:=⟨5,1,(dO [] (kd prog f107) 0:D prog 5 none 0).er,[.t 2],[some (.list .str)]⟩
noncomputable def zg:Cx:=EG prog zf 107 HW (fun _=>dO [] (kd prog f107) 0)
theorem Aj:zg.Ok prog:=pY mixed Ai func107 (by kernel_rfl) (enters_of func107 rfl rfl) (fun _=>by kernel_rfl)
noncomputable def Qw:Cx:=zg
theorem Fv:Qw.Ok prog:=Aj
noncomputable def Fw:D prog 9 none 2:=dO [] (kd prog f81) 0
noncomputable def FH81_v1 (m1:List (ByteArray×Unit)):bU (Nat×List ByteArray×(List (ByteArray×Unit))×Unit) :=
 .an m1 fun l0 =>
 .bd (.fm gH81_v1f107f126_0i_0 l0 (m1,(0:Nat),[],())) fun z1 =>
 .bd (FH105 z1.2.1 z1.2.2.1) fun y2 =>
 .ret (z1.2.1,y2.1,z1.1,())
theorem HX:cM prog f81=some ⟨9,1,Fw.er,[.t 2],[some (.list .str)]⟩:=by kernel_rfl
noncomputable def JT:Ht:=⟨81,UM,UN,(fun x=>ak (FH81_v1 x.1))⟩
theorem HY:JT.Ok prog:=bW mixed Fv rfl func81 HX (enters_of func81 rfl rfl) Fw (by kernel_rfl) rfl rfl ⟨_,rfl⟩ rfl (pre:=[0,1]) rfl (fun x=>by kernel_rfl)

/- 45, lent -/
@[reducible] def pH45:az:=az.mk [(0,.c (.ptr 0 0))] [(0,.cells [.mp 1] false),(1,.map tG true .bool false)] [.slot 0,.cell 0 0] []
@[reducible] def qH45:az:=az.mk [(0,.c (.cn 2 .str))] [(2,.arr .str false),(0,.cells [.mp 1] false),(1,.map tG true .bool false)] [.slot 0] []
noncomputable def JU:Cx:=(aN [] [Ag,E3,Ur,Pr,Pu,HK,ht80,ht82,JT])
theorem sV:JU.Ok prog:=av trivial ⟨⟨nS,rfl⟩,⟨sN,rfl⟩,⟨CO,rfl⟩,⟨wv,rfl⟩,⟨wB,rfl⟩,⟨sQ,rfl⟩,⟨UJ,rfl⟩,⟨UL,rfl⟩,⟨HY,rfl⟩,trivial⟩
@[reducible] def Mi:az:=az.mk [(3,.c (.ptr 2 0)),(4,.c (.ptr 3 0)),(18,.c (.cn 20 .str)),(19,hI),(20,hI)] [(2,.cells [.ptr 5 0] false),(3,.cells [.mp 21] false),(20,.arr .str false),(5,.cells [.mp 7,.mp 8,.mp 9,.mp 10] false),(7,.map .str false tG true),(8,.map .str false (.list .str) false),(9,.map .str false .bool false),(10,.map .str false .bool false),(0,.cells [.mp 1] false),(1,.map tG true .bool false),(4,.cells [.ptr 5 0] false),(11,.iz),(12,.loop .busy none 11 [(2,.c .cq),(3,.c (.ptr 2 0)),(4,.c (.ptr 3 0)),(15,.fn 106 [] [.ptr 4 0])] [16,17] (.bh [.op (some 6) none (.mv (.t 17))]) (.block 1 (.seq (.bh [.op (some 18) none (.mv (.t 6)),.op (some 19) none (.len (.t 18)),.op (some 20) none (.mv (.c (.int .i64 (Int.ofNat 0))))]) (.block 2 (.loop (.seq (.bh [.op (some 21) none (.bin .lss (.t 20) (.t 19))]) (.seq (.cond (.t 21) .skip (.exit 2)) (.seq (.block 3 (.seq (.bh [.op (some 22) none (.idx 1 (.t 18) (.t 20)),.op (some 23) none (.load false 1 (.t 22)),.op (some 8) none (.mv (.t 23))]) (.seq (.draw [[],[],[1],[1,2],[1,2,3],[],[1,2,3,4,5],[1,2,3,4,5,6],[0,1,2,3,4,5,6,7]] [.op (some 24) none (.load false 1 (.t 4)),.op (some 25) none (.load false 1 (.t 3)),.op (some 26) none (.ex gH.ja [.t 25]),.op (some 27) none (.nu 0 [false] (.t 26)),.op (some 28) none (.load false 1 (.t 27)),.op (some 29) none (.mv (.t 8)),.op (some 30) none (.ex (gH.gv .str false tG true false) [.t 28,.t 29]),.op (some 31) none (.field false 3 1 (.t 30))]) (.bh [.call (some 32) none (.c (.fn 80 [] [])) [.t 24,.t 31] [none,some .str]])))) (.bh [.op (some 33) none (.bin .add (.t 20) (.c (.int .i64 (Int.ofNat 1)))),.op (some 20) none (.mv (.t 33))])))))))) 37),(13,.arr .str false),(21,.map .str false .unit true)] [.cell 3 0] []
@[reducible] def Mj:bf:=[(.exit 2,az.mk [] [(0,.cells [.mp 1] false),(1,.map tG true .bool false),(2,.cells [.ptr 5 0] false),(5,.cells [.mp 7,.mp 8,.mp 9,.mp 10] false),(7,.map .str false tG true),(8,.map .str false (.list .str) false),(9,.map .str false .bool false),(10,.map .str false .bool false),(3,.cells [.mp 21] false),(4,.cells [.ptr 5 0] false),(11,.iz),(12,.loop .busy none 11 [(2,.c .cq),(3,.c (.ptr 2 0)),(4,.c (.ptr 3 0)),(15,.fn 106 [] [.ptr 4 0])] [16,17] (.bh [.op (some 6) none (.mv (.t 17))]) (.block 1 (.seq (.bh [.op (some 18) none (.mv (.t 6)),.op (some 19) none (.len (.t 18)),.op (some 20) none (.mv (.c (.int .i64 (Int.ofNat 0))))]) (.block 2 (.loop (.seq (.bh [.op (some 21) none (.bin .lss (.t 20) (.t 19))]) (.seq (.cond (.t 21) .skip (.exit 2)) (.seq (.block 3 (.seq (.bh [.op (some 22) none (.idx 1 (.t 18) (.t 20)),.op (some 23) none (.load false 1 (.t 22)),.op (some 8) none (.mv (.t 23))]) (.seq (.draw [[],[],[1],[1,2],[1,2,3],[],[1,2,3,4,5],[1,2,3,4,5,6],[0,1,2,3,4,5,6,7]] [.op (some 24) none (.load false 1 (.t 4)),.op (some 25) none (.load false 1 (.t 3)),.op (some 26) none (.ex gH.ja [.t 25]),.op (some 27) none (.nu 0 [false] (.t 26)),.op (some 28) none (.load false 1 (.t 27)),.op (some 29) none (.mv (.t 8)),.op (some 30) none (.ex (gH.gv .str false tG true false) [.t 28,.t 29]),.op (some 31) none (.field false 3 1 (.t 30))]) (.bh [.call (some 32) none (.c (.fn 80 [] [])) [.t 24,.t 31] [none,some .str]])))) (.bh [.op (some 33) none (.bin .add (.t 20) (.c (.int .i64 (Int.ofNat 1)))),.op (some 20) none (.mv (.t 33))])))))))) 37),(13,.arr .str false),(20,.arr .str false),(21,.map .str false .unit true)] [.cell 3 0] [])]
noncomputable def Mk:D prog 37 (some 12) 21:=dO [] (pick (kd prog f45) [(0,true),(0,false)]) 0
noncomputable def gH45_0b_1:Nat×Int×Int×List ByteArray×cQ×cS×bn×bn×(List ((GG)×Bool))×List ByteArray×(List (ByteArray×Unit))×Unit→bU ((Nat×Int×Int×List ByteArray×cQ×cS×bn×bn×(List ((GG)×Bool))×List ByteArray×(List (ByteArray×Unit))×Unit) ⊕ (((List ((GG)×Bool))×cQ×cS×bn×bn×List ByteArray×List ByteArray×(List (ByteArray×Unit))×Unit))):=fun (nv18,HJ,v20,qi,m7,m8,m9,m10,m1,jA,m21,_) =>
 .br (decide (v20<HJ)) (
 .nb v20 ((nv18:Nat):Int) <|
 .nd (decide (((0:Nat)+(Int.toNat v20))<(qi).length)) <|
 .bd (FH80 (aA .str ((bs []),(0:Int),(bs []),(bs []),(0:Int)) m7 ((qi).getD ((0:Nat)+(Int.toNat v20)) (bs []))).2.2.2.1 m21) fun y6 =>
 .ni (v20+(1:Int)) <|
 .ret (.inl (nv18,HJ,(v20+(1:Int)),qi,m7,m8,m9,m10,m1,jA,y6.1,()))) (
 .ret (.inr (m1,m7,m8,m9,m10,jA,qi,m21,())))
noncomputable def Ml:bQ prog 37 (some 12) 21:=bx mixed JU sV [0,1,2,3,4,5,6,7,8,9,10,11,12,13,14,15,16,17,18,19,20] rfl Mi Mj rfl (Mk) (fun x=>ak (gH45_0b_1 x)) (fun x=>by kernel_rfl)
noncomputable def JV:D prog 37 (some 12) 21:=dO [] (pick (kd prog f45) [(0,false)]) 0
noncomputable def JW:D prog 37 (some 12) 21:=dO [.l Ml] (pick (kd prog f45) [(0,true)]) 0
noncomputable def zi:Cx:=Ad JU (fun kz=>OB kz JU dY 12 21 [16,17] (JV) (JW))
theorem vl:(zi).Ok prog:=j6 sV (fun h=>nO mixed sV h)
@[reducible] def Mm:az:=az.mk [(0,.c (.yl 12)),(1,.c (.ptr 4 0)),(10,.c (.cn 13 .str)),(11,hI),(12,hI)] [(12,.loop .ready none 11 [(2,.c .cq),(3,.c (.ptr 2 0)),(4,.c (.ptr 3 0)),(15,.fn 106 [] [.ptr 4 0])] [16,17] (.bh [.op (some 6) none (.mv (.t 17))]) (.block 1 (.seq (.bh [.op (some 18) none (.mv (.t 6)),.op (some 19) none (.len (.t 18)),.op (some 20) none (.mv (.c (.int .i64 (Int.ofNat 0))))]) (.block 2 (.loop (.seq (.bh [.op (some 21) none (.bin .lss (.t 20) (.t 19))]) (.seq (.cond (.t 21) .skip (.exit 2)) (.seq (.block 3 (.seq (.bh [.op (some 22) none (.idx 1 (.t 18) (.t 20)),.op (some 23) none (.load false 1 (.t 22)),.op (some 8) none (.mv (.t 23))]) (.seq (.draw [[],[],[1],[1,2],[1,2,3],[],[1,2,3,4,5],[1,2,3,4,5,6],[0,1,2,3,4,5,6,7]] [.op (some 24) none (.load false 1 (.t 4)),.op (some 25) none (.load false 1 (.t 3)),.op (some 26) none (.ex gH.ja [.t 25]),.op (some 27) none (.nu 0 [false] (.t 26)),.op (some 28) none (.load false 1 (.t 27)),.op (some 29) none (.mv (.t 8)),.op (some 30) none (.ex (gH.gv .str false tG true false) [.t 28,.t 29]),.op (some 31) none (.field false 3 1 (.t 30))]) (.bh [.call (some 32) none (.c (.fn 80 [] [])) [.t 24,.t 31] [none,some .str]])))) (.bh [.op (some 33) none (.bin .add (.t 20) (.c (.int .i64 (Int.ofNat 1)))),.op (some 20) none (.mv (.t 33))])))))))) 37),(4,.cells [.ptr 5 0] false),(13,.arr .str false),(11,.iz),(2,.cells [.ptr 5 0] false),(5,.cells [.mp 7,.mp 8,.mp 9,.mp 10] false),(7,.map .str false tG true),(8,.map .str false (.list .str) false),(9,.map .str false .bool false),(10,.map .str false .bool false),(3,.cells [.mp 14] false),(0,.cells [.mp 1] false),(1,.map tG true .bool false),(14,.map .str false .unit true)] [.slot 10,.cell 3 0] []
@[reducible] def Mn:bf:=[(.exit 0,az.mk [] [(0,.cells [.mp 1] false),(1,.map tG true .bool false),(2,.cells [.ptr 5 0] false),(5,.cells [.mp 7,.mp 8,.mp 9,.mp 10] false),(7,.map .str false tG true),(8,.map .str false (.list .str) false),(9,.map .str false .bool false),(10,.map .str false .bool false),(3,.cells [.mp 13] false),(4,.cells [.ptr 5 0] false),(11,.iz),(12,.loop .ready none 11 [(2,.c .cq),(3,.c (.ptr 2 0)),(4,.c (.ptr 3 0)),(15,.fn 106 [] [.ptr 4 0])] [16,17] (.bh [.op (some 6) none (.mv (.t 17))]) (.block 1 (.seq (.bh [.op (some 18) none (.mv (.t 6)),.op (some 19) none (.len (.t 18)),.op (some 20) none (.mv (.c (.int .i64 (Int.ofNat 0))))]) (.block 2 (.loop (.seq (.bh [.op (some 21) none (.bin .lss (.t 20) (.t 19))]) (.seq (.cond (.t 21) .skip (.exit 2)) (.seq (.block 3 (.seq (.bh [.op (some 22) none (.idx 1 (.t 18) (.t 20)),.op (some 23) none (.load false 1 (.t 22)),.op (some 8) none (.mv (.t 23))]) (.seq (.draw [[],[],[1],[1,2],[1,2,3],[],[1,2,3,4,5],[1,2,3,4,5,6],[0,1,2,3,4,5,6,7]] [.op (some 24) none (.load false 1 (.t 4)),.op (some 25) none (.load false 1 (.t 3)),.op (some 26) none (.ex gH.ja [.t 25]),.op (some 27) none (.nu 0 [false] (.t 26)),.op (some 28) none (.load false 1 (.t 27)),.op (some 29) none (.mv (.t 8)),.op (some 30) none (.ex (gH.gv .str false tG true false) [.t 28,.t 29]),.op (some 31) none (.field false 3 1 (.t 30))]) (.bh [.call (some 32) none (.c (.fn 80 [] [])) [.t 24,.t 31] [none,some .str]])))) (.bh [.op (some 33) none (.bin .add (.t 20) (.c (.int .i64 (Int.ofNat 1)))),.op (some 20) none (.mv (.t 33))])))))))) 37),(13,.map .str false .unit true)] [.cell 3 0] [])]
noncomputable def Mo:D prog 34 none 13:=dO [] (pick (kd prog f106) [(0,false)]) 0
noncomputable def gH45_0i_0:Nat×Int×Int×List ByteArray×cQ×cS×bn×bn×(List ((GG)×Bool))×(List (ByteArray×Unit))×Unit→bU ((Nat×Int×Int×List ByteArray×cQ×cS×bn×bn×(List ((GG)×Bool))×(List (ByteArray×Unit))×Unit) ⊕ (((List ((GG)×Bool))×cQ×cS×bn×bn×(List (ByteArray×Unit))×Unit))):=fun (yX,v11,v12,jA,m7,m8,m9,m10,m1,m14,_) =>
 .br (decide (v12<v11)) (
 .nb v12 ((yX:Nat):Int) <|
 .nd (decide (((0:Nat)+(Int.toNat v12))<(jA).length)) <|
 .br ((aA .str ((bs []),(0:Int),(bs []),(bs []),(0:Int)) m7 ((jA).getD ((0:Nat)+(Int.toNat v12)) (bs []))).2.1==(1:Int)) (
 .bd (FH76fix ((jA).getD ((0:Nat)+(Int.toNat v12)) (bs [])) m7 m8 m9 m10) fun y5 =>
 .bd (.it gH45_0b_1 (y5.1,((y5.1:Nat):Int),(0:Int),y5.2.1,y5.2.2.1,y5.2.2.2.1,y5.2.2.2.2.1,y5.2.2.2.2.2.1,m1,jA,m14,())) fun z7 =>
 .ni (v12+(1:Int)) <|
 .ret (.inl (yX,v11,(v12+(1:Int)),z7.2.2.2.2.2.1,z7.2.1,z7.2.2.1,z7.2.2.2.1,z7.2.2.2.2.1,z7.1,z7.2.2.2.2.2.2.2.1,()))) (
 .ni (v12+(1:Int)) <|
 .ret (.inl (yX,v11,(v12+(1:Int)),jA,m7,m8,m9,m10,m1,m14,())))) (
 .ret (.inr (m1,m7,m8,m9,m10,m14,())))
noncomputable def Mp:bQ prog 34 none 13:=bx mixed zi vl [0,1,2,3,4,5,6,7,8,9,10,11,12] rfl Mm Mn rfl (Mo) (fun x=>ak (gH45_0i_0 x)) (fun x=>by kernel_rfl)
@[reducible] def aaB:az:=az.mk [(2,.c .cq),(3,.c (.ptr 2 0)),(4,.c (.ptr 3 0)),(15,.fn 106 [] [.ptr 4 0])] [(2,.cells [.ptr 5 0] false),(3,.cells [.mp 6] false),(4,.cells [.ptr 5 0] false),(0,.cells [.mp 1] false),(1,.map tG true .bool false),(5,.cells [.mp 7,.mp 8,.mp 9,.mp 10] false),(6,.map .str false .unit true),(7,.map .str false tG true),(8,.map .str false (.list .str) false),(9,.map .str false .bool false),(10,.map .str false .bool false)] [.slot 3,.slot 4,.part 15 0,.cell 2 0,.cell 3 0,.cell 5 0,.cell 5 1,.cell 5 2,.cell 5 3] []
@[reducible] def aaC:bf:=[(.normal,az.mk [(4,.c (.ptr 2 0))] [(2,.cells [.mp 3] false),(0,.cells [.mp 1] false),(1,.map tG true .bool false),(3,.map .str false .unit true)] [.slot 4,.cell 2 0] [])]
noncomputable def JX:D prog 34 none 13:=dO [.l Mp] (kd prog f106) 0
theorem UO:cM prog f106=some ⟨34,2,(JX).er,[],[]⟩:=by kernel_rfl
noncomputable def gH45_0:(List ((GG)×Bool))×(List (ByteArray×Unit))×cQ×cS×bn×bn×Unit→bU (((List ((GG)×Bool))×(List (ByteArray×Unit))×Unit)):=fun (m1,m6,m7,m8,m9,m10,_) =>
 .bd (FH95 m7) fun y3 =>
 .bd (FH81 y3.1) fun y4 =>
 .bd (.it gH45_0i_0 (y4.1,((y4.1:Nat):Int),(0:Int),y4.2.1,y4.2.2.1,m8,m9,m10,m1,m6,())) fun z8 =>
 .ret ((z8.1,z8.2.2.2.2.2.1,()))
noncomputable def aaD:gB prog 37 none 2:=sx mixed zi vl [0,1] rfl aaB aaC ( .t 15) [16,17] rfl (JV).er (JW).er 106 func106 (UO) (enters_of func106 rfl rfl) 13 rfl (JX) rfl (fun x=>ak (gH45_0 x)) (fun x=>by kernel_rfl)
noncomputable def Xo:D prog 37 none 2:=dO [.r aaD] (kd prog f45) 0
noncomputable def FH45 (m1:List ((GG)×Bool)):bU (Nat×List ByteArray×(List ((GG)×Bool))×Unit) :=
 .bd (FH54 m1) fun y0 =>
 .br y0.1 (
 .ret ((0:Nat),[],y0.2.1,())) (
 .bd (FH66 y0.2.1) fun y1 =>
 .bd (FH79 y1.2.1 y1.2.2.1 y1.2.2.2.1 y1.2.2.2.2.1) fun y2 =>
 .bd (gH45_0 (y1.1,[],y2.1,y2.2.1,y2.2.2.1,y2.2.2.2.1,())) fun z9 =>
 .bd (FH82 z9.2.1) fun Gf =>
 .bd (FH81_v1 Gf.1) fun y11 =>
 .ret (y11.1,y11.2.1,z9.1,()))
theorem UP:cM prog f45=some ⟨37,1,Xo.er,[.t 2],[some (.list .str)]⟩:=by kernel_rfl
noncomputable def ht45:Ht:=⟨45,pH45,qH45,(fun x=>ak (FH45 x.1))⟩
theorem UQ:ht45.Ok prog:=bW mixed sV rfl func45 UP (enters_of func45 rfl rfl) Xo (by kernel_rfl) rfl rfl ⟨_,rfl⟩ rfl (pre:=[0,1]) rfl (fun x=>by kernel_rfl)

/- 17 -/
noncomputable def cx17:Cx:=(aN [ct46,aax,aaz] [TG,aah,Uy,UF,ht25,ht45,aai,ZE])
theorem UR:cx17.Ok prog:=av ⟨To,JQ,JS,trivial⟩ ⟨⟨CI,rfl⟩,⟨JH,rfl⟩,⟨CT,rfl⟩,⟨C6,rfl⟩,⟨UH,rfl⟩,⟨UQ,rfl⟩,⟨JI,rfl⟩,⟨Jv,rfl⟩,trivial⟩
noncomputable def dd17:D prog 130 none 0:=dO [] (kd prog f17) 0
noncomputable def F17:bU (Bool×Unit) :=
 .bd (F46) fun y0 =>
 .nd (decide ((0:Int)≤(0:Int))) <|
 .nd (decide ((0:Int)≤(6:Int))) <|
 .nd (decide ((6:Int)≤(((y0.1).length:Nat):Int))) <|
 .bd (FH29 (((y0.1).drop (Int.toNat (0:Int))).take ((Int.toNat (6:Int)) - (Int.toNat (0:Int))))) fun y1 =>
 .bd (F46) fun y2 =>
 .nd (decide ((0:Int)≤(0:Int))) <|
 .nd (decide ((0:Int)≤(7:Int))) <|
 .nd (decide ((7:Int)≤(((y2.1).length:Nat):Int))) <|
 .bd (FH29 (((y2.1).drop (Int.toNat (0:Int))).take ((Int.toNat (7:Int)) - (Int.toNat (0:Int))))) fun y3 =>
 .bd (F46) fun y4 =>
 .bd (FH29 y4.1) fun y5 =>
 .bd (FH33 (bs [116,49]) y1.1) fun y6 =>
 .bd (FH23 (bs [97,110,97]) y6.2.2.2.1) fun y7 =>
 .bd (FH23 (bs [97,110,97]) y3.1) fun y8 =>
 .bd (FH37 y7.2.2.2.1) fun y9 =>
 .bd (FH25 (bs [99,121]) y5.1) fun Gf =>
 .br (y6.2.1==(0:Int)) (
 .br (y7.2.1==(0:Int)) (
 .br (y8.2.1==(0:Int)) (
 .br (y9.2.1==(0:Int)) (
 .br (Gf.2.1==(0:Int)) (
 .bd (F36 (((y6.2.2.1).drop (0:Nat)).take y6.1) (((((bs [99,50])::((bs [99,51])::[]))).drop (0:Nat)).take (2:Nat))) fun y11 =>
 .br y11.1 (
 .bd (F27 (((y7.2.2.1).drop (0:Nat)).take y7.1) (((((0:Int)::((41:Int)::[]))).drop (0:Nat)).take (2:Nat))) fun y12 =>
 .br y12.1 (
 .bd (F27 (((y8.2.2.1).drop (0:Nat)).take y8.1) (((((41:Int)::[])).drop (0:Nat)).take (1:Nat))) fun y13 =>
 .br y13.1 (
 .br ((y9.1.1==(65:Int))&&((y9.1.2==(66:Int))&&true)) (
 .br ((Gf.1.1==(0:Int))&&((Gf.1.2==(40:Int))&&true)) (
 .bd (FH45 y9.2.2.1) fun Qn =>
 .bd (F36 (((Qn.2.1).drop (0:Nat)).take Qn.1) (((((bs [97,110,97])::((bs [98,101,110])::((bs [99,121])::[])))).drop (0:Nat)).take (3:Nat))) fun y15 =>
 .br y15.1 (
 .bd (FH40 (bs [116,49]) (3:Int) Qn.2.2.1) fun y16 =>
 .br y16.1 (
 .bd (FH40 (bs [116,50]) (4:Int) y16.2.1) fun Xp =>
 .br Xp.1 (
 .bd (FH40 (bs [99,51]) (5:Int) Xp.2.1) fun y18 =>
 .br y18.1 (
 .bd (FH40 (bs [119,49]) (1:Int) y18.2.1) fun y19 =>
 .br y19.1 (
 .bd (FH40 (bs [99,50]) (2:Int) y8.2.2.2.1) fun y20 =>
 .br y20.1 (
 .bd (FH40 (bs [99,51]) (4:Int) y20.2.1) fun y21 =>
 .br y21.1 (
 .bd (FH40 (bs [99,50]) (5:Int) Gf.2.2.1) fun y22 =>
 .br y22.1 (
 .bd (FH47 y22.2.1) fun y23 =>
 .ret ((((y23.1:Nat):Int)==(8:Int)),())) (
 .ret (false,()))) (
 .ret (false,()))) (
 .ret (false,()))) (
 .ret (false,()))) (
 .ret (false,()))) (
 .ret (false,()))) (
 .ret (false,()))) (
 .ret (false,()))) (
 .ret (false,()))) (
 .ret (false,()))) (
 .ret (false,()))) (
 .ret (false,()))) (
 .ret (false,()))) (
 .ret (false,()))) (
 .ret (false,()))) (
 .ret (false,()))) (
 .ret (false,()))) (
 .ret (false,()))
theorem aaF:cM prog f17=some ⟨130,0,dd17.er,[.t 0],[some .bool]⟩:=by kernel_rfl
noncomputable def US:Ct:=⟨17,[],.c (.hole .bool),fun x=>ak (F17)⟩
theorem C7:US.Ok prog:=cF mixed UR func17 aaF (enters_of func17 rfl rfl) dd17 (by kernel_rfl) rfl (fun x=>by kernel_rfl)

/- 43 -/
noncomputable def cx43:Cx:=(aN [] [])
theorem UT:cx43.Ok prog:=av trivial trivial
noncomputable def dd43:D prog 11 none 0:=dO [] (kd prog f43) 0
noncomputable def F43 (a0:Int) (a1:Int):bU (ByteArray×Unit) :=
 .nd (eV .u8 a1) <|
 .nd (eV .u8 (a0+a1)) <|
 .ret ((vp (((((a0+a1)::[])).drop (0:Nat)).take (1:Nat))),())
theorem aaG:cM prog f43=some ⟨11,2,dd43.er,[.t 4],[some .str]⟩:=by kernel_rfl
noncomputable def ct43:Ct:=⟨43,[.c (.hole (.int .u8)),hI],.c (.hole .str),fun x=>ak (F43 x.1 x.2.1)⟩
theorem UU:ct43.Ok prog:=cF mixed UT func43 aaG (enters_of func43 rfl rfl) dd43 (by kernel_rfl) rfl (fun x=>by kernel_rfl)

/- 44 -/
noncomputable def cx44:Cx:=(aN [ct43] [])
theorem UW:cx44.Ok prog:=av ⟨UU,trivial⟩ trivial
noncomputable def dd44:D prog 52 none 0:=dO [] (kd prog f44) 0
noncomputable def F44 (a0:Int×Int×Int×Int):bU ((GG)×Unit) :=
 .nd (decide ((0:Nat)<((a0.1::(a0.2.1::(a0.2.2.1::(a0.2.2.2::[]))))).length)) <|
 .ni (((a0.1::(a0.2.1::(a0.2.2.1::(a0.2.2.2::[]))))).getD (0:Nat) (0:Int)) <|
 .nd (!((8:Int)==(0:Int))) <|
 .nd (decide ((1:Nat)<((a0.1::(a0.2.1::(a0.2.2.1::(a0.2.2.2::[]))))).length)) <|
 .ni (((a0.1::(a0.2.1::(a0.2.2.1::(a0.2.2.2::[]))))).getD (1:Nat) (0:Int)) <|
 .nd (!((8:Int)==(0:Int))) <|
 .br ((Int.tmod (((a0.1::(a0.2.1::(a0.2.2.1::(a0.2.2.2::[]))))).getD (0:Nat) (0:Int)) (8:Int))==(Int.tmod (((a0.1::(a0.2.1::(a0.2.2.1::(a0.2.2.2::[]))))).getD (1:Nat) (0:Int)) (8:Int))) (
 .ni ((Int.tmod (((a0.1::(a0.2.1::(a0.2.2.1::(a0.2.2.2::[]))))).getD (1:Nat) (0:Int)) (8:Int))+(1:Int)) <|
 .nd (!((8:Int)==(0:Int))) <|
 .bd (F43 (97:Int) (Int.tmod (((a0.1::(a0.2.1::(a0.2.2.1::(a0.2.2.2::[]))))).getD (0:Nat) (0:Int)) (8:Int))) fun y0 =>
 .bd (F43 (97:Int) (Int.tmod ((Int.tmod (((a0.1::(a0.2.1::(a0.2.2.1::(a0.2.2.2::[]))))).getD (1:Nat) (0:Int)) (8:Int))+(1:Int)) (8:Int))) fun y1 =>
 .nd (decide ((2:Nat)<((a0.1::(a0.2.1::(a0.2.2.1::(a0.2.2.2::[]))))).length)) <|
 .ni (((a0.1::(a0.2.1::(a0.2.2.1::(a0.2.2.2::[]))))).getD (2:Nat) (0:Int)) <|
 .nd (!((3:Int)==(0:Int))) <|
 .bd (F43 (120:Int) (Int.tmod (((a0.1::(a0.2.1::(a0.2.2.1::(a0.2.2.2::[]))))).getD (2:Nat) (0:Int)) (3:Int))) fun y2 =>
 .nd (decide ((2:Nat)<((a0.1::(a0.2.1::(a0.2.2.1::(a0.2.2.2::[]))))).length)) <|
 .ni (((a0.1::(a0.2.1::(a0.2.2.1::(a0.2.2.2::[]))))).getD (2:Nat) (0:Int)) <|
 .nd (!((3:Int)==(0:Int))) <|
 .ni (Int.tdiv (((a0.1::(a0.2.1::(a0.2.2.1::(a0.2.2.2::[]))))).getD (2:Nat) (0:Int)) (3:Int)) <|
 .nd (!((12:Int)==(0:Int))) <|
 .ni ((Int.tmod (Int.tdiv (((a0.1::(a0.2.1::(a0.2.2.1::(a0.2.2.2::[]))))).getD (2:Nat) (0:Int)) (3:Int)) (12:Int)) - (3:Int)) <|
 .nd (decide ((3:Nat)<((a0.1::(a0.2.1::(a0.2.2.1::(a0.2.2.2::[]))))).length)) <|
 .ni (((a0.1::(a0.2.1::(a0.2.2.1::(a0.2.2.2::[]))))).getD (3:Nat) (0:Int)) <|
 .nd (!((8:Int)==(0:Int))) <|
 .br ((Int.tmod (((a0.1::(a0.2.1::(a0.2.2.1::(a0.2.2.2::[]))))).getD (3:Nat) (0:Int)) (8:Int))==(0:Int)) (
 .ret ((y0.1,(1:Int),(bs []),y2.1,((Int.tmod (Int.tdiv (((a0.1::(a0.2.1::(a0.2.2.1::(a0.2.2.2::[]))))).getD (2:Nat) (0:Int)) (3:Int)) (12:Int)) - (3:Int))),())) (
 .br ((Int.tmod (((a0.1::(a0.2.1::(a0.2.2.1::(a0.2.2.2::[]))))).getD (3:Nat) (0:Int)) (8:Int))==(1:Int)) (
 .ret ((y0.1,(1:Int),(bs []),y2.1,((Int.tmod (Int.tdiv (((a0.1::(a0.2.1::(a0.2.2.1::(a0.2.2.2::[]))))).getD (2:Nat) (0:Int)) (3:Int)) (12:Int)) - (3:Int))),())) (
 .br ((Int.tmod (((a0.1::(a0.2.1::(a0.2.2.1::(a0.2.2.2::[]))))).getD (3:Nat) (0:Int)) (8:Int))==(2:Int)) (
 .ret ((y0.1,(1:Int),(bs []),y2.1,((Int.tmod (Int.tdiv (((a0.1::(a0.2.1::(a0.2.2.1::(a0.2.2.2::[]))))).getD (2:Nat) (0:Int)) (3:Int)) (12:Int)) - (3:Int))),())) (
 .br ((Int.tmod (((a0.1::(a0.2.1::(a0.2.2.1::(a0.2.2.2::[]))))).getD (3:Nat) (0:Int)) (8:Int))==(3:Int)) (
 .ret ((y0.1,(3:Int),y1.1,(bs []),(0:Int)),())) (
 .ret ((y0.1,(2:Int),y1.1,y2.1,((Int.tmod (Int.tdiv (((a0.1::(a0.2.1::(a0.2.2.1::(a0.2.2.2::[]))))).getD (2:Nat) (0:Int)) (3:Int)) (12:Int)) - (3:Int))),())))))) (
 .bd (F43 (97:Int) (Int.tmod (((a0.1::(a0.2.1::(a0.2.2.1::(a0.2.2.2::[]))))).getD (0:Nat) (0:Int)) (8:Int))) fun y3 =>
 .bd (F43 (97:Int) (Int.tmod (((a0.1::(a0.2.1::(a0.2.2.1::(a0.2.2.2::[]))))).getD (1:Nat) (0:Int)) (8:Int))) fun y4 =>
 .nd (decide ((2:Nat)<((a0.1::(a0.2.1::(a0.2.2.1::(a0.2.2.2::[]))))).length)) <|
 .ni (((a0.1::(a0.2.1::(a0.2.2.1::(a0.2.2.2::[]))))).getD (2:Nat) (0:Int)) <|
 .nd (!((3:Int)==(0:Int))) <|
 .bd (F43 (120:Int) (Int.tmod (((a0.1::(a0.2.1::(a0.2.2.1::(a0.2.2.2::[]))))).getD (2:Nat) (0:Int)) (3:Int))) fun y5 =>
 .nd (decide ((2:Nat)<((a0.1::(a0.2.1::(a0.2.2.1::(a0.2.2.2::[]))))).length)) <|
 .ni (((a0.1::(a0.2.1::(a0.2.2.1::(a0.2.2.2::[]))))).getD (2:Nat) (0:Int)) <|
 .nd (!((3:Int)==(0:Int))) <|
 .ni (Int.tdiv (((a0.1::(a0.2.1::(a0.2.2.1::(a0.2.2.2::[]))))).getD (2:Nat) (0:Int)) (3:Int)) <|
 .nd (!((12:Int)==(0:Int))) <|
 .ni ((Int.tmod (Int.tdiv (((a0.1::(a0.2.1::(a0.2.2.1::(a0.2.2.2::[]))))).getD (2:Nat) (0:Int)) (3:Int)) (12:Int)) - (3:Int)) <|
 .nd (decide ((3:Nat)<((a0.1::(a0.2.1::(a0.2.2.1::(a0.2.2.2::[]))))).length)) <|
 .ni (((a0.1::(a0.2.1::(a0.2.2.1::(a0.2.2.2::[]))))).getD (3:Nat) (0:Int)) <|
 .nd (!((8:Int)==(0:Int))) <|
 .br ((Int.tmod (((a0.1::(a0.2.1::(a0.2.2.1::(a0.2.2.2::[]))))).getD (3:Nat) (0:Int)) (8:Int))==(0:Int)) (
 .ret ((y3.1,(1:Int),(bs []),y5.1,((Int.tmod (Int.tdiv (((a0.1::(a0.2.1::(a0.2.2.1::(a0.2.2.2::[]))))).getD (2:Nat) (0:Int)) (3:Int)) (12:Int)) - (3:Int))),())) (
 .br ((Int.tmod (((a0.1::(a0.2.1::(a0.2.2.1::(a0.2.2.2::[]))))).getD (3:Nat) (0:Int)) (8:Int))==(1:Int)) (
 .ret ((y3.1,(1:Int),(bs []),y5.1,((Int.tmod (Int.tdiv (((a0.1::(a0.2.1::(a0.2.2.1::(a0.2.2.2::[]))))).getD (2:Nat) (0:Int)) (3:Int)) (12:Int)) - (3:Int))),())) (
 .br ((Int.tmod (((a0.1::(a0.2.1::(a0.2.2.1::(a0.2.2.2::[]))))).getD (3:Nat) (0:Int)) (8:Int))==(2:Int)) (
 .ret ((y3.1,(1:Int),(bs []),y5.1,((Int.tmod (Int.tdiv (((a0.1::(a0.2.1::(a0.2.2.1::(a0.2.2.2::[]))))).getD (2:Nat) (0:Int)) (3:Int)) (12:Int)) - (3:Int))),())) (
 .br ((Int.tmod (((a0.1::(a0.2.1::(a0.2.2.1::(a0.2.2.2::[]))))).getD (3:Nat) (0:Int)) (8:Int))==(3:Int)) (
 .ret ((y3.1,(3:Int),y4.1,(bs []),(0:Int)),())) (
 .ret ((y3.1,(2:Int),y4.1,y5.1,((Int.tmod (Int.tdiv (((a0.1::(a0.2.1::(a0.2.2.1::(a0.2.2.2::[]))))).getD (2:Nat) (0:Int)) (3:Int)) (12:Int)) - (3:Int))),()))))))
theorem aaH:cM prog f44=some ⟨52,1,dd44.er,[.cell 2 true 5],[some tG]⟩:=by kernel_rfl
noncomputable def ct44:Ct:=⟨44,[.c (.hole (.prod (.int .u8) (.prod (.int .u8) (.prod (.int .u8) (.int .u8)))))],.c (.hole tG),fun x=>ak (F44 x.1)⟩
theorem UX:ct44.Ok prog:=cF mixed UW func44 aaH (enters_of func44 rfl rfl) dd44 (by kernel_rfl) rfl (fun x=>by kernel_rfl)

/- 28 -/
noncomputable def cx28:Cx:=(aN [ct44] [])
theorem JY:cx28.Ok prog:=av ⟨UX,trivial⟩ trivial
@[reducible] def afk:az:=az.mk [(0,.c (.hole (.list (.prod (.int .u8) (.prod (.int .u8) (.prod (.int .u8) (.int .u8))))))),(3,.c (.cn 0 tG)),(4,hI)] [(0,.arr tG false)] [.slot 3] []
@[reducible] def afl:bf:=[(.exit 0,az.mk [(3,.c (.cn 0 tG))] [(0,.arr tG false)] [.slot 3] [])]
noncomputable def afm:D prog 24 none 0:=dO [] (pick (kd prog f28) [(0,false)]) 0
noncomputable def g28_0:(List (Int×Int×Int×Int))×Nat×Int×(List (GG))×Unit→bU (((List (Int×Int×Int×Int))×Nat×Int×(List (GG))×Unit) ⊕ ((Nat×(List (GG))×Unit))):=fun (v0,Bs,v4,b0,_) =>
 .br (decide (v4<(((v0).length:Nat):Int))) (
 .br (decide (v4<(10:Int))) (
 .nb v4 (((v0).length:Nat):Int) <|
 .bd (F44 (((v0).getD (Int.toNat v4) ((0:Int),(0:Int),(0:Int),(0:Int))).1,((v0).getD (Int.toNat v4) ((0:Int),(0:Int),(0:Int),(0:Int))).2.1,((v0).getD (Int.toNat v4) ((0:Int),(0:Int),(0:Int),(0:Int))).2.2.1,((v0).getD (Int.toNat v4) ((0:Int),(0:Int),(0:Int),(0:Int))).2.2.2)) fun y0 =>
 .nd (decide ((Bs+((((((y0.1.1,y0.1.2.1,y0.1.2.2.1,y0.1.2.2.2.1,y0.1.2.2.2.2)::[])).drop (0:Nat)).take (1:Nat))).length)<cg)) <|
 .ni (v4+(1:Int)) <|
 .ret (.inl (v0,(Bs+((((((y0.1.1,y0.1.2.1,y0.1.2.2.1,y0.1.2.2.2.1,y0.1.2.2.2.2)::[])).drop (0:Nat)).take (1:Nat))).length),(v4+(1:Int)),((((b0).drop (0:Nat)).take Bs)++(((((y0.1.1,y0.1.2.1,y0.1.2.2.1,y0.1.2.2.2.1,y0.1.2.2.2.2)::[])).drop (0:Nat)).take (1:Nat))),()))) (
 .ret (.inr (Bs,b0,())))) (
 .ret (.inr (Bs,b0,())))
noncomputable def afn:bQ prog 24 none 0:=bx mixed cx28 JY [] rfl afk afl rfl (afm) (fun x=>ak (g28_0 x)) (fun x=>by kernel_rfl)
noncomputable def dd28:D prog 24 none 0:=dO [.l afn] (kd prog f28) 0
noncomputable def F28 (a0:List (Int×Int×Int×Int)):bU ((List (GG))×Unit) :=
 .bd (.it g28_0 (a0,(0:Nat),(0:Int),[],())) fun z1 =>
 .ret ((((z1.2.1).drop (0:Nat)).take z1.1),())
theorem aaI:cM prog f28=some ⟨24,1,dd28.er,[.t 2],[some (.list tG)]⟩:=by kernel_rfl
noncomputable def UY:Ct:=⟨28,[.c (.hole (.list (.prod (.int .u8) (.prod (.int .u8) (.prod (.int .u8) (.int .u8))))))],.c (.hole (.list tG)),fun x=>ak (F28 x.1)⟩
theorem C8:UY.Ok prog:=cF mixed JY func28 aaI (enters_of func28 rfl rfl) dd28 (by kernel_rfl) rfl (fun x=>by kernel_rfl)

/- 31 -/
noncomputable def cx31:Cx:=(aN [] [])
theorem UZ:cx31.Ok prog:=av trivial trivial
noncomputable def dd31:D prog 2 none 0:=dO [] (kd prog f31) 0
noncomputable def F31:bU (List ByteArray×Unit) :=
 .ret ((((((bs [97])::((bs [98])::((bs [99])::((bs [100])::((bs [101])::((bs [102])::((bs [103])::((bs [104])::[]))))))))).drop (0:Nat)).take (8:Nat)),())
theorem aaJ:cM prog f31=some ⟨2,0,dd31.er,[.t 0],[some (.list .str)]⟩:=by kernel_rfl
noncomputable def U0:Ct:=⟨31,[],.c (.hole (.list .str)),fun x=>ak (F31)⟩
theorem C9:U0.Ok prog:=cF mixed UZ func31 aaJ (enters_of func31 rfl rfl) dd31 (by kernel_rfl) rfl (fun x=>by kernel_rfl)

/- 30 -/
noncomputable def aaK:Cx:=(aN [U0] [])
theorem Da:aaK.Ok prog:=av ⟨C9,trivial⟩ trivial
@[reducible] def afq:az:=az.mk [(0,.c (.hole (.list tG))),(3,.c (.cn 0 tG)),(5,.c (.hole .str)),(6,.c (.ptr 1 0)),(9,.c (.hole (.list .str))),(10,hI),(11,hI),(15,.c (.hole (.list tG))),(16,hI),(17,hI)] [(0,.arr tG false),(1,.cells [.hole .str,.hole tI,.hole .str,.hole .str,.hole tI] false)] [.slot 3,.slot 6] []
@[reducible] def afr:bf:=[(.exit 2,az.mk [(0,.c (.hole (.list tG))),(3,.c (.cn 0 tG)),(6,.c (.ptr 1 0)),(9,.c (.hole (.list .str))),(10,hI),(11,hI)] [(0,.arr tG false),(1,.cells [.hole .str,.hole tI,.hole .str,.hole .str,.hole tI] false)] [.slot 3,.slot 6] [])]
noncomputable def afs:D prog 90 none 0:=dO [] (pick (kd prog f30) [(0,false),(0,false)]) 0
noncomputable def g30_1:(List (GG))×Nat×ByteArray×List ByteArray×Int×Int×(List (GG))×Int×Int×(List (GG))×ByteArray×Int×ByteArray×ByteArray×Int×Unit→bU (((List (GG))×Nat×ByteArray×List ByteArray×Int×Int×(List (GG))×Int×Int×(List (GG))×ByteArray×Int×ByteArray×ByteArray×Int×Unit) ⊕ (((List (GG))×Nat×List ByteArray×Int×Int×(List (GG))×ByteArray×Int×ByteArray×ByteArray×Int×Unit))):=fun (v0,Bs,v5,v9,v10,v11,aK,lQ,v17,b0,dV,jq,jH,jI,j9,_) =>
 .br (decide (v17<lQ)) (
 .nb v17 (((aK).length:Nat):Int) <|
 .br (seq ((aK).getD (Int.toNat v17) ((bs []),(0:Int),(bs []),(bs []),(0:Int))).1 v5) (
 .br (jq==(0:Int)) (
 .ni (v17+(1:Int)) <|
 .ret (.inl (v0,Bs,v5,v9,v10,v11,aK,lQ,(v17+(1:Int)),b0,((aK).getD (Int.toNat v17) ((bs []),(0:Int),(bs []),(bs []),(0:Int))).1,((aK).getD (Int.toNat v17) ((bs []),(0:Int),(bs []),(bs []),(0:Int))).2.1,((aK).getD (Int.toNat v17) ((bs []),(0:Int),(bs []),(bs []),(0:Int))).2.2.1,((aK).getD (Int.toNat v17) ((bs []),(0:Int),(bs []),(bs []),(0:Int))).2.2.2.1,((aK).getD (Int.toNat v17) ((bs []),(0:Int),(bs []),(bs []),(0:Int))).2.2.2.2,()))) (
 .br (decide (((aK).getD (Int.toNat v17) ((bs []),(0:Int),(bs []),(bs []),(0:Int))).2.1<jq)) (
 .ni (v17+(1:Int)) <|
 .ret (.inl (v0,Bs,v5,v9,v10,v11,aK,lQ,(v17+(1:Int)),b0,((aK).getD (Int.toNat v17) ((bs []),(0:Int),(bs []),(bs []),(0:Int))).1,((aK).getD (Int.toNat v17) ((bs []),(0:Int),(bs []),(bs []),(0:Int))).2.1,((aK).getD (Int.toNat v17) ((bs []),(0:Int),(bs []),(bs []),(0:Int))).2.2.1,((aK).getD (Int.toNat v17) ((bs []),(0:Int),(bs []),(bs []),(0:Int))).2.2.2.1,((aK).getD (Int.toNat v17) ((bs []),(0:Int),(bs []),(bs []),(0:Int))).2.2.2.2,()))) (
 .br (((aK).getD (Int.toNat v17) ((bs []),(0:Int),(bs []),(bs []),(0:Int))).2.1==jq) (
 .br (slt ((aK).getD (Int.toNat v17) ((bs []),(0:Int),(bs []),(bs []),(0:Int))).2.2.1 jH) (
 .ni (v17+(1:Int)) <|
 .ret (.inl (v0,Bs,v5,v9,v10,v11,aK,lQ,(v17+(1:Int)),b0,((aK).getD (Int.toNat v17) ((bs []),(0:Int),(bs []),(bs []),(0:Int))).1,((aK).getD (Int.toNat v17) ((bs []),(0:Int),(bs []),(bs []),(0:Int))).2.1,((aK).getD (Int.toNat v17) ((bs []),(0:Int),(bs []),(bs []),(0:Int))).2.2.1,((aK).getD (Int.toNat v17) ((bs []),(0:Int),(bs []),(bs []),(0:Int))).2.2.2.1,((aK).getD (Int.toNat v17) ((bs []),(0:Int),(bs []),(bs []),(0:Int))).2.2.2.2,()))) (
 .br (seq ((aK).getD (Int.toNat v17) ((bs []),(0:Int),(bs []),(bs []),(0:Int))).2.2.1 jH) (
 .br (slt ((aK).getD (Int.toNat v17) ((bs []),(0:Int),(bs []),(bs []),(0:Int))).2.2.2.1 jI) (
 .ni (v17+(1:Int)) <|
 .ret (.inl (v0,Bs,v5,v9,v10,v11,aK,lQ,(v17+(1:Int)),b0,((aK).getD (Int.toNat v17) ((bs []),(0:Int),(bs []),(bs []),(0:Int))).1,((aK).getD (Int.toNat v17) ((bs []),(0:Int),(bs []),(bs []),(0:Int))).2.1,((aK).getD (Int.toNat v17) ((bs []),(0:Int),(bs []),(bs []),(0:Int))).2.2.1,((aK).getD (Int.toNat v17) ((bs []),(0:Int),(bs []),(bs []),(0:Int))).2.2.2.1,((aK).getD (Int.toNat v17) ((bs []),(0:Int),(bs []),(bs []),(0:Int))).2.2.2.2,()))) (
 .br (seq ((aK).getD (Int.toNat v17) ((bs []),(0:Int),(bs []),(bs []),(0:Int))).2.2.2.1 jI) (
 .br (decide (((aK).getD (Int.toNat v17) ((bs []),(0:Int),(bs []),(bs []),(0:Int))).2.2.2.2<j9)) (
 .ni (v17+(1:Int)) <|
 .ret (.inl (v0,Bs,v5,v9,v10,v11,aK,lQ,(v17+(1:Int)),b0,((aK).getD (Int.toNat v17) ((bs []),(0:Int),(bs []),(bs []),(0:Int))).1,((aK).getD (Int.toNat v17) ((bs []),(0:Int),(bs []),(bs []),(0:Int))).2.1,((aK).getD (Int.toNat v17) ((bs []),(0:Int),(bs []),(bs []),(0:Int))).2.2.1,((aK).getD (Int.toNat v17) ((bs []),(0:Int),(bs []),(bs []),(0:Int))).2.2.2.1,((aK).getD (Int.toNat v17) ((bs []),(0:Int),(bs []),(bs []),(0:Int))).2.2.2.2,()))) (
 .ni (v17+(1:Int)) <|
 .ret (.inl (v0,Bs,v5,v9,v10,v11,aK,lQ,(v17+(1:Int)),b0,dV,jq,jH,jI,j9,())))) (
 .ni (v17+(1:Int)) <|
 .ret (.inl (v0,Bs,v5,v9,v10,v11,aK,lQ,(v17+(1:Int)),b0,dV,jq,jH,jI,j9,()))))) (
 .ni (v17+(1:Int)) <|
 .ret (.inl (v0,Bs,v5,v9,v10,v11,aK,lQ,(v17+(1:Int)),b0,dV,jq,jH,jI,j9,()))))) (
 .ni (v17+(1:Int)) <|
 .ret (.inl (v0,Bs,v5,v9,v10,v11,aK,lQ,(v17+(1:Int)),b0,dV,jq,jH,jI,j9,())))))) (
 .ni (v17+(1:Int)) <|
 .ret (.inl (v0,Bs,v5,v9,v10,v11,aK,lQ,(v17+(1:Int)),b0,dV,jq,jH,jI,j9,())))) (
 .ret (.inr (v0,Bs,v9,v10,v11,b0,dV,jq,jH,jI,j9,())))
noncomputable def aft:bQ prog 90 none 0:=bx mixed aaK Da [] rfl afq afr rfl (afs) (fun x=>ak (g30_1 x)) (fun x=>by kernel_rfl)
@[reducible] def afu:az:=az.mk [(0,.c (.hole (.list tG))),(3,.c (.cn 0 tG)),(9,.c (.hole (.list .str))),(10,hI),(11,hI)] [(0,.arr tG false)] [.slot 3] []
@[reducible] def afv:bf:=[(.exit 0,az.mk [(3,.c (.cn 0 tG))] [(0,.arr tG false)] [.slot 3] [])]
noncomputable def afw:D prog 90 none 0:=dO [.l aft] (pick (kd prog f30) [(0,false)]) 0
noncomputable def g30_0:(List (GG))×Nat×List ByteArray×Int×Int×(List (GG))×Unit→bU (((List (GG))×Nat×List ByteArray×Int×Int×(List (GG))×Unit) ⊕ ((Nat×(List (GG))×Unit))):=fun (v0,Bs,v9,v10,v11,b0,_) =>
 .br (decide (v11<v10)) (
 .nb v11 (((v9).length:Nat):Int) <|
 .bd (.it g30_1 (v0,Bs,((v9).getD (Int.toNat v11) (bs [])),v9,v10,v11,v0,(((v0).length:Nat):Int),(0:Int),b0,(bs []),(0:Int),(bs []),(bs []),(0:Int),())) fun z1 =>
 .br (decide ((0:Int)<z1.2.2.2.2.2.2.2.1)) (
 .nd (decide ((z1.2.1+((((((z1.2.2.2.2.2.2.1,z1.2.2.2.2.2.2.2.1,z1.2.2.2.2.2.2.2.2.1,z1.2.2.2.2.2.2.2.2.2.1,z1.2.2.2.2.2.2.2.2.2.2.1)::[])).drop (0:Nat)).take (1:Nat))).length)<cg)) <|
 .ni (z1.2.2.2.2.1+(1:Int)) <|
 .ret (.inl (z1.1,(z1.2.1+((((((z1.2.2.2.2.2.2.1,z1.2.2.2.2.2.2.2.1,z1.2.2.2.2.2.2.2.2.1,z1.2.2.2.2.2.2.2.2.2.1,z1.2.2.2.2.2.2.2.2.2.2.1)::[])).drop (0:Nat)).take (1:Nat))).length),z1.2.2.1,z1.2.2.2.1,(z1.2.2.2.2.1+(1:Int)),((((z1.2.2.2.2.2.1).drop (0:Nat)).take z1.2.1)++(((((z1.2.2.2.2.2.2.1,z1.2.2.2.2.2.2.2.1,z1.2.2.2.2.2.2.2.2.1,z1.2.2.2.2.2.2.2.2.2.1,z1.2.2.2.2.2.2.2.2.2.2.1)::[])).drop (0:Nat)).take (1:Nat))),()))) (
 .ni (z1.2.2.2.2.1+(1:Int)) <|
 .ret (.inl (z1.1,z1.2.1,z1.2.2.1,z1.2.2.2.1,(z1.2.2.2.2.1+(1:Int)),z1.2.2.2.2.2.1,())))) (
 .ret (.inr (Bs,b0,())))
noncomputable def afx:bQ prog 90 none 0:=bx mixed aaK Da [] rfl afu afv rfl (afw) (fun x=>ak (g30_0 x)) (fun x=>by kernel_rfl)
noncomputable def dd30:D prog 90 none 0:=dO [.l afx] (kd prog f30) 0
noncomputable def F30 (a0:List (GG)):bU ((List (GG))×Unit) :=
 .bd (F31) fun y0 =>
 .bd (.it g30_0 (a0,(0:Nat),y0.1,(((y0.1).length:Nat):Int),(0:Int),[],())) fun z2 =>
 .ret ((((z2.2.1).drop (0:Nat)).take z2.1),())
theorem aaL:cM prog f30=some ⟨90,1,dd30.er,[.t 2],[some (.list tG)]⟩:=by kernel_rfl
noncomputable def aaM:Ct:=⟨30,[.c (.hole (.list tG))],.c (.hole (.list tG)),fun x=>ak (F30 x.1)⟩
theorem JZ:aaM.Ok prog:=cF mixed Da func30 aaL (enters_of func30 rfl rfl) dd30 (by kernel_rfl) rfl (fun x=>by kernel_rfl)

end Go.Proofs.Tryz

