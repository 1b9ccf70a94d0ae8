/- Functions of the program as functions of data, part 1; printed by a program of mine. -/
import Derived.Test.YthemjfloiapaaaaGreatP4
import Derived.Test.YthemjfloiapaaaaGreatProg
set_option linter.unusedSectionVars false
set_option linter.unusedVariables false
set_option linter.unusedSimpArgs false
open Go.AM
namespace Go.Proofs.Tryz
set_option maxRecDepth 100000
set_option synthInstance.maxSize 4000
set_option synthInstance.maxHeartbeats 400000
set_option synthInstance.maxSize 4000
set_option synthInstance.maxHeartbeats 400000
theorem mixed : prog.follows .mixedOrders = true := by kernel_rfl
@[reducible] def tG : Ty := .prod .str (.prod tI (.prod .str (.prod .str tI)))
abbrev GG := ByteArray × Int × ByteArray × ByteArray × Int
abbrev Tbk := List (GG × Bool)
abbrev aW := List (ByteArray × Bool)
abbrev cN := List (ByteArray × List ByteArray)
abbrev cL := List (ByteArray × GG)
abbrev Tlg := List GG
@[reducible] def oo (n : Nat) (i : I) : eR := .op (some n) none i
@[reducible] def om (n k : Nat) : eR := .op (some n) none (.mv (.t k))
@[reducible] def ol (n k : Nat) : eR := .op (some n) none (.load false 1 (.t k))
@[reducible] def og (n k : Nat) (b : Bool) (i : I) : eR := .op (some n) (some (k, b)) i
@[reducible] def ki (n : Nat) : O := .c (.int .i64 (Int.ofNat n))
@[reducible] def hzI : SP := .c (.hole (.int .i64))
@[reducible] def hzL : SP := .c (.hole (.list (.int .i64)))
@[reducible] def hzM : SP := .c (.hole (.list (.list (.int .i64))))

/- 130 -/
noncomputable def acw:Cx:=(aL [] [])
theorem Oa:acw.Ok prog:=av trivial trivial
noncomputable def VQ:D prog 6 none 0:=dO [] (kd prog f130) 0
noncomputable def F130 (a0:ByteArray):bJ (Bool×Unit) :=
 .ret ((!(seq a0 a0)),())
theorem Sg:cw prog f130=some ⟨6,1,VQ.er,[.t 2],[some .bool]⟩:=by kernel_rfl
noncomputable def VR:Ct:=⟨130,[.c (.hole .str)],.c (.hole .bool),fun x=>ah (F130 x.1)⟩
theorem Ob:VR.Ok prog:=cB mixed Oa func130 Sg (enters_of func130 rfl rfl) VQ (by kernel_rfl) rfl (fun x=>by kernel_rfl)

/- 113 -/
noncomputable def acy:Cx:=(aL [VR] [])
theorem Oc:acy.Ok prog:=av ⟨Ob,trivial⟩ trivial
noncomputable def VS:D prog 20 none 0:=dO [] (kd prog f113) 0
noncomputable def F113 (a0:ByteArray) (a1:ByteArray):bJ (Int×Unit) :=
 .bd (F130 a0) fun y0 =>
 .bd (F130 a1) fun y1 =>
 .br y0.1 (
 .br y1.1 (
 .ret ((0:Int),())) (
 .ret ((-1:Int),()))) (
 .br y1.1 (
 .ret ((1:Int),())) (
 .br (slt a0 a1) (
 .ret ((-1:Int),())) (
 .br (!(Ft (slt a0 a1) true (seq a0 a1))) (
 .ret ((1:Int),())) (
 .ret ((0:Int),())))))
theorem Si:cw prog f113=some ⟨20,2,VS.er,[.t 4],[some tI]⟩:=by kernel_rfl
noncomputable def VT:Ct:=⟨113,[.c (.hole .str),.c (.hole .str)],hI,fun x=>ah (F113 x.1 x.2.1)⟩
theorem Od:VT.Ok prog:=cB mixed Oc func113 Si (enters_of func113 rfl rfl) VS (by kernel_rfl) rfl (fun x=>by kernel_rfl)

/- 131 -/
noncomputable def acz:Cx:=(aL [] [])
theorem Oe:acz.Ok prog:=av trivial trivial
noncomputable def VU:D prog 6 none 0:=dO [] (kd prog f131) 0
noncomputable def F131 (a0:Int):bJ (Bool×Unit) :=
 .ret ((!(a0==a0)),())
theorem Sj:cw prog f131=some ⟨6,1,VU.er,[.t 2],[some .bool]⟩:=by kernel_rfl
noncomputable def VV:Ct:=⟨131,[hI],.c (.hole .bool),fun x=>ah (F131 x.1)⟩
theorem Of:VV.Ok prog:=cB mixed Oe func131 Sj (enters_of func131 rfl rfl) VU (by kernel_rfl) rfl (fun x=>by kernel_rfl)

/- 114 -/
noncomputable def acA:Cx:=(aL [VV] [])
theorem Og:acA.Ok prog:=av ⟨Of,trivial⟩ trivial
noncomputable def VW:D prog 20 none 0:=dO [] (kd prog f114) 0
noncomputable def F114 (a0:Int) (a1:Int):bJ (Int×Unit) :=
 .bd (F131 a0) fun y0 =>
 .bd (F131 a1) fun y1 =>
 .br y0.1 (
 .br y1.1 (
 .ret ((0:Int),())) (
 .ret ((-1:Int),()))) (
 .br y1.1 (
 .ret ((1:Int),())) (
 .br (decide (a0<a1)) (
 .ret ((-1:Int),())) (
 .br (decide (a1<a0)) (
 .ret ((1:Int),())) (
 .ret ((0:Int),())))))
theorem Sk:cw prog f114=some ⟨20,2,VW.er,[.t 4],[some tI]⟩:=by kernel_rfl
noncomputable def VX:Ct:=⟨114,[hI,hI],hI,fun x=>ah (F114 x.1 x.2.1)⟩
theorem Oh:VX.Ok prog:=cB mixed Og func114 Sk (enters_of func114 rfl rfl) VW (by kernel_rfl) rfl (fun x=>by kernel_rfl)

/- 112 -/
noncomputable def VY:Cx:=(aL [] [])
theorem D8:VY.Ok prog:=av trivial trivial
@[reducible] def Yw:ax:=ax.mk [(3,hI),(6,hL),(7,hI),(8,hI)] [] [] []
@[reducible] def Yx:aT:=[(.ret,ax.mk [(2,hI)] [] [] []),(.exit 0,ax.mk [(3,hI)] [] [] [])]
noncomputable def Yy:D prog 18 none 0:=dO [] (pick (kd prog f112) [(0,false)]) 0
noncomputable def g112_0:Int×List Int×Int×Int×Unit→bJ ((Int×List Int×Int×Int×Unit) ⊕ ((Int×Unit) ⊕ ((Int×Unit)))):=fun (v3,v6,v7,v8,_) =>
 .br (decide (v8<v7)) (
 .nb v8 (((v6).length:Nat):Int) <|
 .br (!(((v6).getD (Int.toNat v8) (0:Int))==v3)) (
 .ret (.inr <| .inl<|(((v6).getD (Int.toNat v8) (0:Int)),()))) (
 .ni (v8+(1:Int)) <|
 .ret (.inl (v3,v6,v7,(v8+(1:Int)),())))) (
 .ret (.inr <| .inr<|(v3,())))
noncomputable def Yz:bD prog 18 none 0:=aZ mixed VY D8 [] rfl Yw Yx rfl (Yy) (fun x=>ah (g112_0 x)) (fun x=>by kernel_rfl)
noncomputable def VZ:D prog 18 none 0:=dO [.l Yz] (kd prog f112) 0
noncomputable def F112 (a0:List Int):bJ (Int×Unit) :=
 .bd (.it g112_0 ((0:Int),a0,(((a0).length:Nat):Int),(0:Int),())) fun z0 =>
 .sm z0 (fun z1 =>
 .ret (z1.1,())) fun z2 =>
 .ret (z2.1,())
theorem Sl:cw prog f112=some ⟨18,1,VZ.er,[.t 2],[some tI]⟩:=by kernel_rfl
noncomputable def V0:Ct:=⟨112,[hL],hI,fun x=>ah (F112 x.1)⟩
theorem Oi:V0.Ok prog:=cB mixed D8 func112 Sl (enters_of func112 rfl rfl) VZ (by kernel_rfl) rfl (fun x=>by kernel_rfl)

/- 85 -/
noncomputable def cx85:Cx:=(aL [VT,VX,V0] [])
theorem Sm:cx85.Ok prog:=av ⟨Od,Oh,Oi,trivial⟩ trivial
noncomputable def dd85:D prog 35 none 0:=dO [] (kd prog f85) 0
noncomputable def F85 (a0:GG) (a1:GG):bJ (Int×Unit) :=
 .br ((seq a0.1 a1.1)&&((a0.2.1==a1.2.1)&&((seq a0.2.2.1 a1.2.2.1)&&((seq a0.2.2.2.1 a1.2.2.2.1)&&((a0.2.2.2.2==a1.2.2.2.2)&&true))))) (
 .ret ((0:Int),())) (
 .bd (F113 a0.1 a1.1) fun y0 =>
 .bd (F114 a0.2.1 a1.2.1) fun y1 =>
 .bd (F113 a0.2.2.1 a1.2.2.1) fun y2 =>
 .bd (F113 a0.2.2.2.1 a1.2.2.2.1) fun y3 =>
 .bd (F114 a0.2.2.2.2 a1.2.2.2.2) fun y4 =>
 .bd (F112 ((((y0.1::(y1.1::(y2.1::(y3.1::(y4.1::[])))))).drop (0:Nat)).take (5:Nat))) fun y5 =>
 .ret (y5.1,()))
theorem YA:cw prog f85=some ⟨35,2,dd85.er,[.t 4],[some tI]⟩:=by kernel_rfl
noncomputable def ct85:Ct:=⟨85,[.c (.hole tG),.c (.hole tG)],hI,fun x=>ah (F85 x.1 x.2.1)⟩
theorem Sn:ct85.Ok prog:=cB mixed Sm func85 YA (enters_of func85 rfl rfl) dd85 (by kernel_rfl) rfl (fun x=>by kernel_rfl)

/- 50 -/
noncomputable def cx50:Cx:=(aL [] [])
theorem Sq:cx50.Ok prog:=av trivial trivial
noncomputable def dd50:D prog 11 none 0:=dO [] (kd prog f50) 0
noncomputable def F50 (a0:ByteArray) (a1:ByteArray) (a2:Int):bJ ((GG)×Unit) :=
 .ret ((a0,(1:Int),(bs []),a1,a2),())
theorem YB:cw prog f50=some ⟨11,3,dd50.er,[.cell 6 true 5],[some tG]⟩:=by kernel_rfl
noncomputable def ct50:Ct:=⟨50,[.c (.hole .str),.c (.hole .str),hI],.c (.hole tG),fun x=>ah (F50 x.1 x.2.1 x.2.2.1)⟩
theorem Sr:ct50.Ok prog:=cB mixed Sq func50 YB (enters_of func50 rfl rfl) dd50 (by kernel_rfl) rfl (fun x=>by kernel_rfl)

/- 42 -/
noncomputable def cx42:Cx:=(aL [] [])
theorem Su:cx42.Ok prog:=av trivial trivial
noncomputable def dd42:D prog 14 none 0:=dO [] (kd prog f42) 0
noncomputable def F42 (a0:ByteArray) (a1:ByteArray) (a2:ByteArray) (a3:Int):bJ ((GG)×Unit) :=
 .ret ((a0,(2:Int),a1,a2,a3),())
theorem YC:cw prog f42=some ⟨14,4,dd42.er,[.cell 8 true 5],[some tG]⟩:=by kernel_rfl
noncomputable def ct42:Ct:=⟨42,[.c (.hole .str),.c (.hole .str),.c (.hole .str),hI],.c (.hole tG),fun x=>ah (F42 x.1 x.2.1 x.2.2.1 x.2.2.2.1)⟩
theorem Sv:ct42.Ok prog:=cB mixed Su func42 YC (enters_of func42 rfl rfl) dd42 (by kernel_rfl) rfl (fun x=>by kernel_rfl)

/- 39 -/
noncomputable def cx39:Cx:=(aL [] [])
theorem Sw:cx39.Ok prog:=av trivial trivial
noncomputable def dd39:D prog 8 none 0:=dO [] (kd prog f39) 0
noncomputable def F39 (a0:ByteArray) (a1:ByteArray):bJ ((GG)×Unit) :=
 .ret ((a0,(3:Int),a1,(bs []),(0:Int)),())
theorem YD:cw prog f39=some ⟨8,2,dd39.er,[.cell 4 true 5],[some tG]⟩:=by kernel_rfl
noncomputable def ct39:Ct:=⟨39,[.c (.hole .str),.c (.hole .str)],.c (.hole tG),fun x=>ah (F39 x.1 x.2.1)⟩
theorem Sx:ct39.Ok prog:=cB mixed Sw func39 YD (enters_of func39 rfl rfl) dd39 (by kernel_rfl) rfl (fun x=>by kernel_rfl)

/- 46 -/
noncomputable def cx46:Cx:=(aL [ct50,ct42,ct39] [])
theorem Sy:cx46.Ok prog:=av ⟨Sr,Sv,Sx,trivial⟩ trivial
noncomputable def dd46:D prog 10 none 0:=dO [] (kd prog f46) 0
noncomputable def F46:bJ ((List (GG))×Unit) :=
 .bd (F50 (bs [116,49]) (bs [97,110,97]) (40:Int)) fun y0 =>
 .bd (F50 (bs [116,50]) (bs [98,101,110]) (25:Int)) fun y1 =>
 .bd (F42 (bs [99,49]) (bs [116,49]) (bs [97,110,97]) (42:Int)) fun y2 =>
 .bd (F42 (bs [99,50]) (bs [116,49]) (bs [99,121]) (40:Int)) fun y3 =>
 .bd (F42 (bs [99,51]) (bs [99,49]) (bs [97,110,97]) (41:Int)) fun y4 =>
 .bd (F42 (bs [119,49]) (bs [120,57]) (bs [98,101,110]) (5:Int)) fun y5 =>
 .bd (F39 (bs [114,49]) (bs [99,49])) fun y6 =>
 .bd (F39 (bs [114,50]) (bs [99,50])) fun y7 =>
 .ret ((((((y0.1.1,y0.1.2.1,y0.1.2.2.1,y0.1.2.2.2.1,y0.1.2.2.2.2)::((y1.1.1,y1.1.2.1,y1.1.2.2.1,y1.1.2.2.2.1,y1.1.2.2.2.2)::((y2.1.1,y2.1.2.1,y2.1.2.2.1,y2.1.2.2.2.1,y2.1.2.2.2.2)::((y3.1.1,y3.1.2.1,y3.1.2.2.1,y3.1.2.2.2.1,y3.1.2.2.2.2)::((y4.1.1,y4.1.2.1,y4.1.2.2.1,y4.1.2.2.2.1,y4.1.2.2.2.2)::((y5.1.1,y5.1.2.1,y5.1.2.2.1,y5.1.2.2.2.1,y5.1.2.2.2.2)::((y6.1.1,y6.1.2.1,y6.1.2.2.1,y6.1.2.2.2.1,y6.1.2.2.2.2)::((y7.1.1,y7.1.2.1,y7.1.2.2.1,y7.1.2.2.2.1,y7.1.2.2.2.2)::[]))))))))).drop (0:Nat)).take (8:Nat)),())
theorem YE:cw prog f46=some ⟨10,0,dd46.er,[.t 0],[some (.list tG)]⟩:=by kernel_rfl
noncomputable def ct46:Ct:=⟨46,[],.c (.hole (.list tG)),fun x=>ah (F46)⟩
theorem Sz:ct46.Ok prog:=cB mixed Sy func46 YE (enters_of func46 rfl rfl) dd46 (by kernel_rfl) rfl (fun x=>by kernel_rfl)

/- 18, lent -/
@[reducible] def pH18:ax:=ax.mk [] [] [] []
@[reducible] def qH18:ax:=ax.mk [(0,.c (.ptr 0 0))] [(0,.cells [.mp 1] false),(1,.map tG true .bool false)] [.slot 0,.cell 0 0] []
noncomputable def acK:Cx:=(aL [] [])
theorem Oj:acK.Ok prog:=av trivial trivial
noncomputable def V1:D prog 4 none 0:=dO [] (kd prog f18) 0
noncomputable def FH18:bJ ((List ((GG)×Bool))×Unit) :=
 .ret ([],())
theorem SA:cw prog f18=some ⟨4,0,V1.er,[.t 0],[none]⟩:=by kernel_rfl
noncomputable def YF:Ht:=⟨18,pH18,qH18,(fun x=>ah (FH18))⟩
theorem IL:YF.Ok prog:=bG mixed Oj rfl func18 SA (enters_of func18 rfl rfl) V1 (by kernel_rfl) rfl rfl ⟨_,rfl⟩ rfl (pre:=[]) rfl (fun x=>by kernel_rfl)

/- 54, lent -/
@[reducible] def pH54:ax:=ax.mk [(0,.c (.ptr 0 0))] [(0,.cells [.mp 1] false),(1,.map tG true .bool false)] [.slot 0,.cell 0 0] []
@[reducible] def qH54:ax:=ax.mk [(0,.c (.hole .bool))] [(0,.cells [.mp 1] false),(1,.map tG true .bool false)] [] []
noncomputable def acL:Cx:=(aL [] [])
theorem Ol:acL.Ok prog:=av trivial trivial
noncomputable def V2:D prog 12 none 2:=dO [] (kd prog f54) 0
noncomputable def FH54 (m1:List ((GG)×Bool)):bJ (Bool×(List ((GG)×Bool))×Unit) :=
 .ret (false,m1,())
theorem SB:cw prog f54=some ⟨12,1,V2.er,[.t 2],[some .bool]⟩:=by kernel_rfl
noncomputable def ze:Ht:=⟨54,pH54,qH54,(fun x=>ah (FH54 x.1))⟩
theorem mZ:ze.Ok prog:=bG mixed Ol rfl func54 SB (enters_of func54 rfl rfl) V2 (by kernel_rfl) rfl rfl ⟨_,rfl⟩ rfl (pre:=[0,1]) rfl (fun x=>by kernel_rfl)

/- 65 -/
noncomputable def cx65:Cx:=(aL [] [])
theorem IM:cx65.Ok prog:=av trivial trivial
@[reducible] def acN:ax:=ax.mk [(0,.c (.hole .str)),(6,.c (.hole (.list (.int .u8)))),(7,hI),(8,hI)] [] [] []
@[reducible] def acO:aT:=[(.ret,ax.mk [(2,.c (.tf false))] [] [] []),(.exit 0,ax.mk [(0,.c (.hole .str))] [] [] [])]
noncomputable def acP:D prog 40 none 0:=dO [] (pick (kd prog f65) [(0,false)]) 0
noncomputable def g65_0:ByteArray×List Int×Int×Int×Unit→bJ ((ByteArray×List Int×Int×Int×Unit) ⊕ ((Unit) ⊕ ((ByteArray×Unit)))):=fun (v0,v6,v7,v8,_) =>
 .br (decide (v8<v7)) (
 .nb v8 (((v6).length:Nat):Int) <|
 .br (decide (((v6).getD (Int.toNat v8) (0:Int))<(97:Int))) (
 .br (v8==(0:Int)) (
 .ret (.inr <| .inl<|())) (
 .br (decide (((v6).getD (Int.toNat v8) (0:Int))<(48:Int))) (
 .ret (.inr <| .inl<|())) (
 .br (decide ((57:Int)<((v6).getD (Int.toNat v8) (0:Int)))) (
 .ret (.inr <| .inl<|())) (
 .ni (v8+(1:Int)) <|
 .ret (.inl (v0,v6,v7,(v8+(1:Int)),())))))) (
 .br (decide ((122:Int)<((v6).getD (Int.toNat v8) (0:Int)))) (
 .br (v8==(0:Int)) (
 .ret (.inr <| .inl<|())) (
 .br (decide (((v6).getD (Int.toNat v8) (0:Int))<(48:Int))) (
 .ret (.inr <| .inl<|())) (
 .br (decide ((57:Int)<((v6).getD (Int.toNat v8) (0:Int)))) (
 .ret (.inr <| .inl<|())) (
 .ni (v8+(1:Int)) <|
 .ret (.inl (v0,v6,v7,(v8+(1:Int)),())))))) (
 .ni (v8+(1:Int)) <|
 .ret (.inl (v0,v6,v7,(v8+(1:Int)),()))))) (
 .ret (.inr <| .inr<|(v0,())))
noncomputable def acQ:bD prog 40 none 0:=aZ mixed cx65 IM [] rfl acN acO rfl (acP) (fun x=>ah (g65_0 x)) (fun x=>by kernel_rfl)
noncomputable def dd65:D prog 40 none 0:=dO [.l acQ] (kd prog f65) 0
noncomputable def F65 (a0:ByteArray):bJ (Bool×Unit) :=
 .bd (.it g65_0 (a0,(eU a0),((((eU a0)).length:Nat):Int),(0:Int),())) fun z0 =>
 .sm z0 (fun z1 =>
 .ret (false,())) fun z2 =>
 .br (decide ((0:Int)<((z2.1.size:Nat):Int))) (
 .ret ((decide (((z2.1.size:Nat):Int)≤(10:Int))),())) (
 .ret (false,()))
theorem YG:cw prog f65=some ⟨40,1,dd65.er,[.t 2],[some .bool]⟩:=by kernel_rfl
noncomputable def Om:Ct:=⟨65,[.c (.hole .str)],.c (.hole .bool),fun x=>ah (F65 x.1)⟩
theorem vA:Om.Ok prog:=cB mixed IM func65 YG (enters_of func65 rfl rfl) dd65 (by kernel_rfl) rfl (fun x=>by kernel_rfl)

/- 87 -/
noncomputable def cx87:Cx:=(aL [Om] [])
theorem SC:cx87.Ok prog:=av ⟨vA,trivial⟩ trivial
noncomputable def dd87:D prog 27 none 0:=dO [] (kd prog f87) 0
noncomputable def F87 (a0:GG):bJ (Int×Unit) :=
 .br (a0.2.1==(1:Int)) (
 .br (!(seq a0.2.2.1 (bs []))) (
 .ret ((22:Int),())) (
 .br (a0.2.1==(1:Int)) (
 .ret ((0:Int),())) (
 .bd (F65 a0.2.2.1) fun y0 =>
 .br (!y0.1) (
 .ret ((8:Int),())) (
 .br (seq a0.2.2.1 a0.1) (
 .ret ((22:Int),())) (
 .ret ((0:Int),())))))) (
 .br (a0.2.1==(1:Int)) (
 .ret ((0:Int),())) (
 .bd (F65 a0.2.2.1) fun y1 =>
 .br (!y1.1) (
 .ret ((8:Int),())) (
 .br (seq a0.2.2.1 a0.1) (
 .ret ((22:Int),())) (
 .ret ((0:Int),())))))
theorem YH:cw prog f87=some ⟨27,1,dd87.er,[.t 2],[some tI]⟩:=by kernel_rfl
noncomputable def ct87:Ct:=⟨87,[.c (.hole tG)],hI,fun x=>ah (F87 x.1)⟩
theorem SD:ct87.Ok prog:=cB mixed SC func87 YH (enters_of func87 rfl rfl) dd87 (by kernel_rfl) rfl (fun x=>by kernel_rfl)

/- 88 -/
noncomputable def cx88:Cx:=(aL [Om] [])
theorem SE:cx88.Ok prog:=av ⟨vA,trivial⟩ trivial
noncomputable def dd88:D prog 35 none 0:=dO [] (kd prog f88) 0
noncomputable def F88 (a0:GG):bJ (Int×Unit) :=
 .br (a0.2.1==(3:Int)) (
 .br (!(seq a0.2.2.2.1 (bs []))) (
 .ret ((22:Int),())) (
 .br (!(a0.2.2.2.2==(0:Int))) (
 .ret ((22:Int),())) (
 .br (a0.2.1==(3:Int)) (
 .ret ((0:Int),())) (
 .bd (F65 a0.2.2.2.1) fun y0 =>
 .br (!y0.1) (
 .ret ((8:Int),())) (
 .br (decide (a0.2.2.2.2<(-1000:Int))) (
 .ret ((2:Int),())) (
 .br (decide ((1000:Int)<a0.2.2.2.2)) (
 .ret ((2:Int),())) (
 .ret ((0:Int),())))))))) (
 .br (a0.2.1==(3:Int)) (
 .ret ((0:Int),())) (
 .bd (F65 a0.2.2.2.1) fun y1 =>
 .br (!y1.1) (
 .ret ((8:Int),())) (
 .br (decide (a0.2.2.2.2<(-1000:Int))) (
 .ret ((2:Int),())) (
 .br (decide ((1000:Int)<a0.2.2.2.2)) (
 .ret ((2:Int),())) (
 .ret ((0:Int),()))))))
theorem YI:cw prog f88=some ⟨35,1,dd88.er,[.t 2],[some tI]⟩:=by kernel_rfl
noncomputable def ct88:Ct:=⟨88,[.c (.hole tG)],hI,fun x=>ah (F88 x.1)⟩
theorem SF:ct88.Ok prog:=cB mixed SE func88 YI (enters_of func88 rfl rfl) dd88 (by kernel_rfl) rfl (fun x=>by kernel_rfl)

/- 86 -/
noncomputable def cx86:Cx:=(aL [] [])
theorem IP:cx86.Ok prog:=av trivial trivial
@[reducible] def acX:ax:=ax.mk [(3,hI),(6,hL),(7,hI),(8,hI)] [] [] []
@[reducible] def acY:aT:=[(.ret,ax.mk [(2,hI)] [] [] []),(.exit 0,ax.mk [(3,hI)] [] [] [])]
noncomputable def acZ:D prog 18 none 0:=dO [] (pick (kd prog f86) [(0,false)]) 0
noncomputable def g86_0:Int×List Int×Int×Int×Unit→bJ ((Int×List Int×Int×Int×Unit) ⊕ ((Int×Unit) ⊕ ((Int×Unit)))):=fun (v3,v6,v7,v8,_) =>
 .br (decide (v8<v7)) (
 .nb v8 (((v6).length:Nat):Int) <|
 .br (!(((v6).getD (Int.toNat v8) (0:Int))==v3)) (
 .ret (.inr <| .inl<|(((v6).getD (Int.toNat v8) (0:Int)),()))) (
 .ni (v8+(1:Int)) <|
 .ret (.inl (v3,v6,v7,(v8+(1:Int)),())))) (
 .ret (.inr <| .inr<|(v3,())))
noncomputable def ac0:bD prog 18 none 0:=aZ mixed cx86 IP [] rfl acX acY rfl (acZ) (fun x=>ah (g86_0 x)) (fun x=>by kernel_rfl)
noncomputable def dd86:D prog 18 none 0:=dO [.l ac0] (kd prog f86) 0
noncomputable def F86 (a0:List Int):bJ (Int×Unit) :=
 .bd (.it g86_0 ((0:Int),a0,(((a0).length:Nat):Int),(0:Int),())) fun z0 =>
 .sm z0 (fun z1 =>
 .ret (z1.1,())) fun z2 =>
 .ret (z2.1,())
theorem YJ:cw prog f86=some ⟨18,1,dd86.er,[.t 2],[some tI]⟩:=by kernel_rfl
noncomputable def ct86:Ct:=⟨86,[hL],hI,fun x=>ah (F86 x.1)⟩
theorem SG:ct86.Ok prog:=cB mixed IP func86 YJ (enters_of func86 rfl rfl) dd86 (by kernel_rfl) rfl (fun x=>by kernel_rfl)

/- 55 -/
noncomputable def cx55:Cx:=(aL [Om,ct87,ct88,ct86] [])
theorem SH:cx55.Ok prog:=av ⟨vA,SD,SF,SG,trivial⟩ trivial
noncomputable def dd55:D prog 23 none 0:=dO [] (kd prog f55) 0
noncomputable def F55 (a0:GG):bJ (Int×Unit) :=
 .br (decide (a0.2.1<(1:Int))) (
 .ret ((18:Int),())) (
 .br (decide ((3:Int)<a0.2.1)) (
 .ret ((18:Int),())) (
 .bd (F65 a0.1) fun y0 =>
 .br (!y0.1) (
 .ret ((8:Int),())) (
 .bd (F87 (a0.1,a0.2.1,a0.2.2.1,a0.2.2.2.1,a0.2.2.2.2)) fun y1 =>
 .bd (F88 (a0.1,a0.2.1,a0.2.2.1,a0.2.2.2.1,a0.2.2.2.2)) fun y2 =>
 .bd (F86 ((((y1.1::(y2.1::[]))).drop (0:Nat)).take (2:Nat))) fun y3 =>
 .ret (y3.1,()))))
theorem YK:cw prog f55=some ⟨23,1,dd55.er,[.t 2],[some tI]⟩:=by kernel_rfl
noncomputable def ct55:Ct:=⟨55,[.c (.hole tG)],hI,fun x=>ah (F55 x.1)⟩
theorem SJ:ct55.Ok prog:=cB mixed SH func55 YK (enters_of func55 rfl rfl) dd55 (by kernel_rfl) rfl (fun x=>by kernel_rfl)

/- 89, by hand -/
@[reducible] def pH89:ax:=ax.mk [(0,.c (.mp 0))] [(0,.map tG true .bool false)] [.slot 0] []
@[reducible] def qH89:ax:=ax.mk [(0,.c (.mp 1))] [(1,.map tG true .bool false),(0,.map tG true .bool false)] [.slot 0] []
noncomputable def FH89 (m0:List ((GG)×Bool)):bJ ((List ((GG)×Bool))×(List ((GG)×Bool))×Unit) :=
 .ret (m0,m0,())
noncomputable def ht89:Ht:=⟨89,pH89,qH89,(fun x=>ah (FH89 x.1))⟩
theorem SK:ht89.Ok prog:=fun x y h=>by
  have h':some (x.1,x.1,())=some y:=h
  cases h'
  exact D0 (ρ:=Ao) acv (enters_of func89 rfl rfl)

/- 193, lent -/
@[reducible] def ac6:ax:=ax.mk [(0,.c (.hole tG))] [] [] []
@[reducible] def ac7:ax:=ax.mk [(0,.c (.bN 0 tG))] [(0,.arr tG false)] [.slot 0] []
noncomputable def YL:Cx:=(aL [] [])
theorem KJ:YL.Ok prog:=av trivial trivial
noncomputable def On:D prog 5 none 0:=dO [] (kd prog f193) 0
noncomputable def FH193 (v0:GG):bJ (Nat×(List (GG))×Unit) :=
 .ret ((1:Nat),((v0.1,v0.2.1,v0.2.2.1,v0.2.2.2.1,v0.2.2.2.2)::[]),())
theorem Oo:cw prog f193=some ⟨5,1,On.er,[.t 2],[some (.list tG)]⟩:=by kernel_rfl
noncomputable def V3:Ht:=⟨193,ac6,ac7,(fun x=>ah (FH193 x.1))⟩
theorem Oq:V3.Ok prog:=bG mixed KJ rfl func193 Oo (enters_of func193 rfl rfl) On (by kernel_rfl) rfl rfl ⟨_,rfl⟩ rfl (pre:=[]) rfl (fun x=>by kernel_rfl)

/- 56, lent -/
@[reducible] def pH56:ax:=ax.mk [(0,.c (.ptr 0 0)),(1,.c (.Gi 33 true (.cons (.hole .str) (.cons (.hole tI) (.cons (.hole .str) (.cons (.hole .str) (.cons (.hole tI) .nil)))))))] [(0,.cells [.mp 1] false),(1,.map tG true .bool false)] [.slot 0,.cell 0 0] []
@[reducible] def qH56:ax:=ax.mk [(0,hI)] [(0,.cells [.mp 2] false),(2,.map tG true .bool false)] [.cell 0 0] []
noncomputable def V4:Cx:=(aL [] [ht89,V3])
theorem D9:V4.Ok prog:=av trivial ⟨⟨SK,rfl⟩,⟨Oq,rfl⟩,trivial⟩
@[reducible] def YM:ax:=ax.mk [(0,.c (.ptr 0 0)),(5,.c (.mp 2)),(14,.c (.bN 3 tG)),(15,hI),(16,hI)] [(0,.cells [.mp 1] false),(2,.map tG true .bool false),(3,.arr tG false),(1,.map tG true .bool false)] [.slot 5,.slot 14] []
@[reducible] def YN:aT:=[(.exit 0,ax.mk [(0,.c (.ptr 0 0)),(5,.c (.mp 2))] [(0,.cells [.mp 1] false),(2,.map tG true .bool false),(1,.map tG true .bool false)] [.slot 5] [])]
noncomputable def YO:D prog 30 none 2:=dO [] (pick (kd prog f56) [(0,false)]) 0
noncomputable def gH56_0:Nat×Int×Int×(List ((GG)×Bool))×(List (GG))×(List ((GG)×Bool))×Unit→bJ ((Nat×Int×Int×(List ((GG)×Bool))×(List (GG))×(List ((GG)×Bool))×Unit) ⊕ (((List ((GG)×Bool))×(List ((GG)×Bool))×Unit))):=fun (nv14,v15,BS,m2,b3,m1,_) =>
 .br (decide (BS<v15)) (
 .nb BS ((nv14:Nat):Int) <|
 .nd (decide (((0:Nat)+(Int.toNat BS))<(b3).length)) <|
 .ni (BS+(1:Int)) <|
 .ret (.inl (nv14,v15,(BS+(1:Int)),(bg (.prod .str (.prod (.int .i64) (.prod .str (.prod .str (.int .i64))))) m2 (((b3).getD ((0:Nat)+(Int.toNat BS)) ((bs []),(0:Int),(bs []),(bs []),(0:Int))).1,((b3).getD ((0:Nat)+(Int.toNat BS)) ((bs []),(0:Int),(bs []),(bs []),(0:Int))).2.1,((b3).getD ((0:Nat)+(Int.toNat BS)) ((bs []),(0:Int),(bs []),(bs []),(0:Int))).2.2.1,((b3).getD ((0:Nat)+(Int.toNat BS)) ((bs []),(0:Int),(bs []),(bs []),(0:Int))).2.2.2.1,((b3).getD ((0:Nat)+(Int.toNat BS)) ((bs []),(0:Int),(bs []),(bs []),(0:Int))).2.2.2.2) true),b3,m1,()))) (
 .ret (.inr (m2,m1,())))
noncomputable def YP:bD prog 30 none 2:=aZ mixed V4 D9 [0,1] rfl YM YN rfl (YO) (fun x=>ah (gH56_0 x)) (fun x=>by kernel_rfl)
noncomputable def V5:D prog 30 none 2:=dO [.l YP] (kd prog f56) 0
noncomputable def FH56 (v1c0:ByteArray) (v1c1:Int) (v1c2:ByteArray) (v1c3:ByteArray) (v1c4:Int) (m1:List ((GG)×Bool)):bJ (Int×(List ((GG)×Bool))×Unit) :=
 .bd (FH89 m1) fun y0 =>
 .bd (FH193 (v1c0,v1c1,v1c2,v1c3,v1c4)) fun y1 =>
 .bd (.it gH56_0 (y1.1,((y1.1:Nat):Int),(0:Int),y0.1,y1.2.1,y0.2.1,())) fun z2 =>
 .br (decide ((60:Int)<(((z2.1).length:Nat):Int))) (
 .ret ((15:Int),z2.2.1,())) (
 .ret ((0:Int),z2.1,()))
theorem SM:cw prog f56=some ⟨30,2,V5.er,[.t 4],[some tI]⟩:=by kernel_rfl
noncomputable def ht56:Ht:=⟨56,pH56,qH56,(fun x=>ah (FH56 x.1 x.2.1 x.2.2.1 x.2.2.2.1 x.2.2.2.2.1 x.2.2.2.2.2.1))⟩
theorem SN:ht56.Ok prog:=bG mixed D9 rfl func56 SM (enters_of func56 rfl rfl) V5 (by kernel_rfl) rfl rfl ⟨_,rfl⟩ rfl (pre:=[0,1]) rfl (fun x=>by kernel_rfl)

/- 20, lent -/
@[reducible] def pH20:ax:=ax.mk [(0,.c (.ptr 0 0)),(1,.c (.hole tG))] [(0,.cells [.mp 1] false),(1,.map tG true .bool false)] [.slot 0,.cell 0 0] []
@[reducible] def qH20:ax:=ax.mk [(0,hI)] [(0,.cells [.mp 2] false),(2,.map tG true .bool false)] [.cell 0 0] []
noncomputable def ada:Cx:=(aL [ct55] [ze,ht56])
theorem Ot:ada.Ok prog:=av ⟨SJ,trivial⟩ ⟨⟨mZ,rfl⟩,⟨SN,rfl⟩,trivial⟩
noncomputable def V6:D prog 17 none 2:=dO [] (kd prog f20) 0
noncomputable def FH20 (v1:GG) (m1:List ((GG)×Bool)):bJ (Int×(List ((GG)×Bool))×Unit) :=
 .bd (FH54 m1) fun y0 =>
 .br y0.1 (
 .ret ((9:Int),y0.2.1,())) (
 .bd (F55 (v1.1,v1.2.1,v1.2.2.1,v1.2.2.2.1,v1.2.2.2.2)) fun y1 =>
 .br (!(y1.1==(0:Int))) (
 .ret (y1.1,y0.2.1,())) (
 .bd (FH56 v1.1 v1.2.1 v1.2.2.1 v1.2.2.2.1 v1.2.2.2.2 y0.2.1) fun y2 =>
 .ret (y2.1,y2.2.1,())))
theorem SO:cw prog f20=some ⟨17,2,V6.er,[.t 4],[some tI]⟩:=by kernel_rfl
noncomputable def YQ:Ht:=⟨20,pH20,qH20,(fun x=>ah (FH20 x.1 x.2.1))⟩
theorem IQ:YQ.Ok prog:=bG mixed Ot rfl func20 SO (enters_of func20 rfl rfl) V6 (by kernel_rfl) rfl rfl ⟨_,rfl⟩ rfl (pre:=[0,1]) rfl (fun x=>by kernel_rfl)

/- 29, lent -/
@[reducible] def pH29:ax:=ax.mk [(0,.c (.hole (.list tG)))] [] [] []
@[reducible] def qH29:ax:=ax.mk [(0,.c (.ptr 0 0))] [(0,.cells [.mp 1] false),(1,.map tG true .bool false)] [.slot 0,.cell 0 0] []
noncomputable def V7:Cx:=(aL [] [YF,YQ])
theorem Ea:V7.Ok prog:=av trivial ⟨⟨IL,rfl⟩,⟨IQ,rfl⟩,trivial⟩
@[reducible] def YR:ax:=ax.mk [(0,.c (.hole (.list tG))),(3,.c (.ptr 0 0)),(4,hI)] [(0,.cells [.mp 1] false),(1,.map tG true .bool false)] [.slot 3,.cell 0 0] []
@[reducible] def YS:aT:=[(.exit 0,ax.mk [(3,.c (.ptr 0 0))] [(0,.cells [.mp 1] false),(1,.map tG true .bool false)] [.slot 3,.cell 0 0] [])]
noncomputable def YT:D prog 19 none 0:=dO [] (pick (kd prog f29) [(0,false)]) 0
noncomputable def gH29_0:(List (GG))×Int×(List ((GG)×Bool))×Unit→bJ (((List (GG))×Int×(List ((GG)×Bool))×Unit) ⊕ (((List ((GG)×Bool))×Unit))):=fun (v0,v4,m1,_) =>
 .br (decide (v4<(((v0).length:Nat):Int))) (
 .nb v4 (((v0).length:Nat):Int) <|
 .bd (FH20 (((v0).getD (Int.toNat v4) ((bs []),(0:Int),(bs []),(bs []),(0:Int))).1,((v0).getD (Int.toNat v4) ((bs []),(0:Int),(bs []),(bs []),(0:Int))).2.1,((v0).getD (Int.toNat v4) ((bs []),(0:Int),(bs []),(bs []),(0:Int))).2.2.1,((v0).getD (Int.toNat v4) ((bs []),(0:Int),(bs []),(bs []),(0:Int))).2.2.2.1,((v0).getD (Int.toNat v4) ((bs []),(0:Int),(bs []),(bs []),(0:Int))).2.2.2.2) m1) fun y1 =>
 .ni (v4+(1:Int)) <|
 .ret (.inl (v0,(v4+(1:Int)),y1.2.1,()))) (
 .ret (.inr (m1,())))
noncomputable def YU:bD prog 19 none 0:=aZ mixed V7 Ea [] rfl YR YS rfl (YT) (fun x=>ah (gH29_0 x)) (fun x=>by kernel_rfl)
noncomputable def V8:D prog 19 none 0:=dO [.l YU] (kd prog f29) 0
noncomputable def FH29 (v0:List (GG)):bJ ((List ((GG)×Bool))×Unit) :=
 .bd (FH18) fun y0 =>
 .bd (.it gH29_0 (v0,(0:Int),y0.1,())) fun z2 =>
 .ret (z2.1,())
theorem SQ:cw prog f29=some ⟨19,1,V8.er,[.t 2],[none]⟩:=by kernel_rfl
noncomputable def ht29:Ht:=⟨29,pH29,qH29,(fun x=>ah (FH29 x.1))⟩
theorem SR:ht29.Ok prog:=bG mixed Ea rfl func29 SQ (enters_of func29 rfl rfl) V8 (by kernel_rfl) rfl rfl ⟨_,rfl⟩ rfl (pre:=[]) rfl (fun x=>by kernel_rfl)

/- 84, lent -/
@[reducible] def pH84:ax:=ax.mk [(0,.c (.mp 0))] [(0,.map tG true .bool false)] [.slot 0] []
@[reducible] def qH84:ax:=ax.mk [(0,.fn 111 [] [.ptr 1 0])] [(1,.cells [.mp 0] false),(0,.map tG true .bool false)] [.part 0 0] []
noncomputable def ade:Cx:=(aL [] [])
theorem Ou:ade.Ok prog:=av trivial trivial
noncomputable def V9:D prog 4 none 1:=dO [] (kd prog f84) 0
noncomputable def FH84 (m0:List ((GG)×Bool)):bJ ((List ((GG)×Bool))×Unit) :=
 .ret (m0,())
theorem SS:cw prog f84=some ⟨4,1,V9.er,[.t 2],[none]⟩:=by kernel_rfl
noncomputable def ht84:Ht:=⟨84,pH84,qH84,(fun x=>ah (FH84 x.1))⟩
theorem SU:ht84.Ok prog:=bG mixed Ou rfl func84 SS (enters_of func84 rfl rfl) V9 (by kernel_rfl) rfl rfl ⟨_,rfl⟩ rfl (pre:=[0]) rfl (fun x=>by kernel_rfl)

/- 110, by hand -/
@[reducible] def adg:ax:=ax.mk [(0,.c (.bN 0 tG)),(1,.c (.fn0 85))] [(0,.arr tG false)] [.slot 0] []
@[reducible] def adh:ax:=ax.mk [(0,.c .any)] [(0,.arr tG false)] [] []
noncomputable def FH110 (nc:Nat) (b0:List (GG)):bJ ((List (GG))×Unit) :=
 .of (uR (.prod .str (.prod (.int .i64) (.prod .str (.prod .str (.int .i64))))) b0 nc)
noncomputable def Ov:Ht:=⟨110,adg,adh,(fun x=>ah (FH110 x.1 x.2.1))⟩
theorem vB (a b:ByteArray):(seq a b=true)↔a=b:=by
  unfold seq
  rw [beq_iff_eq,Go.ByteArray.toList_eq,Go.ByteArray.toList_eq]
  obtain ⟨a⟩:=a;obtain ⟨b⟩:=b
  simp
def nB (a b:ByteArray):Int:=if slt a b=true then -1 else if a=b then 0 else 1
def pS (a b:Int):Int:=if a<b then -1 else if b<a then 1 else 0
def pz : List Int → Int
 |[]=>0
 |a::r=>if a=0 then pz r else a
theorem adi (a:ByteArray):ah (F130 a)=some (false,()):=by
  have:seq a a=true:=(vB a a).2 rfl
  simp [F130,aa,this]
theorem adj (a:Int):ah (F131 a)=some (false,()):=by simp [F131,aa]
theorem adk (a b:ByteArray):ah (F113 a b)=some (nB a b,()):=by
  simp only [F113,aA,ak,aa,adi,aF,D7,jA,nB]
  cases h:slt a b
  · by_cases he : a = b
    · subst he;simp [(vB a a).2 rfl]
    · have : seq a b = false := by rw [← Bool.not_eq_true]; exact fun h => he ((vB a b).1 h)
      simp [this,he]
  · simp
theorem adl (a b:Int):ah (F114 a b)=some (pS a b,()):=by
  simp only [F114,aA,ak,aa,adj,aF,D7,aM,pS]
  repeat' split
  all_goals rfl
theorem adm (l:List Int) (hl:l.length≤1000):ah (F112 l)=some (pz l,()):=by
  simp only [F112,aA,bB,aa]
  refine bind_eq (aP l (fun k (_:Unit)=>((0:Int),l,((l.length:Nat):Int),(k:Int),())) (fun _ r=>if pz r=0 then .inr (0,()) else .inl (pz r,())) (fun _ _=>True) ?_ ?_ (s:=()) trivial) ?_
  · rintro pre x post _ hx -
    have hlen:l.length=pre.length+(post.length+1):=by rw [hx];simp
    have hd:l.getD pre.length 0=x:=by rw [hx];exact aU rfl
    have i1:bZ (pre.length:Int) ((l.length:Nat):Int)=true:=aR (by omega) (by omega)
    have r1:de .i64 ((pre.length:Int)+1)=true:=aH (by omega) (by omega)
    simp only [g112_0,ak,aN,aJ,aS,aa,Int.toNat_natCast,hd,i1,r1,af,aM,bA,bh]
    rw [if_pos (by omega)]
    by_cases h:x=0
    · left
      refine ⟨(),?_,trivial,by simp [pz,h]⟩
      rw [if_pos h];rfl
    · right
      rw [if_neg h]
      have:pz (x::post)=x:=by simp [pz,h]
      rw [this,if_neg h]
  · rintro _ _
    simp only [g112_0,ak,aM,aa]
    rw [if_neg (by omega)]
    simp [pz]
  · by_cases h : pz l = 0
    · rw [if_pos h,h];rfl
    · rw [if_neg h];rfl
@[reducible] def Ow:Ty:=.prod .str (.prod tI (.prod .str (.prod .str tI)))
def xK (a b:Ow.den):Int:=pz [nB a.1 b.1,pS a.2.1 b.2.1,nB a.2.2.1 b.2.2.1,nB a.2.2.2.1 b.2.2.2.1,pS a.2.2.2.2 b.2.2.2.2]
theorem vC {a b:ByteArray}:nB a b=0↔a=b:=by
  unfold nB
  split
  · rename_i h
    constructor
    · intro h';omega
    · rintro rfl
      have:eS .str a a=true:=h
      rw [IG (t:=.str) rfl] at this;cases this
  · split<;>simp_all
theorem BT {a b:Int}:pS a b=0↔a=b:=by
  unfold pS
  repeat' split
  all_goals omega
theorem SV {a b:ByteArray}:nB a b<0↔eS .str a b=true:=by
  unfold nB
  split
  · rename_i h;simp only [eS];exact ⟨fun _=>h,fun _=>by omega⟩
  · rename_i h
    constructor
    · intro h';split at h'<;>omega
    · intro h';exact absurd h' h
theorem SX {a b:Int}:pS a b<0↔eS tI a b=true:=by
  have e:eS tI a b=decide (a<b):=rfl
  rw [e,decide_eq_true_eq]
  unfold pS
  repeat' split
  all_goals omega
theorem YV {c:Int} {r:List Int}:pz (c::r)<0↔c<0∨(c=0∧pz r<0):=by
  simp only [pz]
  split<;>omega
theorem SY (a b:Ow.den):decide (xK a b<0)=eS Ow a b:=by
  have hS:∀x y:ByteArray,dJ .str x y=true↔x=y:=fun x y=>⟨fun h=>bL h,fun h=>by subst h;exact ko (t:=.str) x rfl⟩
  have hI:∀x y:Int,dJ tI x y=true↔x=y:=fun x y=>⟨fun h=>bL (t:=tI) h,fun h=>by subst h;exact ko (t:=tI) x rfl⟩
  rw [Bool.eq_iff_iff,decide_eq_true_eq]
  show _↔(eS .str a.1 b.1||(dJ .str a.1 b.1&&(eS tI a.2.1 b.2.1||(dJ tI a.2.1 b.2.1&&(eS .str a.2.2.1 b.2.2.1||(dJ .str a.2.2.1 b.2.2.1&&(eS .str a.2.2.2.1 b.2.2.2.1||(dJ .str a.2.2.2.1 b.2.2.2.1&&eS tI a.2.2.2.2 b.2.2.2.2))))))))=true
  have e:pz []<0↔False:=by simp [pz]
  unfold xK
  simp only [YV,e,and_false,or_false,vC,BT,SV,SX,Bool.or_eq_true,Bool.and_eq_true,hS,hI]
theorem wq85 (a b:Ow.den):ah (F85 a b)=some (xK a b,()):=by
  have hq:∀x y:ByteArray,(x.toList=y.toList)↔x=y:=fun x y=>by rw [←vB];unfold seq;rw [beq_iff_eq]
  simp only [F85,ak,aA,aa,adk,adl,aF,jA]
  split
  · rename_i h
    simp only [Bool.and_eq_true,beq_iff_eq,and_true,hq] at h
    obtain ⟨h1,h2,h3,h4,h5⟩:=h
    have:xK a b=0:=by
      unfold xK
      simp only [pz,vC.2 h1,BT.2 h2,vC.2 h3,vC.2 h4,BT.2 h5,if_true]
    rw [this]
  · exact bind_eq (adm [nB a.1 b.1,pS a.2.1 b.2.1,nB a.2.2.1 b.2.2.1,nB a.2.2.2.1 b.2.2.2.1,pS a.2.2.2.2 b.2.2.2.2] (by simp)) rfl
theorem Ox:Ov.Ok prog:=fun x y h =>
  Sc (ρ := xJ) Yv (enters_of func110 rfl rfl) (g := 85) (t := Ow) (ks := [.s, .i, .s, .s, .i]) rfl (by decide) (fun w => isAgg33 w) (fun w => sizeOf33 w) xK
    (fun a b=>Sn (a,b,()) (xK a b,()) (wq85 a b)) SY (xs:=x.2.1) (n:=x.1) (y:=y) h

/- 83, lent -/
@[reducible] def pH83:ax:=ax.mk [(0,.fn 111 [] [.ptr 0 0]),(1,.c (.fn0 85))] [(0,.cells [.mp 1] false),(1,.map tG true .bool false)] [.part 0 0,.cell 0 0] []
@[reducible] def qH83:ax:=ax.mk [(0,.c (.bN 2 tG))] [(2,.arr tG false),(0,.cells [.mp 1] false),(1,.map tG true .bool false)] [.slot 0] []
noncomputable def vD:Cx:=(aL [] [Ov])
theorem qt:vD.Ok prog:=av (vp:=[]) (hts:=[Ov]) trivial ⟨⟨Ox,rfl⟩,trivial⟩
noncomputable def nC:D prog 13 (some 4) 8:=dO [] (pick (kd prog f128) [(0,false)]) 0
noncomputable def nD:D prog 13 (some 4) 8:=dO [] (pick (kd prog f128) [(0,true)]) 0
noncomputable def iK:Cx:=yY vD (fun kz=>NG kz vD dN 4 8 [7] (nC) (nD))
theorem jB:(iK).Ok prog:=jH qt (fun h=>mV mixed qt h)
@[reducible] def rQ:ax:=ax.mk [(0,.c (.yl 4)),(4,.c (.mp 1))] [(4,.loop .ready none 3 [(2,.c (.ptr 2 0)),(4,.c .bX),(6,.fn 111 [] [.ptr 0 0])] [7] (.aV [.op (some 5) none (.alloc [.str (ByteArray.mk (Array.mk [])),.int .i64 (Int.ofNat 0),.str (ByteArray.mk (Array.mk [])),.str (ByteArray.mk (Array.mk [])),.int .i64 (Int.ofNat 0)]),.op none none (.store 5 (.t 5) (.t 7))]) (.block 1 (.aV [.op (some 8) none (.load false 1 (.t 2)),.op (some 9) none (.load true 5 (.t 5)),.op (some 10) none (.dS tG [.t 9]),.op (some 11) none (.append 5 (.t 8) (.t 10)),.op none none (.store 1 (.t 2) (.t 11))])) 13),(1,.map tG true .bool false),(3,.ig),(2,.cells [.bN 5 tG] false),(0,.cells [.mp 1] false),(5,.arr tG false)] [.cell 2 0] []
noncomputable def rR:D prog 14 none 7:=dO [] (pick (kd prog f111) [(0,false)]) 0
noncomputable def gH83f109f128_0i_0:(((GG))×(Bool))→(List ((GG)×Bool))×Nat×(List (GG))×Unit→bJ ((List ((GG)×Bool))×Nat×(List (GG))×Unit):=fun e (m1,ku,b5,_) =>
 .nd (decide ((ku+((((((e.1.1,e.1.2.1,e.1.2.2.1,e.1.2.2.2.1,e.1.2.2.2.2)::[])).drop (0:Nat)).take (1:Nat))).length)<bI)) <|
 .nd (jy m1 m1) <|
 .ret (m1,(ku+((((((e.1.1,e.1.2.1,e.1.2.2.1,e.1.2.2.2.1,e.1.2.2.2.2)::[])).drop (0:Nat)).take (1:Nat))).length),((((b5).drop (0:Nat)).take ku)++(((((e.1.1,e.1.2.1,e.1.2.2.1,e.1.2.2.2.1,e.1.2.2.2.2)::[])).drop (0:Nat)).take (1:Nat))),())
noncomputable def rS:rz prog 14 none 5:=vu mixed iK jB [0,1,2,3,4] rfl rQ ( [.op (some 4) none (.load false 1 (.t 1))]) 4 5 [6,7] (some 8) ( .prod .str (.prod tI (.prod .str (.prod .str tI))))  true ( .bool)  false 0 rfl 7 rfl (rR) (fun e x=>ah (gH83f109f128_0i_0 e x)) (fun e=>fun x=>by kernel_rfl)
@[reducible] def xL:ax:=ax.mk [(2,.c (.ptr 2 0)),(4,.c .bX),(6,.fn 111 [] [.ptr 0 0])] [(2,.cells [.bX] false),(0,.cells [.mp 1] false),(1,.map tG true .bool false)] [.slot 2] []
@[reducible] def xM:aT:=[(.normal,ax.mk [(2,.c (.ptr 2 0))] [(2,.cells [.bN 3 tG] false),(0,.cells [.mp 1] false),(1,.map tG true .bool false),(3,.arr tG false)] [.slot 2,.cell 2 0] [])]
noncomputable def nE:D prog 14 none 5:=dO [.m rS] (kd prog f111) 0
theorem uS:cw prog f111=some ⟨14,2,(nE).er,[],[]⟩:=by kernel_rfl
noncomputable def ou:gr prog 13 none 2:=rM mixed iK jB [0,1] rfl xL xM ( .t 6) [7] rfl (nC).er (nD).er 111 func111 (uS) (enters_of func111 rfl rfl) 5 rfl (nE) rfl
@[reducible] noncomputable def SZ:Go.AM.Fn:=⟨13,2,(dO [.r ou] (kd prog f128) 0:D prog 13 none 2).er,[.t 4],[some (.list tG)]⟩
noncomputable def IU:Cx:=Al prog vD 128 SZ 2 (dO [.r ou] (kd prog f128) 0)
theorem Gt:IU.Ok prog:=rL mixed qt func128 (by kernel_rfl) (enters_of func128 rfl rfl) rfl
@[reducible] noncomputable def S2:Go.AM.Fn:=⟨5,1,(dO [] (kd prog f109) 0:D prog 5 none 0).er,[.t 2],[some (.list tG)]⟩
noncomputable def IV:Cx:=DW prog IU 109 S2 (fun _=>dO [] (kd prog f109) 0)
theorem Gu:IV.Ok prog:=oW mixed Gt func109 (by kernel_rfl) (enters_of func109 rfl rfl) (fun _=>by kernel_rfl)
noncomputable def adn:Cx:=IV
theorem Oy:adn.Ok prog:=Gu
noncomputable def Wa:D prog 12 none 2:=dO [] (kd prog f83) 0
noncomputable def FH83 (m1:List ((GG)×Bool)):bJ (Nat×(List (GG))×(List ((GG)×Bool))×Unit) :=
 .an m1 fun l0 =>
 .bd (.fm gH83f109f128_0i_0 l0 (m1,(0:Nat),[],())) fun z1 =>
 .bd (FH110 z1.2.1 z1.2.2.1) fun y2 =>
 .ret (z1.2.1,y2.1,z1.1,())
theorem S4:cw prog f83=some ⟨12,2,Wa.er,[.t 4],[some (.list tG)]⟩:=by kernel_rfl
noncomputable def ht83:Ht:=⟨83,pH83,qH83,(fun x=>ah (FH83 x.1))⟩
theorem S5:ht83.Ok prog:=bG mixed Oy rfl func83 S4 (enters_of func83 rfl rfl) Wa (by kernel_rfl) rfl rfl ⟨_,rfl⟩ rfl (pre:=[0,1]) rfl (fun x=>by kernel_rfl)

/- 47, lent -/
@[reducible] def pH47:ax:=ax.mk [(0,.c (.ptr 0 0))] [(0,.cells [.mp 1] false),(1,.map tG true .bool false)] [.slot 0,.cell 0 0] []
@[reducible] def qH47:ax:=ax.mk [(0,.c (.bN 2 tG))] [(2,.arr tG false),(0,.cells [.mp 1] false),(1,.map tG true .bool false)] [.slot 0] []
noncomputable def adp:Cx:=(aL [] [ze,ht84,ht83])
theorem Oz:adp.Ok prog:=av trivial ⟨⟨mZ,rfl⟩,⟨SU,rfl⟩,⟨S5,rfl⟩,trivial⟩
noncomputable def Wb:D prog 11 none 2:=dO [] (kd prog f47) 0
noncomputable def FH47 (m1:List ((GG)×Bool)):bJ (Nat×(List (GG))×(List ((GG)×Bool))×Unit) :=
 .bd (FH54 m1) fun y0 =>
 .br y0.1 (
 .ret ((0:Nat),[],y0.2.1,())) (
 .bd (FH84 y0.2.1) fun y1 =>
 .bd (FH83 y1.1) fun y2 =>
 .ret (y2.1,y2.2.1,y2.2.2.1,()))
theorem S6:cw prog f47=some ⟨11,1,Wb.er,[.t 2],[some (.list tG)]⟩:=by kernel_rfl
noncomputable def YW:Ht:=⟨47,pH47,qH47,(fun x=>ah (FH47 x.1))⟩
theorem IW:YW.Ok prog:=bG mixed Oz rfl func47 S6 (enters_of func47 rfl rfl) Wb (by kernel_rfl) rfl rfl ⟨_,rfl⟩ rfl (pre:=[0,1]) rfl (fun x=>by kernel_rfl)

/- 95, lent -/
@[reducible] def pH95:ax:=ax.mk [(0,.c (.mp 0))] [(0,.map .str false tG true)] [.slot 0] []
@[reducible] def qH95:ax:=ax.mk [(0,.fn 118 [] [.ptr 1 0])] [(1,.cells [.mp 0] false),(0,.map .str false tG true)] [.part 0 0] []
noncomputable def adq:Cx:=(aL [] [])
theorem OA:adq.Ok prog:=av trivial trivial
noncomputable def Wc:D prog 4 none 1:=dO [] (kd prog f95) 0
noncomputable def FH95 (m0:cL):bJ (cL×Unit) :=
 .ret (m0,())
theorem S7:cw prog f95=some ⟨4,1,Wc.er,[.t 2],[none]⟩:=by kernel_rfl
noncomputable def OB:Ht:=⟨95,pH95,qH95,(fun x=>ah (FH95 x.1))⟩
theorem vE:OB.Ok prog:=bG mixed OA rfl func95 S7 (enters_of func95 rfl rfl) Wc (by kernel_rfl) rfl rfl ⟨_,rfl⟩ rfl (pre:=[0]) rfl (fun x=>by kernel_rfl)

/- 105, by hand -/
@[reducible] def adr:ax:=ax.mk [(0,.c (.bN 0 .str))] [(0,.arr .str false)] [.slot 0] []
@[reducible] def ads:ax:=ax.mk [(0,.c .any)] [(0,.arr .str false)] [] []
noncomputable def FH105 (nc:Nat) (b0:List ByteArray):bJ (List ByteArray×Unit) :=
 .of (uR .str b0 nc)
noncomputable def Ap:Ht:=⟨105,adr,ads,(fun x=>ah (FH105 x.1 x.2.1))⟩
theorem xN:Ap.Ok prog:=fun x y h=>NS (ρ:=xH) Yt (enters_of func105 rfl rfl) (xs:=x.2.1) (n:=x.1) (y:=y) h

/- 81, lent -/
@[reducible] def pH81:ax:=ax.mk [(0,.fn 118 [] [.ptr 0 0])] [(0,.cells [.mp 1] false),(1,.map .str false tG true)] [.part 0 0,.cell 0 0] []
@[reducible] def qH81:ax:=ax.mk [(0,.c (.bN 2 .str))] [(2,.arr .str false),(0,.cells [.mp 1] false),(1,.map .str false tG true)] [.slot 0] []
noncomputable def vF:Cx:=(aL [] [Ap])
theorem qu:vF.Ok prog:=av (vp:=[]) (hts:=[Ap]) trivial ⟨⟨xN,rfl⟩,trivial⟩
noncomputable def nF:D prog 13 (some 4) 7:=dO [] (pick (kd prog f126) [(0,false)]) 0
noncomputable def nG:D prog 13 (some 4) 7:=dO [] (pick (kd prog f126) [(0,true)]) 0
noncomputable def iL:Cx:=yY vF (fun kz=>NG kz vF dN 4 7 [7] (nF) (nG))
theorem jC:(iL).Ok prog:=jH qu (fun h=>mV mixed qu h)
@[reducible] def rT:ax:=ax.mk [(0,.c (.yl 4)),(4,.c (.mp 1))] [(4,.loop .ready none 3 [(2,.c (.ptr 2 0)),(4,.c .bX),(6,.fn 118 [] [.ptr 0 0])] [7] (.aV [.op (some 5) none (.mv (.t 7))]) (.block 1 (.aV [.op (some 8) none (.load false 1 (.t 2)),.op (some 9) none (.mv (.t 5)),.op (some 10) none (.dS .str [.t 9]),.op (some 11) none (.append 1 (.t 8) (.t 10)),.op none none (.store 1 (.t 2) (.t 11))])) 13),(1,.map .str false tG true),(3,.ig),(2,.cells [.bN 5 .str] false),(0,.cells [.mp 1] false),(5,.arr .str false)] [.cell 2 0] []
noncomputable def rU:D prog 14 none 7:=dO [] (pick (kd prog f118) [(0,false)]) 0
noncomputable def gH81f107f126_0i_0:((ByteArray)×(GG))→cL×Nat×List ByteArray×Unit→bJ (cL×Nat×List ByteArray×Unit):=fun e (m1,ku,b5,_) =>
 .nd (decide ((ku+(((((e.1::[])).drop (0:Nat)).take (1:Nat))).length)<bI)) <|
 .nd (jy m1 m1) <|
 .ret (m1,(ku+(((((e.1::[])).drop (0:Nat)).take (1:Nat))).length),((((b5).drop (0:Nat)).take ku)++((((e.1::[])).drop (0:Nat)).take (1:Nat))),())
noncomputable def rV:rz prog 14 none 5:=vu mixed iL jC [0,1,2,3,4] rfl rT ( [.op (some 4) none (.load false 1 (.t 1))]) 4 5 [6,7] (some 8) ( .str)  false ( .prod .str (.prod tI (.prod .str (.prod .str tI))))  true 0 rfl 7 rfl (rU) (fun e x=>ah (gH81f107f126_0i_0 e x)) (fun e=>fun x=>by kernel_rfl)
@[reducible] def xP:ax:=ax.mk [(2,.c (.ptr 2 0)),(4,.c .bX),(6,.fn 118 [] [.ptr 0 0])] [(2,.cells [.bX] false),(0,.cells [.mp 1] false),(1,.map .str false tG true)] [.slot 2] []
@[reducible] def xQ:aT:=[(.normal,ax.mk [(2,.c (.ptr 2 0))] [(2,.cells [.bN 3 .str] false),(0,.cells [.mp 1] false),(1,.map .str false tG true),(3,.arr .str false)] [.slot 2,.cell 2 0] [])]
noncomputable def nH:D prog 14 none 5:=dO [.m rV] (kd prog f118) 0
theorem uT:cw prog f118=some ⟨14,2,(nH).er,[],[]⟩:=by kernel_rfl
noncomputable def ov:gr prog 13 none 2:=rM mixed iL jC [0,1] rfl xP xQ ( .t 6) [7] rfl (nF).er (nG).er 118 func118 (uT) (enters_of func118 rfl rfl) 5 rfl (nH) rfl
@[reducible] noncomputable def S8:Go.AM.Fn:=⟨13,2,(dO [.r ov] (kd prog f126) 0:D prog 13 none 2).er,[.t 4],[some (.list .str)]⟩
noncomputable def IX:Cx:=Al prog vF 126 S8 2 (dO [.r ov] (kd prog f126) 0)
theorem Gv:IX.Ok prog:=rL mixed qu func126 (by kernel_rfl) (enters_of func126 rfl rfl) rfl
@[reducible] noncomputable def S9:Go.AM.Fn:=⟨5,1,(dO [] (kd prog f107) 0:D prog 5 none 0).er,[.t 2],[some (.list .str)]⟩
noncomputable def IY:Cx:=DW prog IX 107 S9 (fun _=>dO [] (kd prog f107) 0)
theorem Gw:IY.Ok prog:=oW mixed Gv func107 (by kernel_rfl) (enters_of func107 rfl rfl) (fun _=>by kernel_rfl)
noncomputable def adt:Cx:=IY
theorem OC:adt.Ok prog:=Gw
noncomputable def Wd:D prog 9 none 2:=dO [] (kd prog f81) 0
noncomputable def FH81 (m1:cL):bJ (Nat×List ByteArray×cL×Unit) :=
 .an m1 fun l0 =>
 .bd (.fm gH81f107f126_0i_0 l0 (m1,(0:Nat),[],())) fun z1 =>
 .bd (FH105 z1.2.1 z1.2.2.1) fun y2 =>
 .ret (z1.2.1,y2.1,z1.1,())
theorem Ta:cw prog f81=some ⟨9,1,Wd.er,[.t 2],[some (.list .str)]⟩:=by kernel_rfl
noncomputable def OD:Ht:=⟨81,pH81,qH81,(fun x=>ah (FH81 x.1))⟩
theorem vG:OD.Ok prog:=bG mixed OC rfl func81 Ta (enters_of func81 rfl rfl) Wd (by kernel_rfl) rfl rfl ⟨_,rfl⟩ rfl (pre:=[0,1]) rfl (fun x=>by kernel_rfl)

/- 98, lent -/
@[reducible] def pH98:ax:=ax.mk [(0,.c (.hole (.list .str)))] [] [] []
@[reducible] def qH98:ax:=ax.mk [(0,.c (.bN 0 .str))] [(0,.arr .str false)] [.slot 0] []
noncomputable def adu:Cx:=(aL [] [])
theorem OE:adu.Ok prog:=av trivial trivial
noncomputable def We:D prog 8 none 0:=dO [] (kd prog f98) 0
noncomputable def FH98 (v0:List ByteArray):bJ (Nat×List ByteArray×Unit) :=
 .br ((((v0).length:Nat):Int)==(0:Int)) (
 .am inferInstance (
 .ret ((0:Nat),[],())) (
 .nd (decide (((0:Nat)+(v0).length)<bI)) <|
 .ret (((0:Nat)+(v0).length),(((([]).drop (0:Nat)).take (0:Nat))++v0),()))) (
 .nd (decide (((0:Nat)+(v0).length)<bI)) <|
 .ret (((0:Nat)+(v0).length),(((([]).drop (0:Nat)).take (0:Nat))++v0),()))
theorem Tb:cw prog f98=some ⟨8,1,We.er,[.t 2],[some (.list .str)]⟩:=by kernel_rfl
noncomputable def YX:Ht:=⟨98,pH98,qH98,(fun x=>ah (FH98 x.1))⟩
theorem IZ:YX.Ok prog:=bG mixed OE rfl func98 Tb (enters_of func98 rfl rfl) We (by kernel_rfl) rfl rfl ⟨_,rfl⟩ rfl (pre:=[]) rfl (fun x=>by kernel_rfl)

/- 99, lent -/
@[reducible] def pH99:ax:=ax.mk [(0,.c (.hole .str)),(1,.c (.ptr 0 0))] [(0,.cells [.ptr 1 0] false),(1,.cells [.mp 2,.mp 3,.mp 4,.mp 5] false),(2,.map .str false tG true),(3,.map .str false (.list .str) false),(4,.map .str false .bool false),(5,.map .str false .bool false)] [.slot 1,.cell 0 0,.cell 1 0,.cell 1 1,.cell 1 2,.cell 1 3] []
@[reducible] def qH99:ax:=ax.mk [(0,.c (.hole .bool))] [(0,.cells [.ptr 1 0] false),(1,.cells [.mp 2,.mp 3,.mp 4,.mp 5] false),(2,.map .str false tG true),(3,.map .str false (.list .str) false),(4,.map .str false .bool false),(5,.map .str false .bool false)] [] []
noncomputable def adv:Cx:=(aL [] [])
theorem OG:adv.Ok prog:=av trivial trivial
noncomputable def Wg:D prog 11 none 6:=dO [] (kd prog f99) 0
noncomputable def FH99 (v0:ByteArray) (m2:cL) (m3:cN) (m4:aW) (m5:aW):bJ (Bool×cL×cN×aW×aW×Unit) :=
 .ret ((!(az .str false m4 v0)),m2,m3,m4,m5,())
theorem Tc:cw prog f99=some ⟨11,2,Wg.er,[.t 3],[some .bool]⟩:=by kernel_rfl
noncomputable def YY:Ht:=⟨99,pH99,qH99,(fun x=>ah (FH99 x.1 x.2.1 x.2.2.1 x.2.2.2.1 x.2.2.2.2.1))⟩
theorem I1:YY.Ok prog:=bG mixed OG rfl func99 Tc (enters_of func99 rfl rfl) Wg (by kernel_rfl) rfl rfl ⟨_,rfl⟩ rfl (pre:=[0,1,2,3,4,5]) rfl (fun x=>by kernel_rfl)

/- 119, lent -/
@[reducible] def adw:ax:=ax.mk [(0,.c (.bN 0 .str)),(1,.fn 99 [] [.ptr 1 0])] [(0,.arr .str false),(1,.cells [.ptr 2 0] false),(2,.cells [.mp 3,.mp 4,.mp 5,.mp 6] false),(3,.map .str false tG true),(4,.map .str false (.list .str) false),(5,.map .str false .bool false),(6,.map .str false .bool false)] [.slot 0,.part 1 0,.cell 1 0,.cell 2 0,.cell 2 1,.cell 2 2,.cell 2 3] []
@[reducible] def adx:ax:=ax.mk [(0,hI)] [(1,.cells [.ptr 2 0] false),(2,.cells [.mp 3,.mp 4,.mp 5,.mp 6] false),(3,.map .str false tG true),(4,.map .str false (.list .str) false),(5,.map .str false .bool false),(6,.map .str false .bool false),(0,.arr .str false)] [] []
noncomputable def OH:Cx:=(aL [] [YY])
theorem Aq:OH.Ok prog:=av trivial ⟨⟨I1,rfl⟩,trivial⟩
@[reducible] def Td:ax:=ax.mk [(0,.c (.bN 0 .str)),(1,.fn 99 [] [.ptr 1 0]),(7,hI),(8,hI)] [(0,.arr .str false),(1,.cells [.ptr 2 0] false),(2,.cells [.mp 3,.mp 4,.mp 5,.mp 6] false),(3,.map .str false tG true),(4,.map .str false (.list .str) false),(5,.map .str false .bool false),(6,.map .str false .bool false)] [] []
@[reducible] def Te:aT:=[(.ret,ax.mk [(4,hI)] [(1,.cells [.ptr 2 0] false),(2,.cells [.mp 3,.mp 4,.mp 5,.mp 6] false),(3,.map .str false tG true),(4,.map .str false (.list .str) false),(5,.map .str false .bool false),(6,.map .str false .bool false),(0,.arr .str false)] [] []),(.exit 0,ax.mk [] [(1,.cells [.ptr 2 0] false),(2,.cells [.mp 3,.mp 4,.mp 5,.mp 6] false),(3,.map .str false tG true),(4,.map .str false (.list .str) false),(5,.map .str false .bool false),(6,.map .str false .bool false),(0,.arr .str false)] [] [])]
noncomputable def Tf:D prog 19 none 7:=dO [] (pick (kd prog f119) [(0,false)]) 0
noncomputable def gH119_0:Nat×Int×Int×List ByteArray×cL×cN×aW×aW×Unit→bJ ((Nat×Int×Int×List ByteArray×cL×cN×aW×aW×Unit) ⊕ ((Int×cL×cN×aW×aW×List ByteArray×Unit) ⊕ ((cL×cN×aW×aW×List ByteArray×Unit)))):=fun (nc,v7,v8,b0,m3,m4,m5,m6,_) =>
 .br (decide (v8<v7)) (
 .nb v8 ((nc:Nat):Int) <|
 .nd (decide (((0:Nat)+(Int.toNat v8))<(b0).length)) <|
 .bd (FH99 ((b0).getD ((0:Nat)+(Int.toNat v8)) (bs [])) m3 m4 m5 m6) fun y0 =>
 .br y0.1 (
 .ret (.inr <| .inl<|(v8,y0.2.1,y0.2.2.1,y0.2.2.2.1,y0.2.2.2.2.1,b0,()))) (
 .ni (v8+(1:Int)) <|
 .ret (.inl (nc,v7,(v8+(1:Int)),b0,y0.2.1,y0.2.2.1,y0.2.2.2.1,y0.2.2.2.2.1,())))) (
 .ret (.inr <| .inr<|(m3,m4,m5,m6,b0,())))
noncomputable def Tg:bD prog 19 none 7:=aZ mixed OH Aq [0,1,2,3,4,5,6] rfl Td Te rfl (Tf) (fun x=>ah (gH119_0 x)) (fun x=>by kernel_rfl)
noncomputable def OI:D prog 19 none 7:=dO [.l Tg] (kd prog f119) 0
noncomputable def FH119 (nc:Nat) (b0:List ByteArray) (m3:cL) (m4:cN) (m5:aW) (m6:aW):bJ (Int×cL×cN×aW×aW×List ByteArray×Unit) :=
 .bd (.it gH119_0 (nc,((nc:Nat):Int),(0:Int),b0,m3,m4,m5,m6,())) fun z1 =>
 .sm z1 (fun z2 =>
 .ret (z2.1,z2.2.1,z2.2.2.1,z2.2.2.2.1,z2.2.2.2.2.1,z2.2.2.2.2.2.1,())) fun z3 =>
 .ret ((-1:Int),z3.1,z3.2.1,z3.2.2.1,z3.2.2.2.1,z3.2.2.2.2.1,())
theorem OJ:cw prog f119=some ⟨19,2,OI.er,[.t 4],[some tI]⟩:=by kernel_rfl
noncomputable def Wh:Ht:=⟨119,adw,adx,(fun x=>ah (FH119 x.1 x.2.1 x.2.2.1 x.2.2.2.1 x.2.2.2.2.1 x.2.2.2.2.2.1))⟩
theorem OK:Wh.Ok prog:=bG mixed Aq rfl func119 OJ (enters_of func119 rfl rfl) OI (by kernel_rfl) rfl rfl ⟨_,rfl⟩ rfl (pre:=[0,1,2,3,4,5,6]) rfl (fun x=>by kernel_rfl)

/- 97, lent -/
@[reducible] def pH97:ax:=ax.mk [(0,.c (.bN 0 .str)),(1,.fn 99 [] [.ptr 1 0])] [(0,.arr .str false),(1,.cells [.ptr 2 0] false),(2,.cells [.mp 3,.mp 4,.mp 5,.mp 6] false),(3,.map .str false tG true),(4,.map .str false (.list .str) false),(5,.map .str false .bool false),(6,.map .str false .bool false)] [.slot 0,.part 1 0,.cell 1 0,.cell 2 0,.cell 2 1,.cell 2 2,.cell 2 3] []
@[reducible] def qH97:ax:=ax.mk [(0,.c (.QK 0 .str))] [(0,.arr .str false),(1,.cells [.ptr 2 0] false),(2,.cells [.mp 3,.mp 4,.mp 5,.mp 6] false),(3,.map .str false tG true),(4,.map .str false (.list .str) false),(5,.map .str false .bool false),(6,.map .str false .bool false)] [] []
noncomputable def Wi:Cx:=(aL [] [Wh,YY])
theorem Eb:Wi.Ok prog:=av trivial ⟨⟨OK,rfl⟩,⟨I1,rfl⟩,trivial⟩
@[reducible] def YZ:ax:=ax.mk [(0,.c (.bN 0 .str)),(1,.fn 99 [] [.ptr 1 0]),(5,hI),(6,hI)] [(0,.arr .str false),(1,.cells [.ptr 2 0] false),(2,.cells [.mp 3,.mp 4,.mp 5,.mp 6] false),(3,.map .str false tG true),(4,.map .str false (.list .str) false),(5,.map .str false .bool false),(6,.map .str false .bool false)] [] []
@[reducible] def Y4:aT:=[(.exit 0,ax.mk [(0,.c (.bN 0 .str)),(5,hI)] [(0,.arr .str false),(1,.cells [.ptr 2 0] false),(2,.cells [.mp 3,.mp 4,.mp 5,.mp 6] false),(3,.map .str false tG true),(4,.map .str false (.list .str) false),(5,.map .str false .bool false),(6,.map .str false .bool false)] [] [])]
noncomputable def Y5:D prog 42 none 7:=dO [] (pick (kd prog f97) [(0,false)]) 0
noncomputable def gH97_0:Nat×Int×Int×List ByteArray×cL×cN×aW×aW×Unit→bJ ((Nat×Int×Int×List ByteArray×cL×cN×aW×aW×Unit) ⊕ ((Nat×Int×List ByteArray×cL×cN×aW×aW×Unit))):=fun (nc,v5,v6,b0,m3,m4,m5,m6,_) =>
 .br (decide (v6<((nc:Nat):Int))) (
 .nb v6 ((nc:Nat):Int) <|
 .nd (decide (((0:Nat)+(Int.toNat v6))<(b0).length)) <|
 .bd (FH99 ((b0).getD ((0:Nat)+(Int.toNat v6)) (bs [])) m3 m4 m5 m6) fun y1 =>
 .br (!y1.1) (
 .nb v5 ((nc:Nat):Int) <|
 .nd (decide (((0:Nat)+(Int.toNat v5))<(b0).length)) <|
 .ni (v5+(1:Int)) <|
 .ni (v6+(1:Int)) <|
 .ret (.inl (nc,(v5+(1:Int)),(v6+(1:Int)),((b0).set ((0:Nat)+(Int.toNat v5)) ((b0).getD ((0:Nat)+(Int.toNat v6)) (bs []))),y1.2.1,y1.2.2.1,y1.2.2.2.1,y1.2.2.2.2.1,()))) (
 .ni (v6+(1:Int)) <|
 .ret (.inl (nc,v5,(v6+(1:Int)),b0,y1.2.1,y1.2.2.1,y1.2.2.2.1,y1.2.2.2.2.1,())))) (
 .ret (.inr (nc,v5,b0,m3,m4,m5,m6,())))
noncomputable def Y6:bD prog 42 none 7:=aZ mixed Wi Eb [0,1,2,3,4,5,6] rfl YZ Y4 rfl (Y5) (fun x=>ah (gH97_0 x)) (fun x=>by kernel_rfl)
noncomputable def Wj:D prog 42 none 7:=dO [.l Y6] (kd prog f97) 0
noncomputable def FH97 (nc:Nat) (b0:List ByteArray) (m3:cL) (m4:cN) (m5:aW) (m6:aW):bJ (Nat×Nat×List ByteArray×cL×cN×aW×aW×Unit) :=
 .bd (FH119 nc b0 m3 m4 m5 m6) fun y0 =>
 .br (y0.1==(-1:Int)) (
 .ret ((0:Nat),nc,y0.2.2.2.2.2.1,y0.2.1,y0.2.2.1,y0.2.2.2.1,y0.2.2.2.2.1,())) (
 .ni (y0.1+(1:Int)) <|
 .bd (.it gH97_0 (nc,y0.1,(y0.1+(1:Int)),y0.2.2.2.2.2.1,y0.2.1,y0.2.2.1,y0.2.2.2.1,y0.2.2.2.2.1,())) fun z2 =>
 .nd (decide ((0:Int)≤z2.2.1)) <|
 .nd (decide (z2.2.1≤((z2.1:Nat):Int))) <|
 .nd (decide (((z2.1:Nat):Int)≤((z2.1:Nat):Int))) <|
 .nd (decide ((0:Int)≤(0:Int))) <|
 .nd (decide ((0:Int)≤z2.2.1)) <|
 .nd (decide (z2.2.1≤((z2.1:Nat):Int))) <|
 .ret (((0:Nat)+(Int.toNat (0:Int))),((Int.toNat z2.2.1) - (Int.toNat (0:Int))),(AO (bs []) z2.2.2.1 ((0:Nat)+(Int.toNat z2.2.1)) ((Int.toNat ((z2.1:Nat):Int)) - (Int.toNat z2.2.1))),z2.2.2.2.1,z2.2.2.2.2.1,z2.2.2.2.2.2.1,z2.2.2.2.2.2.2.1,()))
theorem Th:cw prog f97=some ⟨42,2,Wj.er,[.t 4],[some (.list .str)]⟩:=by kernel_rfl
noncomputable def ht97:Ht:=⟨97,pH97,qH97,(fun x=>ah (FH97 x.1 x.2.1 x.2.2.1 x.2.2.2.1 x.2.2.2.2.1 x.2.2.2.2.2.1))⟩
theorem Ti:ht97.Ok prog:=bG mixed Eb rfl func97 Th (enters_of func97 rfl rfl) Wj (by kernel_rfl) rfl rfl ⟨_,rfl⟩ rfl (pre:=[0,1,2,3,4,5,6]) rfl (fun x=>by kernel_rfl)

/- 96, lent -/
@[reducible] def kA:ax:=ax.mk [(0,.c (.hole .str)),(1,.c (.ptr 0 0)),(2,.c (.ptr 1 0))] [(0,.cells [.ptr 2 0] false),(1,.cells [.fn 96 .nil (.cons (.ptr 0 0) (.cons (.ptr 1 0) .nil))] false),(2,.cells [.mp 3,.mp 4,.mp 5,.mp 6] false),(3,.map .str false tG true),(4,.map .str false (.list .str) false),(5,.map .str false .bool false),(6,.map .str false .bool false)] [.slot 1,.slot 2,.cell 0 0,.cell 2 0,.cell 2 1,.cell 2 2,.cell 2 3] []
@[reducible] def kB:ax:=ax.mk [(0,.c .any)] [(0,.cells [.ptr 2 0] false),(2,.cells [.mp 3,.mp 4,.mp 5,.mp 6] false),(3,.map .str false tG true),(4,.map .str false (.list .str) false),(5,.map .str false .bool false),(6,.map .str false .bool false),(1,.cells [.fn 96 .nil (.cons (.ptr 0 0) (.cons (.ptr 1 0) .nil))] false)] [] []
noncomputable def OL (rec:kA.T→Option kB.T):Cx:=(aL [] [⟨96,kA,kB,rec⟩])
theorem Ec (rec:kA.T→Option kB.T) (h:Ht.Ok prog ⟨96,kA,kB,rec⟩):(OL rec).Ok prog:=av trivial ⟨⟨h,rfl⟩,trivial⟩
@[reducible] def Gx:ax:=ax.mk [(2,.c (.ptr 1 0)),(22,.c (.hole (.list .str))),(23,hI),(24,hI)] [(1,.cells [.fn 96 .nil (.cons (.ptr 0 0) (.cons (.ptr 1 0) .nil))] false),(0,.cells [.ptr 2 0] false),(2,.cells [.mp 3,.mp 4,.mp 5,.mp 6] false),(3,.map .str false tG true),(4,.map .str false (.list .str) false),(5,.map .str false .bool false),(6,.map .str false .bool false)] [] []
@[reducible] def Gy:aT:=[(.exit 0,ax.mk [] [(0,.cells [.ptr 2 0] false),(2,.cells [.mp 3,.mp 4,.mp 5,.mp 6] false),(3,.map .str false tG true),(4,.map .str false (.list .str) false),(5,.map .str false .bool false),(6,.map .str false .bool false),(1,.cells [.fn 96 .nil (.cons (.ptr 0 0) (.cons (.ptr 1 0) .nil))] false)] [] [])]
noncomputable def OM (rec:kA.T→Option kB.T) (h:Ht.Ok prog ⟨96,kA,kB,rec⟩):D prog 32 none 7:=dO [] (pick (kd prog f96) [(0,false)]) 0
noncomputable def gH96_0:List ByteArray×Int×Int×cL×cN×aW×aW×Unit→Tr kA.T kB.T ((List ByteArray×Int×Int×cL×cN×aW×aW×Unit) ⊕ ((cL×cN×aW×aW×Unit))):=fun (v22,v23,v24,m3,m4,m5,m6,_) =>
 .br (decide (v24<v23)) (
 .nb v24 (((v22).length:Nat):Int) <|
 .bd (.rc (((v22).getD (Int.toNat v24) (bs [])),m3,m4,m5,m6,())) fun y0 =>
 .ni (v24+(1:Int)) <|
 .ret (.inl (v22,v23,(v24+(1:Int)),y0.1,y0.2.1,y0.2.2.1,y0.2.2.2.1,()))) (
 .ret (.inr (m3,m4,m5,m6,())))
theorem Y7 (rec:kA.T→Option kB.T) (h:Ht.Ok prog ⟨96,kA,kB,rec⟩):∀x,oe (iu (Gx.T ⊕ Gy.T)) (OL rec) dN [0,1,2,3,4,5,6] Gx Gy (OM rec h) (fun y=>some (.inl y)) (fun b=>some (.inr b)) x=run rec (gH96_0 x):=fun x=>by kernel_rfl
noncomputable def Y8 (rec:kA.T→Option kB.T) (h:Ht.Ok prog ⟨96,kA,kB,rec⟩):bD prog 32 none 7:=aZ mixed (OL rec) (Ec rec h) [0,1,2,3,4,5,6] rfl Gx Gy rfl (OM rec h) (fun x=>run rec (gH96_0 x)) (Y7 rec h)
noncomputable def Wk (rec:kA.T→Option kB.T) (h:Ht.Ok prog ⟨96,kA,kB,rec⟩):D prog 32 none 7:=dO [.l (Y8 rec h)] (kd prog f96) 0
noncomputable def FH96 (v0:ByteArray) (m3:cL) (m4:cN) (m5:aW) (m6:aW):Tr kA.T kB.T (cL×cN×aW×aW×Unit) :=
 .br (az .str false m6 v0) (
 .ret (m3,m4,m5,m6,())) (
 .bd (.it gH96_0 ((az .str [] m4 v0),((((az .str [] m4 v0)).length:Nat):Int),(0:Int),m3,m4,m5,(bg .str m6 v0 true),())) fun z1 =>
 .ret (z1.1,z1.2.1,z1.2.2.1,z1.2.2.2.1,()))
theorem Tj (rec:kA.T→Option kB.T) (h:Ht.Ok prog ⟨96,kA,kB,rec⟩):cw prog f96=some ⟨32,3,(Wk rec h).er,[],[]⟩:=by kernel_rfl
theorem KK (rec:kA.T→Option kB.T) (h:Ht.Ok prog ⟨96,kA,kB,rec⟩):Ht.Ok prog ⟨96,kA,kB,(fun x=>run rec (FH96 x.1 x.2.1 x.2.2.1 x.2.2.2.1 x.2.2.2.2.1))⟩:=bG mixed (Ec rec h) rfl func96 (Tj rec h) (enters_of func96 rfl rfl) (Wk rec h) (by kernel_rfl) rfl rfl ⟨_,rfl⟩ rfl (pre:=[0,1,2,3,4,5,6]) rfl (fun x=>by kernel_rfl)
noncomputable def FH96fix (v0:ByteArray) (m3:cL) (m4:cN) (m5:aW) (m6:aW):bJ (cL×cN×aW×aW×Unit):=.fx (A1:=kA.T) (B1:=kB.T) (fun x=>FH96 x.1 x.2.1 x.2.2.1 x.2.2.2.1 x.2.2.2.2.1) (v0,m3,m4,m5,m6,())
noncomputable def ht96:Ht:=⟨96,kA,kB,fun x=>ah (FH96fix x.1 x.2.1 x.2.2.1 x.2.2.2.1 x.2.2.2.2.1)⟩
theorem Tl:ht96.Ok prog:=BJ (F:=fun rec x=>run rec (FH96 x.1 x.2.1 x.2.2.1 x.2.2.2.1 x.2.2.2.2.1)) (fun rec h=>KK rec h)

/- 66, lent -/
@[reducible] def pH66:ax:=ax.mk [(0,.c (.ptr 0 0))] [(0,.cells [.mp 1] false),(1,.map tG true .bool false)] [.slot 0,.cell 0 0] []
@[reducible] def qH66:ax:=ax.mk [(0,.c (.ptr 2 0))] [(2,.cells [.mp 3,.mp 4,.mp 5,.mp 6] false),(0,.cells [.mp 1] false),(1,.map tG true .bool false),(3,.map .str false tG true),(4,.map .str false (.list .str) false),(5,.map .str false .bool false),(6,.map .str false .bool false)] [.slot 0,.cell 2 0,.cell 2 1,.cell 2 2,.cell 2 3] []
noncomputable def I2:Cx:=(aL [] [YW,OB,OD,YX,ht97,ht96])
theorem rW:I2.Ok prog:=av trivial ⟨⟨IW,rfl⟩,⟨vE,rfl⟩,⟨vG,rfl⟩,⟨IZ,rfl⟩,⟨Ti,rfl⟩,⟨Tl,rfl⟩,trivial⟩
@[reducible] def Y9:ax:=ax.mk [(3,.c (.ptr 2 0)),(26,.c (.bN 3 tG)),(27,hI),(28,hI)] [(2,.cells [.ptr 4 0] false),(3,.arr tG false),(0,.cells [.mp 1] false),(1,.map tG true .bool false),(4,.cells [.mp 5,.mp 6,.mp 7,.mp 8] false),(5,.map .str false tG true),(6,.map .str false (.list .str) false),(7,.map .str false .bool false),(8,.map .str false .bool false)] [.slot 3,.slot 26,.cell 2 0,.cell 4 0,.cell 4 1,.cell 4 2,.cell 4 3] []
@[reducible] def Za:aT:=[(.exit 0,ax.mk [(3,.c (.ptr 2 0))] [(2,.cells [.ptr 3 0] false),(0,.cells [.mp 1] false),(1,.map tG true .bool false),(3,.cells [.mp 4,.mp 5,.mp 6,.mp 7] false),(4,.map .str false tG true),(5,.map .str false (.list .str) false),(6,.map .str false .bool false),(7,.map .str false .bool false)] [.slot 3,.cell 2 0,.cell 3 0,.cell 3 1,.cell 3 2,.cell 3 3] [])]
noncomputable def Zb:D prog 148 none 2:=dO [] (pick (kd prog f66) [(0,false)]) 0
noncomputable def gH66_0:Nat×Int×Int×(List (GG))×(List ((GG)×Bool))×cL×cN×aW×aW×Unit→bJ ((Nat×Int×Int×(List (GG))×(List ((GG)×Bool))×cL×cN×aW×aW×Unit) ⊕ (((List ((GG)×Bool))×cL×cN×aW×aW×Unit))):=fun (Zc,v27,v28,b3,m1,m5,m6,m7,m8,_) =>
 .br (decide (v28<v27)) (
 .nb v28 ((Zc:Nat):Int) <|
 .nd (decide (((0:Nat)+(Int.toNat v28))<(b3).length)) <|
 .br (!(aO .str m5 ((b3).getD ((0:Nat)+(Int.toNat v28)) ((bs []),(0:Int),(bs []),(bs []),(0:Int))).1)) (
 .ni (v28+(1:Int)) <|
 .ret (.inl (Zc,v27,(v28+(1:Int)),b3,m1,(bg .str m5 ((b3).getD ((0:Nat)+(Int.toNat v28)) ((bs []),(0:Int),(bs []),(bs []),(0:Int))).1 (((b3).getD ((0:Nat)+(Int.toNat v28)) ((bs []),(0:Int),(bs []),(bs []),(0:Int))).1,((b3).getD ((0:Nat)+(Int.toNat v28)) ((bs []),(0:Int),(bs []),(bs []),(0:Int))).2.1,((b3).getD ((0:Nat)+(Int.toNat v28)) ((bs []),(0:Int),(bs []),(bs []),(0:Int))).2.2.1,((b3).getD ((0:Nat)+(Int.toNat v28)) ((bs []),(0:Int),(bs []),(bs []),(0:Int))).2.2.2.1,((b3).getD ((0:Nat)+(Int.toNat v28)) ((bs []),(0:Int),(bs []),(bs []),(0:Int))).2.2.2.2)),m6,m7,m8,()))) (
 .ni (v28+(1:Int)) <|
 .ret (.inl (Zc,v27,(v28+(1:Int)),b3,m1,m5,m6,m7,m8,())))) (
 .ret (.inr (m1,m5,m6,m7,m8,())))
noncomputable def Zd:bD prog 148 none 2:=aZ mixed I2 rW [0,1] rfl Y9 Za rfl (Zb) (fun x=>ah (gH66_0 x)) (fun x=>by kernel_rfl)
@[reducible] def qv:ax:=ax.mk [(3,.c (.ptr 2 0)),(57,.c (.bN 3 .str)),(58,hI),(59,hI)] [(2,.cells [.ptr 4 0] false),(3,.arr .str false),(0,.cells [.mp 1] false),(1,.map tG true .bool false),(4,.cells [.mp 5,.mp 6,.mp 7,.mp 8] false),(5,.map .str false tG true),(6,.map .str false (.list .str) false),(7,.map .str false .bool false),(8,.map .str false .bool false)] [.slot 3,.slot 57,.cell 2 0,.cell 4 0,.cell 4 1,.cell 4 2,.cell 4 3] []
@[reducible] def tE:aT:=[(.exit 2,ax.mk [(3,.c (.ptr 2 0))] [(2,.cells [.ptr 3 0] false),(0,.cells [.mp 1] false),(1,.map tG true .bool false),(3,.cells [.mp 4,.mp 5,.mp 6,.mp 7] false),(4,.map .str false tG true),(5,.map .str false (.list .str) false),(6,.map .str false .bool false),(7,.map .str false .bool false)] [.slot 3,.cell 2 0,.cell 3 0,.cell 3 1,.cell 3 2,.cell 3 3] [])]
noncomputable def Ze:D prog 148 none 2:=dO [] (pick (kd prog f66) [(1,false)]) 0
noncomputable def gH66_1:Nat×Int×Int×List ByteArray×(List ((GG)×Bool))×cL×cN×aW×aW×Unit→bJ ((Nat×Int×Int×List ByteArray×(List ((GG)×Bool))×cL×cN×aW×aW×Unit) ⊕ (((List ((GG)×Bool))×cL×cN×aW×aW×Unit))):=fun (dM,v58,v59,b3,m1,m5,m6,m7,m8,_) =>
 .br (decide (v59<v58)) (
 .nb v59 ((dM:Nat):Int) <|
 .nd (decide (((0:Nat)+(Int.toNat v59))<(b3).length)) <|
 .br ((az .str ((bs []),(0:Int),(bs []),(bs []),(0:Int)) m5 ((b3).getD ((0:Nat)+(Int.toNat v59)) (bs []))).2.1==(3:Int)) (
 .ni (v59+(1:Int)) <|
 .ret (.inl (dM,v58,(v59+(1:Int)),b3,m1,m5,m6,(bg .str m7 (az .str ((bs []),(0:Int),(bs []),(bs []),(0:Int)) m5 ((b3).getD ((0:Nat)+(Int.toNat v59)) (bs []))).2.2.1 true),m8,()))) (
 .br ((az .str ((bs []),(0:Int),(bs []),(bs []),(0:Int)) m5 ((b3).getD ((0:Nat)+(Int.toNat v59)) (bs []))).2.1==(2:Int)) (
 .nd (decide (((az .str [] m6 (az .str ((bs []),(0:Int),(bs []),(bs []),(0:Int)) m5 ((b3).getD ((0:Nat)+(Int.toNat v59)) (bs []))).2.2.1)).length+1<bI)) <|
 .ni (v59+(1:Int)) <|
 .ret (.inl (dM,v58,(v59+(1:Int)),b3,m1,m5,(bg .str m6 (az .str ((bs []),(0:Int),(bs []),(bs []),(0:Int)) m5 ((b3).getD ((0:Nat)+(Int.toNat v59)) (bs []))).2.2.1 ((az .str [] m6 (az .str ((bs []),(0:Int),(bs []),(bs []),(0:Int)) m5 ((b3).getD ((0:Nat)+(Int.toNat v59)) (bs []))).2.2.1)++(((b3).getD ((0:Nat)+(Int.toNat v59)) (bs []))::[]))),m7,m8,()))) (
 .ni (v59+(1:Int)) <|
 .ret (.inl (dM,v58,(v59+(1:Int)),b3,m1,m5,m6,m7,m8,()))))) (
 .ret (.inr (m1,m5,m6,m7,m8,())))
/-! The loop in which lists grow that lie in a map, by hand. -/
@[reducible] def tF:Ty:=.prod .str (.prod tI (.prod .str (.prod .str tI)))
def gw (b3:List ByteArray) (m1:List (tF.den×Bool)) (m5:List (ByteArray×tF.den)) (m7 m8:aW):aq :=
 [(2,.cells [.ptr 4 0] false),(3,.arr .str b3 false),(0,.cells [.mp 1] false),(1,.map tF true .bool false m1),(4,.cells [.mp 5,.mp 6,.mp 7,.mp 8] false),(5,.map .str false tF true m5),(7,.map .str false .bool false m7),(8,.map .str false .bool false m8)]
def xR (dM:Nat) (v58 v59:Int):Env:=[(3,.ptr 2 0),(57,.sl 3 .str 0 dM),(58,.int .i64 v58),(59,.int .i64 v59)]
def I66 (x:qv.T):St:=⟨xR x.1 x.2.1 x.2.2.1,⟨9,gw x.2.2.2.1 x.2.2.2.2.1 x.2.2.2.2.2.1 x.2.2.2.2.2.2.2.1 x.2.2.2.2.2.2.2.2.1⟩,[]⟩
def Gz:C:=.aV [.op (some 97) none (.bin .add (.t 59) (.c (.int .i64 (Int.ofNat 1)))),.op (some 59) none (.mv (.t 97))]
def Zf : C := .draw [[], [0], [0, 1], [0, 1, 2], [], [4], [0, 1, 2, 3, 4, 5]]
 [.op (some 73) none (.load false 1 (.t 3)),.op (some 74) none (.ex .iQ [.t 73]),.op (some 75) none (.mD 2 [true,true,false] (.t 74)),.op (some 76) none (.load false 1 (.t 75)),.op (some 77) none (.mD 2 [true,true,false] (.t 10)),.op (some 78) none (.load false 1 (.t 77)),
 .op none none (.ex (.iw .str false .bool false) [.t 76,.t 78,.c (.tf true)])]
def in66 : C := .block 4 (.seq (.aV [.op (some 72) none (.bin .eql (.t 70) (.c (.int .i64 (Int.ofNat 3)))), .op (some 71) none (.mv (.t 72))])
 (.cond (.t 71) Zf (.seq (.aV [.op (some 80) none (.bin .eql (.t 70) (.c (.int .i64 (Int.ofNat 2)))),.op (some 79) none (.mv (.t 80))]) (.cond (.t 79) (.draw mY D3) .skip))))
def Wl : C := .seq (.block 3 (.seq (.aV [.op (some 61) none (.idx 1 (.t 57) (.t 59)), .op (some 62) none (.load false 1 (.t 61)), .op (some 9) none (.mv (.t 62))])
 (.seq (.aV [.op (some 63) none (.load false 1 (.t 3)),.op (some 64) none (.ex .iQ [.t 63]),.op (some 65) none (.mD 0 [false] (.t 64)),.op (some 66) none (.load false 1 (.t 65)),.op (some 67) none (.mv (.t 9)),
 .op (some 68) none (.ex (.gh .str false tF true false) [.t 66,.t 67]),.op (some 10) none (.alloc [.str ⟨⟨[]⟩⟩,.int .i64 (Int.ofNat 0),.str ⟨⟨[]⟩⟩,.str ⟨⟨[]⟩⟩,.int .i64 (Int.ofNat 0)]),.op none none (.store 5 (.t 10) (.t 68))])
 (.seq (.aV [.op (some 69) none (.mD 1 [true,false] (.t 10)),.op (some 70) none (.load false 1 (.t 69))]) in66)))) Gz
def c66:C:=.seq (.aV [.op (some 60) none (.bin .lss (.t 59) (.t 58))]) (.seq (.cond (.t 60) .skip (.exit 2)) Wl)
theorem adB {dM : Nat} {v58 v59 : Int} {b3 : List ByteArray} {m1 : List (tF.den × Bool)} {m5 : List (ByteArray × tF.den)} {m7 m8 : aW} {env : Env} {nx : Nat} {bl : aq}
    (h3:get 3 env = .ptr 2 0) (h57:get 57 env = .sl 3 .str 0 dM) (h58:get 58 env = .int .i64 v58) (h59:get 59 env = .int .i64 v59) (hb:∀p∈gw b3 m1 m5 m7 m8,ay p.1 bl=some p.2) :
    jh 2 (List.range 9) ⟨env,⟨nx,bl⟩,[]⟩ ⟨xR dM v58 v59,⟨9,gw b3 m1 m5 m7 m8⟩,[]⟩:=by
  refine KH (by omega) rfl rfl rfl (fun p hp=>?_) (fun p hp=>?_)
  · simp only [xR, List.mem_cons, List.not_mem_nil, or_false] at hp
    rcases hp with rfl|rfl|rfl|rfl
    · rw [h3];exact .ptr 2 2 0 rfl
    · rw [h57];exact .sl 3 3 .str 0 dM rfl
    · rw [h58];exact .int _ _
    · rw [h59];exact .int _ _
  · have hg := hb p hp
    simp only [gw,List.mem_cons,List.not_mem_nil,or_false] at hp
    rcases hp with rfl|rfl|rfl|rfl|rfl|rfl|rfl|rfl
    · exact ⟨by omega,2,rfl,_,hg,.cons (.ptr 4 4 0 rfl) .nil⟩
    · exact ⟨by omega,3,rfl,.inl hg⟩
    · exact ⟨by omega,0,rfl,_,hg,.cons (.mp 1 1 rfl) .nil⟩
    · exact ⟨by omega,1,rfl,hg⟩
    · exact ⟨by omega,4,rfl,_,hg,.cons (.mp 5 5 rfl) (.cons (.mp 6 6 rfl) (.cons (.mp 7 7 rfl) (.cons (.mp 8 8 rfl) .nil)))⟩
    · exact ⟨by omega,5,rfl,hg⟩
    · exact ⟨by omega,7,rfl,hg⟩
    · exact ⟨by omega,8,rfl,hg⟩
def P66:qv.T ⊕ tE.T→Ex→St→cN→Prop:=GRnd 6 2 I66 (fun x=>x.2.2.2.2.2.2.1) (tE.st 2) (fun b=>b.2.2.1)
theorem ON {dM : Nat} {v58 v59 : Int} {b3 : List ByteArray} {m1 : List (tF.den × Bool)} {m5 : List (ByteArray × tF.den)} {m6 : cN} {m7 m8 : aW} {env : Env} {nx : Nat} {bl : aq} (u : Unit) (hi : de .i64 (v59 + 1) = true)
    (h3:get 3 env = .ptr 2 0) (h57:get 57 env = .sl 3 .str 0 dM) (h58:get 58 env = .int .i64 v58) (h59:get 59 env = .int .i64 v59) (hb:∀p∈gw b3 m1 m5 m7 m8,ay p.1 bl=some p.2) :
    gC prog 148 none 6 Gz ⟨env,⟨nx,bl⟩,[]⟩ m6 (P66 (.inl (dM,v58,v59+1,b3,m1,m5,m6,m7,m8,u))):=by
  refine D5 (env':=(59,.int .i64 (v59+1))::(97,.int .i64 (v59+1))::env) (Fl:=nx) (bO:=bl) (ms':=[]) mixed (fun _=>rfl) (fun base=>?_) ⟨rfl,rfl,List.range 9,rfl,adB h3 h57 h58 rfl hb⟩
  refine Eq.trans (b:=need (de .i64 (v59+1)) (some (Ex.normal,(59,.int .i64 (v59+1))::(97,.int .i64 (v59+1))::env,nx,bl,[]))) ?_ (by rw [iG hi])
  have h1:Vt dN (.bin .add (.t 59) (.c (.int .i64 (Int.ofNat 1)))) env bl nx=some ([de .i64 (v59+1)],.int .i64 (v59+1),[]):=by
    show (match (O.t 59).ev env,(O.c (V.int .i64 (Int.ofNat 1))).ev env with
      | .int k a,.int k' b=>_
      | .str a,.str b=>_
      |_,_=>_)=_
    rw [show (O.t 59).ev env = .int .i64 v59 from h59]
    rfl
  show (match Vt dN (.bin .add (.t 59) (.c (.int .i64 (Int.ofNat 1)))) env bl nx with
    |some (ob,v,u)=>_
    |none=>_)=_
  rw [h1]
  rfl
def I3 (dM:Nat) (v58 v59:Int):Env:=(60,.tf true)::(60,.bool (decide (v59<v58)))::xR dM v58 v59
def rX (dM:Nat) (v58 v59:Int) (id:ByteArray) (m:tF.den):Env :=
 (70,.int .i64 m.2.1)::(69,.ptr 9 1)::(10,.ptr 9 0)::(68,.agg [.str m.1,.int .i64 m.2.1,.str m.2.2.1,.str m.2.2.2.1,.int .i64 m.2.2.2.2])::(67,.str id)::(66,.mp 5)::(65,.ptr 4 0)::(64,.ptr 4 0)::(63,.ptr 4 0) ::
 (9,.str id)::(62,.str id)::(61,.ep 3 .str (0+Int.toNat v59) [])::I3 dM v58 v59
/-- Up to the switch. -/
theorem xS {dM : Nat} {v58 v59 : Int} {b3 : List ByteArray} {m1 : List (tF.den × Bool)} {m5 : List (ByteArray × tF.den)} {m6 : cN} {m7 m8 : aW} {Q R : Ex → St → cN → Prop}
    (iC:bZ v59 (dM:Int)=true) (eC:decide (0+Int.toNat v59<b3.length)=true) {id:ByteArray} {m:tF.den} (hid:id=b3.getD (0+Int.toNat v59) (bs [])) (hm:m=az .str (bs [],(0:Int),bs [],bs [],(0:Int)) m5 id)
    (hin:gC prog 148 none 6 in66 ⟨rX dM v58 v59 id m,⟨10,(9,.cells [.str m.1,.int .i64 m.2.1,.str m.2.2.1,.str m.2.2.2.1,.int .i64 m.2.2.2.2] false)::gw b3 m1 m5 m7 m8⟩,[]⟩ m6 fun e S' es'=>e = .normal∧R .normal S' es')
    (h18:∀S' es',R .normal S' es'→gC prog 148 none 6 Gz S' es' Q):gC prog 148 none 6 Wl ⟨I3 dM v58 v59,⟨9,gw b3 m1 m5 m7 m8⟩,[]⟩ m6 Q:=by
  subst hm;subst hid
  refine IJ (Q1:=fun e S' es'=>e = .normal∧R .normal S' es') (fun _ _ h=>by cases h) (vz (Q1:=fun e S' es'=>e = .normal∧R .normal S' es') ?_ (fun _ _ h=>h) (fun i _ _ h=>by cases h.1) (fun _ _ h=>by cases h.1)) (fun S' es' hq=>h18 _ _ hq.2) (fun i S' es' hq=>by cases hq.1) (fun S' es' hq=>by cases hq.1)
  generalize hE3:((9,V.str (b3.getD (0+Int.toNat v59) (bs [])))::(62,V.str (b3.getD (0+Int.toNat v59) (bs [])))::(61,V.ep 3 .str (0+Int.toNat v59) [])::I3 dM v58 v59:Env)=e3
  refine fU (env':=e3) (Fl:=9) (bO:=gw b3 m1 m5 m7 m8) (ms':=[]) mixed (fun base=>Eq.trans (b:=need (bZ v59 (dM:Int)) (need (decide (0+Int.toNat v59<b3.length)) (some (Ex.normal,e3,9,gw b3 m1 m5 m7 m8,[])))) (by subst hE3;kernel_rfl) (by rw [iG iC,iG eC])) ?_
  subst hE3
  refine fU (Fl := 10) (ms' := []) (bO := (9, .cells [.str (az .str (bs [], (0 : Int), bs [], bs [], (0 : Int)) m5 (b3.getD (0 + Int.toNat v59) (bs []))).1, .int .i64 (az .str (bs [], (0 : Int), bs [], bs [], (0 : Int)) m5 (b3.getD (0 + Int.toNat v59) (bs []))).2.1, .str (az .str (bs [], (0 : Int), bs [], bs [], (0 : Int)) m5 (b3.getD (0 + Int.toNat v59) (bs []))).2.2.1, .str (az .str (bs [], (0 : Int), bs [], bs [], (0 : Int)) m5 (b3.getD (0 + Int.toNat v59) (bs []))).2.2.2.1, .int .i64 (az .str (bs [], (0 : Int), bs [], bs [], (0 : Int)) m5 (b3.getD (0 + Int.toNat v59) (bs []))).2.2.2.2] false) :: gw b3 m1 m5 m7 m8)
    (env':=(rX dM v58 v59 (b3.getD (0+Int.toNat v59) (bs [])) (az .str (bs [],(0:Int),bs [],bs [],(0:Int)) m5 (b3.getD (0+Int.toNat v59) (bs [])))).drop 2) mixed (fun base=>by kernel_rfl) ?_
  exact fU (Fl:=10) (ms':=[]) mixed (fun base=>by kernel_rfl) hin
theorem Zg:∀(x:qv.T) (r:qv.T ⊕ tE.T),ah (gH66_1 x)=some r→gC prog 148 none 6 c66 (I66 x) x.2.2.2.2.2.2.1 (P66 r):=by
  rintro ⟨dM,v58,v59,b3,m1,m5,m6,m7,m8,u⟩ r hr
  have hr:kU (decide (v59<v58)) _ _=some r:=hr
  rcases iH hr with ⟨hlt,hr⟩|⟨hlt,hr⟩
  · obtain ⟨iC, hr⟩ := cQ hr
    obtain ⟨eC,hr⟩:=cQ hr
    refine fU (env':=(60,.bool (decide (v59<v58)))::xR dM v58 v59) (Fl:=9) (bO:=gw b3 m1 m5 m7 m8) (ms':=[]) mixed (fun base=>by kernel_rfl) ?_
    refine IJ (Q1:=fun e S' es'=>e = .normal∧S'=⟨I3 dM v58 v59,⟨9,gw b3 m1 m5 m7 m8⟩,[]⟩∧es'=m6) (fun _ _ h=>by cases h) (qq (t:=true) (by show V.bool _=_;rw [hlt]) (D5 mixed (fun _=>rfl) (fun base=>by kernel_rfl) ⟨rfl,rfl,rfl⟩)) (fun S' es' hq=>?_) (fun i S' es' hq=>by cases hq.1) (fun S' es' hq=>by cases hq.1)
    obtain ⟨-,rfl,rfl⟩:=hq
    obtain ⟨id,hid⟩:∃id,id=b3.getD (0+Int.toNat v59) (bs []):=⟨_,rfl⟩
    obtain ⟨m,hm⟩:∃m,m=az .str (bs [],(0:Int),bs [],bs [],(0:Int)) m5 id:=⟨_,rfl⟩
    rw [←hid,←hm] at hr
    have hr:kU (m.2.1==3) _ _=some r:=hr
    rcases iH hr with ⟨h3,hr⟩|⟨h3,hr⟩
    · obtain ⟨hi, hr⟩ := cQ hr
      cases hr
      refine xS (R:=fun _ S' Fi=>Fi=es'∧S'=⟨(78,.str m.2.2.1)::(77,.ptr 9 2)::(76,.mp 7)::(75,.ptr 4 2)::(74,.ptr 4 0)::(73,.ptr 4 0)::(71,.tf true)::(71,.bool (m.2.1==3))::(72,.bool (m.2.1==3))::rX dM v58 v59 id m,⟨17,(7,.map .str false .bool false (bg .str m7 m.2.2.1 true))::(9,.cells [.str m.1,.int .i64 m.2.1,.str m.2.2.1,.str m.2.2.2.1,.int .i64 m.2.2.2.2] false)::bu 7 (gw b3 m1 m5 m7 m8)⟩,[]⟩) iC eC hid hm ?_ ?_
      · refine vz (Q1 := fun e S' Fi => e = .normal ∧ (Fi = es' ∧ S' = _)) ?_ (fun _ _ h => h) (fun i _ _ h => by cases h.1) (fun _ _ h => by cases h.1)
        refine fU (env':=(71,.bool (m.2.1==3))::(72,.bool (m.2.1==3))::rX dM v58 v59 id m) (Fl:=10) (ms':=[]) (bO:=(9,.cells [.str m.1,.int .i64 m.2.1,.str m.2.2.1,.str m.2.2.2.1,.int .i64 m.2.2.2.2] false)::gw b3 m1 m5 m7 m8) mixed (fun base=>by kernel_rfl) ?_
        refine qq (t:=true) (by show V.bool _=_;rw [h3]) ?_
        exact D5 mixed (fun _=>rfl) (fun base=>by kernel_rfl) ⟨rfl,rfl,rfl⟩
      · rintro S' Fi ⟨rfl, rfl⟩
        refine ON u hi rfl rfl rfl rfl fun p hp=>?_
        simp only [gw,List.mem_cons,List.not_mem_nil,or_false] at hp
        rcases hp with rfl|rfl|rfl|rfl|rfl|rfl|rfl|rfl<;>rfl
    · have hr : kU (m.2.1 == 2) _ _ = some r := hr
      rcases iH hr with ⟨h2,hr⟩|⟨h2,hr⟩
      · obtain ⟨lF, hr⟩ := cQ hr
        obtain ⟨hi,hr⟩:=cQ hr
        cases hr
        refine xS (R:=fun _ S' Fi=>Fi=bg .str es' m.2.2.1 (az .str [] es' m.2.2.1++[id])∧S'=⟨xR dM v58 v59,⟨28,gw b3 m1 m5 m7 m8⟩,[]⟩) iC eC hid hm ?_ ?_
        · refine vz (Q1 := fun e S' Fi => e = .normal ∧ (Fi = _ ∧ S' = _)) ?_ (fun _ _ h => h) (fun i _ _ h => by cases h.1) (fun _ _ h => by cases h.1)
          refine fU (env':=(71,.bool (m.2.1==3))::(72,.bool (m.2.1==3))::rX dM v58 v59 id m) (Fl:=10) (ms':=[]) (bO:=(9,.cells [.str m.1,.int .i64 m.2.1,.str m.2.2.1,.str m.2.2.2.1,.int .i64 m.2.2.2.2] false)::gw b3 m1 m5 m7 m8) mixed (fun base=>by kernel_rfl) ?_
          refine qq (t:=false) (by show V.bool _=_;rw [h3]) ?_
          refine fU (env':=(79,.bool (m.2.1==2))::(80,.bool (m.2.1==2))::(71,.tf false)::(71,.bool (m.2.1==3))::(72,.bool (m.2.1==3))::rX dM v58 v59 id m) (Fl:=10) (ms':=[]) (bO:=(9,.cells [.str m.1,.int .i64 m.2.1,.str m.2.2.1,.str m.2.2.2.1,.int .i64 m.2.2.2.2] false)::gw b3 m1 m5 m7 m8) mixed (fun base=>by kernel_rfl) ?_
          refine qq (t:=true) (by show V.bool _=_;rw [h2]) ?_
          refine NY (N7 (c2:=2) (c4:=4) (c9:=9) (k:=m.2.2.1) (x:=id) (env':=xR dM v58 v59) (bO:=gw b3 m1 m5 m7 m8) mixed rfl rfl rfl rfl rfl rfl (of_decide_eq_true lF) (fun i B hB=>?_) (fun t=>?_)) fun e S' Fi hq=>⟨hq.1,hq.2.2,hq.2.1⟩
          · have hm := dx hB
            simp only [gw,List.mem_cons,List.not_mem_nil,or_false,Prod.mk.injEq] at hm
            rcases hm with ⟨rfl,rfl⟩|⟨rfl,rfl⟩|⟨rfl,rfl⟩|⟨rfl,rfl⟩|⟨rfl,rfl⟩|⟨rfl,rfl⟩|⟨rfl,rfl⟩|⟨rfl,rfl⟩<;>rfl
          · by_cases ht : t = 3 ∨ t = 57 ∨ t = 58 ∨ t = 59
            · rcases ht with rfl|rfl|rfl|rfl<;>exact .inr ⟨rfl,by omega⟩
            · refine .inl (get_none ?_)
              simp only [xR,List.map_cons,List.map_nil,List.mem_cons,List.not_mem_nil,or_false]
              omega
        · rintro S' Fi ⟨rfl, rfl⟩
          refine ON u hi rfl rfl rfl rfl fun p hp=>?_
          simp only [gw,List.mem_cons,List.not_mem_nil,or_false] at hp
          rcases hp with rfl|rfl|rfl|rfl|rfl|rfl|rfl|rfl<;>rfl
      · obtain ⟨hi, hr⟩ := cQ hr
        cases hr
        refine xS (R:=fun _ S' Fi=>Fi=es'∧S'=⟨(79,.tf false)::(79,.bool (m.2.1==2))::(80,.bool (m.2.1==2))::(71,.tf false)::(71,.bool (m.2.1==3))::(72,.bool (m.2.1==3))::rX dM v58 v59 id m,⟨10,(9,.cells [.str m.1,.int .i64 m.2.1,.str m.2.2.1,.str m.2.2.2.1,.int .i64 m.2.2.2.2] false)::gw b3 m1 m5 m7 m8⟩,[]⟩) iC eC hid hm ?_ ?_
        · refine vz (Q1 := fun e S' Fi => e = .normal ∧ (Fi = es' ∧ S' = _)) ?_ (fun _ _ h => h) (fun i _ _ h => by cases h.1) (fun _ _ h => by cases h.1)
          refine fU (env':=(71,.bool (m.2.1==3))::(72,.bool (m.2.1==3))::rX dM v58 v59 id m) (Fl:=10) (ms':=[]) (bO:=(9,.cells [.str m.1,.int .i64 m.2.1,.str m.2.2.1,.str m.2.2.2.1,.int .i64 m.2.2.2.2] false)::gw b3 m1 m5 m7 m8) mixed (fun base=>by kernel_rfl) ?_
          refine qq (t:=false) (by show V.bool _=_;rw [h3]) ?_
          refine fU (env':=(79,.bool (m.2.1==2))::(80,.bool (m.2.1==2))::(71,.tf false)::(71,.bool (m.2.1==3))::(72,.bool (m.2.1==3))::rX dM v58 v59 id m) (Fl:=10) (ms':=[]) (bO:=(9,.cells [.str m.1,.int .i64 m.2.1,.str m.2.2.1,.str m.2.2.2.1,.int .i64 m.2.2.2.2] false)::gw b3 m1 m5 m7 m8) mixed (fun base=>by kernel_rfl) ?_
          refine qq (t:=false) (by show V.bool _=_;rw [h2]) ?_
          exact D5 mixed (fun _=>rfl) (fun base=>by kernel_rfl) ⟨rfl,rfl,rfl⟩
        · rintro S' Fi ⟨rfl, rfl⟩
          refine ON u hi rfl rfl rfl rfl fun p hp=>?_
          simp only [gw,List.mem_cons,List.not_mem_nil,or_false] at hp
          rcases hp with rfl|rfl|rfl|rfl|rfl|rfl|rfl|rfl<;>rfl
  · cases hr
    refine fU (env':=(60,.bool (decide (v59<v58)))::xR dM v58 v59) (Fl:=9) (bO:=gw b3 m1 m5 m7 m8) (ms':=[]) mixed (fun base=>by kernel_rfl) ?_
    refine IJ (Q1:=fun e S' es'=>e = .exit 2∧S'=⟨(60,.tf false)::(60,.bool (decide (v59<v58)))::xR dM v58 v59,⟨9,gw b3 m1 m5 m7 m8⟩,[]⟩∧es'=m6) (fun _ _ h=>by cases h) (qq (t:=false) (by show V.bool _=_;rw [hlt]) ?_) (fun S' es' hq=>by cases hq.1) (fun i S' es' hq=>?_) (fun S' es' hq=>by cases hq.1)
    · exact D5 mixed (fun _=>rfl) (fun base=>by kernel_rfl) ⟨rfl,rfl,rfl⟩
    · obtain ⟨h1, rfl, rfl⟩ := hq
      cases h1
      refine ⟨by simp,rfl,by show 6<9;omega,rfl,?_⟩
      obtain ⟨b',π,h1,h2,h3⟩:=aT.dH (base:=2) (xs:=tE) (e:=.exit 2) (k:=fun x=>some x) (r:=(m1,m5,es',m7,m8,u)) (env:=(60,.tf false)::(60,.bool (decide (v59<v58)))::xR dM v58 v59) (nx:=9) (bl:=(6,.map .str false (.list .str) false es')::bu 6 (gw b3 m1 m5 m7 m8)) (ms:=[]) (by kernel_rfl)
      cases h1
      exact ⟨π,h3⟩
noncomputable def Zh:bD prog 148 none 2 where
  c:=(Ze).er
  run kz env nx bl ms K:=qv.rd kz.no [0,1] 2 env nx bl ms fun x=>kz.nd x.2.2.2.2.2.2.1.isEmpty (kz.bd (iter (fun x=>ah (gH66_1 x)) x) fun b=>tE.go kz 2 b K)
  ok:=by
    intro X env nx bl ms K r h Q hQ
    obtain ⟨x,π,h1,h2⟩:=ax.dH (base:=2) (show ax.rd none (List.range 2) 2 qv _ _ _ _ _=some r from h)
    obtain ⟨hemp,h1⟩:=cQ h1
    obtain ⟨b,h3,h4⟩:=oS h1
    have h5:=aT.Aa h4
    intro body hbody Y ι μ a w ho hb hR
    have qF:=h2.rep hb hR
    obtain ⟨dM,v58,v59,b3,m1,m5,m6,m7,m8,u⟩:=x
    have hm:m6=[]:=List.isEmpty_iff.1 hemp
    subst hm
    have qE:∀id B,ay id (gw b3 m1 m5 m7 m8)=some B→ay id (qv.st 2 (dM,v58,v59,b3,m1,m5,[],m7,m8,u)).H.bl=some B∧id≠6:=by
      intro id B hB
      have hm:=dx hB
      simp only [gw,List.mem_cons,List.not_mem_nil,or_false,Prod.mk.injEq] at hm
      rcases hm with ⟨rfl,rfl⟩|⟨rfl,rfl⟩|⟨rfl,rfl⟩|⟨rfl,rfl⟩|⟨rfl,rfl⟩|⟨rfl,rfl⟩|⟨rfl,rfl⟩|⟨rfl,rfl⟩<;>exact ⟨rfl,by omega⟩
    obtain ⟨hI,hG⟩:=Sf (gi:=6) (bO:=gw b3 m1 m5 m7 m8) qF.inv rfl qE
    exact Ys (I:=I66) (ES:=fun x=>x.2.2.2.2.2.2.1) (X:=tE.st 2) (nb:=fun b=>b.2.2.1) (c:=c66) Zg h3 (hQ _ _ _ _ _ h5) (by rw [hbody];kernel_rfl) ho hb ⟨qF.env,qF.sz,hI,qF.ms⟩ hG
@[reducible] def KL:ax:=ax.mk [(3,.c (.ptr 2 0)),(11,.c (.ptr 3 0)),(16,.c (.QK 10 .str)),(102,.c (.mp 5)),(103,.c (.ptr 9 0)),(121,.c (.ptr 11 1)),(122,hI),(123,.c (.hole .bool)),(132,.c (.hole (.list .str))),(133,hI),(134,hI)] [(2,.cells [.ptr 4 0] false),(3,.cells [.fn 96 .nil (.cons (.ptr 2 0) (.cons (.ptr 3 0) .nil))] false),(10,.arr .str false),(5,.map .str false (.list .str) false),(11,.cells [.hole .str,.hole tI,.hole .str,.hole .str,.hole tI] false),(4,.cells [.mp 6,.mp 5,.mp 7,.mp 8] false),(6,.map .str false tG true),(7,.map .str false .bool false),(8,.map .str false .bool false),(0,.cells [.mp 1] false),(1,.map tG true .bool false)] [.slot 16,.slot 121] []
@[reducible] def KM:aT:=[(.exit 7,ax.mk [(3,.c (.ptr 2 0)),(11,.c (.ptr 3 0)),(102,.c (.mp 5)),(103,.c (.ptr 9 0)),(121,.c (.ptr 10 1)),(122,hI),(123,.c (.hole .bool))] [(2,.cells [.ptr 4 0] false),(3,.cells [.fn 96 .nil (.cons (.ptr 2 0) (.cons (.ptr 3 0) .nil))] false),(5,.map .str false (.list .str) false),(10,.cells [.hole .str,.hole tI,.hole .str,.hole .str,.hole tI] false),(4,.cells [.mp 6,.mp 5,.mp 7,.mp 8] false),(6,.map .str false tG true),(7,.map .str false .bool false),(8,.map .str false .bool false),(0,.cells [.mp 1] false),(1,.map tG true .bool false)] [.slot 121] [])]
noncomputable def KN:D prog 148 none 10:=dO [] (pick (kd prog f66) [(2,false),(0,false)]) 0
noncomputable def gH66_2b_3:Nat×Nat×Int×Bool×List ByteArray×Int×Int×List ByteArray×cN×ByteArray×Int×ByteArray×ByteArray×Int×cL×aW×aW×(List ((GG)×Bool))×Unit→bJ ((Nat×Nat×Int×Bool×List ByteArray×Int×Int×List ByteArray×cN×ByteArray×Int×ByteArray×ByteArray×Int×cL×aW×aW×(List ((GG)×Bool))×Unit) ⊕ ((Int×Bool×cN×ByteArray×Int×ByteArray×ByteArray×Int×cL×aW×aW×(List ((GG)×Bool))×Unit))):=fun (Tm,Zi,Ed,Ee,OO,Zj,Ef,QO,m5,OP,OQ,OR,OS,OT,m6,m7,m8,m1,_) =>
 .br (decide (Ef<Zj)) (
 .nb Ef (((OO).length:Nat):Int) <|
 .nb (0:Int) ((Zi:Nat):Int) <|
 .nd (decide ((Tm+(Int.toNat (0:Int)))<(QO).length)) <|
 .br (!(seq ((OO).getD (Int.toNat Ef) (bs [])) ((QO).getD (Tm+(Int.toNat (0:Int))) (bs [])))) (
 .bd (FH96fix ((OO).getD (Int.toNat Ef) (bs [])) m6 m5 m7 m8) fun y7 =>
 .ni (Ef+(1:Int)) <|
 .ret (.inl (Tm,Zi,Ed,Ee,OO,Zj,(Ef+(1:Int)),QO,y7.2.1,OP,OQ,OR,OS,OT,y7.1,y7.2.2.1,y7.2.2.2.1,m1,()))) (
 .ni (Ef+(1:Int)) <|
 .ret (.inl (Tm,Zi,Ed,Ee,OO,Zj,(Ef+(1:Int)),QO,m5,OP,OQ,OR,OS,OT,m6,m7,m8,m1,())))) (
 .ret (.inr (Ed,Ee,m5,OP,OQ,OR,OS,OT,m6,m7,m8,m1,())))
noncomputable def KO:bD prog 148 none 10:=aZ mixed I2 rW [0,1,2,3,4,5,6,7,8,9] rfl KL KM rfl (KN) (fun x=>ah (gH66_2b_3 x)) (fun x=>by kernel_rfl)
@[reducible] def Zk:ax:=ax.mk [(3,.c (.ptr 2 0)),(11,.c (.ptr 3 0)),(102,.c (.mp 5))] [(2,.cells [.ptr 4 0] false),(3,.cells [.fn 96 .nil (.cons (.ptr 2 0) (.cons (.ptr 3 0) .nil))] false),(4,.cells [.mp 6,.mp 5,.mp 7,.mp 8] false),(5,.map .str false (.list .str) false),(0,.cells [.mp 1] false),(1,.map tG true .bool false),(6,.map .str false tG true),(7,.map .str false .bool false),(8,.map .str false .bool false)] [.slot 3,.slot 11,.cell 2 0,.cell 4 1,.cell 4 0,.cell 4 2,.cell 4 3] []
noncomputable def Zl:D prog 148 none 10:=dO [.l KO] (pick (kd prog f66) [(2,false)]) 0
noncomputable def gH66_2:((ByteArray)×(List ByteArray))→cN×(List ((GG)×Bool))×cL×aW×aW×Unit→bJ (cN×(List ((GG)×Bool))×cL×aW×aW×Unit):=fun e (m5,m1,m6,m7,m8,_) =>
 .br (!(aO .str m6 e.1)) (
 .nd (jy m5 m5) <|
 .ret (m5,m1,m6,m7,m8,())) (
 .br ((az .str ((bs []),(0:Int),(bs []),(bs []),(0:Int)) m6 e.1).2.1==(3:Int)) (
 .nd (jy m5 m5) <|
 .ret (m5,m1,m6,m7,m8,())) (
 .bd (FH98 e.2) fun y5 =>
 .bd (FH97 y5.1 y5.2.1 m6 m5 m7 m8) fun y6 =>
 .br (!(((y6.2.1:Nat):Int)==(1:Int))) (
 .nd (jy y6.2.2.2.2.1 m5) <|
 .ret (y6.2.2.2.2.1,m1,y6.2.2.2.1,y6.2.2.2.2.2.1,y6.2.2.2.2.2.2.1,())) (
 .bd (.it gH66_2b_3 (y6.1,y6.2.1,(az .str ((bs []),(0:Int),(bs []),(bs []),(0:Int)) m6 e.1).2.1,((az .str ((bs []),(0:Int),(bs []),(bs []),(0:Int)) m6 e.1).2.1==(3:Int)),e.2,(((e.2).length:Nat):Int),(0:Int),y6.2.2.1,y6.2.2.2.2.1,(az .str ((bs []),(0:Int),(bs []),(bs []),(0:Int)) m6 e.1).1,(az .str ((bs []),(0:Int),(bs []),(bs []),(0:Int)) m6 e.1).2.1,(az .str ((bs []),(0:Int),(bs []),(bs []),(0:Int)) m6 e.1).2.2.1,(az .str ((bs []),(0:Int),(bs []),(bs []),(0:Int)) m6 e.1).2.2.2.1,(az .str ((bs []),(0:Int),(bs []),(bs []),(0:Int)) m6 e.1).2.2.2.2,y6.2.2.2.1,y6.2.2.2.2.2.1,y6.2.2.2.2.2.2.1,m1,())) fun z8 =>
 .nd (jy z8.2.2.1 m5) <|
 .ret (z8.2.2.1,z8.2.2.2.2.2.2.2.2.2.2.2.1,z8.2.2.2.2.2.2.2.2.1,z8.2.2.2.2.2.2.2.2.2.1,z8.2.2.2.2.2.2.2.2.2.2.1,()))))
noncomputable def Zm:rz prog 148 none 2:=BN mixed I2 rW [0,1] rfl Zk ( [.op (some 99) none (.load false 1 (.t 3)),.op (some 100) none (.ex gA.iQ [.t 99]),.op (some 101) none (.mD 1 [true,false] (.t 100)),.op (some 102) none (.load false 1 (.t 101))]) 102 103 [104,105] (some 106) ( .str)  false ( .list .str)  false 5 rfl 10 rfl (Zl) (fun e x=>ah (gH66_2 e x)) (fun e=>fun x=>by kernel_rfl)
noncomputable def Wm:D prog 148 none 2:=dO [.l Zd,.l Zh,.m Zm] (kd prog f66) 0
noncomputable def FH66 (m1:List ((GG)×Bool)):bJ ((List ((GG)×Bool))×cL×cN×aW×aW×Unit) :=
 .bd (FH47 m1) fun y0 =>
 .bd (.it gH66_0 (y0.1,((y0.1:Nat):Int),(0:Int),y0.2.1,y0.2.2.1,[],[],[],[],())) fun z1 =>
 .bd (FH95 z1.2.1) fun y2 =>
 .bd (FH81 y2.1) fun y3 =>
 .nd (z1.2.2.1).isEmpty <|
 .bd (.it gH66_1 (y3.1,((y3.1:Nat):Int),(0:Int),y3.2.1,z1.1,y3.2.2.1,z1.2.2.1,z1.2.2.2.1,z1.2.2.2.2.1,())) fun z4 =>
 .bd (.mq gH66_2 z4.2.2.1 (z4.2.2.1,z4.1,z4.2.1,z4.2.2.2.1,z4.2.2.2.2.1,())) fun z9 =>
 .ret (z9.2.1,z9.2.2.1,z9.1,z9.2.2.2.1,z9.2.2.2.2.1,())
theorem Tn:cw prog f66=some ⟨148,1,Wm.er,[.t 2],[none]⟩:=by kernel_rfl
noncomputable def Eg:Ht:=⟨66,pH66,qH66,(fun x=>ah (FH66 x.1))⟩
theorem rY:Eg.Ok prog:=bG mixed rW rfl func66 Tn (enters_of func66 rfl rfl) Wm (by kernel_rfl) rfl rfl ⟨_,rfl⟩ rfl (pre:=[0,1]) rfl (fun x=>by kernel_rfl)

/- 123, lent -/
@[reducible] def adC:ax:=ax.mk [(0,.c (.hole .str)),(1,.c (.ptr 0 0))] [(0,.cells [.ptr 1 0] false),(1,.cells [.mp 2,.mp 3,.mp 4,.mp 5] false),(2,.map .str false tG true),(3,.map .str false (.list .str) false),(4,.map .str false .bool false),(5,.map .str false .bool false)] [.slot 1,.cell 0 0,.cell 1 0,.cell 1 1,.cell 1 2,.cell 1 3] []
@[reducible] def adD:ax:=ax.mk [(0,.c (.hole .bool))] [(0,.cells [.ptr 1 0] false),(1,.cells [.mp 2,.mp 3,.mp 4,.mp 5] false),(2,.map .str false tG true),(3,.map .str false (.list .str) false),(4,.map .str false .bool false),(5,.map .str false .bool false)] [] []
noncomputable def Zn:Cx:=(aL [] [])
theorem KP:Zn.Ok prog:=av trivial trivial
noncomputable def OU:D prog 10 none 6:=dO [] (kd prog f123) 0
noncomputable def FH123 (v0:ByteArray) (m2:cL) (m3:cN) (m4:aW) (m5:aW):bJ (Bool×cL×cN×aW×aW×Unit) :=
 .ret ((az .str false m5 v0),m2,m3,m4,m5,())
theorem OV:cw prog f123=some ⟨10,2,OU.er,[.t 3],[some .bool]⟩:=by kernel_rfl
noncomputable def OW:Ht:=⟨123,adC,adD,(fun x=>ah (FH123 x.1 x.2.1 x.2.2.1 x.2.2.2.1 x.2.2.2.2.1))⟩
theorem Eh:OW.Ok prog:=bG mixed KP rfl func123 OV (enters_of func123 rfl rfl) OU (by kernel_rfl) rfl rfl ⟨_,rfl⟩ rfl (pre:=[0,1,2,3,4,5]) rfl (fun x=>by kernel_rfl)

/- 119, lent -/
@[reducible] def OX:ax:=ax.mk [(0,.c (.bN 0 .str)),(1,.fn 123 [] [.ptr 1 0])] [(0,.arr .str false),(1,.cells [.ptr 2 0] false),(2,.cells [.mp 3,.mp 4,.mp 5,.mp 6] false),(3,.map .str false tG true),(4,.map .str false (.list .str) false),(5,.map .str false .bool false),(6,.map .str false .bool false)] [.slot 0,.part 1 0,.cell 1 0,.cell 2 0,.cell 2 1,.cell 2 2,.cell 2 3] []
@[reducible] def OY:ax:=ax.mk [(0,hI)] [(1,.cells [.ptr 2 0] false),(2,.cells [.mp 3,.mp 4,.mp 5,.mp 6] false),(3,.map .str false tG true),(4,.map .str false (.list .str) false),(5,.map .str false .bool false),(6,.map .str false .bool false),(0,.arr .str false)] [] []
noncomputable def As:Cx:=(aL [] [OW])
theorem rZ:As.Ok prog:=av trivial ⟨⟨Eh,rfl⟩,trivial⟩
@[reducible] def GA:ax:=ax.mk [(0,.c (.bN 0 .str)),(1,.fn 123 [] [.ptr 1 0]),(7,hI),(8,hI)] [(0,.arr .str false),(1,.cells [.ptr 2 0] false),(2,.cells [.mp 3,.mp 4,.mp 5,.mp 6] false),(3,.map .str false tG true),(4,.map .str false (.list .str) false),(5,.map .str false .bool false),(6,.map .str false .bool false)] [] []
@[reducible] def GB:aT:=[(.ret,ax.mk [(4,hI)] [(1,.cells [.ptr 2 0] false),(2,.cells [.mp 3,.mp 4,.mp 5,.mp 6] false),(3,.map .str false tG true),(4,.map .str false (.list .str) false),(5,.map .str false .bool false),(6,.map .str false .bool false),(0,.arr .str false)] [] []),(.exit 0,ax.mk [] [(1,.cells [.ptr 2 0] false),(2,.cells [.mp 3,.mp 4,.mp 5,.mp 6] false),(3,.map .str false tG true),(4,.map .str false (.list .str) false),(5,.map .str false .bool false),(6,.map .str false .bool false),(0,.arr .str false)] [] [])]
noncomputable def GC:D prog 19 none 7:=dO [] (pick (kd prog f119) [(0,false)]) 0
noncomputable def gH119_v1_0:Nat×Int×Int×List ByteArray×cL×cN×aW×aW×Unit→bJ ((Nat×Int×Int×List ByteArray×cL×cN×aW×aW×Unit) ⊕ ((Int×cL×cN×aW×aW×List ByteArray×Unit) ⊕ ((cL×cN×aW×aW×List ByteArray×Unit)))):=fun (nc,v7,v8,b0,m3,m4,m5,m6,_) =>
 .br (decide (v8<v7)) (
 .nb v8 ((nc:Nat):Int) <|
 .nd (decide (((0:Nat)+(Int.toNat v8))<(b0).length)) <|
 .bd (FH123 ((b0).getD ((0:Nat)+(Int.toNat v8)) (bs [])) m3 m4 m5 m6) fun y0 =>
 .br y0.1 (
 .ret (.inr <| .inl<|(v8,y0.2.1,y0.2.2.1,y0.2.2.2.1,y0.2.2.2.2.1,b0,()))) (
 .ni (v8+(1:Int)) <|
 .ret (.inl (nc,v7,(v8+(1:Int)),b0,y0.2.1,y0.2.2.1,y0.2.2.2.1,y0.2.2.2.2.1,())))) (
 .ret (.inr <| .inr<|(m3,m4,m5,m6,b0,())))
noncomputable def GD:bD prog 19 none 7:=aZ mixed As rZ [0,1,2,3,4,5,6] rfl GA GB rfl (GC) (fun x=>ah (gH119_v1_0 x)) (fun x=>by kernel_rfl)
noncomputable def Au:D prog 19 none 7:=dO [.l GD] (kd prog f119) 0
noncomputable def FH119_v1 (nc:Nat) (b0:List ByteArray) (m3:cL) (m4:cN) (m5:aW) (m6:aW):bJ (Int×cL×cN×aW×aW×List ByteArray×Unit) :=
 .bd (.it gH119_v1_0 (nc,((nc:Nat):Int),(0:Int),b0,m3,m4,m5,m6,())) fun z1 =>
 .sm z1 (fun z2 =>
 .ret (z2.1,z2.2.1,z2.2.2.1,z2.2.2.2.1,z2.2.2.2.2.1,z2.2.2.2.2.2.1,())) fun z3 =>
 .ret ((-1:Int),z3.1,z3.2.1,z3.2.2.1,z3.2.2.2.1,z3.2.2.2.2.1,())
theorem Ei:cw prog f119=some ⟨19,2,Au.er,[.t 4],[some tI]⟩:=by kernel_rfl
noncomputable def Ej:Ht:=⟨119,OX,OY,(fun x=>ah (FH119_v1 x.1 x.2.1 x.2.2.1 x.2.2.2.1 x.2.2.2.2.1 x.2.2.2.2.2.1))⟩
theorem Ek:Ej.Ok prog:=bG mixed rZ rfl func119 Ei (enters_of func119 rfl rfl) Au (by kernel_rfl) rfl rfl ⟨_,rfl⟩ rfl (pre:=[0,1,2,3,4,5,6]) rfl (fun x=>by kernel_rfl)

/- 97, lent -/
@[reducible] def To:ax:=ax.mk [(0,.c (.bN 0 .str)),(1,.fn 123 [] [.ptr 1 0])] [(0,.arr .str false),(1,.cells [.ptr 2 0] false),(2,.cells [.mp 3,.mp 4,.mp 5,.mp 6] false),(3,.map .str false tG true),(4,.map .str false (.list .str) false),(5,.map .str false .bool false),(6,.map .str false .bool false)] [.slot 0,.part 1 0,.cell 1 0,.cell 2 0,.cell 2 1,.cell 2 2,.cell 2 3] []
@[reducible] def Tp:ax:=ax.mk [(0,.c (.QK 0 .str))] [(0,.arr .str false),(1,.cells [.ptr 2 0] false),(2,.cells [.mp 3,.mp 4,.mp 5,.mp 6] false),(3,.map .str false tG true),(4,.map .str false (.list .str) false),(5,.map .str false .bool false),(6,.map .str false .bool false)] [] []
noncomputable def El:Cx:=(aL [] [Ej,OW])
theorem uz:El.Ok prog:=av trivial ⟨⟨Ek,rfl⟩,⟨Eh,rfl⟩,trivial⟩
@[reducible] def KQ:ax:=ax.mk [(0,.c (.bN 0 .str)),(1,.fn 123 [] [.ptr 1 0]),(5,hI),(6,hI)] [(0,.arr .str false),(1,.cells [.ptr 2 0] false),(2,.cells [.mp 3,.mp 4,.mp 5,.mp 6] false),(3,.map .str false tG true),(4,.map .str false (.list .str) false),(5,.map .str false .bool false),(6,.map .str false .bool false)] [] []
@[reducible] def KR:aT:=[(.exit 0,ax.mk [(0,.c (.bN 0 .str)),(5,hI)] [(0,.arr .str false),(1,.cells [.ptr 2 0] false),(2,.cells [.mp 3,.mp 4,.mp 5,.mp 6] false),(3,.map .str false tG true),(4,.map .str false (.list .str) false),(5,.map .str false .bool false),(6,.map .str false .bool false)] [] [])]
noncomputable def KT:D prog 42 none 7:=dO [] (pick (kd prog f97) [(0,false)]) 0
noncomputable def gH97_v1_0:Nat×Int×Int×List ByteArray×cL×cN×aW×aW×Unit→bJ ((Nat×Int×Int×List ByteArray×cL×cN×aW×aW×Unit) ⊕ ((Nat×Int×List ByteArray×cL×cN×aW×aW×Unit))):=fun (nc,v5,v6,b0,m3,m4,m5,m6,_) =>
 .br (decide (v6<((nc:Nat):Int))) (
 .nb v6 ((nc:Nat):Int) <|
 .nd (decide (((0:Nat)+(Int.toNat v6))<(b0).length)) <|
 .bd (FH123 ((b0).getD ((0:Nat)+(Int.toNat v6)) (bs [])) m3 m4 m5 m6) fun y1 =>
 .br (!y1.1) (
 .nb v5 ((nc:Nat):Int) <|
 .nd (decide (((0:Nat)+(Int.toNat v5))<(b0).length)) <|
 .ni (v5+(1:Int)) <|
 .ni (v6+(1:Int)) <|
 .ret (.inl (nc,(v5+(1:Int)),(v6+(1:Int)),((b0).set ((0:Nat)+(Int.toNat v5)) ((b0).getD ((0:Nat)+(Int.toNat v6)) (bs []))),y1.2.1,y1.2.2.1,y1.2.2.2.1,y1.2.2.2.2.1,()))) (
 .ni (v6+(1:Int)) <|
 .ret (.inl (nc,v5,(v6+(1:Int)),b0,y1.2.1,y1.2.2.1,y1.2.2.2.1,y1.2.2.2.2.1,())))) (
 .ret (.inr (nc,v5,b0,m3,m4,m5,m6,())))
noncomputable def KU:bD prog 42 none 7:=aZ mixed El uz [0,1,2,3,4,5,6] rfl KQ KR rfl (KT) (fun x=>ah (gH97_v1_0 x)) (fun x=>by kernel_rfl)
noncomputable def Em:D prog 42 none 7:=dO [.l KU] (kd prog f97) 0
noncomputable def FH97_v1 (nc:Nat) (b0:List ByteArray) (m3:cL) (m4:cN) (m5:aW) (m6:aW):bJ (Nat×Nat×List ByteArray×cL×cN×aW×aW×Unit) :=
 .bd (FH119_v1 nc b0 m3 m4 m5 m6) fun y0 =>
 .br (y0.1==(-1:Int)) (
 .ret ((0:Nat),nc,y0.2.2.2.2.2.1,y0.2.1,y0.2.2.1,y0.2.2.2.1,y0.2.2.2.2.1,())) (
 .ni (y0.1+(1:Int)) <|
 .bd (.it gH97_v1_0 (nc,y0.1,(y0.1+(1:Int)),y0.2.2.2.2.2.1,y0.2.1,y0.2.2.1,y0.2.2.2.1,y0.2.2.2.2.1,())) fun z2 =>
 .nd (decide ((0:Int)≤z2.2.1)) <|
 .nd (decide (z2.2.1≤((z2.1:Nat):Int))) <|
 .nd (decide (((z2.1:Nat):Int)≤((z2.1:Nat):Int))) <|
 .nd (decide ((0:Int)≤(0:Int))) <|
 .nd (decide ((0:Int)≤z2.2.1)) <|
 .nd (decide (z2.2.1≤((z2.1:Nat):Int))) <|
 .ret (((0:Nat)+(Int.toNat (0:Int))),((Int.toNat z2.2.1) - (Int.toNat (0:Int))),(AO (bs []) z2.2.2.1 ((0:Nat)+(Int.toNat z2.2.1)) ((Int.toNat ((z2.1:Nat):Int)) - (Int.toNat z2.2.1))),z2.2.2.2.1,z2.2.2.2.2.1,z2.2.2.2.2.2.1,z2.2.2.2.2.2.2.1,()))
theorem GF:cw prog f97=some ⟨42,2,Em.er,[.t 4],[some (.list .str)]⟩:=by kernel_rfl
noncomputable def I4:Ht:=⟨97,To,Tp,(fun x=>ah (FH97_v1 x.1 x.2.1 x.2.2.1 x.2.2.2.1 x.2.2.2.2.1 x.2.2.2.2.2.1))⟩
theorem GH:I4.Ok prog:=bG mixed uz rfl func97 GF (enters_of func97 rfl rfl) Em (by kernel_rfl) rfl rfl ⟨_,rfl⟩ rfl (pre:=[0,1,2,3,4,5,6]) rfl (fun x=>by kernel_rfl)

/- 104, lent -/
@[reducible] def adE:ax:=ax.mk [(0,.c (.ptr 0 0)),(1,.c (.hole .str))] [(0,.cells [.mp 1,.mp 2,.mp 3,.mp 4] false),(1,.map .str false tG true),(2,.map .str false (.list .str) false),(3,.map .str false .bool false),(4,.map .str false .bool false)] [.slot 0,.cell 0 0,.cell 0 1,.cell 0 2,.cell 0 3] []
@[reducible] def adF:ax:=ax.mk [(0,.c (.QK 5 .str))] [(5,.arr .str false),(0,.cells [.mp 1,.mp 2,.mp 3,.mp 4] false),(1,.map .str false tG true),(2,.map .str false (.list .str) false),(3,.map .str false .bool false),(4,.map .str false .bool false)] [.slot 0] []
noncomputable def Zo:Cx:=(aL [] [YX,I4])
theorem KV:Zo.Ok prog:=av trivial ⟨⟨IZ,rfl⟩,⟨GH,rfl⟩,trivial⟩
noncomputable def OZ:D prog 14 none 5:=dO [] (kd prog f104) 0
noncomputable def FH104 (v1:ByteArray) (m1:cL) (m2:cN) (m3:aW) (m4:aW):bJ (Nat×Nat×List ByteArray×cL×cN×aW×aW×Unit) :=
 .bd (FH98 (az .str [] m2 v1)) fun y0 =>
 .bd (FH97_v1 y0.1 y0.2.1 m1 m2 m3 m4) fun y1 =>
 .ret (y1.1,y1.2.1,y1.2.2.1,y1.2.2.2.1,y1.2.2.2.2.1,y1.2.2.2.2.2.1,y1.2.2.2.2.2.2.1,())
theorem O0:cw prog f104=some ⟨14,2,OZ.er,[.t 4],[some (.list .str)]⟩:=by kernel_rfl
noncomputable def Wn:Ht:=⟨104,adE,adF,(fun x=>ah (FH104 x.1 x.2.1 x.2.2.1 x.2.2.2.1 x.2.2.2.2.1))⟩
theorem O1:Wn.Ok prog:=bG mixed KV rfl func104 O0 (enters_of func104 rfl rfl) OZ (by kernel_rfl) rfl rfl ⟨_,rfl⟩ rfl (pre:=[0,1,2,3,4]) rfl (fun x=>by kernel_rfl)

/- 76, lent -/
@[reducible] def kC:ax:=ax.mk [(0,.c (.ptr 0 0)),(1,.c (.hole .str))] [(0,.cells [.mp 1,.mp 2,.mp 3,.mp 4] false),(1,.map .str false tG true),(2,.map .str false (.list .str) false),(3,.map .str false .bool false),(4,.map .str false .bool false)] [.slot 0,.cell 0 0,.cell 0 1,.cell 0 2,.cell 0 3] []
@[reducible] def kD:ax:=ax.mk [(0,.c (.bN 5 .str))] [(5,.arr .str false),(0,.cells [.mp 1,.mp 2,.mp 3,.mp 4] false),(1,.map .str false tG true),(2,.map .str false (.list .str) false),(3,.map .str false .bool false),(4,.map .str false .bool false)] [.slot 0] []
noncomputable def O2 (rec:kC.T→Option kD.T):Cx:=(aL [] [Wn,⟨76,kC,kD,rec⟩,Ap])
theorem Eo (rec:kC.T→Option kD.T) (h:Ht.Ok prog ⟨76,kC,kD,rec⟩):(O2 rec).Ok prog:=av trivial ⟨⟨O1,rfl⟩,⟨h,rfl⟩,⟨xN,rfl⟩,trivial⟩
@[reducible] def GI:ax:=ax.mk [(0,.c (.ptr 0 0)),(6,.c (.bN 5 .str)),(17,.c (.QK 6 .str)),(18,hI),(19,hI)] [(0,.cells [.mp 1,.mp 2,.mp 3,.mp 4] false),(5,.arr .str false),(6,.arr .str false),(1,.map .str false tG true),(2,.map .str false (.list .str) false),(3,.map .str false .bool false),(4,.map .str false .bool false)] [.slot 6,.slot 17] []
@[reducible] def GJ:aT:=[(.exit 0,ax.mk [(6,.c (.bN 5 .str))] [(5,.arr .str false),(0,.cells [.mp 1,.mp 2,.mp 3,.mp 4] false),(1,.map .str false tG true),(2,.map .str false (.list .str) false),(3,.map .str false .bool false),(4,.map .str false .bool false)] [.slot 6] [])]
noncomputable def O3 (rec:kC.T→Option kD.T) (h:Ht.Ok prog ⟨76,kC,kD,rec⟩):D prog 32 none 5:=dO [] (pick (kd prog f76) [(0,false)]) 0
noncomputable def gH76_0:Nat×Nat×Nat×Int×Int×List ByteArray×List ByteArray×cL×cN×aW×aW×Unit→Tr kC.T kD.T ((Nat×Nat×Nat×Int×Int×List ByteArray×List ByteArray×cL×cN×aW×aW×Unit) ⊕ ((Nat×List ByteArray×cL×cN×aW×aW×Unit))):=fun (uA,Zp,nv17,v18,Tq,b5,b6,m1,m2,m3,m4,_) =>
 .br (decide (Tq<v18)) (
 .nb Tq ((nv17:Nat):Int) <|
 .nd (decide ((Zp+(Int.toNat Tq))<(b6).length)) <|
 .bd (.rc (((b6).getD (Zp+(Int.toNat Tq)) (bs [])),m1,m2,m3,m4,())) fun y1 =>
 .nd (decide ((uA+((((y1.2.1).drop (0:Nat)).take y1.1)).length)<bI)) <|
 .ni (Tq+(1:Int)) <|
 .ret (.inl ((uA+((((y1.2.1).drop (0:Nat)).take y1.1)).length),Zp,nv17,v18,(Tq+(1:Int)),((((b5).drop (0:Nat)).take uA)++(((y1.2.1).drop (0:Nat)).take y1.1)),b6,y1.2.2.1,y1.2.2.2.1,y1.2.2.2.2.1,y1.2.2.2.2.2.1,()))) (
 .ret (.inr (uA,b5,m1,m2,m3,m4,())))
theorem Zq (rec:kC.T→Option kD.T) (h:Ht.Ok prog ⟨76,kC,kD,rec⟩):∀x,oe (iu (GI.T ⊕ GJ.T)) (O2 rec) dN [0,1,2,3,4] GI GJ (O3 rec h) (fun y=>some (.inl y)) (fun b=>some (.inr b)) x=run rec (gH76_0 x):=fun x=>by kernel_rfl
noncomputable def Zr (rec:kC.T→Option kD.T) (h:Ht.Ok prog ⟨76,kC,kD,rec⟩):bD prog 32 none 5:=aZ mixed (O2 rec) (Eo rec h) [0,1,2,3,4] rfl GI GJ rfl (O3 rec h) (fun x=>run rec (gH76_0 x)) (Zq rec h)
noncomputable def Wo (rec:kC.T→Option kD.T) (h:Ht.Ok prog ⟨76,kC,kD,rec⟩):D prog 32 none 5:=dO [.l (Zr rec h)] (kd prog f76) 0
noncomputable def FH76 (v1:ByteArray) (m1:cL) (m2:cN) (m3:aW) (m4:aW):Tr kC.T kD.T (Nat×List ByteArray×cL×cN×aW×aW×Unit) :=
 .bd (.up (FH104 v1 m1 m2 m3 m4)) fun y0 =>
 .br (((y0.2.1:Nat):Int)==(0:Int)) (
 .ret ((1:Nat),(v1::[]),y0.2.2.2.1,y0.2.2.2.2.1,y0.2.2.2.2.2.1,y0.2.2.2.2.2.2.1,())) (
 .bd (.it gH76_0 ((0:Nat),y0.1,y0.2.1,((y0.2.1:Nat):Int),(0:Int),[],y0.2.2.1,y0.2.2.2.1,y0.2.2.2.2.1,y0.2.2.2.2.2.1,y0.2.2.2.2.2.2.1,())) fun z2 =>
 .bd (.up (FH105 z2.1 z2.2.1)) fun y3 =>
 .ret (z2.1,y3.1,z2.2.2.1,z2.2.2.2.1,z2.2.2.2.2.1,z2.2.2.2.2.2.1,()))
theorem Ts (rec:kC.T→Option kD.T) (h:Ht.Ok prog ⟨76,kC,kD,rec⟩):cw prog f76=some ⟨32,2,(Wo rec h).er,[.t 4],[some (.list .str)]⟩:=by kernel_rfl
theorem KW (rec:kC.T→Option kD.T) (h:Ht.Ok prog ⟨76,kC,kD,rec⟩):Ht.Ok prog ⟨76,kC,kD,(fun x=>run rec (FH76 x.1 x.2.1 x.2.2.1 x.2.2.2.1 x.2.2.2.2.1))⟩:=bG mixed (Eo rec h) rfl func76 (Ts rec h) (enters_of func76 rfl rfl) (Wo rec h) (by kernel_rfl) rfl rfl ⟨_,rfl⟩ rfl (pre:=[0,1,2,3,4]) rfl (fun x=>by kernel_rfl)
noncomputable def FH76fix (v1:ByteArray) (m1:cL) (m2:cN) (m3:aW) (m4:aW):bJ (Nat×List ByteArray×cL×cN×aW×aW×Unit):=.fx (A1:=kC.T) (B1:=kD.T) (fun x=>FH76 x.1 x.2.1 x.2.2.1 x.2.2.2.1 x.2.2.2.2.1) (v1,m1,m2,m3,m4,())
noncomputable def GK:Ht:=⟨76,kC,kD,fun x=>ah (FH76fix x.1 x.2.1 x.2.2.1 x.2.2.2.1 x.2.2.2.2.1)⟩
theorem r8:GK.Ok prog:=BJ (F:=fun rec x=>run rec (FH76 x.1 x.2.1 x.2.2.1 x.2.2.2.1 x.2.2.2.2.1)) (fun rec h=>KW rec h)

/- 74, lent -/
@[reducible] def pH74:ax:=ax.mk [(0,.c (.ptr 0 0)),(1,.c (.hole .str))] [(0,.cells [.mp 1,.mp 2,.mp 3,.mp 4] false),(1,.map .str false tG true),(2,.map .str false (.list .str) false),(3,.map .str false .bool false),(4,.map .str false .bool false)] [.slot 0,.cell 0 0,.cell 0 1,.cell 0 2,.cell 0 3] []
@[reducible] def qH74:ax:=ax.mk [(0,.cK [.bN 5 .str,.hole .bool])] [(5,.arr .str false),(0,.cells [.mp 1,.mp 2,.mp 3,.mp 4] false),(1,.map .str false tG true),(2,.map .str false (.list .str) false),(3,.map .str false .bool false),(4,.map .str false .bool false)] [.part 0 0] []
noncomputable def Wp:Cx:=(aL [] [GK])
theorem Ep:Wp.Ok prog:=av trivial ⟨⟨r8,rfl⟩,trivial⟩
@[reducible] def Zt:ax:=ax.mk [(0,.c (.ptr 0 0)),(1,.c (.hole .str)),(11,.c (.mp 1))] [(0,.cells [.mp 1,.mp 2,.mp 3,.mp 4] false),(1,.map .str false tG true),(2,.map .str false (.list .str) false),(3,.map .str false .bool false),(4,.map .str false .bool false)] [] []
@[reducible] def Zu:aT:=[(.ret,ax.mk [(4,.c (.bN 5 .str)),(5,.c (.hole .bool))] [(5,.arr .str false),(0,.cells [.mp 1,.mp 2,.mp 3,.mp 4] false),(1,.map .str false tG true),(2,.map .str false (.list .str) false),(3,.map .str false .bool false),(4,.map .str false .bool false)] [.slot 4] [])]
noncomputable def Zv:D prog 50 none 6:=dO [] (pick (kd prog f74) [(0,false)]) 0
noncomputable def gH74_0:((ByteArray)×(GG))→ByteArray×cL×cN×aW×aW×Unit→bJ ((ByteArray×cL×cN×aW×aW×Unit) ⊕ ((Nat×Bool×List ByteArray×cL×cN×aW×aW×Unit))):=fun e (v1,m1,m2,m3,m4,_) =>
 .br (!(aO .str m1 v1)) (
 .ret (.inr ((0:Nat),false,[],m1,m2,m3,m4,()))) (
 .br ((az .str ((bs []),(0:Int),(bs []),(bs []),(0:Int)) m1 v1).2.1==(3:Int)) (
 .ret (.inr ((0:Nat),false,[],m1,m2,m3,m4,()))) (
 .br (az .str false m4 v1) (
 .ret (.inr ((0:Nat),false,[],m1,m2,m3,m4,()))) (
 .br ((az .str ((bs []),(0:Int),(bs []),(bs []),(0:Int)) m1 v1).2.1==(1:Int)) (
 .bd (FH76fix v1 m1 m2 m3 m4) fun y0 =>
 .ret (.inr (y0.1,true,y0.2.1,y0.2.2.1,y0.2.2.2.1,y0.2.2.2.2.1,y0.2.2.2.2.2.1,()))) (
 .nd (jy m1 m1) <|
 .ret (.inl ((az .str ((bs []),(0:Int),(bs []),(bs []),(0:Int)) m1 v1).2.2.1,m1,m2,m3,m4,()))))))
noncomputable def Zw:rz prog 50 none 5:=Yf mixed Wp Ep [0,1,2,3,4] rfl Zt Zu rfl ( [.op (some 8) none (.mv (.t 0)),.op (some 9) none (.ex gA.iQ [.t 8]),.op (some 10) none (.mD 0 [false] (.t 9)),.op (some 11) none (.load false 1 (.t 10))]) 11 12 [13,14] (none) ( .str)  false ( .prod .str (.prod tI (.prod .str (.prod .str tI))))  true 0 rfl 6 rfl (Zv) (fun e x=>ah (gH74_0 e x)) (fun e=>fun x=>by kernel_rfl)
noncomputable def Wq:D prog 50 none 5:=dO [.m Zw] (kd prog f74) 0
noncomputable def FH74 (v1:ByteArray) (m1:cL) (m2:cN) (m3:aW) (m4:aW):bJ (Nat×Bool×List ByteArray×cL×cN×aW×aW×Unit) :=
 .bd (.mp gH74_0 m1 (v1,m1,m2,m3,m4,())) fun z1 =>
 .sm z1 (fun z2 =>
 .ret ((0:Nat),false,[],z2.2.1,z2.2.2.1,z2.2.2.2.1,z2.2.2.2.2.1,())) fun z3 =>
 .ret (z3.1,z3.2.1,z3.2.2.1,z3.2.2.2.1,z3.2.2.2.2.1,z3.2.2.2.2.2.1,z3.2.2.2.2.2.2.1,())
theorem Tt:cw prog f74=some ⟨50,2,Wq.er,[.t 4,.t 5],[some (.list .str),some .bool]⟩:=by kernel_rfl
noncomputable def Zx:Ht:=⟨74,pH74,qH74,(fun x=>ah (FH74 x.1 x.2.1 x.2.2.1 x.2.2.2.1 x.2.2.2.2.1))⟩
theorem Tu:Zx.Ok prog:=bG mixed Ep rfl func74 Tt (enters_of func74 rfl rfl) Wq (by kernel_rfl) rfl rfl ⟨_,rfl⟩ rfl (pre:=[0,1,2,3,4]) rfl (fun x=>by kernel_rfl)

/- 103 -/
noncomputable def Wr:Cx:=(aL [] [])
theorem Er:Wr.Ok prog:=av trivial trivial
@[reducible] def Zy:ax:=ax.mk [(0,.c (.hole (.list .str))),(1,.c (.hole .str)),(7,hI),(8,hI)] [] [] []
@[reducible] def Zz:aT:=[(.ret,ax.mk [(4,hI)] [] [] []),(.exit 0,ax.mk [] [] [] [])]
noncomputable def ZA:D prog 19 none 0:=dO [] (pick (kd prog f103) [(0,false)]) 0
noncomputable def g103_0:List ByteArray×ByteArray×Int×Int×Unit→bJ ((List ByteArray×ByteArray×Int×Int×Unit) ⊕ ((Int×Unit) ⊕ ((Unit)))):=fun (v0,v1,v7,v8,_) =>
 .br (decide (v8<v7)) (
 .nb v8 (((v0).length:Nat):Int) <|
 .br (seq v1 ((v0).getD (Int.toNat v8) (bs []))) (
 .ret (.inr <| .inl<|(v8,()))) (
 .ni (v8+(1:Int)) <|
 .ret (.inl (v0,v1,v7,(v8+(1:Int)),())))) (
 .ret (.inr <| .inr<|()))
noncomputable def ZB:bD prog 19 none 0:=aZ mixed Wr Er [] rfl Zy Zz rfl (ZA) (fun x=>ah (g103_0 x)) (fun x=>by kernel_rfl)
noncomputable def Ws:D prog 19 none 0:=dO [.l ZB] (kd prog f103) 0
noncomputable def F103 (a0:List ByteArray) (a1:ByteArray):bJ (Int×Unit) :=
 .bd (.it g103_0 (a0,a1,(((a0).length:Nat):Int),(0:Int),())) fun z0 =>
 .sm z0 (fun z1 =>
 .ret (z1.1,())) fun z2 =>
 .ret ((-1:Int),())
theorem Tv:cw prog f103=some ⟨19,2,Ws.er,[.t 4],[some tI]⟩:=by kernel_rfl
noncomputable def Wt:Ct:=⟨103,[.c (.hole (.list .str)),.c (.hole .str)],hI,fun x=>ah (F103 x.1 x.2.1)⟩
theorem O4:Wt.Ok prog:=cB mixed Er func103 Tv (enters_of func103 rfl rfl) Ws (by kernel_rfl) rfl (fun x=>by kernel_rfl)

/- 75 -/
noncomputable def cx75:Cx:=(aL [Wt] [])
theorem Tw:cx75.Ok prog:=av ⟨O4,trivial⟩ trivial
noncomputable def dd75:D prog 9 none 0:=dO [] (kd prog f75) 0
noncomputable def F75 (a0:List ByteArray) (a1:ByteArray):bJ (Bool×Unit) :=
 .bd (F103 a0 a1) fun y0 =>
 .ret ((decide ((0:Int)≤y0.1)),())
theorem ZC:cw prog f75=some ⟨9,2,dd75.er,[.t 4],[some .bool]⟩:=by kernel_rfl
noncomputable def ZD:Ct:=⟨75,[.c (.hole (.list .str)),.c (.hole .str)],.c (.hole .bool),fun x=>ah (F75 x.1 x.2.1)⟩
theorem Tx:ZD.Ok prog:=cB mixed Tw func75 ZC (enters_of func75 rfl rfl) dd75 (by kernel_rfl) rfl (fun x=>by kernel_rfl)

/- 32, lent -/
@[reducible] def pH32:ax:=ax.mk [(0,.c (.ptr 0 0)),(1,.c (.hole .str))] [(0,.cells [.mp 1] false),(1,.map tG true .bool false)] [.slot 0,.cell 0 0] []
@[reducible] def qH32:ax:=ax.mk [(0,.cK [.hole tI,.hole tI])] [(0,.cells [.mp 1] false),(1,.map tG true .bool false)] [] []
noncomputable def I5:Cx:=(aL [ZD] [ze,Eg,Zx])
theorem GL:I5.Ok prog:=av (vp:=[ZD]) (hts:=[ze,Eg,Zx]) ⟨Tx,trivial⟩ ⟨⟨mZ,rfl⟩,⟨rY,rfl⟩,⟨Tu,rfl⟩,trivial⟩
@[reducible] noncomputable def Tz:Go.AM.Fn:=⟨29,2,(dO [] (kd prog f73) 0:D prog 29 none 0).er,[.t 4,.cell 5 true 5,.t 6],[none,some tG,some tI]⟩
noncomputable def I6:Cx:=DW prog I5 73 Tz (fun _=>dO [] (kd prog f73) 0)
theorem GM:I6.Ok prog:=oW mixed GL func73 (by kernel_rfl) (enters_of func73 rfl rfl) (fun _=>by kernel_rfl)
noncomputable def adI:Cx:=I6
theorem O5:adI.Ok prog:=GM
noncomputable def Wu:D prog 51 none 2:=dO [] (kd prog f32) 0
noncomputable def FH32 (v1:ByteArray) (m1:List ((GG)×Bool)):bJ (Int×Int×(List ((GG)×Bool))×Unit) :=
 .bd (FH54 m1) fun y0 =>
 .br y0.1 (
 .br (!((9:Int)==(0:Int))) (
 .ret ((0:Int),(9:Int),y0.2.1,())) (
 .br ((0:Int)==(3:Int)) (
 .ret ((0:Int),(18:Int),y0.2.1,())) (
 .no))) (
 .bd (FH66 y0.2.1) fun y1 =>
 .br (!(aO .str y1.2.1 v1)) (
 .br (!((5:Int)==(0:Int))) (
 .ret ((0:Int),(5:Int),y1.1,())) (
 .br ((0:Int)==(3:Int)) (
 .ret ((0:Int),(18:Int),y1.1,())) (
 .no))) (
 .br (!((0:Int)==(0:Int))) (
 .ret ((0:Int),(0:Int),y1.1,())) (
 .br ((az .str ((bs []),(0:Int),(bs []),(bs []),(0:Int)) y1.2.1 v1).2.1==(3:Int)) (
 .ret ((0:Int),(18:Int),y1.1,())) (
 .br (az .str false y1.2.2.2.2.1 v1) (
 .ret ((2:Int),(0:Int),y1.1,())) (
 .bd (FH74 v1 y1.2.1 y1.2.2.1 y1.2.2.2.1 y1.2.2.2.2.1) fun y2 =>
 .br (!y2.2.1) (
 .ret ((1:Int),(0:Int),y1.1,())) (
 .bd (F75 (((y2.2.2.1).drop (0:Nat)).take y2.1) v1) fun y3 =>
 .br (!y3.1) (
 .ret ((3:Int),(0:Int),y1.1,())) (
 .br (decide ((1:Int)<((y2.1:Nat):Int))) (
 .ret ((5:Int),(0:Int),y1.1,())) (
 .ret ((4:Int),(0:Int),y1.1,())))))))))
theorem TA:cw prog f32=some ⟨51,2,Wu.er,[.t 4,.t 5],[some tI,some tI]⟩:=by kernel_rfl
noncomputable def ht32:Ht:=⟨32,pH32,qH32,(fun x=>ah (FH32 x.1 x.2.1))⟩
theorem TB:ht32.Ok prog:=bG mixed O5 rfl func32 TA (enters_of func32 rfl rfl) Wu (by kernel_rfl) rfl rfl ⟨_,rfl⟩ rfl (pre:=[0,1]) rfl (fun x=>by kernel_rfl)

/- 104, lent -/
@[reducible] def O6:ax:=ax.mk [(0,.c .eE),(1,.c (.hole .str))] [] [] []
@[reducible] def O7:ax:=ax.mk [(0,.c .any)] [] [] []
noncomputable def KX:Cx:=(aL [] [])
theorem BU:KX.Ok prog:=av trivial trivial
noncomputable def Av:D prog 14 none 0:=dO [] (kd prog f104) 0
noncomputable def FH104_v1 (v1:ByteArray):bJ (Unit) :=
 .no
theorem Es:cw prog f104=some ⟨14,2,Av.er,[.t 4],[some (.list .str)]⟩:=by kernel_rfl
noncomputable def Et:Ht:=⟨104,O6,O7,(fun x=>ah (FH104_v1 x.1))⟩
theorem Eu:Et.Ok prog:=bG mixed BU rfl func104 Es (enters_of func104 rfl rfl) Av (by kernel_rfl) rfl rfl ⟨_,rfl⟩ rfl (pre:=[]) rfl (fun x=>by kernel_rfl)

/- 76, lent -/
@[reducible] def TC:ax:=ax.mk [(0,.c .eE),(1,.c (.hole .str))] [] [] []
@[reducible] def TD:ax:=ax.mk [(0,.c .any)] [] [] []
noncomputable def O8:Cx:=(aL [] [Et])
theorem Ev:O8.Ok prog:=av trivial ⟨⟨Eu,rfl⟩,trivial⟩
noncomputable def Ew:D prog 32 none 0:=dO [.x] (kd prog f76) 0
noncomputable def FH76_v1 (v1:ByteArray):bJ (Unit) :=
 .bd (FH104_v1 v1) fun y0 =>
 .no
theorem GN:cw prog f76=some ⟨32,2,Ew.er,[.t 4],[some (.list .str)]⟩:=by kernel_rfl
noncomputable def BV:Ht:=⟨76,TC,TD,(fun x=>ah (FH76_v1 x.1))⟩
theorem GO:BV.Ok prog:=bG mixed Ev rfl func76 GN (enters_of func76 rfl rfl) Ew (by kernel_rfl) rfl rfl ⟨_,rfl⟩ rfl (pre:=[]) rfl (fun x=>by kernel_rfl)

/- 33, lent -/
@[reducible] def pH33:ax:=ax.mk [(0,.c (.ptr 0 0)),(1,.c (.hole .str))] [(0,.cells [.mp 1] false),(1,.map tG true .bool false)] [.slot 0,.cell 0 0] []
@[reducible] def qH33:ax:=ax.mk [(0,.cK [.bN 2 .str,.hole tI])] [(2,.arr .str false),(0,.cells [.mp 1] false),(1,.map tG true .bool false)] [.part 0 0] []
noncomputable def I7:Cx:=(aL [] [ze,BV,Eg,GK])
theorem GP:I7.Ok prog:=av (vp:=[]) (hts:=[ze,BV,Eg,GK]) trivial ⟨⟨mZ,rfl⟩,⟨GO,rfl⟩,⟨rY,rfl⟩,⟨r8,rfl⟩,trivial⟩
@[reducible] noncomputable def TE:Go.AM.Fn:=⟨29,2,(dO [] (kd prog f73) 0:D prog 29 none 0).er,[.t 4,.cell 5 true 5,.t 6],[none,some tG,some tI]⟩
noncomputable def I8:Cx:=DW prog I7 73 TE (fun _=>dO [] (kd prog f73) 0)
theorem GQ:I8.Ok prog:=oW mixed GP func73 (by kernel_rfl) (enters_of func73 rfl rfl) (fun _=>by kernel_rfl)
noncomputable def adK:Cx:=I8
theorem O9:adK.Ok prog:=GQ
noncomputable def Wv:D prog 27 none 2:=dO [] (kd prog f33) 0
noncomputable def FH33 (v1:ByteArray) (m1:List ((GG)×Bool)):bJ (Nat×Int×List ByteArray×(List ((GG)×Bool))×Unit) :=
 .bd (FH54 m1) fun y0 =>
 .br y0.1 (
 .br (!((9:Int)==(0:Int))) (
 .ret ((0:Nat),(9:Int),[],y0.2.1,())) (
 .br (!((0:Int)==(1:Int))) (
 .ret ((0:Nat),(18:Int),[],y0.2.1,())) (
 .bd (FH76_v1 v1) fun y1 =>
 .no))) (
 .bd (FH66 y0.2.1) fun y2 =>
 .br (!(aO .str y2.2.1 v1)) (
 .br (!((5:Int)==(0:Int))) (
 .ret ((0:Nat),(5:Int),[],y2.1,())) (
 .br (!((0:Int)==(1:Int))) (
 .ret ((0:Nat),(18:Int),[],y2.1,())) (
 .bd (FH76_v1 v1) fun y3 =>
 .no))) (
 .br (!((0:Int)==(0:Int))) (
 .ret ((0:Nat),(0:Int),[],y2.1,())) (
 .br (!((az .str ((bs []),(0:Int),(bs []),(bs []),(0:Int)) y2.2.1 v1).2.1==(1:Int))) (
 .ret ((0:Nat),(18:Int),[],y2.1,())) (
 .bd (FH76fix v1 y2.2.1 y2.2.2.1 y2.2.2.2.1 y2.2.2.2.2.1) fun y4 =>
 .ret (y4.1,(0:Int),y4.2.1,y2.1,())))))
theorem TF:cw prog f33=some ⟨27,2,Wv.er,[.t 4,.t 5],[some (.list .str),some tI]⟩:=by kernel_rfl
noncomputable def ht33:Ht:=⟨33,pH33,qH33,(fun x=>ah (FH33 x.1 x.2.1))⟩
theorem TG:ht33.Ok prog:=bG mixed O9 rfl func33 TF (enters_of func33 rfl rfl) Wv (by kernel_rfl) rfl rfl ⟨_,rfl⟩ rfl (pre:=[0,1]) rfl (fun x=>by kernel_rfl)

/- 40, lent -/
@[reducible] def pH40:ax:=ax.mk [(0,.c (.ptr 0 0)),(1,.c (.hole .str)),(2,hI)] [(0,.cells [.mp 1] false),(1,.map tG true .bool false)] [.slot 0,.cell 0 0] []
@[reducible] def qH40:ax:=ax.mk [(0,.c (.hole .bool))] [(0,.cells [.mp 1] false),(1,.map tG true .bool false)] [] []
noncomputable def adM:Cx:=(aL [] [ht32])
theorem Pa:adM.Ok prog:=av trivial ⟨⟨TB,rfl⟩,trivial⟩
noncomputable def Ww:D prog 22 none 2:=dO [] (kd prog f40) 0
noncomputable def FH40 (v1:ByteArray) (v2:Int) (m1:List ((GG)×Bool)):bJ (Bool×(List ((GG)×Bool))×Unit) :=
 .bd (FH32 v1 m1) fun y0 =>
 .br (y0.2.1==(0:Int)) (
 .ret ((y0.1==v2),y0.2.2.1,())) (
 .ret (false,y0.2.2.1,()))
theorem TH:cw prog f40=some ⟨22,3,Ww.er,[.t 6],[some .bool]⟩:=by kernel_rfl
noncomputable def ht40:Ht:=⟨40,pH40,qH40,(fun x=>ah (FH40 x.1 x.2.1 x.2.2.1))⟩
theorem TI:ht40.Ok prog:=bG mixed Pa rfl func40 TH (enters_of func40 rfl rfl) Ww (by kernel_rfl) rfl rfl ⟨_,rfl⟩ rfl (pre:=[0,1]) rfl (fun x=>by kernel_rfl)

/- 100, lent -/
@[reducible] def adO:ax:=ax.mk [(0,.c (.mp 0)),(1,hI)] [(0,.map tI false .unit true)] [.slot 0] []
@[reducible] def adP:ax:=ax.mk [(0,.c .any)] [(0,.map tI false .unit true)] [] []
noncomputable def ZE:Cx:=(aL [] [])
theorem KY:ZE.Ok prog:=av trivial trivial
noncomputable def Pb:D prog 7 none 1:=dO [] (kd prog f100) 0
noncomputable def FH100 (v1:Int) (m0:List (Int×Unit)):bJ ((List (Int×Unit))×Unit) :=
 .ret ((bg (.int .i64) m0 v1 ()),())
theorem Pc:cw prog f100=some ⟨7,2,Pb.er,[],[]⟩:=by kernel_rfl
noncomputable def Pe:Ht:=⟨100,adO,adP,(fun x=>ah (FH100 x.1 x.2.1))⟩
theorem Ey:Pe.Ok prog:=bG mixed KY rfl func100 Pc (enters_of func100 rfl rfl) Pb (by kernel_rfl) rfl rfl ⟨_,rfl⟩ rfl (pre:=[0]) rfl (fun x=>by kernel_rfl)

/- 79, lent -/
@[reducible] def pH79:ax:=ax.mk [(0,.c (.ptr 0 0))] [(0,.cells [.mp 1,.mp 2,.mp 3,.mp 4] false),(1,.map .str false tG true),(2,.map .str false (.list .str) false),(3,.map .str false .bool false),(4,.map .str false .bool false)] [.slot 0,.cell 0 0,.cell 0 1,.cell 0 2,.cell 0 3] []
@[reducible] def qH79:ax:=ax.mk [(0,.fn 106 [] [.ptr 5 0])] [(5,.cells [.ptr 0 0] false),(0,.cells [.mp 1,.mp 2,.mp 3,.mp 4] false),(1,.map .str false tG true),(2,.map .str false (.list .str) false),(3,.map .str false .bool false),(4,.map .str false .bool false)] [.part 0 0] []
noncomputable def adQ:Cx:=(aL [] [])
theorem Pf:adQ.Ok prog:=av trivial trivial
noncomputable def Wx:D prog 4 none 5:=dO [] (kd prog f79) 0
noncomputable def FH79 (m1:cL) (m2:cN) (m3:aW) (m4:aW):bJ (cL×cN×aW×aW×Unit) :=
 .ret (m1,m2,m3,m4,())
theorem TJ:cw prog f79=some ⟨4,1,Wx.er,[.t 2],[none]⟩:=by kernel_rfl
noncomputable def TK:Ht:=⟨79,pH79,qH79,(fun x=>ah (FH79 x.1 x.2.1 x.2.2.1 x.2.2.2.1))⟩
theorem BW:TK.Ok prog:=bG mixed Pf rfl func79 TJ (enters_of func79 rfl rfl) Wx (by kernel_rfl) rfl rfl ⟨_,rfl⟩ rfl (pre:=[0,1,2,3,4]) rfl (fun x=>by kernel_rfl)

/- 68 -/
noncomputable def cx68:Cx:=(aL [] [])
theorem TL:cx68.Ok prog:=av trivial trivial
noncomputable def dd68:D prog 10 none 0:=dO [] (kd prog f68) 0
noncomputable def F68 (a0:GG) (a1:ByteArray):bJ (Int×Unit) :=
 .br (!(seq a0.2.2.2.1 a1)) (
 .ret ((0:Int),())) (
 .ret (a0.2.2.2.2,()))
theorem ZF:cw prog f68=some ⟨10,2,dd68.er,[.t 3],[some tI]⟩:=by kernel_rfl
noncomputable def ct68:Ct:=⟨68,[.c (.hole tG),.c (.fu .str)],hI,fun x=>ah (F68 x.1 x.2.1)⟩
theorem TM:ct68.Ok prog:=cB mixed TL func68 ZF (enters_of func68 rfl rfl) dd68 (by kernel_rfl) rfl (fun x=>by kernel_rfl)

/- 120, lent -/
@[reducible] def adT:ax:=ax.mk [(0,.c (.mp 0))] [(0,.map tI false .unit true)] [.slot 0] []
@[reducible] def adU:ax:=ax.mk [(0,.fn 132 [] [.ptr 1 0])] [(1,.cells [.mp 0] false),(0,.map tI false .unit true)] [.part 0 0] []
noncomputable def ZG:Cx:=(aL [] [])
theorem KZ:ZG.Ok prog:=av trivial trivial
noncomputable def Pg:D prog 4 none 1:=dO [] (kd prog f120) 0
noncomputable def FH120 (m0:List (Int×Unit)):bJ ((List (Int×Unit))×Unit) :=
 .ret (m0,())
theorem Ph:cw prog f120=some ⟨4,1,Pg.er,[.t 2],[none]⟩:=by kernel_rfl
noncomputable def Wy:Ht:=⟨120,adT,adU,(fun x=>ah (FH120 x.1))⟩
theorem Pj:Wy.Ok prog:=bG mixed KZ rfl func120 Ph (enters_of func120 rfl rfl) Pg (by kernel_rfl) rfl rfl ⟨_,rfl⟩ rfl (pre:=[0]) rfl (fun x=>by kernel_rfl)

/- 101, lent -/
@[reducible] def adV:ax:=ax.mk [(0,.c (.mp 0))] [(0,.map tI false .unit true)] [.slot 0] []
@[reducible] def adW:ax:=ax.mk [(0,.fn 132 [] [.ptr 1 0])] [(1,.cells [.mp 0] false),(0,.map tI false .unit true)] [.part 0 0] []
noncomputable def ZH:Cx:=(aL [] [Wy])
theorem K0:ZH.Ok prog:=av trivial ⟨⟨Pj,rfl⟩,trivial⟩
noncomputable def Pk:D prog 5 none 1:=dO [] (kd prog f101) 0
noncomputable def FH101 (m0:List (Int×Unit)):bJ ((List (Int×Unit))×Unit) :=
 .bd (FH120 m0) fun y0 =>
 .ret (y0.1,())
theorem Pm:cw prog f101=some ⟨5,1,Pk.er,[.t 2],[none]⟩:=by kernel_rfl
noncomputable def Pn:Ht:=⟨101,adV,adW,(fun x=>ah (FH101 x.1))⟩
theorem Ez:Pn.Ok prog:=bG mixed K0 rfl func101 Pm (enters_of func101 rfl rfl) Pk (by kernel_rfl) rfl rfl ⟨_,rfl⟩ rfl (pre:=[0]) rfl (fun x=>by kernel_rfl)

/- 122, by hand -/
@[reducible] def adX:ax:=ax.mk [(0,.c (.bN 0 tI))] [(0,.arr tI false)] [.slot 0] []
@[reducible] def adY:ax:=ax.mk [(0,.c .any)] [(0,.arr tI false)] [] []
noncomputable def FH122 (nc:Nat) (b0:List Int):bJ (List Int×Unit) :=
 .of (uR (.int .i64) b0 nc)
noncomputable def Po:Ht:=⟨122,adX,adY,(fun x=>ah (FH122 x.1 x.2.1))⟩
theorem Pp:Po.Ok prog:=fun x y h=>NQ (ρ:=xI) Yu (enters_of func122 rfl rfl) (xs:=x.2.1) (n:=x.1) (y:=y) h

/- 102, lent -/
@[reducible] def adZ:ax:=ax.mk [(0,.fn 132 [] [.ptr 0 0])] [(0,.cells [.mp 1] false),(1,.map tI false .unit true)] [.part 0 0,.cell 0 0] []
@[reducible] def ad0:ax:=ax.mk [(0,.c (.bN 2 tI))] [(2,.arr tI false),(0,.cells [.mp 1] false),(1,.map tI false .unit true)] [.slot 0] []
noncomputable def r9:Cx:=(aL [] [Po])
theorem ow:r9.Ok prog:=av (vp:=[]) (hts:=[Po]) trivial ⟨⟨Pp,rfl⟩,trivial⟩
noncomputable def l6:D prog 13 (some 4) 7:=dO [] (pick (kd prog f133) [(0,false)]) 0
noncomputable def l7:D prog 13 (some 4) 7:=dO [] (pick (kd prog f133) [(0,true)]) 0
noncomputable def gV:Cx:=yY r9 (fun kz=>NG kz r9 dN 4 7 [7] (l6) (l7))
theorem jc:(gV).Ok prog:=jH ow (fun h=>mV mixed ow h)
@[reducible] def qw:ax:=ax.mk [(0,.c (.yl 4)),(4,.c (.mp 1))] [(4,.loop .ready none 3 [(2,.c (.ptr 2 0)),(4,.c .bX),(6,.fn 132 [] [.ptr 0 0])] [7] (.aV [.op (some 5) none (.mv (.t 7))]) (.block 1 (.aV [.op (some 8) none (.load false 1 (.t 2)),.op (some 9) none (.mv (.t 5)),.op (some 10) none (.dS tI [.t 9]),.op (some 11) none (.append 1 (.t 8) (.t 10)),.op none none (.store 1 (.t 2) (.t 11))])) 13),(1,.map tI false .unit true),(3,.ig),(2,.cells [.bN 5 tI] false),(0,.cells [.mp 1] false),(5,.arr tI false)] [.cell 2 0] []
noncomputable def qx:D prog 14 none 7:=dO [] (pick (kd prog f132) [(0,false)]) 0
noncomputable def gH102f121f133_0i_0:((Int)×(Unit))→(List (Int×Unit))×Nat×List Int×Unit→bJ ((List (Int×Unit))×Nat×List Int×Unit):=fun e (m1,ku,b5,_) =>
 .nd (decide ((ku+(((((e.1::[])).drop (0:Nat)).take (1:Nat))).length)<bI)) <|
 .nd (jy m1 m1) <|
 .ret (m1,(ku+(((((e.1::[])).drop (0:Nat)).take (1:Nat))).length),((((b5).drop (0:Nat)).take ku)++((((e.1::[])).drop (0:Nat)).take (1:Nat))),())
noncomputable def qy:rz prog 14 none 5:=vu mixed gV jc [0,1,2,3,4] rfl qw ( [.op (some 4) none (.load false 1 (.t 1))]) 4 5 [6,7] (some 8) ( .int .i64)  false ( .unit)  true 0 rfl 7 rfl (qx) (fun e x=>ah (gH102f121f133_0i_0 e x)) (fun e=>fun x=>by kernel_rfl)
@[reducible] def uU:ax:=ax.mk [(2,.c (.ptr 2 0)),(4,.c .bX),(6,.fn 132 [] [.ptr 0 0])] [(2,.cells [.bX] false),(0,.cells [.mp 1] false),(1,.map tI false .unit true)] [.slot 2] []
@[reducible] def uV:aT:=[(.normal,ax.mk [(2,.c (.ptr 2 0))] [(2,.cells [.bN 3 tI] false),(0,.cells [.mp 1] false),(1,.map tI false .unit true),(3,.arr tI false)] [.slot 2,.cell 2 0] [])]
noncomputable def l8:D prog 14 none 5:=dO [.m qy] (kd prog f132) 0
theorem tH:cw prog f132=some ⟨14,2,(l8).er,[],[]⟩:=by kernel_rfl
noncomputable def nI:gr prog 13 none 2:=rM mixed gV jc [0,1] rfl uU uV ( .t 6) [7] rfl (l6).er (l7).er 132 func132 (tH) (enters_of func132 rfl rfl) 5 rfl (l8) rfl
@[reducible] noncomputable def Pq:Go.AM.Fn:=⟨13,2,(dO [.r nI] (kd prog f133) 0:D prog 13 none 2).er,[.t 4],[some tL]⟩
noncomputable def EA:Cx:=Al prog r9 133 Pq 2 (dO [.r nI] (kd prog f133) 0)
theorem EB:EA.Ok prog:=rL mixed ow func133 (by kernel_rfl) (enters_of func133 rfl rfl) rfl
@[reducible] noncomputable def Pr:Go.AM.Fn:=⟨5,1,(dO [] (kd prog f121) 0:D prog 5 none 0).er,[.t 2],[some tL]⟩
noncomputable def EC:Cx:=DW prog EA 121 Pr (fun _=>dO [] (kd prog f121) 0)
theorem ED:EC.Ok prog:=oW mixed EB func121 (by kernel_rfl) (enters_of func121 rfl rfl) (fun _=>by kernel_rfl)
noncomputable def ZI:Cx:=EC
theorem K1:ZI.Ok prog:=ED
noncomputable def Pt:D prog 9 none 2:=dO [] (kd prog f102) 0
noncomputable def FH102 (m1:List (Int×Unit)):bJ (Nat×List Int×(List (Int×Unit))×Unit) :=
 .an m1 fun l0 =>
 .bd (.fm gH102f121f133_0i_0 l0 (m1,(0:Nat),[],())) fun z1 =>
 .bd (FH122 z1.2.1 z1.2.2.1) fun y2 =>
 .ret (z1.2.1,y2.1,z1.1,())
theorem Pu:cw prog f102=some ⟨9,1,Pt.er,[.t 2],[some tL]⟩:=by kernel_rfl
noncomputable def Pv:Ht:=⟨102,adZ,ad0,(fun x=>ah (FH102 x.1))⟩
theorem EF:Pv.Ok prog:=bG mixed K1 rfl func102 Pu (enters_of func102 rfl rfl) Pt (by kernel_rfl) rfl rfl ⟨_,rfl⟩ rfl (pre:=[0,1]) rfl (fun x=>by kernel_rfl)

/- 67, lent -/
@[reducible] def pH67:ax:=ax.mk [(0,.c (.ptr 0 0)),(1,.fn 68 [] [.ptr 1 0])] [(0,.cells [.mp 2,.mp 3,.mp 4,.mp 5] false),(1,.cells [.hole .str] false),(2,.map .str false tG true),(3,.map .str false (.list .str) false),(4,.map .str false .bool false),(5,.map .str false .bool false)] [.slot 0,.part 1 0,.cell 0 0,.cell 0 1,.cell 0 2,.cell 0 3] []
@[reducible] def qH67:ax:=ax.mk [(0,.c (.bN 6 tI))] [(6,.arr tI false),(0,.cells [.mp 2,.mp 3,.mp 4,.mp 5] false),(2,.map .str false tG true),(3,.map .str false (.list .str) false),(4,.map .str false .bool false),(5,.map .str false .bool false),(1,.cells [.hole .str] false)] [.slot 0] []
noncomputable def Aw:Cx:=(aL [ct68] [Pe,TK,OB,OD,GK,Pn,Pv])
theorem l9:Aw.Ok prog:=av ⟨TM,trivial⟩ ⟨⟨Ey,rfl⟩,⟨BW,rfl⟩,⟨vE,rfl⟩,⟨vG,rfl⟩,⟨r8,rfl⟩,⟨Ez,rfl⟩,⟨EF,rfl⟩,trivial⟩
noncomputable def xU:D prog 48 (some 26) 29:=dO [] (pick (kd prog f67) [(0,true),(0,false),(0,false)]) 0
noncomputable def xV:D prog 48 (some 26) 29:=dO [] (pick (kd prog f67) [(0,true),(0,false),(0,true)]) 0
noncomputable def ox:Cx:=yY Aw (fun kz=>NG kz Aw dN 26 29 [37] (xU) (xV))
theorem oy:(ox).Ok prog:=jH l9 (fun h=>mV mixed l9 h)
@[reducible] def BX:ax:=ax.mk [(0,.c (.yl 26)),(4,.c (.mp 24))] [(26,.loop .ready none 11 [(2,.c (.ptr 6 0)),(3,.c (.ptr 7 0)),(5,.c (.ptr 8 0)),(8,.c (.ptr 21 0)),(11,.c (.ptr 22 0)),(21,.c (.bN 20 .str)),(22,hI),(23,hI),(36,.fn 132 [] [.ptr 23 0])] [37] (.aV [.op (some 12) none (.mv (.t 37))]) (.block 5 (.aV [.op (some 38) none (.load false 1 (.t 8)),.op (some 39) none (.mv (.t 12)),.op (some 40) none (.load false 1 (.t 11)),.op (some 41) none (.bin .add (.t 39) (.t 40)),.call (some 42) none (.c (.fn 100 [] [])) [.t 38,.t 41] [none,some tI]])) 48),(24,.map tI false .unit true),(11,.ig),(6,.cells [.ptr 0 0] false),(0,.cells [.mp 2,.mp 3,.mp 4,.mp 5] false),(2,.map .str false tG true),(3,.map .str false (.list .str) false),(4,.map .str false .bool false),(5,.map .str false .bool false),(7,.cells [.fn 68 .nil (.cons (.ptr 1 0) .nil)] false),(1,.cells [.hole .str] false),(8,.cells [.mp 24] false),(21,.cells [.mp 27] false),(22,.cells [.hole tI] false),(20,.arr .str false),(23,.cells [.mp 24] false),(9,.cells [.ptr 0 0] false),(12,.loop .busy none 11 [(2,.c (.ptr 6 0)),(3,.c (.ptr 7 0)),(4,.c .bX),(5,.c (.ptr 8 0)),(17,.fn 106 [] [.ptr 9 0])] [18,19] (.aV [.op (some 7) none (.mv (.t 19))]) (.block 1 (.seq (.aV [.op (some 20) none (.ex (gA.iR tI false .unit true) []),.op (some 8) none (.alloc [.cD]),.op none none (.store 1 (.t 8) (.t 20))]) (.seq (.seq (.aV [.op (some 21) none (.mv (.t 7)),.op (some 22) none (.len (.t 21)),.op (some 23) none (.mv (.c (.int .i64 (Int.ofNat 0))))]) (.block 2 (.loop (.seq (.aV [.op (some 24) none (.bin .lss (.t 23) (.t 22))]) (.seq (.cond (.t 24) .skip (.exit 2)) (.seq (.block 3 (.seq (.aV [.op (some 25) none (.idx 1 (.t 21) (.t 23)),.op (some 26) none (.load false 1 (.t 25)),.op (some 10) none (.mv (.t 26))]) (.seq (.draw [[],[],[1],[1,2],[1,2,3],[],[1,2,3,4,5],[0,1,2,3,4,5,6],[],[0,1,2,3,4,5,6,7,8]] [.op (some 27) none (.load false 1 (.t 3)),.op (some 28) none (.load false 1 (.t 2)),.op (some 29) none (.ex gA.iQ [.t 28]),.op (some 30) none (.mD 0 [false] (.t 29)),.op (some 31) none (.load false 1 (.t 30)),.op (some 32) none (.mv (.t 10)),.op (some 33) none (.ex (gA.gh .str false tG true false) [.t 31,.t 32]),.call (some 34) none (.t 27) [.t 33] [some tG],.op (some 11) none (.alloc [.int .i64 (Int.ofNat 0)]),.op none none (.store 1 (.t 11) (.t 34))]) (.seq (.aV [.op (some 35) none (.load false 1 (.t 5)),.call (some 36) none (.c (.fn 101 [] [])) [.t 35] [none]]) (.block 4 (.bH (.t 36) [37] (.aV [.op (some 12) none (.mv (.t 37))]) (.block 5 (.aV [.op (some 38) none (.load false 1 (.t 8)),.op (some 39) none (.mv (.t 12)),.op (some 40) none (.load false 1 (.t 11)),.op (some 41) none (.bin .add (.t 39) (.t 40)),.call (some 42) none (.c (.fn 100 [] [])) [.t 38,.t 41] [none,some tI]])))))))) (.aV [.op (some 43) none (.bin .add (.t 23) (.c (.int .i64 (Int.ofNat 1)))),.op (some 23) none (.mv (.t 43))]))))))) (.aV [.op (some 44) none (.load false 1 (.t 8)),.op none none (.store 1 (.t 5) (.t 44))])))) 48),(13,.arr .str false),(27,.map tI false .unit true)] [.cell 21 0] []
noncomputable def B3:D prog 14 none 29:=dO [] (pick (kd prog f132) [(0,false)]) 0
noncomputable def gH67_0b_2i_0:((Int)×(Unit))→Nat×Int×Int×(List (Int×Unit))×cL×cN×aW×aW×ByteArray×Int×List ByteArray×List ByteArray×(List (Int×Unit))×Unit→bJ (Nat×Int×Int×(List (Int×Unit))×cL×cN×aW×aW×ByteArray×Int×List ByteArray×List ByteArray×(List (Int×Unit))×Unit):=fun e (ZJ,w22,w23,m24,m2,m3,m4,m5,qz,EG,pE,jd,m27,_) =>
 .ni (e.1+EG) <|
 .bd (FH100 (e.1+EG) m27) fun y7 =>
 .nd (jy m24 m24) <|
 .ret (ZJ,w22,w23,m24,m2,m3,m4,m5,qz,EG,pE,jd,y7.1,())
noncomputable def B4:rz prog 14 none 27:=BN mixed ox oy [0,1,2,3,4,5,6,7,8,9,10,11,12,13,14,15,16,17,18,19,20,21,22,23,24,25,26] rfl BX ( [.op (some 4) none (.load false 1 (.t 1))]) 4 5 [6,7] (some 8) ( .int .i64)  false ( .unit)  true 0 rfl 29 rfl (B3) (fun e x=>ah (gH67_0b_2i_0 e x)) (fun e=>fun x=>by kernel_rfl)
@[reducible] def K2:ax:=ax.mk [(2,.c (.ptr 6 0)),(3,.c (.ptr 7 0)),(5,.c (.ptr 8 0)),(8,.c (.ptr 21 0)),(11,.c (.ptr 22 0)),(21,.c (.bN 20 .str)),(22,hI),(23,hI),(36,.fn 132 [] [.ptr 23 0])] [(6,.cells [.ptr 0 0] false),(7,.cells [.fn 68 .nil (.cons (.ptr 1 0) .nil)] false),(8,.cells [.mp 24] false),(21,.cells [.mp 25] false),(22,.cells [.hole tI] false),(20,.arr .str false),(23,.cells [.mp 24] false),(0,.cells [.mp 2,.mp 3,.mp 4,.mp 5] false),(2,.map .str false tG true),(3,.map .str false (.list .str) false),(4,.map .str false .bool false),(5,.map .str false .bool false),(1,.cells [.hole .str] false),(9,.cells [.ptr 0 0] false),(11,.ig),(12,.loop .busy none 11 [(2,.c (.ptr 6 0)),(3,.c (.ptr 7 0)),(4,.c .bX),(5,.c (.ptr 8 0)),(17,.fn 106 [] [.ptr 9 0])] [18,19] (.aV [.op (some 7) none (.mv (.t 19))]) (.block 1 (.seq (.aV [.op (some 20) none (.ex (gA.iR tI false .unit true) []),.op (some 8) none (.alloc [.cD]),.op none none (.store 1 (.t 8) (.t 20))]) (.seq (.seq (.aV [.op (some 21) none (.mv (.t 7)),.op (some 22) none (.len (.t 21)),.op (some 23) none (.mv (.c (.int .i64 (Int.ofNat 0))))]) (.block 2 (.loop (.seq (.aV [.op (some 24) none (.bin .lss (.t 23) (.t 22))]) (.seq (.cond (.t 24) .skip (.exit 2)) (.seq (.block 3 (.seq (.aV [.op (some 25) none (.idx 1 (.t 21) (.t 23)),.op (some 26) none (.load false 1 (.t 25)),.op (some 10) none (.mv (.t 26))]) (.seq (.draw [[],[],[1],[1,2],[1,2,3],[],[1,2,3,4,5],[0,1,2,3,4,5,6],[],[0,1,2,3,4,5,6,7,8]] [.op (some 27) none (.load false 1 (.t 3)),.op (some 28) none (.load false 1 (.t 2)),.op (some 29) none (.ex gA.iQ [.t 28]),.op (some 30) none (.mD 0 [false] (.t 29)),.op (some 31) none (.load false 1 (.t 30)),.op (some 32) none (.mv (.t 10)),.op (some 33) none (.ex (gA.gh .str false tG true false) [.t 31,.t 32]),.call (some 34) none (.t 27) [.t 33] [some tG],.op (some 11) none (.alloc [.int .i64 (Int.ofNat 0)]),.op none none (.store 1 (.t 11) (.t 34))]) (.seq (.aV [.op (some 35) none (.load false 1 (.t 5)),.call (some 36) none (.c (.fn 101 [] [])) [.t 35] [none]]) (.block 4 (.bH (.t 36) [37] (.aV [.op (some 12) none (.mv (.t 37))]) (.block 5 (.aV [.op (some 38) none (.load false 1 (.t 8)),.op (some 39) none (.mv (.t 12)),.op (some 40) none (.load false 1 (.t 11)),.op (some 41) none (.bin .add (.t 39) (.t 40)),.call (some 42) none (.c (.fn 100 [] [])) [.t 38,.t 41] [none,some tI]])))))))) (.aV [.op (some 43) none (.bin .add (.t 23) (.c (.int .i64 (Int.ofNat 1)))),.op (some 23) none (.mv (.t 43))]))))))) (.aV [.op (some 44) none (.load false 1 (.t 8)),.op none none (.store 1 (.t 5) (.t 44))])))) 48),(13,.arr .str false),(24,.map tI false .unit true),(25,.map tI false .unit true)] [.slot 8,.slot 11,.part 36 0,.cell 8 0,.cell 21 0] []
@[reducible] def K3:aT:=[(.normal,ax.mk [(2,.c (.ptr 6 0)),(3,.c (.ptr 7 0)),(5,.c (.ptr 8 0)),(8,.c (.ptr 21 0)),(21,.c (.bN 20 .str)),(22,hI),(23,hI)] [(6,.cells [.ptr 0 0] false),(7,.cells [.fn 68 .nil (.cons (.ptr 1 0) .nil)] false),(8,.cells [.mp 22] false),(21,.cells [.mp 23] false),(20,.arr .str false),(0,.cells [.mp 2,.mp 3,.mp 4,.mp 5] false),(2,.map .str false tG true),(3,.map .str false (.list .str) false),(4,.map .str false .bool false),(5,.map .str false .bool false),(1,.cells [.hole .str] false),(9,.cells [.ptr 0 0] false),(11,.ig),(12,.loop .busy none 11 [(2,.c (.ptr 6 0)),(3,.c (.ptr 7 0)),(4,.c .bX),(5,.c (.ptr 8 0)),(17,.fn 106 [] [.ptr 9 0])] [18,19] (.aV [.op (some 7) none (.mv (.t 19))]) (.block 1 (.seq (.aV [.op (some 20) none (.ex (gA.iR tI false .unit true) []),.op (some 8) none (.alloc [.cD]),.op none none (.store 1 (.t 8) (.t 20))]) (.seq (.seq (.aV [.op (some 21) none (.mv (.t 7)),.op (some 22) none (.len (.t 21)),.op (some 23) none (.mv (.c (.int .i64 (Int.ofNat 0))))]) (.block 2 (.loop (.seq (.aV [.op (some 24) none (.bin .lss (.t 23) (.t 22))]) (.seq (.cond (.t 24) .skip (.exit 2)) (.seq (.block 3 (.seq (.aV [.op (some 25) none (.idx 1 (.t 21) (.t 23)),.op (some 26) none (.load false 1 (.t 25)),.op (some 10) none (.mv (.t 26))]) (.seq (.draw [[],[],[1],[1,2],[1,2,3],[],[1,2,3,4,5],[0,1,2,3,4,5,6],[],[0,1,2,3,4,5,6,7,8]] [.op (some 27) none (.load false 1 (.t 3)),.op (some 28) none (.load false 1 (.t 2)),.op (some 29) none (.ex gA.iQ [.t 28]),.op (some 30) none (.mD 0 [false] (.t 29)),.op (some 31) none (.load false 1 (.t 30)),.op (some 32) none (.mv (.t 10)),.op (some 33) none (.ex (gA.gh .str false tG true false) [.t 31,.t 32]),.call (some 34) none (.t 27) [.t 33] [some tG],.op (some 11) none (.alloc [.int .i64 (Int.ofNat 0)]),.op none none (.store 1 (.t 11) (.t 34))]) (.seq (.aV [.op (some 35) none (.load false 1 (.t 5)),.call (some 36) none (.c (.fn 101 [] [])) [.t 35] [none]]) (.block 4 (.bH (.t 36) [37] (.aV [.op (some 12) none (.mv (.t 37))]) (.block 5 (.aV [.op (some 38) none (.load false 1 (.t 8)),.op (some 39) none (.mv (.t 12)),.op (some 40) none (.load false 1 (.t 11)),.op (some 41) none (.bin .add (.t 39) (.t 40)),.call (some 42) none (.c (.fn 100 [] [])) [.t 38,.t 41] [none,some tI]])))))))) (.aV [.op (some 43) none (.bin .add (.t 23) (.c (.int .i64 (Int.ofNat 1)))),.op (some 23) none (.mv (.t 43))]))))))) (.aV [.op (some 44) none (.load false 1 (.t 8)),.op none none (.store 1 (.t 5) (.t 44))])))) 48),(13,.arr .str false),(22,.map tI false .unit true),(23,.map tI false .unit true)] [.slot 8,.cell 8 0,.cell 21 0] [])]
noncomputable def xW:D prog 14 none 27:=dO [.m B4] (kd prog f132) 0
theorem GR:cw prog f132=some ⟨14,2,(xW).er,[],[]⟩:=by kernel_rfl
noncomputable def gH67_0b_2:Nat×Int×Int×Int×List ByteArray×cL×cN×aW×aW×ByteArray×List ByteArray×(List (Int×Unit))×(List (Int×Unit))×Unit→bJ ((Nat×Int×Int×List ByteArray×cL×cN×aW×aW×ByteArray×List ByteArray×(List (Int×Unit))×(List (Int×Unit))×Unit)):=fun (xX,v22,v23,EG,pE,m2,m3,m4,m5,qz,jd,m24,m25,_) =>
 .bd (.mq gH67_0b_2i_0 m24 (xX,v22,v23,m24,m2,m3,m4,m5,qz,EG,pE,jd,m25,())) fun z8 =>
 .ret ((xX,v22,v23,z8.2.2.2.2.2.2.2.2.2.2.1,z8.2.2.2.2.1,z8.2.2.2.2.2.1,z8.2.2.2.2.2.2.1,z8.2.2.2.2.2.2.2.1,z8.2.2.2.2.2.2.2.2.1,z8.2.2.2.2.2.2.2.2.2.2.2.1,z8.2.2.2.1,z8.2.2.2.2.2.2.2.2.2.2.2.2.1,()))
noncomputable def K4:gr prog 48 (some 12) 21:=rI mixed ox oy [0,1,2,3,4,5,6,7,8,9,10,11,12,13,14,15,16,17,18,19,20] rfl K2 K3 ( .t 36) [37] rfl (xU).er (xV).er 132 func132 (GR) (enters_of func132 rfl rfl) 27 rfl (xW) rfl (fun x=>ah (gH67_0b_2 x)) (fun x=>by kernel_rfl)
@[reducible] def K5:ax:=ax.mk [(2,.c (.ptr 6 0)),(3,.c (.ptr 7 0)),(5,.c (.ptr 8 0)),(8,.c (.ptr 21 0)),(21,.c (.bN 20 .str)),(22,hI),(23,hI)] [(6,.cells [.ptr 0 0] false),(7,.cells [.fn 68 .nil (.cons (.ptr 1 0) .nil)] false),(8,.cells [.mp 22] false),(21,.cells [.mp 23] false),(20,.arr .str false),(0,.cells [.mp 2,.mp 3,.mp 4,.mp 5] false),(2,.map .str false tG true),(3,.map .str false (.list .str) false),(4,.map .str false .bool false),(5,.map .str false .bool false),(1,.cells [.hole .str] false),(9,.cells [.ptr 0 0] false),(11,.ig),(12,.loop .busy none 11 [(2,.c (.ptr 6 0)),(3,.c (.ptr 7 0)),(4,.c .bX),(5,.c (.ptr 8 0)),(17,.fn 106 [] [.ptr 9 0])] [18,19] (.aV [.op (some 7) none (.mv (.t 19))]) (.block 1 (.seq (.aV [.op (some 20) none (.ex (gA.iR tI false .unit true) []),.op (some 8) none (.alloc [.cD]),.op none none (.store 1 (.t 8) (.t 20))]) (.seq (.seq (.aV [.op (some 21) none (.mv (.t 7)),.op (some 22) none (.len (.t 21)),.op (some 23) none (.mv (.c (.int .i64 (Int.ofNat 0))))]) (.block 2 (.loop (.seq (.aV [.op (some 24) none (.bin .lss (.t 23) (.t 22))]) (.seq (.cond (.t 24) .skip (.exit 2)) (.seq (.block 3 (.seq (.aV [.op (some 25) none (.idx 1 (.t 21) (.t 23)),.op (some 26) none (.load false 1 (.t 25)),.op (some 10) none (.mv (.t 26))]) (.seq (.draw [[],[],[1],[1,2],[1,2,3],[],[1,2,3,4,5],[0,1,2,3,4,5,6],[],[0,1,2,3,4,5,6,7,8]] [.op (some 27) none (.load false 1 (.t 3)),.op (some 28) none (.load false 1 (.t 2)),.op (some 29) none (.ex gA.iQ [.t 28]),.op (some 30) none (.mD 0 [false] (.t 29)),.op (some 31) none (.load false 1 (.t 30)),.op (some 32) none (.mv (.t 10)),.op (some 33) none (.ex (gA.gh .str false tG true false) [.t 31,.t 32]),.call (some 34) none (.t 27) [.t 33] [some tG],.op (some 11) none (.alloc [.int .i64 (Int.ofNat 0)]),.op none none (.store 1 (.t 11) (.t 34))]) (.seq (.aV [.op (some 35) none (.load false 1 (.t 5)),.call (some 36) none (.c (.fn 101 [] [])) [.t 35] [none]]) (.block 4 (.bH (.t 36) [37] (.aV [.op (some 12) none (.mv (.t 37))]) (.block 5 (.aV [.op (some 38) none (.load false 1 (.t 8)),.op (some 39) none (.mv (.t 12)),.op (some 40) none (.load false 1 (.t 11)),.op (some 41) none (.bin .add (.t 39) (.t 40)),.call (some 42) none (.c (.fn 100 [] [])) [.t 38,.t 41] [none,some tI]])))))))) (.aV [.op (some 43) none (.bin .add (.t 23) (.c (.int .i64 (Int.ofNat 1)))),.op (some 23) none (.mv (.t 43))]))))))) (.aV [.op (some 44) none (.load false 1 (.t 8)),.op none none (.store 1 (.t 5) (.t 44))])))) 48),(13,.arr .str false),(22,.map tI false .unit true),(23,.map tI false .unit true)] [.slot 8,.cell 8 0,.cell 21 0] []
@[reducible] def K6:aT:=[(.exit 2,ax.mk [(5,.c (.ptr 8 0)),(8,.c (.ptr 21 0))] [(8,.cells [.mp 22] false),(21,.cells [.mp 23] false),(0,.cells [.mp 2,.mp 3,.mp 4,.mp 5] false),(2,.map .str false tG true),(3,.map .str false (.list .str) false),(4,.map .str false .bool false),(5,.map .str false .bool false),(1,.cells [.hole .str] false),(6,.cells [.ptr 0 0] false),(7,.cells [.fn 68 .nil (.cons (.ptr 1 0) .nil)] false),(9,.cells [.ptr 0 0] false),(11,.ig),(12,.loop .busy none 11 [(2,.c (.ptr 6 0)),(3,.c (.ptr 7 0)),(4,.c .bX),(5,.c (.ptr 8 0)),(17,.fn 106 [] [.ptr 9 0])] [18,19] (.aV [.op (some 7) none (.mv (.t 19))]) (.block 1 (.seq (.aV [.op (some 20) none (.ex (gA.iR tI false .unit true) []),.op (some 8) none (.alloc [.cD]),.op none none (.store 1 (.t 8) (.t 20))]) (.seq (.seq (.aV [.op (some 21) none (.mv (.t 7)),.op (some 22) none (.len (.t 21)),.op (some 23) none (.mv (.c (.int .i64 (Int.ofNat 0))))]) (.block 2 (.loop (.seq (.aV [.op (some 24) none (.bin .lss (.t 23) (.t 22))]) (.seq (.cond (.t 24) .skip (.exit 2)) (.seq (.block 3 (.seq (.aV [.op (some 25) none (.idx 1 (.t 21) (.t 23)),.op (some 26) none (.load false 1 (.t 25)),.op (some 10) none (.mv (.t 26))]) (.seq (.draw [[],[],[1],[1,2],[1,2,3],[],[1,2,3,4,5],[0,1,2,3,4,5,6],[],[0,1,2,3,4,5,6,7,8]] [.op (some 27) none (.load false 1 (.t 3)),.op (some 28) none (.load false 1 (.t 2)),.op (some 29) none (.ex gA.iQ [.t 28]),.op (some 30) none (.mD 0 [false] (.t 29)),.op (some 31) none (.load false 1 (.t 30)),.op (some 32) none (.mv (.t 10)),.op (some 33) none (.ex (gA.gh .str false tG true false) [.t 31,.t 32]),.call (some 34) none (.t 27) [.t 33] [some tG],.op (some 11) none (.alloc [.int .i64 (Int.ofNat 0)]),.op none none (.store 1 (.t 11) (.t 34))]) (.seq (.aV [.op (some 35) none (.load false 1 (.t 5)),.call (some 36) none (.c (.fn 101 [] [])) [.t 35] [none]]) (.block 4 (.bH (.t 36) [37] (.aV [.op (some 12) none (.mv (.t 37))]) (.block 5 (.aV [.op (some 38) none (.load false 1 (.t 8)),.op (some 39) none (.mv (.t 12)),.op (some 40) none (.load false 1 (.t 11)),.op (some 41) none (.bin .add (.t 39) (.t 40)),.call (some 42) none (.c (.fn 100 [] [])) [.t 38,.t 41] [none,some tI]])))))))) (.aV [.op (some 43) none (.bin .add (.t 23) (.c (.int .i64 (Int.ofNat 1)))),.op (some 23) none (.mv (.t 43))]))))))) (.aV [.op (some 44) none (.load false 1 (.t 8)),.op none none (.store 1 (.t 5) (.t 44))])))) 48),(13,.arr .str false),(20,.arr .str false),(22,.map tI false .unit true),(23,.map tI false .unit true)] [.slot 8,.cell 8 0,.cell 21 0] [])]
noncomputable def K7:D prog 48 (some 12) 21:=dO [.r K4] (pick (kd prog f67) [(0,true),(0,false)]) 0
noncomputable def gH67_0b_1:Nat×Int×Int×List ByteArray×cL×cN×aW×aW×ByteArray×List ByteArray×(List (Int×Unit))×(List (Int×Unit))×Unit→bJ ((Nat×Int×Int×List ByteArray×cL×cN×aW×aW×ByteArray×List ByteArray×(List (Int×Unit))×(List (Int×Unit))×Unit) ⊕ ((cL×cN×aW×aW×ByteArray×List ByteArray×List ByteArray×(List (Int×Unit))×(List (Int×Unit))×Unit))):=fun (xX,v22,v23,pE,m2,m3,m4,m5,qz,jd,m22,m23,_) =>
 .br (decide (v23<v22)) (
 .nb v23 ((xX:Nat):Int) <|
 .nd (decide (((0:Nat)+(Int.toNat v23))<(pE).length)) <|
 .bd (F68 ((az .str ((bs []),(0:Int),(bs []),(bs []),(0:Int)) m2 ((pE).getD ((0:Nat)+(Int.toNat v23)) (bs []))).1,(az .str ((bs []),(0:Int),(bs []),(bs []),(0:Int)) m2 ((pE).getD ((0:Nat)+(Int.toNat v23)) (bs []))).2.1,(az .str ((bs []),(0:Int),(bs []),(bs []),(0:Int)) m2 ((pE).getD ((0:Nat)+(Int.toNat v23)) (bs []))).2.2.1,(az .str ((bs []),(0:Int),(bs []),(bs []),(0:Int)) m2 ((pE).getD ((0:Nat)+(Int.toNat v23)) (bs []))).2.2.2.1,(az .str ((bs []),(0:Int),(bs []),(bs []),(0:Int)) m2 ((pE).getD ((0:Nat)+(Int.toNat v23)) (bs []))).2.2.2.2) qz) fun y5 =>
 .bd (FH101 m22) fun y6 =>
 .bd (gH67_0b_2 (xX,v22,v23,y5.1,pE,m2,m3,m4,m5,qz,jd,y6.1,m23,())) fun z9 =>
 .ni (z9.2.2.1+(1:Int)) <|
 .ret (.inl (z9.1,z9.2.1,(z9.2.2.1+(1:Int)),z9.2.2.2.1,z9.2.2.2.2.1,z9.2.2.2.2.2.1,z9.2.2.2.2.2.2.1,z9.2.2.2.2.2.2.2.1,z9.2.2.2.2.2.2.2.2.1,z9.2.2.2.2.2.2.2.2.2.1,z9.2.2.2.2.2.2.2.2.2.2.1,z9.2.2.2.2.2.2.2.2.2.2.2.1,()))) (
 .ret (.inr (m2,m3,m4,m5,qz,jd,pE,m22,m23,())))
noncomputable def K8:bD prog 48 (some 12) 21:=aZ mixed Aw l9 [0,1,2,3,4,5,6,7,8,9,10,11,12,13,14,15,16,17,18,19,20] rfl K5 K6 rfl (K7) (fun x=>ah (gH67_0b_1 x)) (fun x=>by kernel_rfl)
noncomputable def I9:D prog 48 (some 12) 21:=dO [] (pick (kd prog f67) [(0,false)]) 0
noncomputable def Ja:D prog 48 (some 12) 21:=dO [.l K8] (pick (kd prog f67) [(0,true)]) 0
noncomputable def xY:Cx:=yY Aw (fun kz=>NG kz Aw dN 12 21 [18,19] (I9) (Ja))
theorem uB:(xY).Ok prog:=jH l9 (fun h=>mV mixed l9 h)
@[reducible] def K9:ax:=ax.mk [(0,.c (.yl 12)),(1,.c (.ptr 9 0)),(10,.c (.bN 13 .str)),(11,hI),(12,hI)] [(12,.loop .ready none 11 [(2,.c (.ptr 6 0)),(3,.c (.ptr 7 0)),(4,.c .bX),(5,.c (.ptr 8 0)),(17,.fn 106 [] [.ptr 9 0])] [18,19] (.aV [.op (some 7) none (.mv (.t 19))]) (.block 1 (.seq (.aV [.op (some 20) none (.ex (gA.iR tI false .unit true) []),.op (some 8) none (.alloc [.cD]),.op none none (.store 1 (.t 8) (.t 20))]) (.seq (.seq (.aV [.op (some 21) none (.mv (.t 7)),.op (some 22) none (.len (.t 21)),.op (some 23) none (.mv (.c (.int .i64 (Int.ofNat 0))))]) (.block 2 (.loop (.seq (.aV [.op (some 24) none (.bin .lss (.t 23) (.t 22))]) (.seq (.cond (.t 24) .skip (.exit 2)) (.seq (.block 3 (.seq (.aV [.op (some 25) none (.idx 1 (.t 21) (.t 23)),.op (some 26) none (.load false 1 (.t 25)),.op (some 10) none (.mv (.t 26))]) (.seq (.draw [[],[],[1],[1,2],[1,2,3],[],[1,2,3,4,5],[0,1,2,3,4,5,6],[],[0,1,2,3,4,5,6,7,8]] [.op (some 27) none (.load false 1 (.t 3)),.op (some 28) none (.load false 1 (.t 2)),.op (some 29) none (.ex gA.iQ [.t 28]),.op (some 30) none (.mD 0 [false] (.t 29)),.op (some 31) none (.load false 1 (.t 30)),.op (some 32) none (.mv (.t 10)),.op (some 33) none (.ex (gA.gh .str false tG true false) [.t 31,.t 32]),.call (some 34) none (.t 27) [.t 33] [some tG],.op (some 11) none (.alloc [.int .i64 (Int.ofNat 0)]),.op none none (.store 1 (.t 11) (.t 34))]) (.seq (.aV [.op (some 35) none (.load false 1 (.t 5)),.call (some 36) none (.c (.fn 101 [] [])) [.t 35] [none]]) (.block 4 (.bH (.t 36) [37] (.aV [.op (some 12) none (.mv (.t 37))]) (.block 5 (.aV [.op (some 38) none (.load false 1 (.t 8)),.op (some 39) none (.mv (.t 12)),.op (some 40) none (.load false 1 (.t 11)),.op (some 41) none (.bin .add (.t 39) (.t 40)),.call (some 42) none (.c (.fn 100 [] [])) [.t 38,.t 41] [none,some tI]])))))))) (.aV [.op (some 43) none (.bin .add (.t 23) (.c (.int .i64 (Int.ofNat 1)))),.op (some 23) none (.mv (.t 43))]))))))) (.aV [.op (some 44) none (.load false 1 (.t 8)),.op none none (.store 1 (.t 5) (.t 44))])))) 48),(9,.cells [.ptr 0 0] false),(13,.arr .str false),(11,.ig),(6,.cells [.ptr 0 0] false),(0,.cells [.mp 2,.mp 3,.mp 4,.mp 5] false),(2,.map .str false tG true),(3,.map .str false (.list .str) false),(4,.map .str false .bool false),(5,.map .str false .bool false),(7,.cells [.fn 68 .nil (.cons (.ptr 1 0) .nil)] false),(1,.cells [.hole .str] false),(8,.cells [.mp 14] false),(14,.map tI false .unit true)] [.slot 10,.cell 8 0] []
@[reducible] def La:aT:=[(.exit 0,ax.mk [] [(0,.cells [.mp 2,.mp 3,.mp 4,.mp 5] false),(2,.map .str false tG true),(3,.map .str false (.list .str) false),(4,.map .str false .bool false),(5,.map .str false .bool false),(1,.cells [.hole .str] false),(6,.cells [.ptr 0 0] false),(7,.cells [.fn 68 .nil (.cons (.ptr 1 0) .nil)] false),(8,.cells [.mp 13] false),(9,.cells [.ptr 0 0] false),(11,.ig),(12,.loop .ready none 11 [(2,.c (.ptr 6 0)),(3,.c (.ptr 7 0)),(4,.c .bX),(5,.c (.ptr 8 0)),(17,.fn 106 [] [.ptr 9 0])] [18,19] (.aV [.op (some 7) none (.mv (.t 19))]) (.block 1 (.seq (.aV [.op (some 20) none (.ex (gA.iR tI false .unit true) []),.op (some 8) none (.alloc [.cD]),.op none none (.store 1 (.t 8) (.t 20))]) (.seq (.seq (.aV [.op (some 21) none (.mv (.t 7)),.op (some 22) none (.len (.t 21)),.op (some 23) none (.mv (.c (.int .i64 (Int.ofNat 0))))]) (.block 2 (.loop (.seq (.aV [.op (some 24) none (.bin .lss (.t 23) (.t 22))]) (.seq (.cond (.t 24) .skip (.exit 2)) (.seq (.block 3 (.seq (.aV [.op (some 25) none (.idx 1 (.t 21) (.t 23)),.op (some 26) none (.load false 1 (.t 25)),.op (some 10) none (.mv (.t 26))]) (.seq (.draw [[],[],[1],[1,2],[1,2,3],[],[1,2,3,4,5],[0,1,2,3,4,5,6],[],[0,1,2,3,4,5,6,7,8]] [.op (some 27) none (.load false 1 (.t 3)),.op (some 28) none (.load false 1 (.t 2)),.op (some 29) none (.ex gA.iQ [.t 28]),.op (some 30) none (.mD 0 [false] (.t 29)),.op (some 31) none (.load false 1 (.t 30)),.op (some 32) none (.mv (.t 10)),.op (some 33) none (.ex (gA.gh .str false tG true false) [.t 31,.t 32]),.call (some 34) none (.t 27) [.t 33] [some tG],.op (some 11) none (.alloc [.int .i64 (Int.ofNat 0)]),.op none none (.store 1 (.t 11) (.t 34))]) (.seq (.aV [.op (some 35) none (.load false 1 (.t 5)),.call (some 36) none (.c (.fn 101 [] [])) [.t 35] [none]]) (.block 4 (.bH (.t 36) [37] (.aV [.op (some 12) none (.mv (.t 37))]) (.block 5 (.aV [.op (some 38) none (.load false 1 (.t 8)),.op (some 39) none (.mv (.t 12)),.op (some 40) none (.load false 1 (.t 11)),.op (some 41) none (.bin .add (.t 39) (.t 40)),.call (some 42) none (.c (.fn 100 [] [])) [.t 38,.t 41] [none,some tI]])))))))) (.aV [.op (some 43) none (.bin .add (.t 23) (.c (.int .i64 (Int.ofNat 1)))),.op (some 23) none (.mv (.t 43))]))))))) (.aV [.op (some 44) none (.load false 1 (.t 8)),.op none none (.store 1 (.t 5) (.t 44))])))) 48),(13,.map tI false .unit true)] [.cell 8 0] [])]
noncomputable def Lb:D prog 34 none 13:=dO [] (pick (kd prog f106) [(0,false)]) 0
noncomputable def gH67_0i_0:Nat×Int×Int×List ByteArray×cL×cN×aW×aW×ByteArray×(List (Int×Unit))×Unit→bJ ((Nat×Int×Int×List ByteArray×cL×cN×aW×aW×ByteArray×(List (Int×Unit))×Unit) ⊕ ((cL×cN×aW×aW×ByteArray×(List (Int×Unit))×Unit))):=fun (xZ,v11,v12,jd,m2,m3,m4,m5,qz,m14,_) =>
 .br (decide (v12<v11)) (
 .nb v12 ((xZ:Nat):Int) <|
 .nd (decide (((0:Nat)+(Int.toNat v12))<(jd).length)) <|
 .br ((az .str ((bs []),(0:Int),(bs []),(bs []),(0:Int)) m2 ((jd).getD ((0:Nat)+(Int.toNat v12)) (bs []))).2.1==(1:Int)) (
 .bd (FH76fix ((jd).getD ((0:Nat)+(Int.toNat v12)) (bs [])) m2 m3 m4 m5) fun y4 =>
 .bd (.it gH67_0b_1 (y4.1,((y4.1:Nat):Int),(0:Int),y4.2.1,y4.2.2.1,y4.2.2.2.1,y4.2.2.2.2.1,y4.2.2.2.2.2.1,qz,jd,m14,[],())) fun Ay =>
 .ni (v12+(1:Int)) <|
 .ret (.inl (xZ,v11,(v12+(1:Int)),Ay.2.2.2.2.2.1,Ay.1,Ay.2.1,Ay.2.2.1,Ay.2.2.2.1,Ay.2.2.2.2.1,Ay.2.2.2.2.2.2.2.2.1,()))) (
 .ni (v12+(1:Int)) <|
 .ret (.inl (xZ,v11,(v12+(1:Int)),jd,m2,m3,m4,m5,qz,m14,())))) (
 .ret (.inr (m2,m3,m4,m5,qz,m14,())))
noncomputable def Lf:bD prog 34 none 13:=aZ mixed xY uB [0,1,2,3,4,5,6,7,8,9,10,11,12] rfl K9 La rfl (Lb) (fun x=>ah (gH67_0i_0 x)) (fun x=>by kernel_rfl)
@[reducible] def ZK:ax:=ax.mk [(2,.c (.ptr 6 0)),(3,.c (.ptr 7 0)),(4,.c .bX),(5,.c (.ptr 8 0)),(17,.fn 106 [] [.ptr 9 0])] [(6,.cells [.ptr 0 0] false),(7,.cells [.fn 68 .nil (.cons (.ptr 1 0) .nil)] false),(8,.cells [.mp 10] false),(9,.cells [.ptr 0 0] false),(0,.cells [.mp 2,.mp 3,.mp 4,.mp 5] false),(2,.map .str false tG true),(3,.map .str false (.list .str) false),(4,.map .str false .bool false),(5,.map .str false .bool false),(1,.cells [.hole .str] false),(10,.map tI false .unit true)] [.slot 2,.slot 3,.slot 5,.part 17 0,.cell 8 0] []
@[reducible] def ZL:aT:=[(.normal,ax.mk [(5,.c (.ptr 6 0))] [(6,.cells [.mp 7] false),(0,.cells [.mp 2,.mp 3,.mp 4,.mp 5] false),(2,.map .str false tG true),(3,.map .str false (.list .str) false),(4,.map .str false .bool false),(5,.map .str false .bool false),(1,.cells [.hole .str] false),(7,.map tI false .unit true)] [.slot 5,.cell 6 0] [])]
noncomputable def Jb:D prog 34 none 13:=dO [.l Lf] (kd prog f106) 0
theorem TN:cw prog f106=some ⟨34,2,(Jb).er,[],[]⟩:=by kernel_rfl
noncomputable def gH67_0:cL×cN×aW×aW×ByteArray×(List (Int×Unit))×Unit→bJ ((cL×cN×aW×aW×ByteArray×(List (Int×Unit))×Unit)):=fun (m2,m3,m4,m5,qz,m10,_) =>
 .bd (FH95 m2) fun y2 =>
 .bd (FH81 y2.1) fun y3 =>
 .bd (.it gH67_0i_0 (y3.1,((y3.1:Nat):Int),(0:Int),y3.2.1,y3.2.2.1,m3,m4,m5,qz,m10,())) fun Az =>
 .ret ((Az.1,Az.2.1,Az.2.2.1,Az.2.2.2.1,Az.2.2.2.2.1,Az.2.2.2.2.2.1,()))
noncomputable def ZM:gr prog 48 none 6:=rI mixed xY uB [0,1,2,3,4,5] rfl ZK ZL ( .t 17) [18,19] rfl (I9).er (Ja).er 106 func106 (TN) (enters_of func106 rfl rfl) 13 rfl (Jb) rfl (fun x=>ah (gH67_0 x)) (fun x=>by kernel_rfl)
noncomputable def Wz:D prog 48 none 6:=dO [.r ZM] (kd prog f67) 0
noncomputable def FH67 (qz:ByteArray) (m2:cL) (m3:cN) (m4:aW) (m5:aW):bJ (Nat×List Int×cL×cN×aW×aW×ByteArray×Unit) :=
 .bd (FH100 (0:Int) []) fun y0 =>
 .bd (FH79 m2 m3 m4 m5) fun y1 =>
 .bd (gH67_0 (y1.1,y1.2.1,y1.2.2.1,y1.2.2.2.1,qz,y0.1,())) fun z12 =>
 .bd (FH101 z12.2.2.2.2.2.1) fun Jc =>
 .bd (FH102 Jc.1) fun Pw =>
 .ret (Pw.1,Pw.2.1,z12.1,z12.2.1,z12.2.2.1,z12.2.2.2.1,z12.2.2.2.2.1,())
theorem TO:cw prog f67=some ⟨48,2,Wz.er,[.t 4],[some tL]⟩:=by kernel_rfl
noncomputable def ht67:Ht:=⟨67,pH67,qH67,(fun x=>ah (FH67 x.1 x.2.1 x.2.2.1 x.2.2.2.1 x.2.2.2.2.1))⟩
theorem TP:ht67.Ok prog:=bG mixed l9 rfl func67 TO (enters_of func67 rfl rfl) Wz (by kernel_rfl) rfl rfl ⟨_,rfl⟩ rfl (pre:=[0,1,2,3,4,5]) rfl (fun x=>by kernel_rfl)

/- 23, lent -/
@[reducible] def pH23:ax:=ax.mk [(0,.c (.ptr 0 0)),(1,.c (.hole .str))] [(0,.cells [.mp 1] false),(1,.map tG true .bool false)] [.slot 0,.cell 0 0] []
@[reducible] def qH23:ax:=ax.mk [(0,.cK [.bN 2 tI,.hole tI])] [(2,.arr tI false),(0,.cells [.mp 1] false),(1,.map tG true .bool false)] [.part 0 0] []
noncomputable def ad2:Cx:=(aL [Om] [ze,Eg,ht67])
theorem Px:ad2.Ok prog:=av ⟨vA,trivial⟩ ⟨⟨mZ,rfl⟩,⟨rY,rfl⟩,⟨TP,rfl⟩,trivial⟩
noncomputable def WA:D prog 15 none 2:=dO [] (kd prog f23) 0
noncomputable def FH23 (v1:ByteArray) (m1:List ((GG)×Bool)):bJ (Nat×Int×List Int×(List ((GG)×Bool))×Unit) :=
 .bd (FH54 m1) fun y0 =>
 .br y0.1 (
 .ret ((0:Nat),(9:Int),[],y0.2.1,())) (
 .bd (F65 v1) fun y1 =>
 .br (!y1.1) (
 .ret ((0:Nat),(8:Int),[],y0.2.1,())) (
 .bd (FH66 y0.2.1) fun y2 =>
 .bd (FH67 v1 y2.2.1 y2.2.2.1 y2.2.2.2.1 y2.2.2.2.2.1) fun y3 =>
 .ret (y3.1,(0:Int),y3.2.1,y2.1,())))
theorem TQ:cw prog f23=some ⟨15,2,WA.er,[.t 4,.t 5],[some tL,some tI]⟩:=by kernel_rfl
noncomputable def TS:Ht:=⟨23,pH23,qH23,(fun x=>ah (FH23 x.1 x.2.1))⟩
theorem B5:TS.Ok prog:=bG mixed Px rfl func23 TQ (enters_of func23 rfl rfl) WA (by kernel_rfl) rfl rfl ⟨_,rfl⟩ rfl (pre:=[0,1]) rfl (fun x=>by kernel_rfl)

/- 78 -/
noncomputable def cx78:Cx:=(aL [] [])
theorem TT:cx78.Ok prog:=av trivial trivial
noncomputable def dd78:D prog 5 none 0:=dO [] (kd prog f78) 0
noncomputable def F78 (a0:GG):bJ (Int×Unit) :=
 .ret (a0.2.2.2.2,())
theorem ZN:cw prog f78=some ⟨5,1,dd78.er,[.t 2],[some tI]⟩:=by kernel_rfl
noncomputable def ct78:Ct:=⟨78,[.c (.hole tG)],hI,fun x=>ah (F78 x.1)⟩
theorem TU:ct78.Ok prog:=cB mixed TT func78 ZN (enters_of func78 rfl rfl) dd78 (by kernel_rfl) rfl (fun x=>by kernel_rfl)

/- 67, lent -/
@[reducible] def TV:ax:=ax.mk [(0,.c (.ptr 0 0)),(1,.c (.fn0 78))] [(0,.cells [.mp 1,.mp 2,.mp 3,.mp 4] false),(1,.map .str false tG true),(2,.map .str false (.list .str) false),(3,.map .str false .bool false),(4,.map .str false .bool false)] [.slot 0,.cell 0 0,.cell 0 1,.cell 0 2,.cell 0 3] []
@[reducible] def TW:ax:=ax.mk [(0,.c (.bN 5 tI))] [(5,.arr tI false),(0,.cells [.mp 1,.mp 2,.mp 3,.mp 4] false),(1,.map .str false tG true),(2,.map .str false (.list .str) false),(3,.map .str false .bool false),(4,.map .str false .bool false)] [.slot 0] []
noncomputable def mb:Cx:=(aL [ct78] [Pe,TK,OB,OD,GK,Pn,Pv])
theorem gI:mb.Ok prog:=av ⟨TU,trivial⟩ ⟨⟨Ey,rfl⟩,⟨BW,rfl⟩,⟨vE,rfl⟩,⟨vG,rfl⟩,⟨r8,rfl⟩,⟨Ez,rfl⟩,⟨EF,rfl⟩,trivial⟩
noncomputable def pT:D prog 48 (some 25) 28:=dO [] (pick (kd prog f67) [(0,true),(0,false),(0,false)]) 0
noncomputable def pU:D prog 48 (some 25) 28:=dO [] (pick (kd prog f67) [(0,true),(0,false),(0,true)]) 0
noncomputable def kF:Cx:=yY mb (fun kz=>NG kz mb dN 25 28 [37] (pT) (pU))
theorem lp:(kF).Ok prog:=jH gI (fun h=>mV mixed gI h)
@[reducible] def uW:ax:=ax.mk [(0,.c (.yl 25)),(4,.c (.mp 23))] [(25,.loop .ready none 10 [(2,.c (.ptr 5 0)),(3,.c (.ptr 6 0)),(5,.c (.ptr 7 0)),(8,.c (.ptr 20 0)),(11,.c (.ptr 21 0)),(21,.c (.bN 19 .str)),(22,hI),(23,hI),(36,.fn 132 [] [.ptr 22 0])] [37] (.aV [.op (some 12) none (.mv (.t 37))]) (.block 5 (.aV [.op (some 38) none (.load false 1 (.t 8)),.op (some 39) none (.mv (.t 12)),.op (some 40) none (.load false 1 (.t 11)),.op (some 41) none (.bin .add (.t 39) (.t 40)),.call (some 42) none (.c (.fn 100 [] [])) [.t 38,.t 41] [none,some tI]])) 48),(23,.map tI false .unit true),(10,.ig),(5,.cells [.ptr 0 0] false),(0,.cells [.mp 1,.mp 2,.mp 3,.mp 4] false),(1,.map .str false tG true),(2,.map .str false (.list .str) false),(3,.map .str false .bool false),(4,.map .str false .bool false),(6,.cells [.fn0 78] false),(7,.cells [.mp 23] false),(20,.cells [.mp 26] false),(21,.cells [.hole tI] false),(19,.arr .str false),(22,.cells [.mp 23] false),(8,.cells [.ptr 0 0] false),(11,.loop .busy none 10 [(2,.c (.ptr 5 0)),(3,.c (.ptr 6 0)),(4,.c .bX),(5,.c (.ptr 7 0)),(17,.fn 106 [] [.ptr 8 0])] [18,19] (.aV [.op (some 7) none (.mv (.t 19))]) (.block 1 (.seq (.aV [.op (some 20) none (.ex (gA.iR tI false .unit true) []),.op (some 8) none (.alloc [.cD]),.op none none (.store 1 (.t 8) (.t 20))]) (.seq (.seq (.aV [.op (some 21) none (.mv (.t 7)),.op (some 22) none (.len (.t 21)),.op (some 23) none (.mv (.c (.int .i64 (Int.ofNat 0))))]) (.block 2 (.loop (.seq (.aV [.op (some 24) none (.bin .lss (.t 23) (.t 22))]) (.seq (.cond (.t 24) .skip (.exit 2)) (.seq (.block 3 (.seq (.aV [.op (some 25) none (.idx 1 (.t 21) (.t 23)),.op (some 26) none (.load false 1 (.t 25)),.op (some 10) none (.mv (.t 26))]) (.seq (.draw [[],[],[1],[1,2],[1,2,3],[],[1,2,3,4,5],[0,1,2,3,4,5,6],[],[0,1,2,3,4,5,6,7,8]] [.op (some 27) none (.load false 1 (.t 3)),.op (some 28) none (.load false 1 (.t 2)),.op (some 29) none (.ex gA.iQ [.t 28]),.op (some 30) none (.mD 0 [false] (.t 29)),.op (some 31) none (.load false 1 (.t 30)),.op (some 32) none (.mv (.t 10)),.op (some 33) none (.ex (gA.gh .str false tG true false) [.t 31,.t 32]),.call (some 34) none (.t 27) [.t 33] [some tG],.op (some 11) none (.alloc [.int .i64 (Int.ofNat 0)]),.op none none (.store 1 (.t 11) (.t 34))]) (.seq (.aV [.op (some 35) none (.load false 1 (.t 5)),.call (some 36) none (.c (.fn 101 [] [])) [.t 35] [none]]) (.block 4 (.bH (.t 36) [37] (.aV [.op (some 12) none (.mv (.t 37))]) (.block 5 (.aV [.op (some 38) none (.load false 1 (.t 8)),.op (some 39) none (.mv (.t 12)),.op (some 40) none (.load false 1 (.t 11)),.op (some 41) none (.bin .add (.t 39) (.t 40)),.call (some 42) none (.c (.fn 100 [] [])) [.t 38,.t 41] [none,some tI]])))))))) (.aV [.op (some 43) none (.bin .add (.t 23) (.c (.int .i64 (Int.ofNat 1)))),.op (some 23) none (.mv (.t 43))]))))))) (.aV [.op (some 44) none (.load false 1 (.t 8)),.op none none (.store 1 (.t 5) (.t 44))])))) 48),(12,.arr .str false),(26,.map tI false .unit true)] [.cell 20 0] []
noncomputable def uX:D prog 14 none 28:=dO [] (pick (kd prog f132) [(0,false)]) 0
noncomputable def gH67_v1_0b_2i_0:((Int)×(Unit))→Nat×Int×Int×(List (Int×Unit))×cL×cN×aW×aW×Int×List ByteArray×List ByteArray×(List (Int×Unit))×Unit→bJ (Nat×Int×Int×(List (Int×Unit))×cL×cN×aW×aW×Int×List ByteArray×List ByteArray×(List (Int×Unit))×Unit):=fun e (ZJ,w22,w23,m23,m1,m2,m3,m4,EH,LN,LO,m26,_) =>
 .ni (e.1+EH) <|
 .bd (FH100 (e.1+EH) m26) fun y7 =>
 .nd (jy m23 m23) <|
 .ret (ZJ,w22,w23,m23,m1,m2,m3,m4,EH,LN,LO,y7.1,())
noncomputable def uY:rz prog 14 none 26:=BN mixed kF lp [0,1,2,3,4,5,6,7,8,9,10,11,12,13,14,15,16,17,18,19,20,21,22,23,24,25] rfl uW ( [.op (some 4) none (.load false 1 (.t 1))]) 4 5 [6,7] (some 8) ( .int .i64)  false ( .unit)  true 0 rfl 28 rfl (uX) (fun e x=>ah (gH67_v1_0b_2i_0 e x)) (fun e=>fun x=>by kernel_rfl)
@[reducible] def B6:ax:=ax.mk [(2,.c (.ptr 5 0)),(3,.c (.ptr 6 0)),(5,.c (.ptr 7 0)),(8,.c (.ptr 20 0)),(11,.c (.ptr 21 0)),(21,.c (.bN 19 .str)),(22,hI),(23,hI),(36,.fn 132 [] [.ptr 22 0])] [(5,.cells [.ptr 0 0] false),(6,.cells [.fn0 78] false),(7,.cells [.mp 23] false),(20,.cells [.mp 24] false),(21,.cells [.hole tI] false),(19,.arr .str false),(22,.cells [.mp 23] false),(0,.cells [.mp 1,.mp 2,.mp 3,.mp 4] false),(1,.map .str false tG true),(2,.map .str false (.list .str) false),(3,.map .str false .bool false),(4,.map .str false .bool false),(8,.cells [.ptr 0 0] false),(10,.ig),(11,.loop .busy none 10 [(2,.c (.ptr 5 0)),(3,.c (.ptr 6 0)),(4,.c .bX),(5,.c (.ptr 7 0)),(17,.fn 106 [] [.ptr 8 0])] [18,19] (.aV [.op (some 7) none (.mv (.t 19))]) (.block 1 (.seq (.aV [.op (some 20) none (.ex (gA.iR tI false .unit true) []),.op (some 8) none (.alloc [.cD]),.op none none (.store 1 (.t 8) (.t 20))]) (.seq (.seq (.aV [.op (some 21) none (.mv (.t 7)),.op (some 22) none (.len (.t 21)),.op (some 23) none (.mv (.c (.int .i64 (Int.ofNat 0))))]) (.block 2 (.loop (.seq (.aV [.op (some 24) none (.bin .lss (.t 23) (.t 22))]) (.seq (.cond (.t 24) .skip (.exit 2)) (.seq (.block 3 (.seq (.aV [.op (some 25) none (.idx 1 (.t 21) (.t 23)),.op (some 26) none (.load false 1 (.t 25)),.op (some 10) none (.mv (.t 26))]) (.seq (.draw [[],[],[1],[1,2],[1,2,3],[],[1,2,3,4,5],[0,1,2,3,4,5,6],[],[0,1,2,3,4,5,6,7,8]] [.op (some 27) none (.load false 1 (.t 3)),.op (some 28) none (.load false 1 (.t 2)),.op (some 29) none (.ex gA.iQ [.t 28]),.op (some 30) none (.mD 0 [false] (.t 29)),.op (some 31) none (.load false 1 (.t 30)),.op (some 32) none (.mv (.t 10)),.op (some 33) none (.ex (gA.gh .str false tG true false) [.t 31,.t 32]),.call (some 34) none (.t 27) [.t 33] [some tG],.op (some 11) none (.alloc [.int .i64 (Int.ofNat 0)]),.op none none (.store 1 (.t 11) (.t 34))]) (.seq (.aV [.op (some 35) none (.load false 1 (.t 5)),.call (some 36) none (.c (.fn 101 [] [])) [.t 35] [none]]) (.block 4 (.bH (.t 36) [37] (.aV [.op (some 12) none (.mv (.t 37))]) (.block 5 (.aV [.op (some 38) none (.load false 1 (.t 8)),.op (some 39) none (.mv (.t 12)),.op (some 40) none (.load false 1 (.t 11)),.op (some 41) none (.bin .add (.t 39) (.t 40)),.call (some 42) none (.c (.fn 100 [] [])) [.t 38,.t 41] [none,some tI]])))))))) (.aV [.op (some 43) none (.bin .add (.t 23) (.c (.int .i64 (Int.ofNat 1)))),.op (some 23) none (.mv (.t 43))]))))))) (.aV [.op (some 44) none (.load false 1 (.t 8)),.op none none (.store 1 (.t 5) (.t 44))])))) 48),(12,.arr .str false),(23,.map tI false .unit true),(24,.map tI false .unit true)] [.slot 8,.slot 11,.part 36 0,.cell 7 0,.cell 20 0] []
@[reducible] def B7:aT:=[(.normal,ax.mk [(2,.c (.ptr 5 0)),(3,.c (.ptr 6 0)),(5,.c (.ptr 7 0)),(8,.c (.ptr 20 0)),(21,.c (.bN 19 .str)),(22,hI),(23,hI)] [(5,.cells [.ptr 0 0] false),(6,.cells [.fn0 78] false),(7,.cells [.mp 21] false),(20,.cells [.mp 22] false),(19,.arr .str false),(0,.cells [.mp 1,.mp 2,.mp 3,.mp 4] false),(1,.map .str false tG true),(2,.map .str false (.list .str) false),(3,.map .str false .bool false),(4,.map .str false .bool false),(8,.cells [.ptr 0 0] false),(10,.ig),(11,.loop .busy none 10 [(2,.c (.ptr 5 0)),(3,.c (.ptr 6 0)),(4,.c .bX),(5,.c (.ptr 7 0)),(17,.fn 106 [] [.ptr 8 0])] [18,19] (.aV [.op (some 7) none (.mv (.t 19))]) (.block 1 (.seq (.aV [.op (some 20) none (.ex (gA.iR tI false .unit true) []),.op (some 8) none (.alloc [.cD]),.op none none (.store 1 (.t 8) (.t 20))]) (.seq (.seq (.aV [.op (some 21) none (.mv (.t 7)),.op (some 22) none (.len (.t 21)),.op (some 23) none (.mv (.c (.int .i64 (Int.ofNat 0))))]) (.block 2 (.loop (.seq (.aV [.op (some 24) none (.bin .lss (.t 23) (.t 22))]) (.seq (.cond (.t 24) .skip (.exit 2)) (.seq (.block 3 (.seq (.aV [.op (some 25) none (.idx 1 (.t 21) (.t 23)),.op (some 26) none (.load false 1 (.t 25)),.op (some 10) none (.mv (.t 26))]) (.seq (.draw [[],[],[1],[1,2],[1,2,3],[],[1,2,3,4,5],[0,1,2,3,4,5,6],[],[0,1,2,3,4,5,6,7,8]] [.op (some 27) none (.load false 1 (.t 3)),.op (some 28) none (.load false 1 (.t 2)),.op (some 29) none (.ex gA.iQ [.t 28]),.op (some 30) none (.mD 0 [false] (.t 29)),.op (some 31) none (.load false 1 (.t 30)),.op (some 32) none (.mv (.t 10)),.op (some 33) none (.ex (gA.gh .str false tG true false) [.t 31,.t 32]),.call (some 34) none (.t 27) [.t 33] [some tG],.op (some 11) none (.alloc [.int .i64 (Int.ofNat 0)]),.op none none (.store 1 (.t 11) (.t 34))]) (.seq (.aV [.op (some 35) none (.load false 1 (.t 5)),.call (some 36) none (.c (.fn 101 [] [])) [.t 35] [none]]) (.block 4 (.bH (.t 36) [37] (.aV [.op (some 12) none (.mv (.t 37))]) (.block 5 (.aV [.op (some 38) none (.load false 1 (.t 8)),.op (some 39) none (.mv (.t 12)),.op (some 40) none (.load false 1 (.t 11)),.op (some 41) none (.bin .add (.t 39) (.t 40)),.call (some 42) none (.c (.fn 100 [] [])) [.t 38,.t 41] [none,some tI]])))))))) (.aV [.op (some 43) none (.bin .add (.t 23) (.c (.int .i64 (Int.ofNat 1)))),.op (some 23) none (.mv (.t 43))]))))))) (.aV [.op (some 44) none (.load false 1 (.t 8)),.op none none (.store 1 (.t 5) (.t 44))])))) 48),(12,.arr .str false),(21,.map tI false .unit true),(22,.map tI false .unit true)] [.slot 8,.cell 7 0,.cell 20 0] [])]
noncomputable def pV:D prog 14 none 26:=dO [.m uY] (kd prog f132) 0
theorem zf:cw prog f132=some ⟨14,2,(pV).er,[],[]⟩:=by kernel_rfl
noncomputable def gH67_v1_0b_2:Nat×Int×Int×Int×List ByteArray×cL×cN×aW×aW×List ByteArray×(List (Int×Unit))×(List (Int×Unit))×Unit→bJ ((Nat×Int×Int×List ByteArray×cL×cN×aW×aW×List ByteArray×(List (Int×Unit))×(List (Int×Unit))×Unit)):=fun (xX,v22,v23,EH,LN,m1,m2,m3,m4,LO,m23,m24,_) =>
 .bd (.mq gH67_v1_0b_2i_0 m23 (xX,v22,v23,m23,m1,m2,m3,m4,EH,LN,LO,m24,())) fun z8 =>
 .ret ((xX,v22,v23,z8.2.2.2.2.2.2.2.2.2.1,z8.2.2.2.2.1,z8.2.2.2.2.2.1,z8.2.2.2.2.2.2.1,z8.2.2.2.2.2.2.2.1,z8.2.2.2.2.2.2.2.2.2.2.1,z8.2.2.2.1,z8.2.2.2.2.2.2.2.2.2.2.2.1,()))
noncomputable def B8:gr prog 48 (some 11) 20:=rI mixed kF lp [0,1,2,3,4,5,6,7,8,9,10,11,12,13,14,15,16,17,18,19] rfl B6 B7 ( .t 36) [37] rfl (pT).er (pU).er 132 func132 (zf) (enters_of func132 rfl rfl) 26 rfl (pV) rfl (fun x=>ah (gH67_v1_0b_2 x)) (fun x=>by kernel_rfl)
@[reducible] def B9:ax:=ax.mk [(2,.c (.ptr 5 0)),(3,.c (.ptr 6 0)),(5,.c (.ptr 7 0)),(8,.c (.ptr 20 0)),(21,.c (.bN 19 .str)),(22,hI),(23,hI)] [(5,.cells [.ptr 0 0] false),(6,.cells [.fn0 78] false),(7,.cells [.mp 21] false),(20,.cells [.mp 22] false),(19,.arr .str false),(0,.cells [.mp 1,.mp 2,.mp 3,.mp 4] false),(1,.map .str false tG true),(2,.map .str false (.list .str) false),(3,.map .str false .bool false),(4,.map .str false .bool false),(8,.cells [.ptr 0 0] false),(10,.ig),(11,.loop .busy none 10 [(2,.c (.ptr 5 0)),(3,.c (.ptr 6 0)),(4,.c .bX),(5,.c (.ptr 7 0)),(17,.fn 106 [] [.ptr 8 0])] [18,19] (.aV [.op (some 7) none (.mv (.t 19))]) (.block 1 (.seq (.aV [.op (some 20) none (.ex (gA.iR tI false .unit true) []),.op (some 8) none (.alloc [.cD]),.op none none (.store 1 (.t 8) (.t 20))]) (.seq (.seq (.aV [.op (some 21) none (.mv (.t 7)),.op (some 22) none (.len (.t 21)),.op (some 23) none (.mv (.c (.int .i64 (Int.ofNat 0))))]) (.block 2 (.loop (.seq (.aV [.op (some 24) none (.bin .lss (.t 23) (.t 22))]) (.seq (.cond (.t 24) .skip (.exit 2)) (.seq (.block 3 (.seq (.aV [.op (some 25) none (.idx 1 (.t 21) (.t 23)),.op (some 26) none (.load false 1 (.t 25)),.op (some 10) none (.mv (.t 26))]) (.seq (.draw [[],[],[1],[1,2],[1,2,3],[],[1,2,3,4,5],[0,1,2,3,4,5,6],[],[0,1,2,3,4,5,6,7,8]] [.op (some 27) none (.load false 1 (.t 3)),.op (some 28) none (.load false 1 (.t 2)),.op (some 29) none (.ex gA.iQ [.t 28]),.op (some 30) none (.mD 0 [false] (.t 29)),.op (some 31) none (.load false 1 (.t 30)),.op (some 32) none (.mv (.t 10)),.op (some 33) none (.ex (gA.gh .str false tG true false) [.t 31,.t 32]),.call (some 34) none (.t 27) [.t 33] [some tG],.op (some 11) none (.alloc [.int .i64 (Int.ofNat 0)]),.op none none (.store 1 (.t 11) (.t 34))]) (.seq (.aV [.op (some 35) none (.load false 1 (.t 5)),.call (some 36) none (.c (.fn 101 [] [])) [.t 35] [none]]) (.block 4 (.bH (.t 36) [37] (.aV [.op (some 12) none (.mv (.t 37))]) (.block 5 (.aV [.op (some 38) none (.load false 1 (.t 8)),.op (some 39) none (.mv (.t 12)),.op (some 40) none (.load false 1 (.t 11)),.op (some 41) none (.bin .add (.t 39) (.t 40)),.call (some 42) none (.c (.fn 100 [] [])) [.t 38,.t 41] [none,some tI]])))))))) (.aV [.op (some 43) none (.bin .add (.t 23) (.c (.int .i64 (Int.ofNat 1)))),.op (some 23) none (.mv (.t 43))]))))))) (.aV [.op (some 44) none (.load false 1 (.t 8)),.op none none (.store 1 (.t 5) (.t 44))])))) 48),(12,.arr .str false),(21,.map tI false .unit true),(22,.map tI false .unit true)] [.slot 8,.cell 7 0,.cell 20 0] []
@[reducible] def Ca:aT:=[(.exit 2,ax.mk [(5,.c (.ptr 7 0)),(8,.c (.ptr 20 0))] [(7,.cells [.mp 21] false),(20,.cells [.mp 22] false),(0,.cells [.mp 1,.mp 2,.mp 3,.mp 4] false),(1,.map .str false tG true),(2,.map .str false (.list .str) false),(3,.map .str false .bool false),(4,.map .str false .bool false),(5,.cells [.ptr 0 0] false),(6,.cells [.fn0 78] false),(8,.cells [.ptr 0 0] false),(10,.ig),(11,.loop .busy none 10 [(2,.c (.ptr 5 0)),(3,.c (.ptr 6 0)),(4,.c .bX),(5,.c (.ptr 7 0)),(17,.fn 106 [] [.ptr 8 0])] [18,19] (.aV [.op (some 7) none (.mv (.t 19))]) (.block 1 (.seq (.aV [.op (some 20) none (.ex (gA.iR tI false .unit true) []),.op (some 8) none (.alloc [.cD]),.op none none (.store 1 (.t 8) (.t 20))]) (.seq (.seq (.aV [.op (some 21) none (.mv (.t 7)),.op (some 22) none (.len (.t 21)),.op (some 23) none (.mv (.c (.int .i64 (Int.ofNat 0))))]) (.block 2 (.loop (.seq (.aV [.op (some 24) none (.bin .lss (.t 23) (.t 22))]) (.seq (.cond (.t 24) .skip (.exit 2)) (.seq (.block 3 (.seq (.aV [.op (some 25) none (.idx 1 (.t 21) (.t 23)),.op (some 26) none (.load false 1 (.t 25)),.op (some 10) none (.mv (.t 26))]) (.seq (.draw [[],[],[1],[1,2],[1,2,3],[],[1,2,3,4,5],[0,1,2,3,4,5,6],[],[0,1,2,3,4,5,6,7,8]] [.op (some 27) none (.load false 1 (.t 3)),.op (some 28) none (.load false 1 (.t 2)),.op (some 29) none (.ex gA.iQ [.t 28]),.op (some 30) none (.mD 0 [false] (.t 29)),.op (some 31) none (.load false 1 (.t 30)),.op (some 32) none (.mv (.t 10)),.op (some 33) none (.ex (gA.gh .str false tG true false) [.t 31,.t 32]),.call (some 34) none (.t 27) [.t 33] [some tG],.op (some 11) none (.alloc [.int .i64 (Int.ofNat 0)]),.op none none (.store 1 (.t 11) (.t 34))]) (.seq (.aV [.op (some 35) none (.load false 1 (.t 5)),.call (some 36) none (.c (.fn 101 [] [])) [.t 35] [none]]) (.block 4 (.bH (.t 36) [37] (.aV [.op (some 12) none (.mv (.t 37))]) (.block 5 (.aV [.op (some 38) none (.load false 1 (.t 8)),.op (some 39) none (.mv (.t 12)),.op (some 40) none (.load false 1 (.t 11)),.op (some 41) none (.bin .add (.t 39) (.t 40)),.call (some 42) none (.c (.fn 100 [] [])) [.t 38,.t 41] [none,some tI]])))))))) (.aV [.op (some 43) none (.bin .add (.t 23) (.c (.int .i64 (Int.ofNat 1)))),.op (some 23) none (.mv (.t 43))]))))))) (.aV [.op (some 44) none (.load false 1 (.t 8)),.op none none (.store 1 (.t 5) (.t 44))])))) 48),(12,.arr .str false),(19,.arr .str false),(21,.map tI false .unit true),(22,.map tI false .unit true)] [.slot 8,.cell 7 0,.cell 20 0] [])]
noncomputable def Cb:D prog 48 (some 11) 20:=dO [.r B8] (pick (kd prog f67) [(0,true),(0,false)]) 0
noncomputable def gH67_v1_0b_1:Nat×Int×Int×List ByteArray×cL×cN×aW×aW×List ByteArray×(List (Int×Unit))×(List (Int×Unit))×Unit→bJ ((Nat×Int×Int×List ByteArray×cL×cN×aW×aW×List ByteArray×(List (Int×Unit))×(List (Int×Unit))×Unit) ⊕ ((cL×cN×aW×aW×List ByteArray×List ByteArray×(List (Int×Unit))×(List (Int×Unit))×Unit))):=fun (xX,v22,v23,LN,m1,m2,m3,m4,LO,m21,m22,_) =>
 .br (decide (v23<v22)) (
 .nb v23 ((xX:Nat):Int) <|
 .nd (decide (((0:Nat)+(Int.toNat v23))<(LN).length)) <|
 .bd (F78 ((az .str ((bs []),(0:Int),(bs []),(bs []),(0:Int)) m1 ((LN).getD ((0:Nat)+(Int.toNat v23)) (bs []))).1,(az .str ((bs []),(0:Int),(bs []),(bs []),(0:Int)) m1 ((LN).getD ((0:Nat)+(Int.toNat v23)) (bs []))).2.1,(az .str ((bs []),(0:Int),(bs []),(bs []),(0:Int)) m1 ((LN).getD ((0:Nat)+(Int.toNat v23)) (bs []))).2.2.1,(az .str ((bs []),(0:Int),(bs []),(bs []),(0:Int)) m1 ((LN).getD ((0:Nat)+(Int.toNat v23)) (bs []))).2.2.2.1,(az .str ((bs []),(0:Int),(bs []),(bs []),(0:Int)) m1 ((LN).getD ((0:Nat)+(Int.toNat v23)) (bs []))).2.2.2.2)) fun y5 =>
 .bd (FH101 m21) fun y6 =>
 .bd (gH67_v1_0b_2 (xX,v22,v23,y5.1,LN,m1,m2,m3,m4,LO,y6.1,m22,())) fun z9 =>
 .ni (z9.2.2.1+(1:Int)) <|
 .ret (.inl (z9.1,z9.2.1,(z9.2.2.1+(1:Int)),z9.2.2.2.1,z9.2.2.2.2.1,z9.2.2.2.2.2.1,z9.2.2.2.2.2.2.1,z9.2.2.2.2.2.2.2.1,z9.2.2.2.2.2.2.2.2.1,z9.2.2.2.2.2.2.2.2.2.1,z9.2.2.2.2.2.2.2.2.2.2.1,()))) (
 .ret (.inr (m1,m2,m3,m4,LO,LN,m21,m22,())))
noncomputable def Cc:bD prog 48 (some 11) 20:=aZ mixed mb gI [0,1,2,3,4,5,6,7,8,9,10,11,12,13,14,15,16,17,18,19] rfl B9 Ca rfl (Cb) (fun x=>ah (gH67_v1_0b_1 x)) (fun x=>by kernel_rfl)
noncomputable def yb:D prog 48 (some 11) 20:=dO [] (pick (kd prog f67) [(0,false)]) 0
noncomputable def yc:D prog 48 (some 11) 20:=dO [.l Cc] (pick (kd prog f67) [(0,true)]) 0
noncomputable def oz:Cx:=yY mb (fun kz=>NG kz mb dN 11 20 [18,19] (yb) (yc))
theorem oB:(oz).Ok prog:=jH gI (fun h=>mV mixed gI h)
@[reducible] def Cd:ax:=ax.mk [(0,.c (.yl 11)),(1,.c (.ptr 8 0)),(10,.c (.bN 12 .str)),(11,hI),(12,hI)] [(11,.loop .ready none 10 [(2,.c (.ptr 5 0)),(3,.c (.ptr 6 0)),(4,.c .bX),(5,.c (.ptr 7 0)),(17,.fn 106 [] [.ptr 8 0])] [18,19] (.aV [.op (some 7) none (.mv (.t 19))]) (.block 1 (.seq (.aV [.op (some 20) none (.ex (gA.iR tI false .unit true) []),.op (some 8) none (.alloc [.cD]),.op none none (.store 1 (.t 8) (.t 20))]) (.seq (.seq (.aV [.op (some 21) none (.mv (.t 7)),.op (some 22) none (.len (.t 21)),.op (some 23) none (.mv (.c (.int .i64 (Int.ofNat 0))))]) (.block 2 (.loop (.seq (.aV [.op (some 24) none (.bin .lss (.t 23) (.t 22))]) (.seq (.cond (.t 24) .skip (.exit 2)) (.seq (.block 3 (.seq (.aV [.op (some 25) none (.idx 1 (.t 21) (.t 23)),.op (some 26) none (.load false 1 (.t 25)),.op (some 10) none (.mv (.t 26))]) (.seq (.draw [[],[],[1],[1,2],[1,2,3],[],[1,2,3,4,5],[0,1,2,3,4,5,6],[],[0,1,2,3,4,5,6,7,8]] [.op (some 27) none (.load false 1 (.t 3)),.op (some 28) none (.load false 1 (.t 2)),.op (some 29) none (.ex gA.iQ [.t 28]),.op (some 30) none (.mD 0 [false] (.t 29)),.op (some 31) none (.load false 1 (.t 30)),.op (some 32) none (.mv (.t 10)),.op (some 33) none (.ex (gA.gh .str false tG true false) [.t 31,.t 32]),.call (some 34) none (.t 27) [.t 33] [some tG],.op (some 11) none (.alloc [.int .i64 (Int.ofNat 0)]),.op none none (.store 1 (.t 11) (.t 34))]) (.seq (.aV [.op (some 35) none (.load false 1 (.t 5)),.call (some 36) none (.c (.fn 101 [] [])) [.t 35] [none]]) (.block 4 (.bH (.t 36) [37] (.aV [.op (some 12) none (.mv (.t 37))]) (.block 5 (.aV [.op (some 38) none (.load false 1 (.t 8)),.op (some 39) none (.mv (.t 12)),.op (some 40) none (.load false 1 (.t 11)),.op (some 41) none (.bin .add (.t 39) (.t 40)),.call (some 42) none (.c (.fn 100 [] [])) [.t 38,.t 41] [none,some tI]])))))))) (.aV [.op (some 43) none (.bin .add (.t 23) (.c (.int .i64 (Int.ofNat 1)))),.op (some 23) none (.mv (.t 43))]))))))) (.aV [.op (some 44) none (.load false 1 (.t 8)),.op none none (.store 1 (.t 5) (.t 44))])))) 48),(8,.cells [.ptr 0 0] false),(12,.arr .str false),(10,.ig),(5,.cells [.ptr 0 0] false),(0,.cells [.mp 1,.mp 2,.mp 3,.mp 4] false),(1,.map .str false tG true),(2,.map .str false (.list .str) false),(3,.map .str false .bool false),(4,.map .str false .bool false),(6,.cells [.fn0 78] false),(7,.cells [.mp 13] false),(13,.map tI false .unit true)] [.slot 10,.cell 7 0] []
@[reducible] def Ce:aT:=[(.exit 0,ax.mk [] [(0,.cells [.mp 1,.mp 2,.mp 3,.mp 4] false),(1,.map .str false tG true),(2,.map .str false (.list .str) false),(3,.map .str false .bool false),(4,.map .str false .bool false),(5,.cells [.ptr 0 0] false),(6,.cells [.fn0 78] false),(7,.cells [.mp 12] false),(8,.cells [.ptr 0 0] false),(10,.ig),(11,.loop .ready none 10 [(2,.c (.ptr 5 0)),(3,.c (.ptr 6 0)),(4,.c .bX),(5,.c (.ptr 7 0)),(17,.fn 106 [] [.ptr 8 0])] [18,19] (.aV [.op (some 7) none (.mv (.t 19))]) (.block 1 (.seq (.aV [.op (some 20) none (.ex (gA.iR tI false .unit true) []),.op (some 8) none (.alloc [.cD]),.op none none (.store 1 (.t 8) (.t 20))]) (.seq (.seq (.aV [.op (some 21) none (.mv (.t 7)),.op (some 22) none (.len (.t 21)),.op (some 23) none (.mv (.c (.int .i64 (Int.ofNat 0))))]) (.block 2 (.loop (.seq (.aV [.op (some 24) none (.bin .lss (.t 23) (.t 22))]) (.seq (.cond (.t 24) .skip (.exit 2)) (.seq (.block 3 (.seq (.aV [.op (some 25) none (.idx 1 (.t 21) (.t 23)),.op (some 26) none (.load false 1 (.t 25)),.op (some 10) none (.mv (.t 26))]) (.seq (.draw [[],[],[1],[1,2],[1,2,3],[],[1,2,3,4,5],[0,1,2,3,4,5,6],[],[0,1,2,3,4,5,6,7,8]] [.op (some 27) none (.load false 1 (.t 3)),.op (some 28) none (.load false 1 (.t 2)),.op (some 29) none (.ex gA.iQ [.t 28]),.op (some 30) none (.mD 0 [false] (.t 29)),.op (some 31) none (.load false 1 (.t 30)),.op (some 32) none (.mv (.t 10)),.op (some 33) none (.ex (gA.gh .str false tG true false) [.t 31,.t 32]),.call (some 34) none (.t 27) [.t 33] [some tG],.op (some 11) none (.alloc [.int .i64 (Int.ofNat 0)]),.op none none (.store 1 (.t 11) (.t 34))]) (.seq (.aV [.op (some 35) none (.load false 1 (.t 5)),.call (some 36) none (.c (.fn 101 [] [])) [.t 35] [none]]) (.block 4 (.bH (.t 36) [37] (.aV [.op (some 12) none (.mv (.t 37))]) (.block 5 (.aV [.op (some 38) none (.load false 1 (.t 8)),.op (some 39) none (.mv (.t 12)),.op (some 40) none (.load false 1 (.t 11)),.op (some 41) none (.bin .add (.t 39) (.t 40)),.call (some 42) none (.c (.fn 100 [] [])) [.t 38,.t 41] [none,some tI]])))))))) (.aV [.op (some 43) none (.bin .add (.t 23) (.c (.int .i64 (Int.ofNat 1)))),.op (some 23) none (.mv (.t 43))]))))))) (.aV [.op (some 44) none (.load false 1 (.t 8)),.op none none (.store 1 (.t 5) (.t 44))])))) 48),(12,.map tI false .unit true)] [.cell 7 0] [])]
noncomputable def Cf:D prog 34 none 12:=dO [] (pick (kd prog f106) [(0,false)]) 0
noncomputable def gH67_v1_0i_0:Nat×Int×Int×List ByteArray×cL×cN×aW×aW×(List (Int×Unit))×Unit→bJ ((Nat×Int×Int×List ByteArray×cL×cN×aW×aW×(List (Int×Unit))×Unit) ⊕ ((cL×cN×aW×aW×(List (Int×Unit))×Unit))):=fun (xZ,v11,v12,LO,m1,m2,m3,m4,m13,_) =>
 .br (decide (v12<v11)) (
 .nb v12 ((xZ:Nat):Int) <|
 .nd (decide (((0:Nat)+(Int.toNat v12))<(LO).length)) <|
 .br ((az .str ((bs []),(0:Int),(bs []),(bs []),(0:Int)) m1 ((LO).getD ((0:Nat)+(Int.toNat v12)) (bs []))).2.1==(1:Int)) (
 .bd (FH76fix ((LO).getD ((0:Nat)+(Int.toNat v12)) (bs [])) m1 m2 m3 m4) fun y4 =>
 .bd (.it gH67_v1_0b_1 (y4.1,((y4.1:Nat):Int),(0:Int),y4.2.1,y4.2.2.1,y4.2.2.2.1,y4.2.2.2.2.1,y4.2.2.2.2.2.1,LO,m13,[],())) fun Ay =>
 .ni (v12+(1:Int)) <|
 .ret (.inl (xZ,v11,(v12+(1:Int)),Ay.2.2.2.2.1,Ay.1,Ay.2.1,Ay.2.2.1,Ay.2.2.2.1,Ay.2.2.2.2.2.2.2.1,()))) (
 .ni (v12+(1:Int)) <|
 .ret (.inl (xZ,v11,(v12+(1:Int)),LO,m1,m2,m3,m4,m13,())))) (
 .ret (.inr (m1,m2,m3,m4,m13,())))
noncomputable def Cg:bD prog 34 none 12:=aZ mixed oz oB [0,1,2,3,4,5,6,7,8,9,10,11] rfl Cd Ce rfl (Cf) (fun x=>ah (gH67_v1_0i_0 x)) (fun x=>by kernel_rfl)
@[reducible] def Lg:ax:=ax.mk [(2,.c (.ptr 5 0)),(3,.c (.ptr 6 0)),(4,.c .bX),(5,.c (.ptr 7 0)),(17,.fn 106 [] [.ptr 8 0])] [(5,.cells [.ptr 0 0] false),(6,.cells [.fn0 78] false),(7,.cells [.mp 9] false),(8,.cells [.ptr 0 0] false),(0,.cells [.mp 1,.mp 2,.mp 3,.mp 4] false),(1,.map .str false tG true),(2,.map .str false (.list .str) false),(3,.map .str false .bool false),(4,.map .str false .bool false),(9,.map tI false .unit true)] [.slot 2,.slot 3,.slot 5,.part 17 0,.cell 7 0] []
@[reducible] def Lh:aT:=[(.normal,ax.mk [(5,.c (.ptr 5 0))] [(5,.cells [.mp 6] false),(0,.cells [.mp 1,.mp 2,.mp 3,.mp 4] false),(1,.map .str false tG true),(2,.map .str false (.list .str) false),(3,.map .str false .bool false),(4,.map .str false .bool false),(6,.map tI false .unit true)] [.slot 5,.cell 5 0] [])]
noncomputable def yd:D prog 34 none 12:=dO [.l Cg] (kd prog f106) 0
theorem GS:cw prog f106=some ⟨34,2,(yd).er,[],[]⟩:=by kernel_rfl
noncomputable def gH67_v1_0:cL×cN×aW×aW×(List (Int×Unit))×Unit→bJ ((cL×cN×aW×aW×(List (Int×Unit))×Unit)):=fun (m1,m2,m3,m4,m9,_) =>
 .bd (FH95 m1) fun y2 =>
 .bd (FH81 y2.1) fun y3 =>
 .bd (.it gH67_v1_0i_0 (y3.1,((y3.1:Nat):Int),(0:Int),y3.2.1,y3.2.2.1,m2,m3,m4,m9,())) fun Az =>
 .ret ((Az.1,Az.2.1,Az.2.2.1,Az.2.2.2.1,Az.2.2.2.2.1,()))
noncomputable def Li:gr prog 48 none 5:=rI mixed oz oB [0,1,2,3,4] rfl Lg Lh ( .t 17) [18,19] rfl (yb).er (yc).er 106 func106 (GS) (enters_of func106 rfl rfl) 12 rfl (yd) rfl (fun x=>ah (gH67_v1_0 x)) (fun x=>by kernel_rfl)
noncomputable def EI:D prog 48 none 5:=dO [.r Li] (kd prog f67) 0
noncomputable def FH67_v1 (m1:cL) (m2:cN) (m3:aW) (m4:aW):bJ (Nat×List Int×cL×cN×aW×aW×Unit) :=
 .bd (FH100 (0:Int) []) fun y0 =>
 .bd (FH79 m1 m2 m3 m4) fun y1 =>
 .bd (gH67_v1_0 (y1.1,y1.2.1,y1.2.2.1,y1.2.2.2.1,y0.1,())) fun z12 =>
 .bd (FH101 z12.2.2.2.2.1) fun Jc =>
 .bd (FH102 Jc.1) fun Pw =>
 .ret (Pw.1,Pw.2.1,z12.1,z12.2.1,z12.2.2.1,z12.2.2.2.1,())
theorem GU:cw prog f67=some ⟨48,2,EI.er,[.t 4],[some tL]⟩:=by kernel_rfl
noncomputable def Jd:Ht:=⟨67,TV,TW,(fun x=>ah (FH67_v1 x.1 x.2.1 x.2.2.1 x.2.2.2.1))⟩
theorem GV:Jd.Ok prog:=bG mixed gI rfl func67 GU (enters_of func67 rfl rfl) EI (by kernel_rfl) rfl rfl ⟨_,rfl⟩ rfl (pre:=[0,1,2,3,4]) rfl (fun x=>by kernel_rfl)

/- 72 -/
noncomputable def cx72:Cx:=(aL [] [])
theorem TX:cx72.Ok prog:=av trivial trivial
noncomputable def dd72:D prog 13 none 0:=dO [] (kd prog f72) 0
noncomputable def F72 (a0:List Int):bJ ((Int×Int)×Unit) :=
 .nb (0:Int) (((a0).length:Nat):Int) <|
 .ni ((((a0).length:Nat):Int) - (1:Int)) <|
 .nb ((((a0).length:Nat):Int) - (1:Int)) (((a0).length:Nat):Int) <|
 .ret ((((a0).getD (Int.toNat (0:Int)) (0:Int)),((a0).getD (Int.toNat ((((a0).length:Nat):Int) - (1:Int))) (0:Int))),())
theorem ZO:cw prog f72=some ⟨13,1,dd72.er,[.cell 2 true 2],[some (.prod tI tI)]⟩:=by kernel_rfl
noncomputable def ZP:Ct:=⟨72,[hL],.c (.hole (.prod tI tI)),fun x=>ah (F72 x.1)⟩
theorem Je:ZP.Ok prog:=cB mixed TX func72 ZO (enters_of func72 rfl rfl) dd72 (by kernel_rfl) rfl (fun x=>by kernel_rfl)

/- 37, lent -/
@[reducible] def pH37:ax:=ax.mk [(0,.c (.ptr 0 0))] [(0,.cells [.mp 1] false),(1,.map tG true .bool false)] [.slot 0,.cell 0 0] []
@[reducible] def qH37:ax:=ax.mk [(0,.cK [.hole (.prod tI tI),.hole tI])] [(0,.cells [.mp 1] false),(1,.map tG true .bool false)] [] []
noncomputable def ad6:Cx:=(aL [ZP] [ze,Eg,Jd])
theorem Py:ad6.Ok prog:=av ⟨Je,trivial⟩ ⟨⟨mZ,rfl⟩,⟨rY,rfl⟩,⟨GV,rfl⟩,trivial⟩
noncomputable def WB:D prog 11 none 2:=dO [] (kd prog f37) 0
noncomputable def FH37 (m1:List ((GG)×Bool)):bJ ((Int×Int)×Int×(List ((GG)×Bool))×Unit) :=
 .bd (FH54 m1) fun y0 =>
 .br y0.1 (
 .ret (((0:Int),(0:Int)),(9:Int),y0.2.1,())) (
 .bd (FH66 y0.2.1) fun y1 =>
 .bd (FH67_v1 y1.2.1 y1.2.2.1 y1.2.2.2.1 y1.2.2.2.2.1) fun y2 =>
 .bd (F72 (((y2.2.1).drop (0:Nat)).take y2.1)) fun y3 =>
 .ret ((y3.1.1,y3.1.2),(0:Int),y1.1,()))
theorem TY:cw prog f37=some ⟨11,1,WB.er,[.cell 2 true 2,.t 3],[some (.prod tI tI),some tI]⟩:=by kernel_rfl
noncomputable def ht37:Ht:=⟨37,pH37,qH37,(fun x=>ah (FH37 x.1))⟩
theorem TZ:ht37.Ok prog:=bG mixed Py rfl func37 TY (enters_of func37 rfl rfl) WB (by kernel_rfl) rfl rfl ⟨_,rfl⟩ rfl (pre:=[0,1]) rfl (fun x=>by kernel_rfl)

/- 25, lent -/
@[reducible] def pH25:ax:=ax.mk [(0,.c (.ptr 0 0)),(1,.c (.hole .str))] [(0,.cells [.mp 1] false),(1,.map tG true .bool false)] [.slot 0,.cell 0 0] []
@[reducible] def qH25:ax:=ax.mk [(0,.cK [.hole (.prod tI tI),.hole tI])] [(0,.cells [.mp 1] false),(1,.map tG true .bool false)] [] []
noncomputable def ad8:Cx:=(aL [ZP] [TS])
theorem Pz:ad8.Ok prog:=av ⟨Je,trivial⟩ ⟨⟨B5,rfl⟩,trivial⟩
noncomputable def WC:D prog 20 none 2:=dO [] (kd prog f25) 0
noncomputable def FH25 (v1:ByteArray) (m1:List ((GG)×Bool)):bJ ((Int×Int)×Int×(List ((GG)×Bool))×Unit) :=
 .bd (FH23 v1 m1) fun y0 =>
 .br (!(y0.2.1==(0:Int))) (
 .ret (((0:Int),(0:Int)),y0.2.1,y0.2.2.2.1,())) (
 .bd (F72 (((y0.2.2.1).drop (0:Nat)).take y0.1)) fun y1 =>
 .ret ((y1.1.1,y1.1.2),(0:Int),y0.2.2.2.1,()))
theorem T0:cw prog f25=some ⟨20,2,WC.er,[.cell 4 true 2,.t 5],[some (.prod tI tI),some tI]⟩:=by kernel_rfl
noncomputable def ZQ:Ht:=⟨25,pH25,qH25,(fun x=>ah (FH25 x.1 x.2.1))⟩
theorem Jf:ZQ.Ok prog:=bG mixed Pz rfl func25 T0 (enters_of func25 rfl rfl) WC (by kernel_rfl) rfl rfl ⟨_,rfl⟩ rfl (pre:=[0,1]) rfl (fun x=>by kernel_rfl)

/- 36 -/
noncomputable def cx36:Cx:=(aL [] [])
theorem Jg:cx36.Ok prog:=av trivial trivial
@[reducible] def aea:ax:=ax.mk [(0,.c (.hole (.list .str))),(1,.c (.hole (.list .str))),(5,hI)] [] [] []
@[reducible] def aeb:aT:=[(.ret,ax.mk [(4,.c (.tf false))] [] [] []),(.exit 0,ax.mk [] [] [] [])]
noncomputable def aec:D prog 26 none 0:=dO [] (pick (kd prog f36) [(0,false)]) 0
noncomputable def g36_0:List ByteArray×List ByteArray×Int×Unit→bJ ((List ByteArray×List ByteArray×Int×Unit) ⊕ ((Unit) ⊕ ((Unit)))):=fun (v0,v1,v5,_) =>
 .br (decide (v5<(((v0).length:Nat):Int))) (
 .nb v5 (((v0).length:Nat):Int) <|
 .nb v5 (((v1).length:Nat):Int) <|
 .br (!(seq ((v0).getD (Int.toNat v5) (bs [])) ((v1).getD (Int.toNat v5) (bs [])))) (
 .ret (.inr <| .inl<|())) (
 .ni (v5+(1:Int)) <|
 .ret (.inl (v0,v1,(v5+(1:Int)),())))) (
 .ret (.inr <| .inr<|()))
noncomputable def aed:bD prog 26 none 0:=aZ mixed cx36 Jg [] rfl aea aeb rfl (aec) (fun x=>ah (g36_0 x)) (fun x=>by kernel_rfl)
noncomputable def dd36:D prog 26 none 0:=dO [.l aed] (kd prog f36) 0
noncomputable def F36 (a0:List ByteArray) (a1:List ByteArray):bJ (Bool×Unit) :=
 .br (!((((a0).length:Nat):Int)==(((a1).length:Nat):Int))) (
 .ret (false,())) (
 .bd (.it g36_0 (a0,a1,(0:Int),())) fun z0 =>
 .sm z0 (fun z1 =>
 .ret (false,())) fun z2 =>
 .ret (true,()))
theorem ZR:cw prog f36=some ⟨26,2,dd36.er,[.t 4],[some .bool]⟩:=by kernel_rfl
noncomputable def ct36:Ct:=⟨36,[.c (.hole (.list .str)),.c (.hole (.list .str))],.c (.hole .bool),fun x=>ah (F36 x.1 x.2.1)⟩
theorem T1:ct36.Ok prog:=cB mixed Jg func36 ZR (enters_of func36 rfl rfl) dd36 (by kernel_rfl) rfl (fun x=>by kernel_rfl)

/- 27 -/
noncomputable def cx27:Cx:=(aL [] [])
theorem Jh:cx27.Ok prog:=av trivial trivial
@[reducible] def aeh:ax:=ax.mk [(0,hL),(1,hL),(5,hI)] [] [] []
@[reducible] def aei:aT:=[(.ret,ax.mk [(4,.c (.tf false))] [] [] []),(.exit 0,ax.mk [] [] [] [])]
noncomputable def aej:D prog 26 none 0:=dO [] (pick (kd prog f27) [(0,false)]) 0
noncomputable def g27_0:List Int×List Int×Int×Unit→bJ ((List Int×List Int×Int×Unit) ⊕ ((Unit) ⊕ ((Unit)))):=fun (v0,v1,v5,_) =>
 .br (decide (v5<(((v0).length:Nat):Int))) (
 .nb v5 (((v0).length:Nat):Int) <|
 .nb v5 (((v1).length:Nat):Int) <|
 .br (!(((v0).getD (Int.toNat v5) (0:Int))==((v1).getD (Int.toNat v5) (0:Int)))) (
 .ret (.inr <| .inl<|())) (
 .ni (v5+(1:Int)) <|
 .ret (.inl (v0,v1,(v5+(1:Int)),())))) (
 .ret (.inr <| .inr<|()))
noncomputable def aek:bD prog 26 none 0:=aZ mixed cx27 Jh [] rfl aeh aei rfl (aej) (fun x=>ah (g27_0 x)) (fun x=>by kernel_rfl)
noncomputable def dd27:D prog 26 none 0:=dO [.l aek] (kd prog f27) 0
noncomputable def F27 (a0:List Int) (a1:List Int):bJ (Bool×Unit) :=
 .br (!((((a0).length:Nat):Int)==(((a1).length:Nat):Int))) (
 .ret (false,())) (
 .bd (.it g27_0 (a0,a1,(0:Int),())) fun z0 =>
 .sm z0 (fun z1 =>
 .ret (false,())) fun z2 =>
 .ret (true,()))
theorem ZS:cw prog f27=some ⟨26,2,dd27.er,[.t 4],[some .bool]⟩:=by kernel_rfl
noncomputable def ZT:Ct:=⟨27,[hL,hL],.c (.hole .bool),fun x=>ah (F27 x.1 x.2.1)⟩
theorem Ji:ZT.Ok prog:=cB mixed Jh func27 ZS (enters_of func27 rfl rfl) dd27 (by kernel_rfl) rfl (fun x=>by kernel_rfl)

/- 80, lent -/
@[reducible] def pH80:ax:=ax.mk [(0,.c (.mp 0)),(1,.c (.hole .str))] [(0,.map .str false .unit true)] [.slot 0] []
@[reducible] def qH80:ax:=ax.mk [(0,.c .any)] [(0,.map .str false .unit true)] [] []
noncomputable def aem:Cx:=(aL [] [])
theorem PA:aem.Ok prog:=av trivial trivial
noncomputable def WD:D prog 7 none 1:=dO [] (kd prog f80) 0
noncomputable def FH80 (v1:ByteArray) (m0:List (ByteArray×Unit)):bJ ((List (ByteArray×Unit))×Unit) :=
 .ret ((bg .str m0 v1 ()),())
theorem T2:cw prog f80=some ⟨7,2,WD.er,[],[]⟩:=by kernel_rfl
noncomputable def ht80:Ht:=⟨80,pH80,qH80,(fun x=>ah (FH80 x.1 x.2.1))⟩
theorem T3:ht80.Ok prog:=bG mixed PA rfl func80 T2 (enters_of func80 rfl rfl) WD (by kernel_rfl) rfl rfl ⟨_,rfl⟩ rfl (pre:=[0]) rfl (fun x=>by kernel_rfl)

/- 108, lent -/
@[reducible] def aeo:ax:=ax.mk [(0,.c (.mp 0))] [(0,.map .str false .unit true)] [.slot 0] []
@[reducible] def aep:ax:=ax.mk [(0,.fn 127 [] [.ptr 1 0])] [(1,.cells [.mp 0] false),(0,.map .str false .unit true)] [.part 0 0] []
noncomputable def ZU:Cx:=(aL [] [])
theorem Lk:ZU.Ok prog:=av trivial trivial
noncomputable def PB:D prog 4 none 1:=dO [] (kd prog f108) 0
noncomputable def FH108 (m0:List (ByteArray×Unit)):bJ ((List (ByteArray×Unit))×Unit) :=
 .ret (m0,())
theorem PC:cw prog f108=some ⟨4,1,PB.er,[.t 2],[none]⟩:=by kernel_rfl
noncomputable def WE:Ht:=⟨108,aeo,aep,(fun x=>ah (FH108 x.1))⟩
theorem PD:WE.Ok prog:=bG mixed Lk rfl func108 PC (enters_of func108 rfl rfl) PB (by kernel_rfl) rfl rfl ⟨_,rfl⟩ rfl (pre:=[0]) rfl (fun x=>by kernel_rfl)

/- 82, lent -/
@[reducible] def pH82:ax:=ax.mk [(0,.c (.mp 0))] [(0,.map .str false .unit true)] [.slot 0] []
@[reducible] def qH82:ax:=ax.mk [(0,.fn 127 [] [.ptr 1 0])] [(1,.cells [.mp 0] false),(0,.map .str false .unit true)] [.part 0 0] []
noncomputable def aeq:Cx:=(aL [] [WE])
theorem PE:aeq.Ok prog:=av trivial ⟨⟨PD,rfl⟩,trivial⟩
noncomputable def WG:D prog 5 none 1:=dO [] (kd prog f82) 0
noncomputable def FH82 (m0:List (ByteArray×Unit)):bJ ((List (ByteArray×Unit))×Unit) :=
 .bd (FH108 m0) fun y0 =>
 .ret (y0.1,())
theorem T4:cw prog f82=some ⟨5,1,WG.er,[.t 2],[none]⟩:=by kernel_rfl
noncomputable def ht82:Ht:=⟨82,pH82,qH82,(fun x=>ah (FH82 x.1))⟩
theorem T5:ht82.Ok prog:=bG mixed PE rfl func82 T4 (enters_of func82 rfl rfl) WG (by kernel_rfl) rfl rfl ⟨_,rfl⟩ rfl (pre:=[0]) rfl (fun x=>by kernel_rfl)

/- 81, lent -/
@[reducible] def T6:ax:=ax.mk [(0,.fn 127 [] [.ptr 0 0])] [(0,.cells [.mp 1] false),(1,.map .str false .unit true)] [.part 0 0,.cell 0 0] []
@[reducible] def T7:ax:=ax.mk [(0,.c (.bN 2 .str))] [(2,.arr .str false),(0,.cells [.mp 1] false),(1,.map .str false .unit true)] [.slot 0] []
noncomputable def nh:Cx:=(aL [] [Ap])
theorem lK:nh.Ok prog:=av (vp:=[]) (hts:=[Ap]) trivial ⟨⟨xN,rfl⟩,trivial⟩
noncomputable def kG:D prog 13 (some 4) 7:=dO [] (pick (kd prog f126) [(0,false)]) 0
noncomputable def kH:D prog 13 (some 4) 7:=dO [] (pick (kd prog f126) [(0,true)]) 0
noncomputable def fH:Cx:=yY nh (fun kz=>NG kz nh dN 4 7 [7] (kG) (kH))
theorem gW:(fH).Ok prog:=jH lK (fun h=>mV mixed lK h)
@[reducible] def oC:ax:=ax.mk [(0,.c (.yl 4)),(4,.c (.mp 1))] [(4,.loop .ready none 3 [(2,.c (.ptr 2 0)),(4,.c .bX),(6,.fn 127 [] [.ptr 0 0])] [7] (.aV [.op (some 5) none (.mv (.t 7))]) (.block 1 (.aV [.op (some 8) none (.load false 1 (.t 2)),.op (some 9) none (.mv (.t 5)),.op (some 10) none (.dS .str [.t 9]),.op (some 11) none (.append 1 (.t 8) (.t 10)),.op none none (.store 1 (.t 2) (.t 11))])) 13),(1,.map .str false .unit true),(3,.ig),(2,.cells [.bN 5 .str] false),(0,.cells [.mp 1] false),(5,.arr .str false)] [.cell 2 0] []
noncomputable def oD:D prog 14 none 7:=dO [] (pick (kd prog f127) [(0,false)]) 0
noncomputable def gH81_v1f107f126_0i_0:((ByteArray)×(Unit))→(List (ByteArray×Unit))×Nat×List ByteArray×Unit→bJ ((List (ByteArray×Unit))×Nat×List ByteArray×Unit):=fun e (m1,ku,b5,_) =>
 .nd (decide ((ku+(((((e.1::[])).drop (0:Nat)).take (1:Nat))).length)<bI)) <|
 .nd (jy m1 m1) <|
 .ret (m1,(ku+(((((e.1::[])).drop (0:Nat)).take (1:Nat))).length),((((b5).drop (0:Nat)).take ku)++((((e.1::[])).drop (0:Nat)).take (1:Nat))),())
noncomputable def oE:rz prog 14 none 5:=vu mixed fH gW [0,1,2,3,4] rfl oC ( [.op (some 4) none (.load false 1 (.t 1))]) 4 5 [6,7] (some 8) ( .str)  false ( .unit)  true 0 rfl 7 rfl (oD) (fun e x=>ah (gH81_v1f107f126_0i_0 e x)) (fun e=>fun x=>by kernel_rfl)
@[reducible] def sg:ax:=ax.mk [(2,.c (.ptr 2 0)),(4,.c .bX),(6,.fn 127 [] [.ptr 0 0])] [(2,.cells [.bX] false),(0,.cells [.mp 1] false),(1,.map .str false .unit true)] [.slot 2] []
@[reducible] def sj:aT:=[(.normal,ax.mk [(2,.c (.ptr 2 0))] [(2,.cells [.bN 3 .str] false),(0,.cells [.mp 1] false),(1,.map .str false .unit true),(3,.arr .str false)] [.slot 2,.cell 2 0] [])]
noncomputable def kJ:D prog 14 none 5:=dO [.m oE] (kd prog f127) 0
theorem qA:cw prog f127=some ⟨14,2,(kJ).er,[],[]⟩:=by kernel_rfl
noncomputable def lq:gr prog 13 none 2:=rM mixed fH gW [0,1] rfl sg sj ( .t 6) [7] rfl (kG).er (kH).er 127 func127 (qA) (enters_of func127 rfl rfl) 5 rfl (kJ) rfl
@[reducible] noncomputable def GW:Go.AM.Fn:=⟨13,2,(dO [.r lq] (kd prog f126) 0:D prog 13 none 2).er,[.t 4],[some (.list .str)]⟩
noncomputable def ye:Cx:=Al prog nh 126 GW 2 (dO [.r lq] (kd prog f126) 0)
theorem zg:ye.Ok prog:=rL mixed lK func126 (by kernel_rfl) (enters_of func126 rfl rfl) rfl
@[reducible] noncomputable def GX:Go.AM.Fn:=⟨5,1,(dO [] (kd prog f107) 0:D prog 5 none 0).er,[.t 2],[some (.list .str)]⟩
noncomputable def yf:Cx:=DW prog ye 107 GX (fun _=>dO [] (kd prog f107) 0)
theorem zi:yf.Ok prog:=oW mixed zg func107 (by kernel_rfl) (enters_of func107 rfl rfl) (fun _=>by kernel_rfl)
noncomputable def PF:Cx:=yf
theorem EJ:PF.Ok prog:=zi
noncomputable def EK:D prog 9 none 2:=dO [] (kd prog f81) 0
noncomputable def FH81_v1 (m1:List (ByteArray×Unit)):bJ (Nat×List ByteArray×(List (ByteArray×Unit))×Unit) :=
 .an m1 fun l0 =>
 .bd (.fm gH81_v1f107f126_0i_0 l0 (m1,(0:Nat),[],())) fun z1 =>
 .bd (FH105 z1.2.1 z1.2.2.1) fun y2 =>
 .ret (z1.2.1,y2.1,z1.1,())
theorem GY:cw prog f81=some ⟨9,1,EK.er,[.t 2],[some (.list .str)]⟩:=by kernel_rfl
noncomputable def Jj:Ht:=⟨81,T6,T7,(fun x=>ah (FH81_v1 x.1))⟩
theorem GZ:Jj.Ok prog:=bG mixed EJ rfl func81 GY (enters_of func81 rfl rfl) EK (by kernel_rfl) rfl rfl ⟨_,rfl⟩ rfl (pre:=[0,1]) rfl (fun x=>by kernel_rfl)

/- 45, lent -/
@[reducible] def pH45:ax:=ax.mk [(0,.c (.ptr 0 0))] [(0,.cells [.mp 1] false),(1,.map tG true .bool false)] [.slot 0,.cell 0 0] []
@[reducible] def qH45:ax:=ax.mk [(0,.c (.bN 2 .str))] [(2,.arr .str false),(0,.cells [.mp 1] false),(1,.map tG true .bool false)] [.slot 0] []
noncomputable def Jk:Cx:=(aL [] [ze,Eg,TK,OB,OD,GK,ht80,ht82,Jj])
theorem sk:Jk.Ok prog:=av trivial ⟨⟨mZ,rfl⟩,⟨rY,rfl⟩,⟨BW,rfl⟩,⟨vE,rfl⟩,⟨vG,rfl⟩,⟨r8,rfl⟩,⟨T3,rfl⟩,⟨T5,rfl⟩,⟨GZ,rfl⟩,trivial⟩
@[reducible] def Ll:ax:=ax.mk [(3,.c (.ptr 2 0)),(4,.c (.ptr 3 0)),(18,.c (.bN 20 .str)),(19,hI),(20,hI)] [(2,.cells [.ptr 5 0] false),(3,.cells [.mp 21] false),(20,.arr .str false),(5,.cells [.mp 7,.mp 8,.mp 9,.mp 10] false),(7,.map .str false tG true),(8,.map .str false (.list .str) false),(9,.map .str false .bool false),(10,.map .str false .bool false),(0,.cells [.mp 1] false),(1,.map tG true .bool false),(4,.cells [.ptr 5 0] false),(11,.ig),(12,.loop .busy none 11 [(2,.c .bX),(3,.c (.ptr 2 0)),(4,.c (.ptr 3 0)),(15,.fn 106 [] [.ptr 4 0])] [16,17] (.aV [.op (some 6) none (.mv (.t 17))]) (.block 1 (.seq (.aV [.op (some 18) none (.mv (.t 6)),.op (some 19) none (.len (.t 18)),.op (some 20) none (.mv (.c (.int .i64 (Int.ofNat 0))))]) (.block 2 (.loop (.seq (.aV [.op (some 21) none (.bin .lss (.t 20) (.t 19))]) (.seq (.cond (.t 21) .skip (.exit 2)) (.seq (.block 3 (.seq (.aV [.op (some 22) none (.idx 1 (.t 18) (.t 20)),.op (some 23) none (.load false 1 (.t 22)),.op (some 8) none (.mv (.t 23))]) (.seq (.draw [[],[],[1],[1,2],[1,2,3],[],[1,2,3,4,5],[1,2,3,4,5,6],[0,1,2,3,4,5,6,7]] [.op (some 24) none (.load false 1 (.t 4)),.op (some 25) none (.load false 1 (.t 3)),.op (some 26) none (.ex gA.iQ [.t 25]),.op (some 27) none (.mD 0 [false] (.t 26)),.op (some 28) none (.load false 1 (.t 27)),.op (some 29) none (.mv (.t 8)),.op (some 30) none (.ex (gA.gh .str false tG true false) [.t 28,.t 29]),.op (some 31) none (.field false 3 1 (.t 30))]) (.aV [.call (some 32) none (.c (.fn 80 [] [])) [.t 24,.t 31] [none,some .str]])))) (.aV [.op (some 33) none (.bin .add (.t 20) (.c (.int .i64 (Int.ofNat 1)))),.op (some 20) none (.mv (.t 33))])))))))) 37),(13,.arr .str false),(21,.map .str false .unit true)] [.cell 3 0] []
@[reducible] def Lm:aT:=[(.exit 2,ax.mk [] [(0,.cells [.mp 1] false),(1,.map tG true .bool false),(2,.cells [.ptr 5 0] false),(5,.cells [.mp 7,.mp 8,.mp 9,.mp 10] false),(7,.map .str false tG true),(8,.map .str false (.list .str) false),(9,.map .str false .bool false),(10,.map .str false .bool false),(3,.cells [.mp 21] false),(4,.cells [.ptr 5 0] false),(11,.ig),(12,.loop .busy none 11 [(2,.c .bX),(3,.c (.ptr 2 0)),(4,.c (.ptr 3 0)),(15,.fn 106 [] [.ptr 4 0])] [16,17] (.aV [.op (some 6) none (.mv (.t 17))]) (.block 1 (.seq (.aV [.op (some 18) none (.mv (.t 6)),.op (some 19) none (.len (.t 18)),.op (some 20) none (.mv (.c (.int .i64 (Int.ofNat 0))))]) (.block 2 (.loop (.seq (.aV [.op (some 21) none (.bin .lss (.t 20) (.t 19))]) (.seq (.cond (.t 21) .skip (.exit 2)) (.seq (.block 3 (.seq (.aV [.op (some 22) none (.idx 1 (.t 18) (.t 20)),.op (some 23) none (.load false 1 (.t 22)),.op (some 8) none (.mv (.t 23))]) (.seq (.draw [[],[],[1],[1,2],[1,2,3],[],[1,2,3,4,5],[1,2,3,4,5,6],[0,1,2,3,4,5,6,7]] [.op (some 24) none (.load false 1 (.t 4)),.op (some 25) none (.load false 1 (.t 3)),.op (some 26) none (.ex gA.iQ [.t 25]),.op (some 27) none (.mD 0 [false] (.t 26)),.op (some 28) none (.load false 1 (.t 27)),.op (some 29) none (.mv (.t 8)),.op (some 30) none (.ex (gA.gh .str false tG true false) [.t 28,.t 29]),.op (some 31) none (.field false 3 1 (.t 30))]) (.aV [.call (some 32) none (.c (.fn 80 [] [])) [.t 24,.t 31] [none,some .str]])))) (.aV [.op (some 33) none (.bin .add (.t 20) (.c (.int .i64 (Int.ofNat 1)))),.op (some 20) none (.mv (.t 33))])))))))) 37),(13,.arr .str false),(20,.arr .str false),(21,.map .str false .unit true)] [.cell 3 0] [])]
noncomputable def Ln:D prog 37 (some 12) 21:=dO [] (pick (kd prog f45) [(0,true),(0,false)]) 0
noncomputable def gH45_0b_1:Nat×Int×Int×List ByteArray×cL×cN×aW×aW×(List ((GG)×Bool))×List ByteArray×(List (ByteArray×Unit))×Unit→bJ ((Nat×Int×Int×List ByteArray×cL×cN×aW×aW×(List ((GG)×Bool))×List ByteArray×(List (ByteArray×Unit))×Unit) ⊕ (((List ((GG)×Bool))×cL×cN×aW×aW×List ByteArray×List ByteArray×(List (ByteArray×Unit))×Unit))):=fun (nv18,Tq,v20,pE,m7,m8,m9,m10,m1,jd,m21,_) =>
 .br (decide (v20<Tq)) (
 .nb v20 ((nv18:Nat):Int) <|
 .nd (decide (((0:Nat)+(Int.toNat v20))<(pE).length)) <|
 .bd (FH80 (az .str ((bs []),(0:Int),(bs []),(bs []),(0:Int)) m7 ((pE).getD ((0:Nat)+(Int.toNat v20)) (bs []))).2.2.2.1 m21) fun y6 =>
 .ni (v20+(1:Int)) <|
 .ret (.inl (nv18,Tq,(v20+(1:Int)),pE,m7,m8,m9,m10,m1,jd,y6.1,()))) (
 .ret (.inr (m1,m7,m8,m9,m10,jd,pE,m21,())))
noncomputable def Lp:bD prog 37 (some 12) 21:=aZ mixed Jk sk [0,1,2,3,4,5,6,7,8,9,10,11,12,13,14,15,16,17,18,19,20] rfl Ll Lm rfl (Ln) (fun x=>ah (gH45_0b_1 x)) (fun x=>by kernel_rfl)
noncomputable def Jl:D prog 37 (some 12) 21:=dO [] (pick (kd prog f45) [(0,false)]) 0
noncomputable def Jm:D prog 37 (some 12) 21:=dO [.l Lp] (pick (kd prog f45) [(0,true)]) 0
noncomputable def yg:Cx:=yY Jk (fun kz=>NG kz Jk dN 12 21 [16,17] (Jl) (Jm))
theorem uC:(yg).Ok prog:=jH sk (fun h=>mV mixed sk h)
@[reducible] def Lq:ax:=ax.mk [(0,.c (.yl 12)),(1,.c (.ptr 4 0)),(10,.c (.bN 13 .str)),(11,hI),(12,hI)] [(12,.loop .ready none 11 [(2,.c .bX),(3,.c (.ptr 2 0)),(4,.c (.ptr 3 0)),(15,.fn 106 [] [.ptr 4 0])] [16,17] (.aV [.op (some 6) none (.mv (.t 17))]) (.block 1 (.seq (.aV [.op (some 18) none (.mv (.t 6)),.op (some 19) none (.len (.t 18)),.op (some 20) none (.mv (.c (.int .i64 (Int.ofNat 0))))]) (.block 2 (.loop (.seq (.aV [.op (some 21) none (.bin .lss (.t 20) (.t 19))]) (.seq (.cond (.t 21) .skip (.exit 2)) (.seq (.block 3 (.seq (.aV [.op (some 22) none (.idx 1 (.t 18) (.t 20)),.op (some 23) none (.load false 1 (.t 22)),.op (some 8) none (.mv (.t 23))]) (.seq (.draw [[],[],[1],[1,2],[1,2,3],[],[1,2,3,4,5],[1,2,3,4,5,6],[0,1,2,3,4,5,6,7]] [.op (some 24) none (.load false 1 (.t 4)),.op (some 25) none (.load false 1 (.t 3)),.op (some 26) none (.ex gA.iQ [.t 25]),.op (some 27) none (.mD 0 [false] (.t 26)),.op (some 28) none (.load false 1 (.t 27)),.op (some 29) none (.mv (.t 8)),.op (some 30) none (.ex (gA.gh .str false tG true false) [.t 28,.t 29]),.op (some 31) none (.field false 3 1 (.t 30))]) (.aV [.call (some 32) none (.c (.fn 80 [] [])) [.t 24,.t 31] [none,some .str]])))) (.aV [.op (some 33) none (.bin .add (.t 20) (.c (.int .i64 (Int.ofNat 1)))),.op (some 20) none (.mv (.t 33))])))))))) 37),(4,.cells [.ptr 5 0] false),(13,.arr .str false),(11,.ig),(2,.cells [.ptr 5 0] false),(5,.cells [.mp 7,.mp 8,.mp 9,.mp 10] false),(7,.map .str false tG true),(8,.map .str false (.list .str) false),(9,.map .str false .bool false),(10,.map .str false .bool false),(3,.cells [.mp 14] false),(0,.cells [.mp 1] false),(1,.map tG true .bool false),(14,.map .str false .unit true)] [.slot 10,.cell 3 0] []
@[reducible] def Lr:aT:=[(.exit 0,ax.mk [] [(0,.cells [.mp 1] false),(1,.map tG true .bool false),(2,.cells [.ptr 5 0] false),(5,.cells [.mp 7,.mp 8,.mp 9,.mp 10] false),(7,.map .str false tG true),(8,.map .str false (.list .str) false),(9,.map .str false .bool false),(10,.map .str false .bool false),(3,.cells [.mp 13] false),(4,.cells [.ptr 5 0] false),(11,.ig),(12,.loop .ready none 11 [(2,.c .bX),(3,.c (.ptr 2 0)),(4,.c (.ptr 3 0)),(15,.fn 106 [] [.ptr 4 0])] [16,17] (.aV [.op (some 6) none (.mv (.t 17))]) (.block 1 (.seq (.aV [.op (some 18) none (.mv (.t 6)),.op (some 19) none (.len (.t 18)),.op (some 20) none (.mv (.c (.int .i64 (Int.ofNat 0))))]) (.block 2 (.loop (.seq (.aV [.op (some 21) none (.bin .lss (.t 20) (.t 19))]) (.seq (.cond (.t 21) .skip (.exit 2)) (.seq (.block 3 (.seq (.aV [.op (some 22) none (.idx 1 (.t 18) (.t 20)),.op (some 23) none (.load false 1 (.t 22)),.op (some 8) none (.mv (.t 23))]) (.seq (.draw [[],[],[1],[1,2],[1,2,3],[],[1,2,3,4,5],[1,2,3,4,5,6],[0,1,2,3,4,5,6,7]] [.op (some 24) none (.load false 1 (.t 4)),.op (some 25) none (.load false 1 (.t 3)),.op (some 26) none (.ex gA.iQ [.t 25]),.op (some 27) none (.mD 0 [false] (.t 26)),.op (some 28) none (.load false 1 (.t 27)),.op (some 29) none (.mv (.t 8)),.op (some 30) none (.ex (gA.gh .str false tG true false) [.t 28,.t 29]),.op (some 31) none (.field false 3 1 (.t 30))]) (.aV [.call (some 32) none (.c (.fn 80 [] [])) [.t 24,.t 31] [none,some .str]])))) (.aV [.op (some 33) none (.bin .add (.t 20) (.c (.int .i64 (Int.ofNat 1)))),.op (some 20) none (.mv (.t 33))])))))))) 37),(13,.map .str false .unit true)] [.cell 3 0] [])]
noncomputable def Ls:D prog 34 none 13:=dO [] (pick (kd prog f106) [(0,false)]) 0
noncomputable def gH45_0i_0:Nat×Int×Int×List ByteArray×cL×cN×aW×aW×(List ((GG)×Bool))×(List (ByteArray×Unit))×Unit→bJ ((Nat×Int×Int×List ByteArray×cL×cN×aW×aW×(List ((GG)×Bool))×(List (ByteArray×Unit))×Unit) ⊕ (((List ((GG)×Bool))×cL×cN×aW×aW×(List (ByteArray×Unit))×Unit))):=fun (xZ,v11,v12,jd,m7,m8,m9,m10,m1,m14,_) =>
 .br (decide (v12<v11)) (
 .nb v12 ((xZ:Nat):Int) <|
 .nd (decide (((0:Nat)+(Int.toNat v12))<(jd).length)) <|
 .br ((az .str ((bs []),(0:Int),(bs []),(bs []),(0:Int)) m7 ((jd).getD ((0:Nat)+(Int.toNat v12)) (bs []))).2.1==(1:Int)) (
 .bd (FH76fix ((jd).getD ((0:Nat)+(Int.toNat v12)) (bs [])) m7 m8 m9 m10) fun y5 =>
 .bd (.it gH45_0b_1 (y5.1,((y5.1:Nat):Int),(0:Int),y5.2.1,y5.2.2.1,y5.2.2.2.1,y5.2.2.2.2.1,y5.2.2.2.2.2.1,m1,jd,m14,())) fun z7 =>
 .ni (v12+(1:Int)) <|
 .ret (.inl (xZ,v11,(v12+(1:Int)),z7.2.2.2.2.2.1,z7.2.1,z7.2.2.1,z7.2.2.2.1,z7.2.2.2.2.1,z7.1,z7.2.2.2.2.2.2.2.1,()))) (
 .ni (v12+(1:Int)) <|
 .ret (.inl (xZ,v11,(v12+(1:Int)),jd,m7,m8,m9,m10,m1,m14,())))) (
 .ret (.inr (m1,m7,m8,m9,m10,m14,())))
noncomputable def Lt:bD prog 34 none 13:=aZ mixed yg uC [0,1,2,3,4,5,6,7,8,9,10,11,12] rfl Lq Lr rfl (Ls) (fun x=>ah (gH45_0i_0 x)) (fun x=>by kernel_rfl)
@[reducible] def ZV:ax:=ax.mk [(2,.c .bX),(3,.c (.ptr 2 0)),(4,.c (.ptr 3 0)),(15,.fn 106 [] [.ptr 4 0])] [(2,.cells [.ptr 5 0] false),(3,.cells [.mp 6] false),(4,.cells [.ptr 5 0] false),(0,.cells [.mp 1] false),(1,.map tG true .bool false),(5,.cells [.mp 7,.mp 8,.mp 9,.mp 10] false),(6,.map .str false .unit true),(7,.map .str false tG true),(8,.map .str false (.list .str) false),(9,.map .str false .bool false),(10,.map .str false .bool false)] [.slot 3,.slot 4,.part 15 0,.cell 2 0,.cell 3 0,.cell 5 0,.cell 5 1,.cell 5 2,.cell 5 3] []
@[reducible] def ZW:aT:=[(.normal,ax.mk [(4,.c (.ptr 2 0))] [(2,.cells [.mp 3] false),(0,.cells [.mp 1] false),(1,.map tG true .bool false),(3,.map .str false .unit true)] [.slot 4,.cell 2 0] [])]
noncomputable def Jn:D prog 34 none 13:=dO [.l Lt] (kd prog f106) 0
theorem T8:cw prog f106=some ⟨34,2,(Jn).er,[],[]⟩:=by kernel_rfl
noncomputable def gH45_0:(List ((GG)×Bool))×(List (ByteArray×Unit))×cL×cN×aW×aW×Unit→bJ (((List ((GG)×Bool))×(List (ByteArray×Unit))×Unit)):=fun (m1,m6,m7,m8,m9,m10,_) =>
 .bd (FH95 m7) fun y3 =>
 .bd (FH81 y3.1) fun y4 =>
 .bd (.it gH45_0i_0 (y4.1,((y4.1:Nat):Int),(0:Int),y4.2.1,y4.2.2.1,m8,m9,m10,m1,m6,())) fun z8 =>
 .ret ((z8.1,z8.2.2.2.2.2.1,()))
noncomputable def ZX:gr prog 37 none 2:=rI mixed yg uC [0,1] rfl ZV ZW ( .t 15) [16,17] rfl (Jl).er (Jm).er 106 func106 (T8) (enters_of func106 rfl rfl) 13 rfl (Jn) rfl (fun x=>ah (gH45_0 x)) (fun x=>by kernel_rfl)
noncomputable def WH:D prog 37 none 2:=dO [.r ZX] (kd prog f45) 0
noncomputable def FH45 (m1:List ((GG)×Bool)):bJ (Nat×List ByteArray×(List ((GG)×Bool))×Unit) :=
 .bd (FH54 m1) fun y0 =>
 .br y0.1 (
 .ret ((0:Nat),[],y0.2.1,())) (
 .bd (FH66 y0.2.1) fun y1 =>
 .bd (FH79 y1.2.1 y1.2.2.1 y1.2.2.2.1 y1.2.2.2.2.1) fun y2 =>
 .bd (gH45_0 (y1.1,[],y2.1,y2.2.1,y2.2.2.1,y2.2.2.2.1,())) fun z9 =>
 .bd (FH82 z9.2.1) fun PG =>
 .bd (FH81_v1 PG.1) fun WI =>
 .ret (WI.1,WI.2.1,z9.1,()))
theorem T9:cw prog f45=some ⟨37,1,WH.er,[.t 2],[some (.list .str)]⟩:=by kernel_rfl
noncomputable def ht45:Ht:=⟨45,pH45,qH45,(fun x=>ah (FH45 x.1))⟩
theorem Ua:ht45.Ok prog:=bG mixed sk rfl func45 T9 (enters_of func45 rfl rfl) WH (by kernel_rfl) rfl rfl ⟨_,rfl⟩ rfl (pre:=[0,1]) rfl (fun x=>by kernel_rfl)

/- 17 -/
noncomputable def cx17:Cx:=(aL [ct46,ct36,ZT] [ht29,ht33,TS,ht37,ZQ,ht45,ht40,YW])
theorem Ub:cx17.Ok prog:=av ⟨Sz,T1,Ji,trivial⟩ ⟨⟨SR,rfl⟩,⟨TG,rfl⟩,⟨B5,rfl⟩,⟨TZ,rfl⟩,⟨Jf,rfl⟩,⟨Ua,rfl⟩,⟨TI,rfl⟩,⟨IW,rfl⟩,trivial⟩
noncomputable def dd17:D prog 130 none 0:=dO [] (kd prog f17) 0
noncomputable def F17:bJ (Bool×Unit) :=
 .bd (F46) fun y0 =>
 .nd (decide ((0:Int)≤(0:Int))) <|
 .nd (decide ((0:Int)≤(6:Int))) <|
 .nd (decide ((6:Int)≤(((y0.1).length:Nat):Int))) <|
 .bd (FH29 (((y0.1).drop (Int.toNat (0:Int))).take ((Int.toNat (6:Int)) - (Int.toNat (0:Int))))) fun y1 =>
 .bd (F46) fun y2 =>
 .nd (decide ((0:Int)≤(0:Int))) <|
 .nd (decide ((0:Int)≤(7:Int))) <|
 .nd (decide ((7:Int)≤(((y2.1).length:Nat):Int))) <|
 .bd (FH29 (((y2.1).drop (Int.toNat (0:Int))).take ((Int.toNat (7:Int)) - (Int.toNat (0:Int))))) fun y3 =>
 .bd (F46) fun y4 =>
 .bd (FH29 y4.1) fun y5 =>
 .bd (FH33 (bs [116,49]) y1.1) fun y6 =>
 .bd (FH23 (bs [97,110,97]) y6.2.2.2.1) fun y7 =>
 .bd (FH23 (bs [97,110,97]) y3.1) fun y8 =>
 .bd (FH37 y7.2.2.2.1) fun y9 =>
 .bd (FH25 (bs [99,121]) y5.1) fun PG =>
 .br (y6.2.1==(0:Int)) (
 .br (y7.2.1==(0:Int)) (
 .br (y8.2.1==(0:Int)) (
 .br (y9.2.1==(0:Int)) (
 .br (PG.2.1==(0:Int)) (
 .bd (F36 (((y6.2.2.1).drop (0:Nat)).take y6.1) (((((bs [99,50])::((bs [99,51])::[]))).drop (0:Nat)).take (2:Nat))) fun WI =>
 .br WI.1 (
 .bd (F27 (((y7.2.2.1).drop (0:Nat)).take y7.1) (((((0:Int)::((41:Int)::[]))).drop (0:Nat)).take (2:Nat))) fun y12 =>
 .br y12.1 (
 .bd (F27 (((y8.2.2.1).drop (0:Nat)).take y8.1) (((((41:Int)::[])).drop (0:Nat)).take (1:Nat))) fun Jc =>
 .br Jc.1 (
 .br ((y9.1.1==(65:Int))&&((y9.1.2==(66:Int))&&true)) (
 .br ((PG.1.1==(0:Int))&&((PG.1.2==(40:Int))&&true)) (
 .bd (FH45 y9.2.2.1) fun Pw =>
 .bd (F36 (((Pw.2.1).drop (0:Nat)).take Pw.1) (((((bs [97,110,97])::((bs [98,101,110])::((bs [99,121])::[])))).drop (0:Nat)).take (3:Nat))) fun y15 =>
 .br y15.1 (
 .bd (FH40 (bs [116,49]) (3:Int) Pw.2.2.1) fun y16 =>
 .br y16.1 (
 .bd (FH40 (bs [116,50]) (4:Int) y16.2.1) fun y17 =>
 .br y17.1 (
 .bd (FH40 (bs [99,51]) (5:Int) y17.2.1) fun y18 =>
 .br y18.1 (
 .bd (FH40 (bs [119,49]) (1:Int) y18.2.1) fun y19 =>
 .br y19.1 (
 .bd (FH40 (bs [99,50]) (2:Int) y8.2.2.2.1) fun y20 =>
 .br y20.1 (
 .bd (FH40 (bs [99,51]) (4:Int) y20.2.1) fun y21 =>
 .br y21.1 (
 .bd (FH40 (bs [99,50]) (5:Int) PG.2.2.1) fun y22 =>
 .br y22.1 (
 .bd (FH47 y22.2.1) fun y23 =>
 .ret ((((y23.1:Nat):Int)==(8:Int)),())) (
 .ret (false,()))) (
 .ret (false,()))) (
 .ret (false,()))) (
 .ret (false,()))) (
 .ret (false,()))) (
 .ret (false,()))) (
 .ret (false,()))) (
 .ret (false,()))) (
 .ret (false,()))) (
 .ret (false,()))) (
 .ret (false,()))) (
 .ret (false,()))) (
 .ret (false,()))) (
 .ret (false,()))) (
 .ret (false,()))) (
 .ret (false,()))) (
 .ret (false,()))) (
 .ret (false,()))
theorem ZY:cw prog f17=some ⟨130,0,dd17.er,[.t 0],[some .bool]⟩:=by kernel_rfl
noncomputable def ct17:Ct:=⟨17,[],.c (.hole .bool),fun x=>ah (F17)⟩
theorem Uc:ct17.Ok prog:=cB mixed Ub func17 ZY (enters_of func17 rfl rfl) dd17 (by kernel_rfl) rfl (fun x=>by kernel_rfl)

/- 16 -/
noncomputable def cx16:Cx:=(aL [] [])
theorem Jo:cx16.Ok prog:=av trivial trivial
@[reducible] def aex:ax:=ax.mk [(0,.c (.hole (.list tG))),(3,hI)] [] [] []
@[reducible] def aey:aT:=[(.ret,ax.mk [(2,.c (.tf true))] [] [] []),(.exit 0,ax.mk [] [] [] [])]
noncomputable def aez:D prog 35 none 0:=dO [] (pick (kd prog f16) [(0,false)]) 0
noncomputable def g16_0:(List (GG))×Int×Unit→bJ (((List (GG))×Int×Unit) ⊕ ((Unit) ⊕ ((Unit)))):=fun (v0,v3,_) =>
 .br (decide (v3<(((v0).length:Nat):Int))) (
 .nb v3 (((v0).length:Nat):Int) <|
 .br (decide ((60:Int)<((((v0).getD (Int.toNat v3) ((bs []),(0:Int),(bs []),(bs []),(0:Int))).1.size:Nat):Int))) (
 .ret (.inr <| .inl<|())) (
 .nb v3 (((v0).length:Nat):Int) <|
 .br (decide ((60:Int)<((((v0).getD (Int.toNat v3) ((bs []),(0:Int),(bs []),(bs []),(0:Int))).2.2.1.size:Nat):Int))) (
 .ret (.inr <| .inl<|())) (
 .nb v3 (((v0).length:Nat):Int) <|
 .br (decide ((60:Int)<((((v0).getD (Int.toNat v3) ((bs []),(0:Int),(bs []),(bs []),(0:Int))).2.2.2.1.size:Nat):Int))) (
 .ret (.inr <| .inl<|())) (
 .ni (v3+(1:Int)) <|
 .ret (.inl (v0,(v3+(1:Int)),())))))) (
 .ret (.inr <| .inr<|()))
noncomputable def aeA:bD prog 35 none 0:=aZ mixed cx16 Jo [] rfl aex aey rfl (aez) (fun x=>ah (g16_0 x)) (fun x=>by kernel_rfl)
noncomputable def dd16:D prog 35 none 0:=dO [.l aeA] (kd prog f16) 0
noncomputable def F16 (a0:List (GG)):bJ (Bool×Unit) :=
 .bd (.it g16_0 (a0,(0:Int),())) fun z0 =>
 .sm z0 (fun z1 =>
 .ret (true,())) fun z2 =>
 .ret (false,())
theorem ZZ:cw prog f16=some ⟨35,1,dd16.er,[.t 2],[some .bool]⟩:=by kernel_rfl
noncomputable def ct16:Ct:=⟨16,[.c (.hole (.list tG))],.c (.hole .bool),fun x=>ah (F16 x.1)⟩
theorem Ud:ct16.Ok prog:=cB mixed Jo func16 ZZ (enters_of func16 rfl rfl) dd16 (by kernel_rfl) rfl (fun x=>by kernel_rfl)

/- 19, lent -/
@[reducible] def pH19:ax:=ax.mk [] [] [] []
@[reducible] def qH19:ax:=ax.mk [(0,.c (.ptr 0 0))] [(0,.cells [.tf true,.bX] false)] [.slot 0] []
noncomputable def aeD:Cx:=(aL [] [])
theorem PI:aeD.Ok prog:=av trivial trivial
noncomputable def WJ:D prog 3 none 0:=dO [] (kd prog f19) 0
noncomputable def FH19:bJ (Unit) :=
 .ret ()
theorem Ue:cw prog f19=some ⟨3,0,WJ.er,[.t 0],[none]⟩:=by kernel_rfl
noncomputable def ht19:Ht:=⟨19,pH19,qH19,(fun x=>ah (FH19))⟩
theorem Uf:ht19.Ok prog:=bG mixed PI rfl func19 Ue (enters_of func19 rfl rfl) WJ (by kernel_rfl) rfl rfl ⟨_,rfl⟩ rfl (pre:=[]) rfl (fun x=>by kernel_rfl)

/- 90 -/
noncomputable def cx90:Cx:=(aL [] [])
theorem Ug:cx90.Ok prog:=av trivial trivial
noncomputable def dd90:D prog 15 none 0:=dO [] (kd prog f90) 0
noncomputable def F90 (a0:Int) (a1:Int) (a2:Int):bJ (Bool×Unit) :=
 .br (decide (a1≤a0)) (
 .ret ((decide (a0≤a2)),())) (
 .ret (false,()))
theorem Z0:cw prog f90=some ⟨15,3,dd90.er,[.t 6],[some .bool]⟩:=by kernel_rfl
noncomputable def ct90:Ct:=⟨90,[hI,hI,hI],.c (.hole .bool),fun x=>ah (F90 x.1 x.2.1 x.2.2.1)⟩
theorem Uh:ct90.Ok prog:=cB mixed Ug func90 Z0 (enters_of func90 rfl rfl) dd90 (by kernel_rfl) rfl (fun x=>by kernel_rfl)

/- 69 -/
noncomputable def cx69:Cx:=(aL [] [])
theorem Jp:cx69.Ok prog:=av trivial trivial
@[reducible] def aeI:ax:=ax.mk [(0,.c (.hole .str)),(3,hI)] [] [] []
@[reducible] def aeJ:aT:=[(.ret,ax.mk [(2,.c (.tf false))] [] [] []),(.exit 0,ax.mk [] [] [] [])]
noncomputable def aeK:D prog 50 none 0:=dO [] (pick (kd prog f69) [(0,false)]) 0
noncomputable def g69_0:ByteArray×Int×Unit→bJ ((ByteArray×Int×Unit) ⊕ ((Unit) ⊕ ((Unit)))):=fun (v0,v3,_) =>
 .br (decide (v3<((v0.size:Nat):Int))) (
 .nb v3 ((v0.size:Nat):Int) <|
 .br (decide ((97:Int)≤(sG v0 (Int.toNat v3)))) (
 .nb v3 ((v0.size:Nat):Int) <|
 .nb v3 ((v0.size:Nat):Int) <|
 .br (decide ((48:Int)≤(sG v0 (Int.toNat v3)))) (
 .nb v3 ((v0.size:Nat):Int) <|
 .br (!(decide ((sG v0 (Int.toNat v3))≤(122:Int)))) (
 .br (!(decide ((sG v0 (Int.toNat v3))≤(57:Int)))) (
 .ret (.inr <| .inl<|())) (
 .br (v3==(0:Int)) (
 .ret (.inr <| .inl<|())) (
 .ni (v3+(1:Int)) <|
 .ret (.inl (v0,(v3+(1:Int)),()))))) (
 .ni (v3+(1:Int)) <|
 .ret (.inl (v0,(v3+(1:Int)),())))) (
 .br (!(decide ((sG v0 (Int.toNat v3))≤(122:Int)))) (
 .ret (.inr <| .inl<|())) (
 .ni (v3+(1:Int)) <|
 .ret (.inl (v0,(v3+(1:Int)),()))))) (
 .nb v3 ((v0.size:Nat):Int) <|
 .br (decide ((48:Int)≤(sG v0 (Int.toNat v3)))) (
 .nb v3 ((v0.size:Nat):Int) <|
 .br (!(decide ((sG v0 (Int.toNat v3))≤(57:Int)))) (
 .ret (.inr <| .inl<|())) (
 .br (v3==(0:Int)) (
 .ret (.inr <| .inl<|())) (
 .ni (v3+(1:Int)) <|
 .ret (.inl (v0,(v3+(1:Int)),()))))) (
 .ret (.inr <| .inl<|())))) (
 .ret (.inr <| .inr<|()))
noncomputable def aeL:bD prog 50 none 0:=aZ mixed cx69 Jp [] rfl aeI aeJ rfl (aeK) (fun x=>ah (g69_0 x)) (fun x=>by kernel_rfl)
noncomputable def dd69:D prog 50 none 0:=dO [.l aeL] (kd prog f69) 0
noncomputable def F69 (a0:ByteArray):bJ (Bool×Unit) :=
 .br (((a0.size:Nat):Int)==(0:Int)) (
 .ret (false,())) (
 .br (decide ((10:Int)<((a0.size:Nat):Int))) (
 .ret (false,())) (
 .bd (.it g69_0 (a0,(0:Int),())) fun z0 =>
 .sm z0 (fun z1 =>
 .ret (false,())) fun z2 =>
 .ret (true,())))
theorem Z1:cw prog f69=some ⟨50,1,dd69.er,[.t 2],[some .bool]⟩:=by kernel_rfl
noncomputable def Z2:Ct:=⟨69,[.c (.hole .str)],.c (.hole .bool),fun x=>ah (F69 x.1)⟩
theorem Jq:Z2.Ok prog:=cB mixed Jp func69 Z1 (enters_of func69 rfl rfl) dd69 (by kernel_rfl) rfl (fun x=>by kernel_rfl)

/- 58 -/
noncomputable def cx58:Cx:=(aL [ct90,Z2] [])
theorem Ui:cx58.Ok prog:=av ⟨Uh,Jq,trivial⟩ trivial
noncomputable def dd58:D prog 45 none 0:=dO [] (kd prog f58) 0
noncomputable def F58 (a0:GG):bJ (Int×Unit) :=
 .bd (F90 a0.2.1 (1:Int) (3:Int)) fun y0 =>
 .br (!y0.1) (
 .ret ((18:Int),())) (
 .bd (F69 a0.1) fun y1 =>
 .br (!y1.1) (
 .ret ((8:Int),())) (
 .jx (
 .br (a0.2.1==(1:Int)) (
 .br (!(seq a0.2.2.1 (bs []))) (
 .ret (.inr ((22:Int),()))) (
 .ret (.inl (a0.1,a0.2.1,a0.2.2.1,a0.2.2.2.1,a0.2.2.2.2,())))) (
 .bd (F69 a0.2.2.1) fun y4 =>
 .br (!y4.1) (
 .ret (.inr ((8:Int),()))) (
 .br (seq a0.2.2.1 a0.1) (
 .ret (.inr ((22:Int),()))) (
 .ret (.inl (a0.1,a0.2.1,a0.2.2.1,a0.2.2.2.1,a0.2.2.2.2,())))))) fun j3 =>
 .br (j3.2.1==(3:Int)) (
 .br (!(seq j3.2.2.2.1 (bs []))) (
 .ret ((22:Int),())) (
 .br (!(j3.2.2.2.2.1==(0:Int))) (
 .ret ((22:Int),())) (
 .ret ((0:Int),())))) (
 .bd (F69 j3.2.2.2.1) fun y5 =>
 .br (!y5.1) (
 .ret ((8:Int),())) (
 .bd (F90 j3.2.2.2.2.1 (-1000:Int) (1000:Int)) fun y6 =>
 .br (!y6.1) (
 .ret ((2:Int),())) (
 .ret ((0:Int),()))))))
theorem Z3:cw prog f58=some ⟨45,1,dd58.er,[.t 2],[some tI]⟩:=by kernel_rfl
noncomputable def ct58:Ct:=⟨58,[.c (.hole tG)],hI,fun x=>ah (F58 x.1)⟩
theorem Uj:ct58.Ok prog:=cB mixed Ui func58 Z3 (enters_of func58 rfl rfl) dd58 (by kernel_rfl) rfl (fun x=>Eq.trans (b:=ah (flat (F58 x.1))) (by kernel_rfl) xB)

/- 91 -/
noncomputable def cx91:Cx:=(aL [] [])
theorem Uk:cx91.Ok prog:=av trivial trivial
noncomputable def dd91:D prog 54 none 0:=dO [] (kd prog f91) 0
noncomputable def F91 (a0:GG) (a1:GG):bJ (Bool×Unit) :=
 .br (!(seq a0.1 a1.1)) (
 .ret ((slt a0.1 a1.1),())) (
 .br (!(a0.2.1==a1.2.1)) (
 .ret ((decide (a0.2.1<a1.2.1)),())) (
 .br (!(seq a0.2.2.1 a1.2.2.1)) (
 .ret ((slt a0.2.2.1 a1.2.2.1),())) (
 .br (!(seq a0.2.2.2.1 a1.2.2.2.1)) (
 .ret ((slt a0.2.2.2.1 a1.2.2.2.1),())) (
 .ret ((decide (a0.2.2.2.2<a1.2.2.2.2)),())))))
theorem Z4:cw prog f91=some ⟨54,2,dd91.er,[.t 4],[some .bool]⟩:=by kernel_rfl
noncomputable def ct91:Ct:=⟨91,[.c (.hole tG),.c (.hole tG)],.c (.hole .bool),fun x=>ah (F91 x.1 x.2.1)⟩
theorem Ul:ct91.Ok prog:=cB mixed Uk func91 Z4 (enters_of func91 rfl rfl) dd91 (by kernel_rfl) rfl (fun x=>by kernel_rfl)

/- 59 -/
noncomputable def cx59:Cx:=(aL [ct91] [])
theorem Jr:cx59.Ok prog:=av ⟨Ul,trivial⟩ trivial
@[reducible] def aeS:ax:=ax.mk [(0,.c (.hole (.list tG))),(3,.c (.ptr 0 0)),(5,hI)] [(0,.cells [.hole .str,.hole tI,.hole .str,.hole .str,.hole tI] false)] [.slot 3] []
@[reducible] def aeT:aT:=[(.exit 0,ax.mk [(0,.c (.hole (.list tG))),(3,.c (.ptr 0 0)),(5,hI)] [(0,.cells [.hole .str,.hole tI,.hole .str,.hole .str,.hole tI] false)] [.slot 3] [])]
noncomputable def aeU:D prog 45 none 0:=dO [] (pick (kd prog f59) [(0,false)]) 0
noncomputable def g59_0:(List (GG))×Int×ByteArray×Int×ByteArray×ByteArray×Int×Unit→bJ (((List (GG))×Int×ByteArray×Int×ByteArray×ByteArray×Int×Unit) ⊕ (((List (GG))×Int×ByteArray×Int×ByteArray×ByteArray×Int×Unit))):=fun (v0,v5,Um,uZ,Un,Uo,Uq,_) =>
 .br (decide (v5<(((v0).length:Nat):Int))) (
 .nb v5 (((v0).length:Nat):Int) <|
 .bd (F91 (((v0).getD (Int.toNat v5) ((bs []),(0:Int),(bs []),(bs []),(0:Int))).1,((v0).getD (Int.toNat v5) ((bs []),(0:Int),(bs []),(bs []),(0:Int))).2.1,((v0).getD (Int.toNat v5) ((bs []),(0:Int),(bs []),(bs []),(0:Int))).2.2.1,((v0).getD (Int.toNat v5) ((bs []),(0:Int),(bs []),(bs []),(0:Int))).2.2.2.1,((v0).getD (Int.toNat v5) ((bs []),(0:Int),(bs []),(bs []),(0:Int))).2.2.2.2) (Um,uZ,Un,Uo,Uq)) fun y0 =>
 .br y0.1 (
 .ni (v5+(1:Int)) <|
 .ret (.inl (v0,(v5+(1:Int)),Um,uZ,Un,Uo,Uq,()))) (
 .ret (.inr (v0,v5,Um,uZ,Un,Uo,Uq,())))) (
 .ret (.inr (v0,v5,Um,uZ,Un,Uo,Uq,())))
noncomputable def aeV:bD prog 45 none 0:=aZ mixed cx59 Jr [] rfl aeS aeT rfl (aeU) (fun x=>ah (g59_0 x)) (fun x=>by kernel_rfl)
noncomputable def dd59:D prog 45 none 0:=dO [.l aeV] (kd prog f59) 0
noncomputable def F59 (a0:List (GG)) (a1:GG):bJ ((List (GG))×Unit) :=
 .bd (.it g59_0 (a0,(0:Int),a1.1,a1.2.1,a1.2.2.1,a1.2.2.2.1,a1.2.2.2.2,())) fun z1 =>
 .br (decide (z1.2.1<(((z1.1).length:Nat):Int))) (
 .nb z1.2.1 (((z1.1).length:Nat):Int) <|
 .br ((seq ((z1.1).getD (Int.toNat z1.2.1) ((bs []),(0:Int),(bs []),(bs []),(0:Int))).1 z1.2.2.1)&&((((z1.1).getD (Int.toNat z1.2.1) ((bs []),(0:Int),(bs []),(bs []),(0:Int))).2.1==z1.2.2.2.1)&&((seq ((z1.1).getD (Int.toNat z1.2.1) ((bs []),(0:Int),(bs []),(bs []),(0:Int))).2.2.1 z1.2.2.2.2.1)&&((seq ((z1.1).getD (Int.toNat z1.2.1) ((bs []),(0:Int),(bs []),(bs []),(0:Int))).2.2.2.1 z1.2.2.2.2.2.1)&&((((z1.1).getD (Int.toNat z1.2.1) ((bs []),(0:Int),(bs []),(bs []),(0:Int))).2.2.2.2==z1.2.2.2.2.2.2.1)&&true))))) (
 .ret (z1.1,())) (
 .nd (decide ((0:Int)≤(0:Int))) <|
 .nd (decide ((0:Int)≤z1.2.1)) <|
 .nd (decide (z1.2.1≤(((z1.1).length:Nat):Int))) <|
 .nd (decide (((0:Nat)+((((z1.1).drop (Int.toNat (0:Int))).take ((Int.toNat z1.2.1) - (Int.toNat (0:Int))))).length)<bI)) <|
 .nd (decide ((((0:Nat)+((((z1.1).drop (Int.toNat (0:Int))).take ((Int.toNat z1.2.1) - (Int.toNat (0:Int))))).length)+((((((z1.2.2.1,z1.2.2.2.1,z1.2.2.2.2.1,z1.2.2.2.2.2.1,z1.2.2.2.2.2.2.1)::[])).drop (0:Nat)).take (1:Nat))).length)<bI)) <|
 .nd (decide ((0:Int)≤z1.2.1)) <|
 .nd (decide (z1.2.1≤(((z1.1).length:Nat):Int))) <|
 .nd (decide ((((z1.1).length:Nat):Int)≤(((z1.1).length:Nat):Int))) <|
 .nd (decide (((((0:Nat)+((((z1.1).drop (Int.toNat (0:Int))).take ((Int.toNat z1.2.1) - (Int.toNat (0:Int))))).length)+((((((z1.2.2.1,z1.2.2.2.1,z1.2.2.2.2.1,z1.2.2.2.2.2.1,z1.2.2.2.2.2.2.1)::[])).drop (0:Nat)).take (1:Nat))).length)+((((z1.1).drop (Int.toNat z1.2.1)).take ((Int.toNat (((z1.1).length:Nat):Int)) - (Int.toNat z1.2.1)))).length)<bI)) <|
 .ret (((((((((((((((([]).drop (0:Nat)).take (0:Nat))++(((z1.1).drop (Int.toNat (0:Int))).take ((Int.toNat z1.2.1) - (Int.toNat (0:Int)))))).drop (0:Nat)).take ((0:Nat)+((((z1.1).drop (Int.toNat (0:Int))).take ((Int.toNat z1.2.1) - (Int.toNat (0:Int))))).length))++(((((z1.2.2.1,z1.2.2.2.1,z1.2.2.2.2.1,z1.2.2.2.2.2.1,z1.2.2.2.2.2.2.1)::[])).drop (0:Nat)).take (1:Nat)))).drop (0:Nat)).take (((0:Nat)+((((z1.1).drop (Int.toNat (0:Int))).take ((Int.toNat z1.2.1) - (Int.toNat (0:Int))))).length)+((((((z1.2.2.1,z1.2.2.2.1,z1.2.2.2.2.1,z1.2.2.2.2.2.1,z1.2.2.2.2.2.2.1)::[])).drop (0:Nat)).take (1:Nat))).length))++(((z1.1).drop (Int.toNat z1.2.1)).take ((Int.toNat (((z1.1).length:Nat):Int)) - (Int.toNat z1.2.1))))).drop (0:Nat)).take ((((0:Nat)+((((z1.1).drop (Int.toNat (0:Int))).take ((Int.toNat z1.2.1) - (Int.toNat (0:Int))))).length)+((((((z1.2.2.1,z1.2.2.2.1,z1.2.2.2.2.1,z1.2.2.2.2.2.1,z1.2.2.2.2.2.2.1)::[])).drop (0:Nat)).take (1:Nat))).length)+((((z1.1).drop (Int.toNat z1.2.1)).take ((Int.toNat (((z1.1).length:Nat):Int)) - (Int.toNat z1.2.1)))).length)),()))) (
 .nd (decide ((0:Int)≤(0:Int))) <|
 .nd (decide ((0:Int)≤z1.2.1)) <|
 .nd (decide (z1.2.1≤(((z1.1).length:Nat):Int))) <|
 .nd (decide (((0:Nat)+((((z1.1).drop (Int.toNat (0:Int))).take ((Int.toNat z1.2.1) - (Int.toNat (0:Int))))).length)<bI)) <|
 .nd (decide ((((0:Nat)+((((z1.1).drop (Int.toNat (0:Int))).take ((Int.toNat z1.2.1) - (Int.toNat (0:Int))))).length)+((((((z1.2.2.1,z1.2.2.2.1,z1.2.2.2.2.1,z1.2.2.2.2.2.1,z1.2.2.2.2.2.2.1)::[])).drop (0:Nat)).take (1:Nat))).length)<bI)) <|
 .nd (decide ((0:Int)≤z1.2.1)) <|
 .nd (decide (z1.2.1≤(((z1.1).length:Nat):Int))) <|
 .nd (decide ((((z1.1).length:Nat):Int)≤(((z1.1).length:Nat):Int))) <|
 .nd (decide (((((0:Nat)+((((z1.1).drop (Int.toNat (0:Int))).take ((Int.toNat z1.2.1) - (Int.toNat (0:Int))))).length)+((((((z1.2.2.1,z1.2.2.2.1,z1.2.2.2.2.1,z1.2.2.2.2.2.1,z1.2.2.2.2.2.2.1)::[])).drop (0:Nat)).take (1:Nat))).length)+((((z1.1).drop (Int.toNat z1.2.1)).take ((Int.toNat (((z1.1).length:Nat):Int)) - (Int.toNat z1.2.1)))).length)<bI)) <|
 .ret (((((((((((((((([]).drop (0:Nat)).take (0:Nat))++(((z1.1).drop (Int.toNat (0:Int))).take ((Int.toNat z1.2.1) - (Int.toNat (0:Int)))))).drop (0:Nat)).take ((0:Nat)+((((z1.1).drop (Int.toNat (0:Int))).take ((Int.toNat z1.2.1) - (Int.toNat (0:Int))))).length))++(((((z1.2.2.1,z1.2.2.2.1,z1.2.2.2.2.1,z1.2.2.2.2.2.1,z1.2.2.2.2.2.2.1)::[])).drop (0:Nat)).take (1:Nat)))).drop (0:Nat)).take (((0:Nat)+((((z1.1).drop (Int.toNat (0:Int))).take ((Int.toNat z1.2.1) - (Int.toNat (0:Int))))).length)+((((((z1.2.2.1,z1.2.2.2.1,z1.2.2.2.2.1,z1.2.2.2.2.2.1,z1.2.2.2.2.2.2.1)::[])).drop (0:Nat)).take (1:Nat))).length))++(((z1.1).drop (Int.toNat z1.2.1)).take ((Int.toNat (((z1.1).length:Nat):Int)) - (Int.toNat z1.2.1))))).drop (0:Nat)).take ((((0:Nat)+((((z1.1).drop (Int.toNat (0:Int))).take ((Int.toNat z1.2.1) - (Int.toNat (0:Int))))).length)+((((((z1.2.2.1,z1.2.2.2.1,z1.2.2.2.2.1,z1.2.2.2.2.2.1,z1.2.2.2.2.2.2.1)::[])).drop (0:Nat)).take (1:Nat))).length)+((((z1.1).drop (Int.toNat z1.2.1)).take ((Int.toNat (((z1.1).length:Nat):Int)) - (Int.toNat z1.2.1)))).length)),()))
theorem Z5:cw prog f59=some ⟨45,2,dd59.er,[.t 4],[some (.list tG)]⟩:=by kernel_rfl
noncomputable def ct59:Ct:=⟨59,[.c (.hole (.list tG)),.c (.hole tG)],.c (.hole (.list tG)),fun x=>ah (F59 x.1 x.2.1)⟩
theorem Ur:ct59.Ok prog:=cB mixed Jr func59 Z5 (enters_of func59 rfl rfl) dd59 (by kernel_rfl) rfl (fun x=>by kernel_rfl)

/- 71 -/
noncomputable def cx71:Cx:=(aL [] [])
theorem Js:cx71.Ok prog:=av trivial trivial
@[reducible] def aeZ:ax:=ax.mk [(0,.c (.hole (.list tG))),(3,.c (.bN 0 tG)),(4,hI)] [(0,.arr tG false)] [.slot 3] []
@[reducible] def ae0:aT:=[(.exit 0,ax.mk [(3,.c (.bN 0 tG))] [(0,.arr tG false)] [.slot 3] [])]
noncomputable def ae1:D prog 35 none 0:=dO [] (pick (kd prog f71) [(0,false)]) 0
noncomputable def g71_0:(List (GG))×Nat×Int×(List (GG))×Unit→bJ (((List (GG))×Nat×Int×(List (GG))×Unit) ⊕ ((Nat×(List (GG))×Unit))):=fun (v0,fI,v4,b0,_) =>
 .br (decide (v4<(((v0).length:Nat):Int))) (
 .br (v4==(0:Int)) (
 .nb v4 (((v0).length:Nat):Int) <|
 .nd (decide ((fI+((((((((v0).getD (Int.toNat v4) ((bs []),(0:Int),(bs []),(bs []),(0:Int))).1,((v0).getD (Int.toNat v4) ((bs []),(0:Int),(bs []),(bs []),(0:Int))).2.1,((v0).getD (Int.toNat v4) ((bs []),(0:Int),(bs []),(bs []),(0:Int))).2.2.1,((v0).getD (Int.toNat v4) ((bs []),(0:Int),(bs []),(bs []),(0:Int))).2.2.2.1,((v0).getD (Int.toNat v4) ((bs []),(0:Int),(bs []),(bs []),(0:Int))).2.2.2.2)::[])).drop (0:Nat)).take (1:Nat))).length)<bI)) <|
 .ni (v4+(1:Int)) <|
 .ret (.inl (v0,(fI+((((((((v0).getD (Int.toNat v4) ((bs []),(0:Int),(bs []),(bs []),(0:Int))).1,((v0).getD (Int.toNat v4) ((bs []),(0:Int),(bs []),(bs []),(0:Int))).2.1,((v0).getD (Int.toNat v4) ((bs []),(0:Int),(bs []),(bs []),(0:Int))).2.2.1,((v0).getD (Int.toNat v4) ((bs []),(0:Int),(bs []),(bs []),(0:Int))).2.2.2.1,((v0).getD (Int.toNat v4) ((bs []),(0:Int),(bs []),(bs []),(0:Int))).2.2.2.2)::[])).drop (0:Nat)).take (1:Nat))).length),(v4+(1:Int)),((((b0).drop (0:Nat)).take fI)++(((((((v0).getD (Int.toNat v4) ((bs []),(0:Int),(bs []),(bs []),(0:Int))).1,((v0).getD (Int.toNat v4) ((bs []),(0:Int),(bs []),(bs []),(0:Int))).2.1,((v0).getD (Int.toNat v4) ((bs []),(0:Int),(bs []),(bs []),(0:Int))).2.2.1,((v0).getD (Int.toNat v4) ((bs []),(0:Int),(bs []),(bs []),(0:Int))).2.2.2.1,((v0).getD (Int.toNat v4) ((bs []),(0:Int),(bs []),(bs []),(0:Int))).2.2.2.2)::[])).drop (0:Nat)).take (1:Nat))),()))) (
 .nb v4 (((v0).length:Nat):Int) <|
 .ni (v4 - (1:Int)) <|
 .nb (v4 - (1:Int)) (((v0).length:Nat):Int) <|
 .br (!(seq ((v0).getD (Int.toNat v4) ((bs []),(0:Int),(bs []),(bs []),(0:Int))).1 ((v0).getD (Int.toNat (v4 - (1:Int))) ((bs []),(0:Int),(bs []),(bs []),(0:Int))).1)) (
 .nb v4 (((v0).length:Nat):Int) <|
 .nd (decide ((fI+((((((((v0).getD (Int.toNat v4) ((bs []),(0:Int),(bs []),(bs []),(0:Int))).1,((v0).getD (Int.toNat v4) ((bs []),(0:Int),(bs []),(bs []),(0:Int))).2.1,((v0).getD (Int.toNat v4) ((bs []),(0:Int),(bs []),(bs []),(0:Int))).2.2.1,((v0).getD (Int.toNat v4) ((bs []),(0:Int),(bs []),(bs []),(0:Int))).2.2.2.1,((v0).getD (Int.toNat v4) ((bs []),(0:Int),(bs []),(bs []),(0:Int))).2.2.2.2)::[])).drop (0:Nat)).take (1:Nat))).length)<bI)) <|
 .ni (v4+(1:Int)) <|
 .ret (.inl (v0,(fI+((((((((v0).getD (Int.toNat v4) ((bs []),(0:Int),(bs []),(bs []),(0:Int))).1,((v0).getD (Int.toNat v4) ((bs []),(0:Int),(bs []),(bs []),(0:Int))).2.1,((v0).getD (Int.toNat v4) ((bs []),(0:Int),(bs []),(bs []),(0:Int))).2.2.1,((v0).getD (Int.toNat v4) ((bs []),(0:Int),(bs []),(bs []),(0:Int))).2.2.2.1,((v0).getD (Int.toNat v4) ((bs []),(0:Int),(bs []),(bs []),(0:Int))).2.2.2.2)::[])).drop (0:Nat)).take (1:Nat))).length),(v4+(1:Int)),((((b0).drop (0:Nat)).take fI)++(((((((v0).getD (Int.toNat v4) ((bs []),(0:Int),(bs []),(bs []),(0:Int))).1,((v0).getD (Int.toNat v4) ((bs []),(0:Int),(bs []),(bs []),(0:Int))).2.1,((v0).getD (Int.toNat v4) ((bs []),(0:Int),(bs []),(bs []),(0:Int))).2.2.1,((v0).getD (Int.toNat v4) ((bs []),(0:Int),(bs []),(bs []),(0:Int))).2.2.2.1,((v0).getD (Int.toNat v4) ((bs []),(0:Int),(bs []),(bs []),(0:Int))).2.2.2.2)::[])).drop (0:Nat)).take (1:Nat))),()))) (
 .ni (v4+(1:Int)) <|
 .ret (.inl (v0,fI,(v4+(1:Int)),b0,()))))) (
 .ret (.inr (fI,b0,())))
noncomputable def ae2:bD prog 35 none 0:=aZ mixed cx71 Js [] rfl aeZ ae0 rfl (ae1) (fun x=>ah (g71_0 x)) (fun x=>by kernel_rfl)
noncomputable def dd71:D prog 35 none 0:=dO [.l ae2] (kd prog f71) 0
noncomputable def F71 (a0:List (GG)):bJ ((List (GG))×Unit) :=
 .bd (.it g71_0 (a0,(0:Nat),(0:Int),[],())) fun z0 =>
 .ret ((((z0.2.1).drop (0:Nat)).take z0.1),())
theorem Z6:cw prog f71=some ⟨35,1,dd71.er,[.t 2],[some (.list tG)]⟩:=by kernel_rfl
noncomputable def ct71:Ct:=⟨71,[.c (.hole (.list tG))],.c (.hole (.list tG)),fun x=>ah (F71 x.1)⟩
theorem Us:ct71.Ok prog:=cB mixed Js func71 Z6 (enters_of func71 rfl rfl) dd71 (by kernel_rfl) rfl (fun x=>by kernel_rfl)

/- 116 -/
noncomputable def WK:Cx:=(aL [] [])
theorem EL:WK.Ok prog:=av trivial trivial
@[reducible] def Z7:ax:=ax.mk [(0,.c (.hole (.list tG))),(1,.c (.hole .str)),(5,hI)] [] [] []
@[reducible] def Z8:aT:=[(.ret,ax.mk [(4,.c (.tf true))] [] [] []),(.exit 0,ax.mk [] [] [] [])]
noncomputable def Z9:D prog 27 none 0:=dO [] (pick (kd prog f116) [(0,false)]) 0
noncomputable def g116_0:(List (GG))×ByteArray×Int×Unit→bJ (((List (GG))×ByteArray×Int×Unit) ⊕ ((Unit) ⊕ ((Unit)))):=fun (v0,v1,v5,_) =>
 .br (decide (v5<(((v0).length:Nat):Int))) (
 .nb v5 (((v0).length:Nat):Int) <|
 .br (seq ((v0).getD (Int.toNat v5) ((bs []),(0:Int),(bs []),(bs []),(0:Int))).1 v1) (
 .nb v5 (((v0).length:Nat):Int) <|
 .br (!(((v0).getD (Int.toNat v5) ((bs []),(0:Int),(bs []),(bs []),(0:Int))).2.1==(3:Int))) (
 .ret (.inr <| .inl<|())) (
 .ni (v5+(1:Int)) <|
 .ret (.inl (v0,v1,(v5+(1:Int)),())))) (
 .ni (v5+(1:Int)) <|
 .ret (.inl (v0,v1,(v5+(1:Int)),())))) (
 .ret (.inr <| .inr<|()))
noncomputable def aaa:bD prog 27 none 0:=aZ mixed WK EL [] rfl Z7 Z8 rfl (Z9) (fun x=>ah (g116_0 x)) (fun x=>by kernel_rfl)
noncomputable def WL:D prog 27 none 0:=dO [.l aaa] (kd prog f116) 0
noncomputable def F116 (a0:List (GG)) (a1:ByteArray):bJ (Bool×Unit) :=
 .bd (.it g116_0 (a0,a1,(0:Int),())) fun z0 =>
 .sm z0 (fun z1 =>
 .ret (true,())) fun z2 =>
 .ret (false,())
theorem Ut:cw prog f116=some ⟨27,2,WL.er,[.t 4],[some .bool]⟩:=by kernel_rfl
noncomputable def WM:Ct:=⟨116,[.c (.hole (.list tG)),.c (.hole .str)],.c (.hole .bool),fun x=>ah (F116 x.1 x.2.1)⟩
theorem PJ:WM.Ok prog:=cB mixed EL func116 Ut (enters_of func116 rfl rfl) WL (by kernel_rfl) rfl (fun x=>by kernel_rfl)

/- 117 -/
noncomputable def WN:Cx:=(aL [] [])
theorem EM:WN.Ok prog:=av trivial trivial
@[reducible] def aab:ax:=ax.mk [(0,.c (.hole (.list tG))),(1,.c (.hole .str)),(5,hI)] [] [] []
@[reducible] def aac:aT:=[(.ret,ax.mk [(4,.c (.tf true))] [] [] []),(.exit 0,ax.mk [] [] [] [])]
noncomputable def aad:D prog 27 none 0:=dO [] (pick (kd prog f117) [(0,false)]) 0
noncomputable def g117_0:(List (GG))×ByteArray×Int×Unit→bJ (((List (GG))×ByteArray×Int×Unit) ⊕ ((Unit) ⊕ ((Unit)))):=fun (v0,v1,v5,_) =>
 .br (decide (v5<(((v0).length:Nat):Int))) (
 .nb v5 (((v0).length:Nat):Int) <|
 .br (((v0).getD (Int.toNat v5) ((bs []),(0:Int),(bs []),(bs []),(0:Int))).2.1==(3:Int)) (
 .nb v5 (((v0).length:Nat):Int) <|
 .br (seq ((v0).getD (Int.toNat v5) ((bs []),(0:Int),(bs []),(bs []),(0:Int))).2.2.1 v1) (
 .ret (.inr <| .inl<|())) (
 .ni (v5+(1:Int)) <|
 .ret (.inl (v0,v1,(v5+(1:Int)),())))) (
 .ni (v5+(1:Int)) <|
 .ret (.inl (v0,v1,(v5+(1:Int)),())))) (
 .ret (.inr <| .inr<|()))
noncomputable def aae:bD prog 27 none 0:=aZ mixed WN EM [] rfl aab aac rfl (aad) (fun x=>ah (g117_0 x)) (fun x=>by kernel_rfl)
noncomputable def WO:D prog 27 none 0:=dO [.l aae] (kd prog f117) 0
noncomputable def F117 (a0:List (GG)) (a1:ByteArray):bJ (Bool×Unit) :=
 .bd (.it g117_0 (a0,a1,(0:Int),())) fun z0 =>
 .sm z0 (fun z1 =>
 .ret (true,())) fun z2 =>
 .ret (false,())
theorem Uu:cw prog f117=some ⟨27,2,WO.er,[.t 4],[some .bool]⟩:=by kernel_rfl
noncomputable def WQ:Ct:=⟨117,[.c (.hole (.list tG)),.c (.hole .str)],.c (.hole .bool),fun x=>ah (F117 x.1 x.2.1)⟩
theorem PK:WQ.Ok prog:=cB mixed EM func117 Uu (enters_of func117 rfl rfl) WO (by kernel_rfl) rfl (fun x=>by kernel_rfl)

/- 94, lent -/
@[reducible] def kK:ax:=ax.mk [(0,.c (.hole (.list tG))),(1,.c (.bN 0 tI)),(2,hI)] [(0,.arr tI false)] [.slot 1] []
@[reducible] def kL:ax:=ax.mk [(0,.c (.bN 1 tI))] [(1,.arr tI false),(0,.arr tI false)] [.slot 0] []
noncomputable def PL (rec:kK.T→Option kL.T):Cx:=(aL [] [⟨94,kK,kL,rec⟩])
theorem EN (rec:kK.T→Option kL.T) (h:Ht.Ok prog ⟨94,kK,kL,rec⟩):(PL rec).Ok prog:=av trivial ⟨⟨h,rfl⟩,trivial⟩
@[reducible] def He:ax:=ax.mk [(0,.c (.hole (.list tG))),(1,.c (.bN 0 tI)),(2,hI),(7,.c (.bN 1 tI)),(8,hI)] [(0,.arr tI false),(1,.arr tI false)] [.slot 7] []
@[reducible] def Hf:aT:=[(.exit 0,ax.mk [(7,.c (.bN 1 tI))] [(1,.arr tI false),(0,.arr tI false)] [.slot 7] [])]
noncomputable def PM (rec:kK.T→Option kL.T) (h:Ht.Ok prog ⟨94,kK,kL,rec⟩):D prog 62 none 1:=dO [] (pick (kd prog f94) [(0,false)]) 0
noncomputable def gH94_0:(List (GG))×Nat×Int×Nat×Int×List Int×List Int×Unit→Tr kK.T kL.T (((List (GG))×Nat×Int×Nat×Int×List Int×List Int×Unit) ⊕ ((Nat×List Int×List Int×Unit))):=fun (v0,LP,v2,Hg,v8,b0,b1,_) =>
 .br (decide (v8<(((v0).length:Nat):Int))) (
 .nb v8 (((v0).length:Nat):Int) <|
 .br (((v0).getD (Int.toNat v8) ((bs []),(0:Int),(bs []),(bs []),(0:Int))).2.1==(2:Int)) (
 .nb v8 (((v0).length:Nat):Int) <|
 .nb v2 (((v0).length:Nat):Int) <|
 .br (seq ((v0).getD (Int.toNat v8) ((bs []),(0:Int),(bs []),(bs []),(0:Int))).2.2.1 ((v0).getD (Int.toNat v2) ((bs []),(0:Int),(bs []),(bs []),(0:Int))).1) (
 .nb v8 ((LP:Nat):Int) <|
 .nd (decide (((0:Nat)+(Int.toNat v8))<(b0).length)) <|
 .br (decide ((2:Int)<((b0).getD ((0:Nat)+(Int.toNat v8)) (0:Int)))) (
 .bd (.rc (v0,LP,v8,b0,())) fun y0 =>
 .nd (decide ((Hg+((((y0.2.1).drop (0:Nat)).take y0.1)).length)<bI)) <|
 .ni (v8+(1:Int)) <|
 .ret (.inl (v0,LP,v2,(Hg+((((y0.2.1).drop (0:Nat)).take y0.1)).length),(v8+(1:Int)),y0.2.2.1,((((b1).drop (0:Nat)).take Hg)++(((y0.2.1).drop (0:Nat)).take y0.1)),()))) (
 .ni (v8+(1:Int)) <|
 .ret (.inl (v0,LP,v2,Hg,(v8+(1:Int)),b0,b1,())))) (
 .ni (v8+(1:Int)) <|
 .ret (.inl (v0,LP,v2,Hg,(v8+(1:Int)),b0,b1,())))) (
 .ni (v8+(1:Int)) <|
 .ret (.inl (v0,LP,v2,Hg,(v8+(1:Int)),b0,b1,())))) (
 .ret (.inr (Hg,b1,b0,())))
theorem aaf (rec:kK.T→Option kL.T) (h:Ht.Ok prog ⟨94,kK,kL,rec⟩):∀x,oe (iu (He.T ⊕ Hf.T)) (PL rec) dN [0] He Hf (PM rec h) (fun y=>some (.inl y)) (fun b=>some (.inr b)) x=run rec (gH94_0 x):=fun x=>by kernel_rfl
noncomputable def aag (rec:kK.T→Option kL.T) (h:Ht.Ok prog ⟨94,kK,kL,rec⟩):bD prog 62 none 1:=aZ mixed (PL rec) (EN rec h) [0] rfl He Hf rfl (PM rec h) (fun x=>run rec (gH94_0 x)) (aaf rec h)
noncomputable def WR (rec:kK.T→Option kL.T) (h:Ht.Ok prog ⟨94,kK,kL,rec⟩):D prog 62 none 1:=dO [.l (aag rec h)] (kd prog f94) 0
noncomputable def FH94 (v0:List (GG)) (LP:Nat) (v2:Int) (b0:List Int):Tr kK.T kL.T (Nat×List Int×List Int×Unit) :=
 .nb v2 ((LP:Nat):Int) <|
 .nd (decide (((0:Nat)+(Int.toNat v2))<(b0).length)) <|
 .br (((b0).getD ((0:Nat)+(Int.toNat v2)) (0:Int))==(4:Int)) (
 .ret ((1:Nat),(v2::[]),b0,())) (
 .nb v2 ((LP:Nat):Int) <|
 .nd (decide (((0:Nat)+(Int.toNat v2))<(b0).length)) <|
 .br (((b0).getD ((0:Nat)+(Int.toNat v2)) (0:Int))==(5:Int)) (
 .ret ((1:Nat),(v2::[]),b0,())) (
 .bd (.it gH94_0 (v0,LP,v2,(0:Nat),(0:Int),b0,[],())) fun z1 =>
 .ret (z1.1,z1.2.1,z1.2.2.1,())))
theorem Uv (rec:kK.T→Option kL.T) (h:Ht.Ok prog ⟨94,kK,kL,rec⟩):cw prog f94=some ⟨62,3,(WR rec h).er,[.t 6],[some tL]⟩:=by kernel_rfl
theorem Lu (rec:kK.T→Option kL.T) (h:Ht.Ok prog ⟨94,kK,kL,rec⟩):Ht.Ok prog ⟨94,kK,kL,(fun x=>run rec (FH94 x.1 x.2.1 x.2.2.1 x.2.2.2.1))⟩:=bG mixed (EN rec h) rfl func94 (Uv rec h) (enters_of func94 rfl rfl) (WR rec h) (by kernel_rfl) rfl rfl ⟨_,rfl⟩ rfl (pre:=[0]) rfl (fun x=>by kernel_rfl)
noncomputable def FH94fix (v0:List (GG)) (LP:Nat) (v2:Int) (b0:List Int):bJ (Nat×List Int×List Int×Unit):=.fx (A1:=kK.T) (B1:=kL.T) (fun x=>FH94 x.1 x.2.1 x.2.2.1 x.2.2.2.1) (v0,LP,v2,b0,())
noncomputable def ht94:Ht:=⟨94,kK,kL,fun x=>ah (FH94fix x.1 x.2.1 x.2.2.1 x.2.2.2.1)⟩
theorem Uw:ht94.Ok prog:=BJ (F:=fun rec x=>run rec (FH94 x.1 x.2.1 x.2.2.1 x.2.2.2.1)) (fun rec h=>Lu rec h)

end Go.Proofs.Tryz

