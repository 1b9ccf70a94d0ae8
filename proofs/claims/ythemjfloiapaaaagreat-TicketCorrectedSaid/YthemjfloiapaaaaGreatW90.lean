/- Functions of the program as functions of data, part 1; printed by a program of mine. -/
import Derived.Test.YthemjfloiapaaaaGreatP9
import Derived.Test.YthemjfloiapaaaaGreatProg
set_option linter.unusedSectionVars false
set_option linter.unusedVariables false
set_option linter.unusedSimpArgs false
open Go.AM
namespace Go.Proofs.Tryz
set_option maxRecDepth 100000
set_option synthInstance.maxSize 4000
set_option synthInstance.maxHeartbeats 400000
set_option synthInstance.maxSize 4000
set_option synthInstance.maxHeartbeats 400000
theorem mixed : prog.follows .mixedOrders = true := by kernel_rfl
@[reducible] def tG : Ty := .prod .str (.prod tI (.prod .str (.prod .str tI)))
abbrev GG := ByteArray × Int × ByteArray × ByteArray × Int
abbrev Tbk := List (GG × Bool)
abbrev aS := List (ByteArray × Bool)
abbrev cM := List (ByteArray × List ByteArray)
abbrev cK := List (ByteArray × GG)
abbrev Tlg := List GG
@[reducible] def oo (n : Nat) (i : I) : eL := .op (some n) none i
@[reducible] def om (n k : Nat) : eL := .op (some n) none (.mv (.t k))
@[reducible] def ol (n k : Nat) : eL := .op (some n) none (.load false 1 (.t k))
@[reducible] def og (n k : Nat) (b : Bool) (i : I) : eL := .op (some n) (some (k, b)) i
@[reducible] def ki (n : Nat) : O := .c (.int .i64 (Int.ofNat n))
@[reducible] def hzI : SP := .c (.hole (.int .i64))
@[reducible] def hzL : SP := .c (.hole (.list (.int .i64)))
@[reducible] def hzM : SP := .c (.hole (.list (.list (.int .i64))))

/- 130 -/
noncomputable def abb:Cx:=(aL [] [])
theorem Ns:abb.Ok prog:=ax trivial trivial
noncomputable def UI:D prog 6 none 0:=dO [] (kd prog f130) 0
noncomputable def F130 (a0:ByteArray):bW (Bool×Unit) :=
 .ret ((!(seq a0 a0)),())
theorem Rj:cN prog f130=some ⟨6,1,UI.er,[.t 2],[some .bool]⟩:=by kernel_rfl
noncomputable def UJ:Ct:=⟨130,[.c (.hole .str)],.c (.hole .bool),fun x=>aq (F130 x.1)⟩
theorem Nt:UJ.Ok prog:=cQ mixed Ns func130 Rj (enters_of func130 rfl rfl) UI (by kernel_rfl) rfl (fun x=>by kernel_rfl)

/- 113 -/
noncomputable def abc:Cx:=(aL [UJ] [])
theorem Nv:abc.Ok prog:=ax ⟨Nt,trivial⟩ trivial
noncomputable def UK:D prog 20 none 0:=dO [] (kd prog f113) 0
noncomputable def F113 (a0:ByteArray) (a1:ByteArray):bW (Int×Unit) :=
 .bd (F130 a0) fun y0 =>
 .bd (F130 a1) fun y1 =>
 .br y0.1 (
 .br y1.1 (
 .ret ((0:Int),())) (
 .ret ((-1:Int),()))) (
 .br y1.1 (
 .ret ((1:Int),())) (
 .br (slt a0 a1) (
 .ret ((-1:Int),())) (
 .br (!(E1 (slt a0 a1) true (seq a0 a1))) (
 .ret ((1:Int),())) (
 .ret ((0:Int),())))))
theorem Rk:cN prog f113=some ⟨20,2,UK.er,[.t 4],[some tI]⟩:=by kernel_rfl
noncomputable def UL:Ct:=⟨113,[.c (.hole .str),.c (.hole .str)],hI,fun x=>aq (F113 x.1 x.2.1)⟩
theorem Nw:UL.Ok prog:=cQ mixed Nv func113 Rk (enters_of func113 rfl rfl) UK (by kernel_rfl) rfl (fun x=>by kernel_rfl)

/- 131 -/
noncomputable def abd:Cx:=(aL [] [])
theorem Nx:abd.Ok prog:=ax trivial trivial
noncomputable def UM:D prog 6 none 0:=dO [] (kd prog f131) 0
noncomputable def F131 (a0:Int):bW (Bool×Unit) :=
 .ret ((!(a0==a0)),())
theorem Rl:cN prog f131=some ⟨6,1,UM.er,[.t 2],[some .bool]⟩:=by kernel_rfl
noncomputable def UN:Ct:=⟨131,[hI],.c (.hole .bool),fun x=>aq (F131 x.1)⟩
theorem Ny:UN.Ok prog:=cQ mixed Nx func131 Rl (enters_of func131 rfl rfl) UM (by kernel_rfl) rfl (fun x=>by kernel_rfl)

/- 114 -/
noncomputable def abe:Cx:=(aL [UN] [])
theorem Nz:abe.Ok prog:=ax ⟨Ny,trivial⟩ trivial
noncomputable def UO:D prog 20 none 0:=dO [] (kd prog f114) 0
noncomputable def F114 (a0:Int) (a1:Int):bW (Int×Unit) :=
 .bd (F131 a0) fun y0 =>
 .bd (F131 a1) fun y1 =>
 .br y0.1 (
 .br y1.1 (
 .ret ((0:Int),())) (
 .ret ((-1:Int),()))) (
 .br y1.1 (
 .ret ((1:Int),())) (
 .br (decide (a0<a1)) (
 .ret ((-1:Int),())) (
 .br (decide (a1<a0)) (
 .ret ((1:Int),())) (
 .ret ((0:Int),())))))
theorem Rm:cN prog f114=some ⟨20,2,UO.er,[.t 4],[some tI]⟩:=by kernel_rfl
noncomputable def UP:Ct:=⟨114,[hI,hI],hI,fun x=>aq (F114 x.1 x.2.1)⟩
theorem NA:UP.Ok prog:=cQ mixed Nz func114 Rm (enters_of func114 rfl rfl) UO (by kernel_rfl) rfl (fun x=>by kernel_rfl)

/- 112 -/
noncomputable def UQ:Cx:=(aL [] [])
theorem DT:UQ.Ok prog:=ax trivial trivial
@[reducible] def Xg:az:=az.mk [(3,hI),(6,hL),(7,hI),(8,hI)] [] [] []
@[reducible] def Xh:aZ:=[(.ret,az.mk [(2,hI)] [] [] []),(.exit 0,az.mk [(3,hI)] [] [] [])]
noncomputable def Xi:D prog 18 none 0:=dO [] (pick (kd prog f112) [(0,false)]) 0
noncomputable def g112_0:Int×List Int×Int×Int×Unit→bW ((Int×List Int×Int×Int×Unit) ⊕ ((Int×Unit) ⊕ ((Int×Unit)))):=fun (v3,v6,v7,v8,_) =>
 .br (decide (v8<v7)) (
 .nb v8 (((v6).length:Nat):Int) <|
 .br (!(((v6).getD (Int.toNat v8) (0:Int))==v3)) (
 .ret (.inr <| .inl<|(((v6).getD (Int.toNat v8) (0:Int)),()))) (
 .ni (v8+(1:Int)) <|
 .ret (.inl (v3,v6,v7,(v8+(1:Int)),())))) (
 .ret (.inr <| .inr<|(v3,())))
noncomputable def Xj:cm prog 18 none 0:=bN mixed UQ DT [] rfl Xg Xh rfl (Xi) (fun x=>aq (g112_0 x)) (fun x=>by kernel_rfl)
noncomputable def UR:D prog 18 none 0:=dO [.l Xj] (kd prog f112) 0
noncomputable def F112 (a0:List Int):bW (Int×Unit) :=
 .bd (.it g112_0 ((0:Int),a0,(((a0).length:Nat):Int),(0:Int),())) fun z0 =>
 .sm z0 (fun z1 =>
 .ret (z1.1,())) fun z2 =>
 .ret (z2.1,())
theorem Ro:cN prog f112=some ⟨18,1,UR.er,[.t 2],[some tI]⟩:=by kernel_rfl
noncomputable def US:Ct:=⟨112,[hL],hI,fun x=>aq (F112 x.1)⟩
theorem NB:US.Ok prog:=cQ mixed DT func112 Ro (enters_of func112 rfl rfl) UR (by kernel_rfl) rfl (fun x=>by kernel_rfl)

/- 85 -/
noncomputable def cx85:Cx:=(aL [UL,UP,US] [])
theorem Rp:cx85.Ok prog:=ax ⟨Nw,NA,NB,trivial⟩ trivial
noncomputable def dd85:D prog 35 none 0:=dO [] (kd prog f85) 0
noncomputable def F85 (a0:GG) (a1:GG):bW (Int×Unit) :=
 .br ((seq a0.1 a1.1)&&((a0.2.1==a1.2.1)&&((seq a0.2.2.1 a1.2.2.1)&&((seq a0.2.2.2.1 a1.2.2.2.1)&&((a0.2.2.2.2==a1.2.2.2.2)&&true))))) (
 .ret ((0:Int),())) (
 .bd (F113 a0.1 a1.1) fun y0 =>
 .bd (F114 a0.2.1 a1.2.1) fun y1 =>
 .bd (F113 a0.2.2.1 a1.2.2.1) fun y2 =>
 .bd (F113 a0.2.2.2.1 a1.2.2.2.1) fun y3 =>
 .bd (F114 a0.2.2.2.2 a1.2.2.2.2) fun y4 =>
 .bd (F112 ((((y0.1::(y1.1::(y2.1::(y3.1::(y4.1::[])))))).drop (0:Nat)).take (5:Nat))) fun y5 =>
 .ret (y5.1,()))
theorem Xk:cN prog f85=some ⟨35,2,dd85.er,[.t 4],[some tI]⟩:=by kernel_rfl
noncomputable def ct85:Ct:=⟨85,[.c (.hole tG),.c (.hole tG)],hI,fun x=>aq (F85 x.1 x.2.1)⟩
theorem Rq:ct85.Ok prog:=cQ mixed Rp func85 Xk (enters_of func85 rfl rfl) dd85 (by kernel_rfl) rfl (fun x=>by kernel_rfl)

/- 50 -/
noncomputable def cx50:Cx:=(aL [] [])
theorem Rr:cx50.Ok prog:=ax trivial trivial
noncomputable def dd50:D prog 11 none 0:=dO [] (kd prog f50) 0
noncomputable def F50 (a0:ByteArray) (a1:ByteArray) (a2:Int):bW ((GG)×Unit) :=
 .ret ((a0,(1:Int),(bs []),a1,a2),())
theorem Xl:cN prog f50=some ⟨11,3,dd50.er,[.cell 6 true 5],[some tG]⟩:=by kernel_rfl
noncomputable def ct50:Ct:=⟨50,[.c (.hole .str),.c (.hole .str),hI],.c (.hole tG),fun x=>aq (F50 x.1 x.2.1 x.2.2.1)⟩
theorem Rs:ct50.Ok prog:=cQ mixed Rr func50 Xl (enters_of func50 rfl rfl) dd50 (by kernel_rfl) rfl (fun x=>by kernel_rfl)

/- 42 -/
noncomputable def cx42:Cx:=(aL [] [])
theorem Rt:cx42.Ok prog:=ax trivial trivial
noncomputable def dd42:D prog 14 none 0:=dO [] (kd prog f42) 0
noncomputable def F42 (a0:ByteArray) (a1:ByteArray) (a2:ByteArray) (a3:Int):bW ((GG)×Unit) :=
 .ret ((a0,(2:Int),a1,a2,a3),())
theorem Xm:cN prog f42=some ⟨14,4,dd42.er,[.cell 8 true 5],[some tG]⟩:=by kernel_rfl
noncomputable def Xn:Ct:=⟨42,[.c (.hole .str),.c (.hole .str),.c (.hole .str),hI],.c (.hole tG),fun x=>aq (F42 x.1 x.2.1 x.2.2.1 x.2.2.2.1)⟩
theorem HV:Xn.Ok prog:=cQ mixed Rt func42 Xm (enters_of func42 rfl rfl) dd42 (by kernel_rfl) rfl (fun x=>by kernel_rfl)

/- 39 -/
noncomputable def cx39:Cx:=(aL [] [])
theorem Ru:cx39.Ok prog:=ax trivial trivial
noncomputable def dd39:D prog 8 none 0:=dO [] (kd prog f39) 0
noncomputable def F39 (a0:ByteArray) (a1:ByteArray):bW ((GG)×Unit) :=
 .ret ((a0,(3:Int),a1,(bs []),(0:Int)),())
theorem Xo:cN prog f39=some ⟨8,2,dd39.er,[.cell 4 true 5],[some tG]⟩:=by kernel_rfl
noncomputable def ct39:Ct:=⟨39,[.c (.hole .str),.c (.hole .str)],.c (.hole tG),fun x=>aq (F39 x.1 x.2.1)⟩
theorem Rv:ct39.Ok prog:=cQ mixed Ru func39 Xo (enters_of func39 rfl rfl) dd39 (by kernel_rfl) rfl (fun x=>by kernel_rfl)

/- 46 -/
noncomputable def cx46:Cx:=(aL [ct50,Xn,ct39] [])
theorem Rw:cx46.Ok prog:=ax ⟨Rs,HV,Rv,trivial⟩ trivial
noncomputable def dd46:D prog 10 none 0:=dO [] (kd prog f46) 0
noncomputable def F46:bW ((List (GG))×Unit) :=
 .bd (F50 (bs [116,49]) (bs [97,110,97]) (40:Int)) fun y0 =>
 .bd (F50 (bs [116,50]) (bs [98,101,110]) (25:Int)) fun y1 =>
 .bd (F42 (bs [99,49]) (bs [116,49]) (bs [97,110,97]) (42:Int)) fun y2 =>
 .bd (F42 (bs [99,50]) (bs [116,49]) (bs [99,121]) (40:Int)) fun y3 =>
 .bd (F42 (bs [99,51]) (bs [99,49]) (bs [97,110,97]) (41:Int)) fun y4 =>
 .bd (F42 (bs [119,49]) (bs [120,57]) (bs [98,101,110]) (5:Int)) fun y5 =>
 .bd (F39 (bs [114,49]) (bs [99,49])) fun y6 =>
 .bd (F39 (bs [114,50]) (bs [99,50])) fun y7 =>
 .ret ((((((y0.1.1,y0.1.2.1,y0.1.2.2.1,y0.1.2.2.2.1,y0.1.2.2.2.2)::((y1.1.1,y1.1.2.1,y1.1.2.2.1,y1.1.2.2.2.1,y1.1.2.2.2.2)::((y2.1.1,y2.1.2.1,y2.1.2.2.1,y2.1.2.2.2.1,y2.1.2.2.2.2)::((y3.1.1,y3.1.2.1,y3.1.2.2.1,y3.1.2.2.2.1,y3.1.2.2.2.2)::((y4.1.1,y4.1.2.1,y4.1.2.2.1,y4.1.2.2.2.1,y4.1.2.2.2.2)::((y5.1.1,y5.1.2.1,y5.1.2.2.1,y5.1.2.2.2.1,y5.1.2.2.2.2)::((y6.1.1,y6.1.2.1,y6.1.2.2.1,y6.1.2.2.2.1,y6.1.2.2.2.2)::((y7.1.1,y7.1.2.1,y7.1.2.2.1,y7.1.2.2.2.1,y7.1.2.2.2.2)::[]))))))))).drop (0:Nat)).take (8:Nat)),())
theorem Xp:cN prog f46=some ⟨10,0,dd46.er,[.t 0],[some (.list tG)]⟩:=by kernel_rfl
noncomputable def ct46:Ct:=⟨46,[],.c (.hole (.list tG)),fun x=>aq (F46)⟩
theorem Rx:ct46.Ok prog:=cQ mixed Rw func46 Xp (enters_of func46 rfl rfl) dd46 (by kernel_rfl) rfl (fun x=>by kernel_rfl)

/- 18, lent -/
@[reducible] def pH18:az:=az.mk [] [] [] []
@[reducible] def qH18:az:=az.mk [(0,.c (.ptr 0 0))] [(0,.cells [.mp 1] false),(1,.map tG true .bool false)] [.slot 0,.cell 0 0] []
noncomputable def abn:Cx:=(aL [] [])
theorem NC:abn.Ok prog:=ax trivial trivial
noncomputable def UT:D prog 4 none 0:=dO [] (kd prog f18) 0
noncomputable def FH18:bW ((List ((GG)×Bool))×Unit) :=
 .ret ([],())
theorem Ry:cN prog f18=some ⟨4,0,UT.er,[.t 0],[none]⟩:=by kernel_rfl
noncomputable def ht18:Ht:=⟨18,pH18,qH18,(fun x=>aq (FH18))⟩
theorem Rz:ht18.Ok prog:=bO mixed NC rfl func18 Ry (enters_of func18 rfl rfl) UT (by kernel_rfl) rfl rfl ⟨_,rfl⟩ rfl (pre:=[]) rfl (fun x=>by kernel_rfl)

/- 54, lent -/
@[reducible] def pH54:az:=az.mk [(0,.c (.ptr 0 0))] [(0,.cells [.mp 1] false),(1,.map tG true .bool false)] [.slot 0,.cell 0 0] []
@[reducible] def qH54:az:=az.mk [(0,.c (.hole .bool))] [(0,.cells [.mp 1] false),(1,.map tG true .bool false)] [] []
noncomputable def abp:Cx:=(aL [] [])
theorem ND:abp.Ok prog:=ax trivial trivial
noncomputable def UU:D prog 12 none 2:=dO [] (kd prog f54) 0
noncomputable def FH54 (m1:List ((GG)×Bool)):bW (Bool×(List ((GG)×Bool))×Unit) :=
 .ret (false,m1,())
theorem RA:cN prog f54=some ⟨12,1,UU.er,[.t 2],[some .bool]⟩:=by kernel_rfl
noncomputable def yV:Ht:=⟨54,pH54,qH54,(fun x=>aq (FH54 x.1))⟩
theorem mZ:yV.Ok prog:=bO mixed ND rfl func54 RA (enters_of func54 rfl rfl) UU (by kernel_rfl) rfl rfl ⟨_,rfl⟩ rfl (pre:=[0,1]) rfl (fun x=>by kernel_rfl)

/- 65 -/
noncomputable def cx65:Cx:=(aL [] [])
theorem HW:cx65.Ok prog:=ax trivial trivial
@[reducible] def abr:az:=az.mk [(0,.c (.hole .str)),(6,.c (.hole (.list (.int .u8)))),(7,hI),(8,hI)] [] [] []
@[reducible] def abt:aZ:=[(.ret,az.mk [(2,.c (.tf false))] [] [] []),(.exit 0,az.mk [(0,.c (.hole .str))] [] [] [])]
noncomputable def abu:D prog 40 none 0:=dO [] (pick (kd prog f65) [(0,false)]) 0
noncomputable def g65_0:ByteArray×List Int×Int×Int×Unit→bW ((ByteArray×List Int×Int×Int×Unit) ⊕ ((Unit) ⊕ ((ByteArray×Unit)))):=fun (v0,v6,v7,v8,_) =>
 .br (decide (v8<v7)) (
 .nb v8 (((v6).length:Nat):Int) <|
 .br (decide (((v6).getD (Int.toNat v8) (0:Int))<(97:Int))) (
 .br (v8==(0:Int)) (
 .ret (.inr <| .inl<|())) (
 .br (decide (((v6).getD (Int.toNat v8) (0:Int))<(48:Int))) (
 .ret (.inr <| .inl<|())) (
 .br (decide ((57:Int)<((v6).getD (Int.toNat v8) (0:Int)))) (
 .ret (.inr <| .inl<|())) (
 .ni (v8+(1:Int)) <|
 .ret (.inl (v0,v6,v7,(v8+(1:Int)),())))))) (
 .br (decide ((122:Int)<((v6).getD (Int.toNat v8) (0:Int)))) (
 .br (v8==(0:Int)) (
 .ret (.inr <| .inl<|())) (
 .br (decide (((v6).getD (Int.toNat v8) (0:Int))<(48:Int))) (
 .ret (.inr <| .inl<|())) (
 .br (decide ((57:Int)<((v6).getD (Int.toNat v8) (0:Int)))) (
 .ret (.inr <| .inl<|())) (
 .ni (v8+(1:Int)) <|
 .ret (.inl (v0,v6,v7,(v8+(1:Int)),())))))) (
 .ni (v8+(1:Int)) <|
 .ret (.inl (v0,v6,v7,(v8+(1:Int)),()))))) (
 .ret (.inr <| .inr<|(v0,())))
noncomputable def abv:cm prog 40 none 0:=bN mixed cx65 HW [] rfl abr abt rfl (abu) (fun x=>aq (g65_0 x)) (fun x=>by kernel_rfl)
noncomputable def dd65:D prog 40 none 0:=dO [.l abv] (kd prog f65) 0
noncomputable def F65 (a0:ByteArray):bW (Bool×Unit) :=
 .bd (.it g65_0 (a0,(eX a0),((((eX a0)).length:Nat):Int),(0:Int),())) fun z0 =>
 .sm z0 (fun z1 =>
 .ret (false,())) fun z2 =>
 .br (decide ((0:Int)<((z2.1.size:Nat):Int))) (
 .ret ((decide (((z2.1.size:Nat):Int)≤(10:Int))),())) (
 .ret (false,()))
theorem Xq:cN prog f65=some ⟨40,1,dd65.er,[.t 2],[some .bool]⟩:=by kernel_rfl
noncomputable def NF:Ct:=⟨65,[.c (.hole .str)],.c (.hole .bool),fun x=>aq (F65 x.1)⟩
theorem vk:NF.Ok prog:=cQ mixed HW func65 Xq (enters_of func65 rfl rfl) dd65 (by kernel_rfl) rfl (fun x=>by kernel_rfl)

/- 87 -/
noncomputable def cx87:Cx:=(aL [NF] [])
theorem RB:cx87.Ok prog:=ax ⟨vk,trivial⟩ trivial
noncomputable def dd87:D prog 27 none 0:=dO [] (kd prog f87) 0
noncomputable def F87 (a0:GG):bW (Int×Unit) :=
 .br (a0.2.1==(1:Int)) (
 .br (!(seq a0.2.2.1 (bs []))) (
 .ret ((22:Int),())) (
 .br (a0.2.1==(1:Int)) (
 .ret ((0:Int),())) (
 .bd (F65 a0.2.2.1) fun y0 =>
 .br (!y0.1) (
 .ret ((8:Int),())) (
 .br (seq a0.2.2.1 a0.1) (
 .ret ((22:Int),())) (
 .ret ((0:Int),())))))) (
 .br (a0.2.1==(1:Int)) (
 .ret ((0:Int),())) (
 .bd (F65 a0.2.2.1) fun y1 =>
 .br (!y1.1) (
 .ret ((8:Int),())) (
 .br (seq a0.2.2.1 a0.1) (
 .ret ((22:Int),())) (
 .ret ((0:Int),())))))
theorem Xr:cN prog f87=some ⟨27,1,dd87.er,[.t 2],[some tI]⟩:=by kernel_rfl
noncomputable def ct87:Ct:=⟨87,[.c (.hole tG)],hI,fun x=>aq (F87 x.1)⟩
theorem RC:ct87.Ok prog:=cQ mixed RB func87 Xr (enters_of func87 rfl rfl) dd87 (by kernel_rfl) rfl (fun x=>by kernel_rfl)

/- 88 -/
noncomputable def cx88:Cx:=(aL [NF] [])
theorem RD:cx88.Ok prog:=ax ⟨vk,trivial⟩ trivial
noncomputable def dd88:D prog 35 none 0:=dO [] (kd prog f88) 0
noncomputable def F88 (a0:GG):bW (Int×Unit) :=
 .br (a0.2.1==(3:Int)) (
 .br (!(seq a0.2.2.2.1 (bs []))) (
 .ret ((22:Int),())) (
 .br (!(a0.2.2.2.2==(0:Int))) (
 .ret ((22:Int),())) (
 .br (a0.2.1==(3:Int)) (
 .ret ((0:Int),())) (
 .bd (F65 a0.2.2.2.1) fun y0 =>
 .br (!y0.1) (
 .ret ((8:Int),())) (
 .br (decide (a0.2.2.2.2<(-1000:Int))) (
 .ret ((2:Int),())) (
 .br (decide ((1000:Int)<a0.2.2.2.2)) (
 .ret ((2:Int),())) (
 .ret ((0:Int),())))))))) (
 .br (a0.2.1==(3:Int)) (
 .ret ((0:Int),())) (
 .bd (F65 a0.2.2.2.1) fun y1 =>
 .br (!y1.1) (
 .ret ((8:Int),())) (
 .br (decide (a0.2.2.2.2<(-1000:Int))) (
 .ret ((2:Int),())) (
 .br (decide ((1000:Int)<a0.2.2.2.2)) (
 .ret ((2:Int),())) (
 .ret ((0:Int),()))))))
theorem Xs:cN prog f88=some ⟨35,1,dd88.er,[.t 2],[some tI]⟩:=by kernel_rfl
noncomputable def ct88:Ct:=⟨88,[.c (.hole tG)],hI,fun x=>aq (F88 x.1)⟩
theorem RE:ct88.Ok prog:=cQ mixed RD func88 Xs (enters_of func88 rfl rfl) dd88 (by kernel_rfl) rfl (fun x=>by kernel_rfl)

/- 86 -/
noncomputable def cx86:Cx:=(aL [] [])
theorem HX:cx86.Ok prog:=ax trivial trivial
@[reducible] def abC:az:=az.mk [(3,hI),(6,hL),(7,hI),(8,hI)] [] [] []
@[reducible] def abD:aZ:=[(.ret,az.mk [(2,hI)] [] [] []),(.exit 0,az.mk [(3,hI)] [] [] [])]
noncomputable def abE:D prog 18 none 0:=dO [] (pick (kd prog f86) [(0,false)]) 0
noncomputable def g86_0:Int×List Int×Int×Int×Unit→bW ((Int×List Int×Int×Int×Unit) ⊕ ((Int×Unit) ⊕ ((Int×Unit)))):=fun (v3,v6,v7,v8,_) =>
 .br (decide (v8<v7)) (
 .nb v8 (((v6).length:Nat):Int) <|
 .br (!(((v6).getD (Int.toNat v8) (0:Int))==v3)) (
 .ret (.inr <| .inl<|(((v6).getD (Int.toNat v8) (0:Int)),()))) (
 .ni (v8+(1:Int)) <|
 .ret (.inl (v3,v6,v7,(v8+(1:Int)),())))) (
 .ret (.inr <| .inr<|(v3,())))
noncomputable def abF:cm prog 18 none 0:=bN mixed cx86 HX [] rfl abC abD rfl (abE) (fun x=>aq (g86_0 x)) (fun x=>by kernel_rfl)
noncomputable def dd86:D prog 18 none 0:=dO [.l abF] (kd prog f86) 0
noncomputable def F86 (a0:List Int):bW (Int×Unit) :=
 .bd (.it g86_0 ((0:Int),a0,(((a0).length:Nat):Int),(0:Int),())) fun z0 =>
 .sm z0 (fun z1 =>
 .ret (z1.1,())) fun z2 =>
 .ret (z2.1,())
theorem Xt:cN prog f86=some ⟨18,1,dd86.er,[.t 2],[some tI]⟩:=by kernel_rfl
noncomputable def ct86:Ct:=⟨86,[hL],hI,fun x=>aq (F86 x.1)⟩
theorem RG:ct86.Ok prog:=cQ mixed HX func86 Xt (enters_of func86 rfl rfl) dd86 (by kernel_rfl) rfl (fun x=>by kernel_rfl)

/- 55 -/
noncomputable def cx55:Cx:=(aL [NF,ct87,ct88,ct86] [])
theorem RH:cx55.Ok prog:=ax ⟨vk,RC,RE,RG,trivial⟩ trivial
noncomputable def dd55:D prog 23 none 0:=dO [] (kd prog f55) 0
noncomputable def F55 (a0:GG):bW (Int×Unit) :=
 .br (decide (a0.2.1<(1:Int))) (
 .ret ((18:Int),())) (
 .br (decide ((3:Int)<a0.2.1)) (
 .ret ((18:Int),())) (
 .bd (F65 a0.1) fun y0 =>
 .br (!y0.1) (
 .ret ((8:Int),())) (
 .bd (F87 (a0.1,a0.2.1,a0.2.2.1,a0.2.2.2.1,a0.2.2.2.2)) fun y1 =>
 .bd (F88 (a0.1,a0.2.1,a0.2.2.1,a0.2.2.2.1,a0.2.2.2.2)) fun y2 =>
 .bd (F86 ((((y1.1::(y2.1::[]))).drop (0:Nat)).take (2:Nat))) fun y3 =>
 .ret (y3.1,()))))
theorem Xu:cN prog f55=some ⟨23,1,dd55.er,[.t 2],[some tI]⟩:=by kernel_rfl
noncomputable def ct55:Ct:=⟨55,[.c (.hole tG)],hI,fun x=>aq (F55 x.1)⟩
theorem RI:ct55.Ok prog:=cQ mixed RH func55 Xu (enters_of func55 rfl rfl) dd55 (by kernel_rfl) rfl (fun x=>by kernel_rfl)

/- 89, by hand -/
@[reducible] def pH89:az:=az.mk [(0,.c (.mp 0))] [(0,.map tG true .bool false)] [.slot 0] []
@[reducible] def qH89:az:=az.mk [(0,.c (.mp 1))] [(1,.map tG true .bool false),(0,.map tG true .bool false)] [.slot 0] []
noncomputable def FH89 (m0:List ((GG)×Bool)):bW ((List ((GG)×Bool))×(List ((GG)×Bool))×Unit) :=
 .ret (m0,m0,())
noncomputable def ht89:Ht:=⟨89,pH89,qH89,(fun x=>aq (FH89 x.1))⟩
theorem RJ:ht89.Ok prog:=fun x y h=>by
  have h':some (x.1,x.1,())=some y:=h
  cases h'
  exact DK (ρ:=Am) aba (enters_of func89 rfl rfl)

/- 193, lent -/
@[reducible] def abL:az:=az.mk [(0,.c (.hole tG))] [] [] []
@[reducible] def abM:az:=az.mk [(0,.c (.cC 0 tG))] [(0,.arr tG false)] [.slot 0] []
noncomputable def Xv:Cx:=(aL [] [])
theorem JY:Xv.Ok prog:=ax trivial trivial
noncomputable def NG:D prog 5 none 0:=dO [] (kd prog f193) 0
noncomputable def FH193 (v0:GG):bW (Nat×(List (GG))×Unit) :=
 .ret ((1:Nat),((v0.1,v0.2.1,v0.2.2.1,v0.2.2.2.1,v0.2.2.2.2)::[]),())
theorem NH:cN prog f193=some ⟨5,1,NG.er,[.t 2],[some (.list tG)]⟩:=by kernel_rfl
noncomputable def UW:Ht:=⟨193,abL,abM,(fun x=>aq (FH193 x.1))⟩
theorem NI:UW.Ok prog:=bO mixed JY rfl func193 NH (enters_of func193 rfl rfl) NG (by kernel_rfl) rfl rfl ⟨_,rfl⟩ rfl (pre:=[]) rfl (fun x=>by kernel_rfl)

/- 56, lent -/
@[reducible] def pH56:az:=az.mk [(0,.c (.ptr 0 0)),(1,.c (.FG 33 true (.cons (.hole .str) (.cons (.hole tI) (.cons (.hole .str) (.cons (.hole .str) (.cons (.hole tI) .nil)))))))] [(0,.cells [.mp 1] false),(1,.map tG true .bool false)] [.slot 0,.cell 0 0] []
@[reducible] def qH56:az:=az.mk [(0,hI)] [(0,.cells [.mp 2] false),(2,.map tG true .bool false)] [.cell 0 0] []
noncomputable def UX:Cx:=(aL [] [ht89,UW])
theorem DU:UX.Ok prog:=ax trivial ⟨⟨RJ,rfl⟩,⟨NI,rfl⟩,trivial⟩
@[reducible] def Xw:az:=az.mk [(0,.c (.ptr 0 0)),(5,.c (.mp 2)),(14,.c (.cC 3 tG)),(15,hI),(16,hI)] [(0,.cells [.mp 1] false),(2,.map tG true .bool false),(3,.arr tG false),(1,.map tG true .bool false)] [.slot 5,.slot 14] []
@[reducible] def Xx:aZ:=[(.exit 0,az.mk [(0,.c (.ptr 0 0)),(5,.c (.mp 2))] [(0,.cells [.mp 1] false),(2,.map tG true .bool false),(1,.map tG true .bool false)] [.slot 5] [])]
noncomputable def Xy:D prog 30 none 2:=dO [] (pick (kd prog f56) [(0,false)]) 0
noncomputable def gH56_0:Nat×Int×Int×(List ((GG)×Bool))×(List (GG))×(List ((GG)×Bool))×Unit→bW ((Nat×Int×Int×(List ((GG)×Bool))×(List (GG))×(List ((GG)×Bool))×Unit) ⊕ (((List ((GG)×Bool))×(List ((GG)×Bool))×Unit))):=fun (nv14,aI,yD,m2,b3,m1,_) =>
 .br (decide (yD<aI)) (
 .nb yD ((nv14:Nat):Int) <|
 .nd (decide (((0:Nat)+(Int.toNat yD))<(b3).length)) <|
 .ni (yD+(1:Int)) <|
 .ret (.inl (nv14,aI,(yD+(1:Int)),(aV (.prod .str (.prod (.int .i64) (.prod .str (.prod .str (.int .i64))))) m2 (((b3).getD ((0:Nat)+(Int.toNat yD)) ((bs []),(0:Int),(bs []),(bs []),(0:Int))).1,((b3).getD ((0:Nat)+(Int.toNat yD)) ((bs []),(0:Int),(bs []),(bs []),(0:Int))).2.1,((b3).getD ((0:Nat)+(Int.toNat yD)) ((bs []),(0:Int),(bs []),(bs []),(0:Int))).2.2.1,((b3).getD ((0:Nat)+(Int.toNat yD)) ((bs []),(0:Int),(bs []),(bs []),(0:Int))).2.2.2.1,((b3).getD ((0:Nat)+(Int.toNat yD)) ((bs []),(0:Int),(bs []),(bs []),(0:Int))).2.2.2.2) true),b3,m1,()))) (
 .ret (.inr (m2,m1,())))
noncomputable def Xz:cm prog 30 none 2:=bN mixed UX DU [0,1] rfl Xw Xx rfl (Xy) (fun x=>aq (gH56_0 x)) (fun x=>by kernel_rfl)
noncomputable def UY:D prog 30 none 2:=dO [.l Xz] (kd prog f56) 0
noncomputable def FH56 (v1c0:ByteArray) (v1c1:Int) (v1c2:ByteArray) (v1c3:ByteArray) (v1c4:Int) (m1:List ((GG)×Bool)):bW (Int×(List ((GG)×Bool))×Unit) :=
 .bd (FH89 m1) fun y0 =>
 .bd (FH193 (v1c0,v1c1,v1c2,v1c3,v1c4)) fun y1 =>
 .bd (.it gH56_0 (y1.1,((y1.1:Nat):Int),(0:Int),y0.1,y1.2.1,y0.2.1,())) fun z2 =>
 .br (decide ((60:Int)<(((z2.1).length:Nat):Int))) (
 .ret ((15:Int),z2.2.1,())) (
 .ret ((0:Int),z2.1,()))
theorem RK:cN prog f56=some ⟨30,2,UY.er,[.t 4],[some tI]⟩:=by kernel_rfl
noncomputable def ht56:Ht:=⟨56,pH56,qH56,(fun x=>aq (FH56 x.1 x.2.1 x.2.2.1 x.2.2.2.1 x.2.2.2.2.1 x.2.2.2.2.2.1))⟩
theorem RL:ht56.Ok prog:=bO mixed DU rfl func56 RK (enters_of func56 rfl rfl) UY (by kernel_rfl) rfl rfl ⟨_,rfl⟩ rfl (pre:=[0,1]) rfl (fun x=>by kernel_rfl)

/- 20, lent -/
@[reducible] def pH20:az:=az.mk [(0,.c (.ptr 0 0)),(1,.c (.hole tG))] [(0,.cells [.mp 1] false),(1,.map tG true .bool false)] [.slot 0,.cell 0 0] []
@[reducible] def qH20:az:=az.mk [(0,hI)] [(0,.cells [.mp 2] false),(2,.map tG true .bool false)] [.cell 0 0] []
noncomputable def abP:Cx:=(aL [ct55] [yV,ht56])
theorem NJ:abP.Ok prog:=ax ⟨RI,trivial⟩ ⟨⟨mZ,rfl⟩,⟨RL,rfl⟩,trivial⟩
noncomputable def UZ:D prog 17 none 2:=dO [] (kd prog f20) 0
noncomputable def FH20 (v1:GG) (m1:List ((GG)×Bool)):bW (Int×(List ((GG)×Bool))×Unit) :=
 .bd (FH54 m1) fun y0 =>
 .br y0.1 (
 .ret ((9:Int),y0.2.1,())) (
 .bd (F55 (v1.1,v1.2.1,v1.2.2.1,v1.2.2.2.1,v1.2.2.2.2)) fun y1 =>
 .br (!(y1.1==(0:Int))) (
 .ret (y1.1,y0.2.1,())) (
 .bd (FH56 v1.1 v1.2.1 v1.2.2.1 v1.2.2.2.1 v1.2.2.2.2 y0.2.1) fun y2 =>
 .ret (y2.1,y2.2.1,())))
theorem RM:cN prog f20=some ⟨17,2,UZ.er,[.t 4],[some tI]⟩:=by kernel_rfl
noncomputable def XA:Ht:=⟨20,pH20,qH20,(fun x=>aq (FH20 x.1 x.2.1))⟩
theorem HY:XA.Ok prog:=bO mixed NJ rfl func20 RM (enters_of func20 rfl rfl) UZ (by kernel_rfl) rfl rfl ⟨_,rfl⟩ rfl (pre:=[0,1]) rfl (fun x=>by kernel_rfl)

/- 29, lent -/
@[reducible] def pH29:az:=az.mk [(0,.c (.hole (.list tG)))] [] [] []
@[reducible] def qH29:az:=az.mk [(0,.c (.ptr 0 0))] [(0,.cells [.mp 1] false),(1,.map tG true .bool false)] [.slot 0,.cell 0 0] []
noncomputable def U0:Cx:=(aL [] [ht18,XA])
theorem DV:U0.Ok prog:=ax trivial ⟨⟨Rz,rfl⟩,⟨HY,rfl⟩,trivial⟩
@[reducible] def XB:az:=az.mk [(0,.c (.hole (.list tG))),(3,.c (.ptr 0 0)),(4,hI)] [(0,.cells [.mp 1] false),(1,.map tG true .bool false)] [.slot 3,.cell 0 0] []
@[reducible] def XC:aZ:=[(.exit 0,az.mk [(3,.c (.ptr 0 0))] [(0,.cells [.mp 1] false),(1,.map tG true .bool false)] [.slot 3,.cell 0 0] [])]
noncomputable def XD:D prog 19 none 0:=dO [] (pick (kd prog f29) [(0,false)]) 0
noncomputable def gH29_0:(List (GG))×Int×(List ((GG)×Bool))×Unit→bW (((List (GG))×Int×(List ((GG)×Bool))×Unit) ⊕ (((List ((GG)×Bool))×Unit))):=fun (v0,v4,m1,_) =>
 .br (decide (v4<(((v0).length:Nat):Int))) (
 .nb v4 (((v0).length:Nat):Int) <|
 .bd (FH20 (((v0).getD (Int.toNat v4) ((bs []),(0:Int),(bs []),(bs []),(0:Int))).1,((v0).getD (Int.toNat v4) ((bs []),(0:Int),(bs []),(bs []),(0:Int))).2.1,((v0).getD (Int.toNat v4) ((bs []),(0:Int),(bs []),(bs []),(0:Int))).2.2.1,((v0).getD (Int.toNat v4) ((bs []),(0:Int),(bs []),(bs []),(0:Int))).2.2.2.1,((v0).getD (Int.toNat v4) ((bs []),(0:Int),(bs []),(bs []),(0:Int))).2.2.2.2) m1) fun y1 =>
 .ni (v4+(1:Int)) <|
 .ret (.inl (v0,(v4+(1:Int)),y1.2.1,()))) (
 .ret (.inr (m1,())))
noncomputable def XE:cm prog 19 none 0:=bN mixed U0 DV [] rfl XB XC rfl (XD) (fun x=>aq (gH29_0 x)) (fun x=>by kernel_rfl)
noncomputable def U1:D prog 19 none 0:=dO [.l XE] (kd prog f29) 0
noncomputable def FH29 (v0:List (GG)):bW ((List ((GG)×Bool))×Unit) :=
 .bd (FH18) fun y0 =>
 .bd (.it gH29_0 (v0,(0:Int),y0.1,())) fun z2 =>
 .ret (z2.1,())
theorem RN:cN prog f29=some ⟨19,1,U1.er,[.t 2],[none]⟩:=by kernel_rfl
noncomputable def XF:Ht:=⟨29,pH29,qH29,(fun x=>aq (FH29 x.1))⟩
theorem HZ:XF.Ok prog:=bO mixed DV rfl func29 RN (enters_of func29 rfl rfl) U1 (by kernel_rfl) rfl rfl ⟨_,rfl⟩ rfl (pre:=[]) rfl (fun x=>by kernel_rfl)

/- 84, lent -/
@[reducible] def pH84:az:=az.mk [(0,.c (.mp 0))] [(0,.map tG true .bool false)] [.slot 0] []
@[reducible] def qH84:az:=az.mk [(0,.fn 111 [] [.ptr 1 0])] [(1,.cells [.mp 0] false),(0,.map tG true .bool false)] [.part 0 0] []
noncomputable def abQ:Cx:=(aL [] [])
theorem NK:abQ.Ok prog:=ax trivial trivial
noncomputable def U2:D prog 4 none 1:=dO [] (kd prog f84) 0
noncomputable def FH84 (m0:List ((GG)×Bool)):bW ((List ((GG)×Bool))×Unit) :=
 .ret (m0,())
theorem RO:cN prog f84=some ⟨4,1,U2.er,[.t 2],[none]⟩:=by kernel_rfl
noncomputable def ht84:Ht:=⟨84,pH84,qH84,(fun x=>aq (FH84 x.1))⟩
theorem RP:ht84.Ok prog:=bO mixed NK rfl func84 RO (enters_of func84 rfl rfl) U2 (by kernel_rfl) rfl rfl ⟨_,rfl⟩ rfl (pre:=[0]) rfl (fun x=>by kernel_rfl)

/- 110, by hand -/
@[reducible] def abS:az:=az.mk [(0,.c (.cC 0 tG)),(1,.c (.fn0 85))] [(0,.arr tG false)] [.slot 0] []
@[reducible] def abT:az:=az.mk [(0,.c .any)] [(0,.arr tG false)] [] []
noncomputable def FH110 (nc:Nat) (b0:List (GG)):bW ((List (GG))×Unit) :=
 .of (uE (.prod .str (.prod (.int .i64) (.prod .str (.prod .str (.int .i64))))) b0 nc)
noncomputable def NL:Ht:=⟨110,abS,abT,(fun x=>aq (FH110 x.1 x.2.1))⟩
theorem vl (a b:ByteArray):(seq a b=true)↔a=b:=by
  unfold seq
  rw [beq_iff_eq,Go.ByteArray.toList_eq,Go.ByteArray.toList_eq]
  obtain ⟨a⟩:=a;obtain ⟨b⟩:=b
  simp
def nu (a b:ByteArray):Int:=if slt a b=true then -1 else if a=b then 0 else 1
def pU (a b:Int):Int:=if a<b then -1 else if b<a then 1 else 0
def pH : List Int → Int
 |[]=>0
 |a::r=>if a=0 then pH r else a
theorem abU (a:ByteArray):aq (F130 a)=some (false,()):=by
  have:seq a a=true:=(vl a a).2 rfl
  simp [F130,aa,this]
theorem abV (a:Int):aq (F131 a)=some (false,()):=by simp [F131,aa]
theorem abW (a b:ByteArray):aq (F113 a b)=some (nu a b,()):=by
  simp only [F113,aA,av,aa,abU,aN,DS,ko,nu]
  cases h:slt a b
  · by_cases he : a = b
    · subst he;simp [(vl a a).2 rfl]
    · have : seq a b = false := by rw [← Bool.not_eq_true]; exact fun h => he ((vl a b).1 h)
      simp [this,he]
  · simp
theorem abX (a b:Int):aq (F114 a b)=some (pU a b,()):=by
  simp only [F114,aA,av,aa,abV,aN,DS,bp,pU]
  repeat' split
  all_goals rfl
theorem abY (l:List Int) (hl:l.length≤1000):aq (F112 l)=some (pH l,()):=by
  simp only [F112,aA,bG,aa]
  refine bind_eq (aO l (fun k (_:Unit)=>((0:Int),l,((l.length:Nat):Int),(k:Int),())) (fun _ r=>if pH r=0 then .inr (0,()) else .inl (pH r,())) (fun _ _=>True) ?_ ?_ (s:=()) trivial) ?_
  · rintro pre x post _ hx -
    have hlen:l.length=pre.length+(post.length+1):=by rw [hx];simp
    have hd:l.getD pre.length 0=x:=by rw [hx];exact bg rfl
    have i1:fh (pre.length:Int) ((l.length:Nat):Int)=true:=bX (by omega) (by omega)
    have r1:gH .i64 ((pre.length:Int)+1)=true:=aJ (by omega) (by omega)
    simp only [g112_0,av,bf,aQ,aU,aa,Int.toNat_natCast,hd,i1,r1,ak,bp,bP,bI]
    rw [if_pos (by omega)]
    by_cases h:x=0
    · left
      refine ⟨(),?_,trivial,by simp [pH,h]⟩
      rw [if_pos h];rfl
    · right
      rw [if_neg h]
      have:pH (x::post)=x:=by simp [pH,h]
      rw [this,if_neg h]
  · rintro _ _
    simp only [g112_0,av,bp,aa]
    rw [if_neg (by omega)]
    simp [pH]
  · by_cases h : pH l = 0
    · rw [if_pos h,h];rfl
    · rw [if_neg h];rfl
@[reducible] def NM:Ty:=.prod .str (.prod tI (.prod .str (.prod .str tI)))
def xF (a b:NM.den):Int:=pH [nu a.1 b.1,pU a.2.1 b.2.1,nu a.2.2.1 b.2.2.1,nu a.2.2.2.1 b.2.2.2.1,pU a.2.2.2.2 b.2.2.2.2]
theorem vm {a b:ByteArray}:nu a b=0↔a=b:=by
  unfold nu
  split
  · rename_i h
    constructor
    · intro h';omega
    · rintro rfl
      have:fU .str a a=true:=h
      rw [HQ (t:=.str) rfl] at this;cases this
  · split<;>simp_all
theorem BK {a b:Int}:pU a b=0↔a=b:=by
  unfold pU
  repeat' split
  all_goals omega
theorem RQ {a b:ByteArray}:nu a b<0↔fU .str a b=true:=by
  unfold nu
  split
  · rename_i h;simp only [fU];exact ⟨fun _=>h,fun _=>by omega⟩
  · rename_i h
    constructor
    · intro h';split at h'<;>omega
    · intro h';exact absurd h' h
theorem RR {a b:Int}:pU a b<0↔fU tI a b=true:=by
  have e:fU tI a b=decide (a<b):=rfl
  rw [e,decide_eq_true_eq]
  unfold pU
  repeat' split
  all_goals omega
theorem XG {c:Int} {r:List Int}:pH (c::r)<0↔c<0∨(c=0∧pH r<0):=by
  simp only [pH]
  split<;>omega
theorem RT (a b:NM.den):decide (xF a b<0)=fU NM a b:=by
  have hS:∀x y:ByteArray,dI .str x y=true↔x=y:=fun x y=>⟨fun h=>bF h,fun h=>by subst h;exact kf (t:=.str) x rfl⟩
  have hI:∀x y:Int,dI tI x y=true↔x=y:=fun x y=>⟨fun h=>bF (t:=tI) h,fun h=>by subst h;exact kf (t:=tI) x rfl⟩
  rw [Bool.eq_iff_iff,decide_eq_true_eq]
  show _↔(fU .str a.1 b.1||(dI .str a.1 b.1&&(fU tI a.2.1 b.2.1||(dI tI a.2.1 b.2.1&&(fU .str a.2.2.1 b.2.2.1||(dI .str a.2.2.1 b.2.2.1&&(fU .str a.2.2.2.1 b.2.2.2.1||(dI .str a.2.2.2.1 b.2.2.2.1&&fU tI a.2.2.2.2 b.2.2.2.2))))))))=true
  have e:pH []<0↔False:=by simp [pH]
  unfold xF
  simp only [XG,e,and_false,or_false,vm,BK,RQ,RR,Bool.or_eq_true,Bool.and_eq_true,hS,hI]
theorem wq85 (a b:NM.den):aq (F85 a b)=some (xF a b,()):=by
  have hq:∀x y:ByteArray,(x.toList=y.toList)↔x=y:=fun x y=>by rw [←vl];unfold seq;rw [beq_iff_eq]
  simp only [F85,av,aA,aa,abW,abX,aN,ko]
  split
  · rename_i h
    simp only [Bool.and_eq_true,beq_iff_eq,and_true,hq] at h
    obtain ⟨h1,h2,h3,h4,h5⟩:=h
    have:xF a b=0:=by
      unfold xF
      simp only [pH,vm.2 h1,BK.2 h2,vm.2 h3,vm.2 h4,BK.2 h5,if_true]
    rw [this]
  · exact bind_eq (abY [nu a.1 b.1,pU a.2.1 b.2.1,nu a.2.2.1 b.2.2.1,nu a.2.2.2.1 b.2.2.2.1,pU a.2.2.2.2 b.2.2.2.2] (by simp)) rfl
theorem NN:NL.Ok prog:=fun x y h =>
  Rf (ρ := xE) Xf (enters_of func110 rfl rfl) (g := 85) (t := NM) (ks := [.s, .i, .s, .s, .i]) rfl (by decide) (fun w => isAgg33 w) (fun w => sizeOf33 w) xF
    (fun a b=>Rq (a,b,()) (xF a b,()) (wq85 a b)) RT (xs:=x.2.1) (n:=x.1) (y:=y) h

/- 83, lent -/
@[reducible] def pH83:az:=az.mk [(0,.fn 111 [] [.ptr 0 0]),(1,.c (.fn0 85))] [(0,.cells [.mp 1] false),(1,.map tG true .bool false)] [.part 0 0,.cell 0 0] []
@[reducible] def qH83:az:=az.mk [(0,.c (.cC 2 tG))] [(2,.arr tG false),(0,.cells [.mp 1] false),(1,.map tG true .bool false)] [.slot 0] []
noncomputable def vn:Cx:=(aL [] [NL])
theorem qv:vn.Ok prog:=ax (u9:=[]) (hts:=[NL]) trivial ⟨⟨NN,rfl⟩,trivial⟩
noncomputable def nw:D prog 13 (some 4) 8:=dO [] (pick (kd prog f128) [(0,false)]) 0
noncomputable def ny:D prog 13 (some 4) 8:=dO [] (pick (kd prog f128) [(0,true)]) 0
noncomputable def iI:Cx:=yT vn (fun kz=>MY kz vn ew 4 8 [7] (nw) (ny))
theorem jC:(iI).Ok prog:=jI qv (fun h=>mU mixed qv h)
@[reducible] def rO:az:=az.mk [(0,.c (.yl 4)),(4,.c (.mp 1))] [(4,.loop .ready none 3 [(2,.c (.ptr 2 0)),(4,.c .bY),(6,.fn 111 [] [.ptr 0 0])] [7] (.aR [.op (some 5) none (.alloc [.str (ByteArray.mk (Array.mk [])),.int .i64 (Int.ofNat 0),.str (ByteArray.mk (Array.mk [])),.str (ByteArray.mk (Array.mk [])),.int .i64 (Int.ofNat 0)]),.op none none (.store 5 (.t 5) (.t 7))]) (.block 1 (.aR [.op (some 8) none (.load false 1 (.t 2)),.op (some 9) none (.load true 5 (.t 5)),.op (some 10) none (.dU tG [.t 9]),.op (some 11) none (.append 5 (.t 8) (.t 10)),.op none none (.store 1 (.t 2) (.t 11))])) 13),(1,.map tG true .bool false),(3,.ig),(2,.cells [.cC 5 tG] false),(0,.cells [.mp 1] false),(5,.arr tG false)] [.cell 2 0] []
noncomputable def rP:D prog 14 none 7:=dO [] (pick (kd prog f111) [(0,false)]) 0
noncomputable def gH83f109f128_0i_0:(((GG))×(Bool))→(List ((GG)×Bool))×Nat×(List (GG))×Unit→bW ((List ((GG)×Bool))×Nat×(List (GG))×Unit):=fun e (m1,kq,b5,_) =>
 .nd (decide ((kq+((((((e.1.1,e.1.2.1,e.1.2.2.1,e.1.2.2.2.1,e.1.2.2.2.2)::[])).drop (0:Nat)).take (1:Nat))).length)<cg)) <|
 .nd (jB m1 m1) <|
 .ret (m1,(kq+((((((e.1.1,e.1.2.1,e.1.2.2.1,e.1.2.2.2.1,e.1.2.2.2.2)::[])).drop (0:Nat)).take (1:Nat))).length),((((b5).drop (0:Nat)).take kq)++(((((e.1.1,e.1.2.1,e.1.2.2.1,e.1.2.2.2.1,e.1.2.2.2.2)::[])).drop (0:Nat)).take (1:Nat))),())
noncomputable def rQ:ru prog 14 none 5:=vf mixed iI jC [0,1,2,3,4] rfl rO ( [.op (some 4) none (.load false 1 (.t 1))]) 4 5 [6,7] (some 8) ( .prod .str (.prod tI (.prod .str (.prod .str tI))))  true ( .bool)  false 0 rfl 7 rfl (rP) (fun e x=>aq (gH83f109f128_0i_0 e x)) (fun e=>fun x=>by kernel_rfl)
@[reducible] def xG:az:=az.mk [(2,.c (.ptr 2 0)),(4,.c .bY),(6,.fn 111 [] [.ptr 0 0])] [(2,.cells [.bY] false),(0,.cells [.mp 1] false),(1,.map tG true .bool false)] [.slot 2] []
@[reducible] def xH:aZ:=[(.normal,az.mk [(2,.c (.ptr 2 0))] [(2,.cells [.cC 3 tG] false),(0,.cells [.mp 1] false),(1,.map tG true .bool false),(3,.arr tG false)] [.slot 2,.cell 2 0] [])]
noncomputable def nA:D prog 14 none 5:=dO [.m rQ] (kd prog f111) 0
theorem uF:cN prog f111=some ⟨14,2,(nA).er,[],[]⟩:=by kernel_rfl
noncomputable def ou:gp prog 13 none 2:=rK mixed iI jC [0,1] rfl xG xH ( .t 6) [7] rfl (nw).er (ny).er 111 func111 (uF) (enters_of func111 rfl rfl) 5 rfl (nA) rfl
@[reducible] noncomputable def RU:Go.AM.Fn:=⟨13,2,(dO [.r ou] (kd prog f128) 0:D prog 13 none 2).er,[.t 4],[some (.list tG)]⟩
noncomputable def H6:Cx:=Ai prog vn 128 RU 2 (dO [.r ou] (kd prog f128) 0)
theorem FP:H6.Ok prog:=rJ mixed qv func128 (by kernel_rfl) (enters_of func128 rfl rfl) rfl
@[reducible] noncomputable def RW:Go.AM.Fn:=⟨5,1,(dO [] (kd prog f109) 0:D prog 5 none 0).er,[.t 2],[some (.list tG)]⟩
noncomputable def H7:Cx:=DG prog H6 109 RW (fun _=>dO [] (kd prog f109) 0)
theorem FQ:H7.Ok prog:=o4 mixed FP func109 (by kernel_rfl) (enters_of func109 rfl rfl) (fun _=>by kernel_rfl)
noncomputable def abZ:Cx:=H7
theorem NO:abZ.Ok prog:=FQ
noncomputable def U3:D prog 12 none 2:=dO [] (kd prog f83) 0
noncomputable def FH83 (m1:List ((GG)×Bool)):bW (Nat×(List (GG))×(List ((GG)×Bool))×Unit) :=
 .an m1 fun l0 =>
 .bd (.fm gH83f109f128_0i_0 l0 (m1,(0:Nat),[],())) fun z1 =>
 .bd (FH110 z1.2.1 z1.2.2.1) fun y2 =>
 .ret (z1.2.1,y2.1,z1.1,())
theorem RX:cN prog f83=some ⟨12,2,U3.er,[.t 4],[some (.list tG)]⟩:=by kernel_rfl
noncomputable def ht83:Ht:=⟨83,pH83,qH83,(fun x=>aq (FH83 x.1))⟩
theorem RY:ht83.Ok prog:=bO mixed NO rfl func83 RX (enters_of func83 rfl rfl) U3 (by kernel_rfl) rfl rfl ⟨_,rfl⟩ rfl (pre:=[0,1]) rfl (fun x=>by kernel_rfl)

/- 47, lent -/
@[reducible] def pH47:az:=az.mk [(0,.c (.ptr 0 0))] [(0,.cells [.mp 1] false),(1,.map tG true .bool false)] [.slot 0,.cell 0 0] []
@[reducible] def qH47:az:=az.mk [(0,.c (.cC 2 tG))] [(2,.arr tG false),(0,.cells [.mp 1] false),(1,.map tG true .bool false)] [.slot 0] []
noncomputable def ab1:Cx:=(aL [] [yV,ht84,ht83])
theorem NP:ab1.Ok prog:=ax trivial ⟨⟨mZ,rfl⟩,⟨RP,rfl⟩,⟨RY,rfl⟩,trivial⟩
noncomputable def U4:D prog 11 none 2:=dO [] (kd prog f47) 0
noncomputable def FH47 (m1:List ((GG)×Bool)):bW (Nat×(List (GG))×(List ((GG)×Bool))×Unit) :=
 .bd (FH54 m1) fun y0 =>
 .br y0.1 (
 .ret ((0:Nat),[],y0.2.1,())) (
 .bd (FH84 y0.2.1) fun y1 =>
 .bd (FH83 y1.1) fun y2 =>
 .ret (y2.1,y2.2.1,y2.2.2.1,()))
theorem RZ:cN prog f47=some ⟨11,1,U4.er,[.t 2],[some (.list tG)]⟩:=by kernel_rfl
noncomputable def XH:Ht:=⟨47,pH47,qH47,(fun x=>aq (FH47 x.1))⟩
theorem H8:XH.Ok prog:=bO mixed NP rfl func47 RZ (enters_of func47 rfl rfl) U4 (by kernel_rfl) rfl rfl ⟨_,rfl⟩ rfl (pre:=[0,1]) rfl (fun x=>by kernel_rfl)

/- 95, lent -/
@[reducible] def pH95:az:=az.mk [(0,.c (.mp 0))] [(0,.map .str false tG true)] [.slot 0] []
@[reducible] def qH95:az:=az.mk [(0,.fn 118 [] [.ptr 1 0])] [(1,.cells [.mp 0] false),(0,.map .str false tG true)] [.part 0 0] []
noncomputable def ab2:Cx:=(aL [] [])
theorem NQ:ab2.Ok prog:=ax trivial trivial
noncomputable def U5:D prog 4 none 1:=dO [] (kd prog f95) 0
noncomputable def FH95 (m0:cK):bW (cK×Unit) :=
 .ret (m0,())
theorem R1:cN prog f95=some ⟨4,1,U5.er,[.t 2],[none]⟩:=by kernel_rfl
noncomputable def NS:Ht:=⟨95,pH95,qH95,(fun x=>aq (FH95 x.1))⟩
theorem vo:NS.Ok prog:=bO mixed NQ rfl func95 R1 (enters_of func95 rfl rfl) U5 (by kernel_rfl) rfl rfl ⟨_,rfl⟩ rfl (pre:=[0]) rfl (fun x=>by kernel_rfl)

/- 105, by hand -/
@[reducible] def ab3:az:=az.mk [(0,.c (.cC 0 .str))] [(0,.arr .str false)] [.slot 0] []
@[reducible] def ab4:az:=az.mk [(0,.c .any)] [(0,.arr .str false)] [] []
noncomputable def FH105 (nc:Nat) (b0:List ByteArray):bW (List ByteArray×Unit) :=
 .of (uE .str b0 nc)
noncomputable def An:Ht:=⟨105,ab3,ab4,(fun x=>aq (FH105 x.1 x.2.1))⟩
theorem xI:An.Ok prog:=fun x y h=>Nb (ρ:=xC) Xd (enters_of func105 rfl rfl) (xs:=x.2.1) (n:=x.1) (y:=y) h

/- 81, lent -/
@[reducible] def pH81:az:=az.mk [(0,.fn 118 [] [.ptr 0 0])] [(0,.cells [.mp 1] false),(1,.map .str false tG true)] [.part 0 0,.cell 0 0] []
@[reducible] def qH81:az:=az.mk [(0,.c (.cC 2 .str))] [(2,.arr .str false),(0,.cells [.mp 1] false),(1,.map .str false tG true)] [.slot 0] []
noncomputable def vp:Cx:=(aL [] [An])
theorem qw:vp.Ok prog:=ax (u9:=[]) (hts:=[An]) trivial ⟨⟨xI,rfl⟩,trivial⟩
noncomputable def nB:D prog 13 (some 4) 7:=dO [] (pick (kd prog f126) [(0,false)]) 0
noncomputable def nC:D prog 13 (some 4) 7:=dO [] (pick (kd prog f126) [(0,true)]) 0
noncomputable def iJ:Cx:=yT vp (fun kz=>MY kz vp ew 4 7 [7] (nB) (nC))
theorem jD:(iJ).Ok prog:=jI qw (fun h=>mU mixed qw h)
@[reducible] def rR:az:=az.mk [(0,.c (.yl 4)),(4,.c (.mp 1))] [(4,.loop .ready none 3 [(2,.c (.ptr 2 0)),(4,.c .bY),(6,.fn 118 [] [.ptr 0 0])] [7] (.aR [.op (some 5) none (.mv (.t 7))]) (.block 1 (.aR [.op (some 8) none (.load false 1 (.t 2)),.op (some 9) none (.mv (.t 5)),.op (some 10) none (.dU .str [.t 9]),.op (some 11) none (.append 1 (.t 8) (.t 10)),.op none none (.store 1 (.t 2) (.t 11))])) 13),(1,.map .str false tG true),(3,.ig),(2,.cells [.cC 5 .str] false),(0,.cells [.mp 1] false),(5,.arr .str false)] [.cell 2 0] []
noncomputable def rS:D prog 14 none 7:=dO [] (pick (kd prog f118) [(0,false)]) 0
noncomputable def gH81f107f126_0i_0:((ByteArray)×(GG))→cK×Nat×List ByteArray×Unit→bW (cK×Nat×List ByteArray×Unit):=fun e (m1,kq,b5,_) =>
 .nd (decide ((kq+(((((e.1::[])).drop (0:Nat)).take (1:Nat))).length)<cg)) <|
 .nd (jB m1 m1) <|
 .ret (m1,(kq+(((((e.1::[])).drop (0:Nat)).take (1:Nat))).length),((((b5).drop (0:Nat)).take kq)++((((e.1::[])).drop (0:Nat)).take (1:Nat))),())
noncomputable def rT:ru prog 14 none 5:=vf mixed iJ jD [0,1,2,3,4] rfl rR ( [.op (some 4) none (.load false 1 (.t 1))]) 4 5 [6,7] (some 8) ( .str)  false ( .prod .str (.prod tI (.prod .str (.prod .str tI))))  true 0 rfl 7 rfl (rS) (fun e x=>aq (gH81f107f126_0i_0 e x)) (fun e=>fun x=>by kernel_rfl)
@[reducible] def xJ:az:=az.mk [(2,.c (.ptr 2 0)),(4,.c .bY),(6,.fn 118 [] [.ptr 0 0])] [(2,.cells [.bY] false),(0,.cells [.mp 1] false),(1,.map .str false tG true)] [.slot 2] []
@[reducible] def xK:aZ:=[(.normal,az.mk [(2,.c (.ptr 2 0))] [(2,.cells [.cC 3 .str] false),(0,.cells [.mp 1] false),(1,.map .str false tG true),(3,.arr .str false)] [.slot 2,.cell 2 0] [])]
noncomputable def nD:D prog 14 none 5:=dO [.m rT] (kd prog f118) 0
theorem uG:cN prog f118=some ⟨14,2,(nD).er,[],[]⟩:=by kernel_rfl
noncomputable def ov:gp prog 13 none 2:=rK mixed iJ jD [0,1] rfl xJ xK ( .t 6) [7] rfl (nB).er (nC).er 118 func118 (uG) (enters_of func118 rfl rfl) 5 rfl (nD) rfl
@[reducible] noncomputable def R2:Go.AM.Fn:=⟨13,2,(dO [.r ov] (kd prog f126) 0:D prog 13 none 2).er,[.t 4],[some (.list .str)]⟩
noncomputable def H9:Cx:=Ai prog vp 126 R2 2 (dO [.r ov] (kd prog f126) 0)
theorem FR:H9.Ok prog:=rJ mixed qw func126 (by kernel_rfl) (enters_of func126 rfl rfl) rfl
@[reducible] noncomputable def R3:Go.AM.Fn:=⟨5,1,(dO [] (kd prog f107) 0:D prog 5 none 0).er,[.t 2],[some (.list .str)]⟩
noncomputable def Ia:Cx:=DG prog H9 107 R3 (fun _=>dO [] (kd prog f107) 0)
theorem FT:Ia.Ok prog:=o4 mixed FR func107 (by kernel_rfl) (enters_of func107 rfl rfl) (fun _=>by kernel_rfl)
noncomputable def ab5:Cx:=Ia
theorem NT:ab5.Ok prog:=FT
noncomputable def U6:D prog 9 none 2:=dO [] (kd prog f81) 0
noncomputable def FH81 (m1:cK):bW (Nat×List ByteArray×cK×Unit) :=
 .an m1 fun l0 =>
 .bd (.fm gH81f107f126_0i_0 l0 (m1,(0:Nat),[],())) fun z1 =>
 .bd (FH105 z1.2.1 z1.2.2.1) fun y2 =>
 .ret (z1.2.1,y2.1,z1.1,())
theorem R4:cN prog f81=some ⟨9,1,U6.er,[.t 2],[some (.list .str)]⟩:=by kernel_rfl
noncomputable def NU:Ht:=⟨81,pH81,qH81,(fun x=>aq (FH81 x.1))⟩
theorem vq:NU.Ok prog:=bO mixed NT rfl func81 R4 (enters_of func81 rfl rfl) U6 (by kernel_rfl) rfl rfl ⟨_,rfl⟩ rfl (pre:=[0,1]) rfl (fun x=>by kernel_rfl)

/- 98, lent -/
@[reducible] def pH98:az:=az.mk [(0,.c (.hole (.list .str)))] [] [] []
@[reducible] def qH98:az:=az.mk [(0,.c (.cC 0 .str))] [(0,.arr .str false)] [.slot 0] []
noncomputable def ab6:Cx:=(aL [] [])
theorem NV:ab6.Ok prog:=ax trivial trivial
noncomputable def U7:D prog 8 none 0:=dO [] (kd prog f98) 0
noncomputable def FH98 (v0:List ByteArray):bW (Nat×List ByteArray×Unit) :=
 .br ((((v0).length:Nat):Int)==(0:Int)) (
 .am inferInstance (
 .ret ((0:Nat),[],())) (
 .nd (decide (((0:Nat)+(v0).length)<cg)) <|
 .ret (((0:Nat)+(v0).length),(((([]).drop (0:Nat)).take (0:Nat))++v0),()))) (
 .nd (decide (((0:Nat)+(v0).length)<cg)) <|
 .ret (((0:Nat)+(v0).length),(((([]).drop (0:Nat)).take (0:Nat))++v0),()))
theorem R5:cN prog f98=some ⟨8,1,U7.er,[.t 2],[some (.list .str)]⟩:=by kernel_rfl
noncomputable def XI:Ht:=⟨98,pH98,qH98,(fun x=>aq (FH98 x.1))⟩
theorem Ib:XI.Ok prog:=bO mixed NV rfl func98 R5 (enters_of func98 rfl rfl) U7 (by kernel_rfl) rfl rfl ⟨_,rfl⟩ rfl (pre:=[]) rfl (fun x=>by kernel_rfl)

/- 99, lent -/
@[reducible] def pH99:az:=az.mk [(0,.c (.hole .str)),(1,.c (.ptr 0 0))] [(0,.cells [.ptr 1 0] false),(1,.cells [.mp 2,.mp 3,.mp 4,.mp 5] false),(2,.map .str false tG true),(3,.map .str false (.list .str) false),(4,.map .str false .bool false),(5,.map .str false .bool false)] [.slot 1,.cell 0 0,.cell 1 0,.cell 1 1,.cell 1 2,.cell 1 3] []
@[reducible] def qH99:az:=az.mk [(0,.c (.hole .bool))] [(0,.cells [.ptr 1 0] false),(1,.cells [.mp 2,.mp 3,.mp 4,.mp 5] false),(2,.map .str false tG true),(3,.map .str false (.list .str) false),(4,.map .str false .bool false),(5,.map .str false .bool false)] [] []
noncomputable def ab7:Cx:=(aL [] [])
theorem NW:ab7.Ok prog:=ax trivial trivial
noncomputable def U9:D prog 11 none 6:=dO [] (kd prog f99) 0
noncomputable def FH99 (v0:ByteArray) (m2:cK) (m3:cM) (m4:aS) (m5:aS):bW (Bool×cK×cM×aS×aS×Unit) :=
 .ret ((!(ay .str false m4 v0)),m2,m3,m4,m5,())
theorem R6:cN prog f99=some ⟨11,2,U9.er,[.t 3],[some .bool]⟩:=by kernel_rfl
noncomputable def XJ:Ht:=⟨99,pH99,qH99,(fun x=>aq (FH99 x.1 x.2.1 x.2.2.1 x.2.2.2.1 x.2.2.2.2.1))⟩
theorem Ic:XJ.Ok prog:=bO mixed NW rfl func99 R6 (enters_of func99 rfl rfl) U9 (by kernel_rfl) rfl rfl ⟨_,rfl⟩ rfl (pre:=[0,1,2,3,4,5]) rfl (fun x=>by kernel_rfl)

/- 119, lent -/
@[reducible] def ab8:az:=az.mk [(0,.c (.cC 0 .str)),(1,.fn 99 [] [.ptr 1 0])] [(0,.arr .str false),(1,.cells [.ptr 2 0] false),(2,.cells [.mp 3,.mp 4,.mp 5,.mp 6] false),(3,.map .str false tG true),(4,.map .str false (.list .str) false),(5,.map .str false .bool false),(6,.map .str false .bool false)] [.slot 0,.part 1 0,.cell 1 0,.cell 2 0,.cell 2 1,.cell 2 2,.cell 2 3] []
@[reducible] def ab9:az:=az.mk [(0,hI)] [(1,.cells [.ptr 2 0] false),(2,.cells [.mp 3,.mp 4,.mp 5,.mp 6] false),(3,.map .str false tG true),(4,.map .str false (.list .str) false),(5,.map .str false .bool false),(6,.map .str false .bool false),(0,.arr .str false)] [] []
noncomputable def NX:Cx:=(aL [] [XJ])
theorem Ao:NX.Ok prog:=ax trivial ⟨⟨Ic,rfl⟩,trivial⟩
@[reducible] def R7:az:=az.mk [(0,.c (.cC 0 .str)),(1,.fn 99 [] [.ptr 1 0]),(7,hI),(8,hI)] [(0,.arr .str false),(1,.cells [.ptr 2 0] false),(2,.cells [.mp 3,.mp 4,.mp 5,.mp 6] false),(3,.map .str false tG true),(4,.map .str false (.list .str) false),(5,.map .str false .bool false),(6,.map .str false .bool false)] [] []
@[reducible] def R8:aZ:=[(.ret,az.mk [(4,hI)] [(1,.cells [.ptr 2 0] false),(2,.cells [.mp 3,.mp 4,.mp 5,.mp 6] false),(3,.map .str false tG true),(4,.map .str false (.list .str) false),(5,.map .str false .bool false),(6,.map .str false .bool false),(0,.arr .str false)] [] []),(.exit 0,az.mk [] [(1,.cells [.ptr 2 0] false),(2,.cells [.mp 3,.mp 4,.mp 5,.mp 6] false),(3,.map .str false tG true),(4,.map .str false (.list .str) false),(5,.map .str false .bool false),(6,.map .str false .bool false),(0,.arr .str false)] [] [])]
noncomputable def R9:D prog 19 none 7:=dO [] (pick (kd prog f119) [(0,false)]) 0
noncomputable def gH119_0:Nat×Int×Int×List ByteArray×cK×cM×aS×aS×Unit→bW ((Nat×Int×Int×List ByteArray×cK×cM×aS×aS×Unit) ⊕ ((Int×cK×cM×aS×aS×List ByteArray×Unit) ⊕ ((cK×cM×aS×aS×List ByteArray×Unit)))):=fun (nc,v7,v8,b0,m3,m4,m5,m6,_) =>
 .br (decide (v8<v7)) (
 .nb v8 ((nc:Nat):Int) <|
 .nd (decide (((0:Nat)+(Int.toNat v8))<(b0).length)) <|
 .bd (FH99 ((b0).getD ((0:Nat)+(Int.toNat v8)) (bs [])) m3 m4 m5 m6) fun y0 =>
 .br y0.1 (
 .ret (.inr <| .inl<|(v8,y0.2.1,y0.2.2.1,y0.2.2.2.1,y0.2.2.2.2.1,b0,()))) (
 .ni (v8+(1:Int)) <|
 .ret (.inl (nc,v7,(v8+(1:Int)),b0,y0.2.1,y0.2.2.1,y0.2.2.2.1,y0.2.2.2.2.1,())))) (
 .ret (.inr <| .inr<|(m3,m4,m5,m6,b0,())))
noncomputable def Sa:cm prog 19 none 7:=bN mixed NX Ao [0,1,2,3,4,5,6] rfl R7 R8 rfl (R9) (fun x=>aq (gH119_0 x)) (fun x=>by kernel_rfl)
noncomputable def NY:D prog 19 none 7:=dO [.l Sa] (kd prog f119) 0
noncomputable def FH119 (nc:Nat) (b0:List ByteArray) (m3:cK) (m4:cM) (m5:aS) (m6:aS):bW (Int×cK×cM×aS×aS×List ByteArray×Unit) :=
 .bd (.it gH119_0 (nc,((nc:Nat):Int),(0:Int),b0,m3,m4,m5,m6,())) fun z1 =>
 .sm z1 (fun z2 =>
 .ret (z2.1,z2.2.1,z2.2.2.1,z2.2.2.2.1,z2.2.2.2.2.1,z2.2.2.2.2.2.1,())) fun z3 =>
 .ret ((-1:Int),z3.1,z3.2.1,z3.2.2.1,z3.2.2.2.1,z3.2.2.2.2.1,())
theorem NZ:cN prog f119=some ⟨19,2,NY.er,[.t 4],[some tI]⟩:=by kernel_rfl
noncomputable def Va:Ht:=⟨119,ab8,ab9,(fun x=>aq (FH119 x.1 x.2.1 x.2.2.1 x.2.2.2.1 x.2.2.2.2.1 x.2.2.2.2.2.1))⟩
theorem N4:Va.Ok prog:=bO mixed Ao rfl func119 NZ (enters_of func119 rfl rfl) NY (by kernel_rfl) rfl rfl ⟨_,rfl⟩ rfl (pre:=[0,1,2,3,4,5,6]) rfl (fun x=>by kernel_rfl)

/- 97, lent -/
@[reducible] def pH97:az:=az.mk [(0,.c (.cC 0 .str)),(1,.fn 99 [] [.ptr 1 0])] [(0,.arr .str false),(1,.cells [.ptr 2 0] false),(2,.cells [.mp 3,.mp 4,.mp 5,.mp 6] false),(3,.map .str false tG true),(4,.map .str false (.list .str) false),(5,.map .str false .bool false),(6,.map .str false .bool false)] [.slot 0,.part 1 0,.cell 1 0,.cell 2 0,.cell 2 1,.cell 2 2,.cell 2 3] []
@[reducible] def qH97:az:=az.mk [(0,.c (.PT 0 .str))] [(0,.arr .str false),(1,.cells [.ptr 2 0] false),(2,.cells [.mp 3,.mp 4,.mp 5,.mp 6] false),(3,.map .str false tG true),(4,.map .str false (.list .str) false),(5,.map .str false .bool false),(6,.map .str false .bool false)] [] []
noncomputable def Vb:Cx:=(aL [] [Va,XJ])
theorem DW:Vb.Ok prog:=ax trivial ⟨⟨N4,rfl⟩,⟨Ic,rfl⟩,trivial⟩
@[reducible] def XK:az:=az.mk [(0,.c (.cC 0 .str)),(1,.fn 99 [] [.ptr 1 0]),(5,hI),(6,hI)] [(0,.arr .str false),(1,.cells [.ptr 2 0] false),(2,.cells [.mp 3,.mp 4,.mp 5,.mp 6] false),(3,.map .str false tG true),(4,.map .str false (.list .str) false),(5,.map .str false .bool false),(6,.map .str false .bool false)] [] []
@[reducible] def XM:aZ:=[(.exit 0,az.mk [(0,.c (.cC 0 .str)),(5,hI)] [(0,.arr .str false),(1,.cells [.ptr 2 0] false),(2,.cells [.mp 3,.mp 4,.mp 5,.mp 6] false),(3,.map .str false tG true),(4,.map .str false (.list .str) false),(5,.map .str false .bool false),(6,.map .str false .bool false)] [] [])]
noncomputable def XN:D prog 42 none 7:=dO [] (pick (kd prog f97) [(0,false)]) 0
noncomputable def gH97_0:Nat×Int×Int×List ByteArray×cK×cM×aS×aS×Unit→bW ((Nat×Int×Int×List ByteArray×cK×cM×aS×aS×Unit) ⊕ ((Nat×Int×List ByteArray×cK×cM×aS×aS×Unit))):=fun (nc,v5,v6,b0,m3,m4,m5,m6,_) =>
 .br (decide (v6<((nc:Nat):Int))) (
 .nb v6 ((nc:Nat):Int) <|
 .nd (decide (((0:Nat)+(Int.toNat v6))<(b0).length)) <|
 .bd (FH99 ((b0).getD ((0:Nat)+(Int.toNat v6)) (bs [])) m3 m4 m5 m6) fun y1 =>
 .br (!y1.1) (
 .nb v5 ((nc:Nat):Int) <|
 .nd (decide (((0:Nat)+(Int.toNat v5))<(b0).length)) <|
 .ni (v5+(1:Int)) <|
 .ni (v6+(1:Int)) <|
 .ret (.inl (nc,(v5+(1:Int)),(v6+(1:Int)),((b0).set ((0:Nat)+(Int.toNat v5)) ((b0).getD ((0:Nat)+(Int.toNat v6)) (bs []))),y1.2.1,y1.2.2.1,y1.2.2.2.1,y1.2.2.2.2.1,()))) (
 .ni (v6+(1:Int)) <|
 .ret (.inl (nc,v5,(v6+(1:Int)),b0,y1.2.1,y1.2.2.1,y1.2.2.2.1,y1.2.2.2.2.1,())))) (
 .ret (.inr (nc,v5,b0,m3,m4,m5,m6,())))
noncomputable def XO:cm prog 42 none 7:=bN mixed Vb DW [0,1,2,3,4,5,6] rfl XK XM rfl (XN) (fun x=>aq (gH97_0 x)) (fun x=>by kernel_rfl)
noncomputable def Vc:D prog 42 none 7:=dO [.l XO] (kd prog f97) 0
noncomputable def FH97 (nc:Nat) (b0:List ByteArray) (m3:cK) (m4:cM) (m5:aS) (m6:aS):bW (Nat×Nat×List ByteArray×cK×cM×aS×aS×Unit) :=
 .bd (FH119 nc b0 m3 m4 m5 m6) fun y0 =>
 .br (y0.1==(-1:Int)) (
 .ret ((0:Nat),nc,y0.2.2.2.2.2.1,y0.2.1,y0.2.2.1,y0.2.2.2.1,y0.2.2.2.2.1,())) (
 .ni (y0.1+(1:Int)) <|
 .bd (.it gH97_0 (nc,y0.1,(y0.1+(1:Int)),y0.2.2.2.2.2.1,y0.2.1,y0.2.2.1,y0.2.2.2.1,y0.2.2.2.2.1,())) fun z2 =>
 .nd (decide ((0:Int)≤z2.2.1)) <|
 .nd (decide (z2.2.1≤((z2.1:Nat):Int))) <|
 .nd (decide (((z2.1:Nat):Int)≤((z2.1:Nat):Int))) <|
 .nd (decide ((0:Int)≤(0:Int))) <|
 .nd (decide ((0:Int)≤z2.2.1)) <|
 .nd (decide (z2.2.1≤((z2.1:Nat):Int))) <|
 .ret (((0:Nat)+(Int.toNat (0:Int))),((Int.toNat z2.2.1) - (Int.toNat (0:Int))),(AF (bs []) z2.2.2.1 ((0:Nat)+(Int.toNat z2.2.1)) ((Int.toNat ((z2.1:Nat):Int)) - (Int.toNat z2.2.1))),z2.2.2.2.1,z2.2.2.2.2.1,z2.2.2.2.2.2.1,z2.2.2.2.2.2.2.1,()))
theorem Sb:cN prog f97=some ⟨42,2,Vc.er,[.t 4],[some (.list .str)]⟩:=by kernel_rfl
noncomputable def ht97:Ht:=⟨97,pH97,qH97,(fun x=>aq (FH97 x.1 x.2.1 x.2.2.1 x.2.2.2.1 x.2.2.2.2.1 x.2.2.2.2.2.1))⟩
theorem Sc:ht97.Ok prog:=bO mixed DW rfl func97 Sb (enters_of func97 rfl rfl) Vc (by kernel_rfl) rfl rfl ⟨_,rfl⟩ rfl (pre:=[0,1,2,3,4,5,6]) rfl (fun x=>by kernel_rfl)

/- 96, lent -/
@[reducible] def kr:az:=az.mk [(0,.c (.hole .str)),(1,.c (.ptr 0 0)),(2,.c (.ptr 1 0))] [(0,.cells [.ptr 2 0] false),(1,.cells [.fn 96 .nil (.cons (.ptr 0 0) (.cons (.ptr 1 0) .nil))] false),(2,.cells [.mp 3,.mp 4,.mp 5,.mp 6] false),(3,.map .str false tG true),(4,.map .str false (.list .str) false),(5,.map .str false .bool false),(6,.map .str false .bool false)] [.slot 1,.slot 2,.cell 0 0,.cell 2 0,.cell 2 1,.cell 2 2,.cell 2 3] []
@[reducible] def ku:az:=az.mk [(0,.c .any)] [(0,.cells [.ptr 2 0] false),(2,.cells [.mp 3,.mp 4,.mp 5,.mp 6] false),(3,.map .str false tG true),(4,.map .str false (.list .str) false),(5,.map .str false .bool false),(6,.map .str false .bool false),(1,.cells [.fn 96 .nil (.cons (.ptr 0 0) (.cons (.ptr 1 0) .nil))] false)] [] []
noncomputable def N5 (rec:kr.T→Option ku.T):Cx:=(aL [] [⟨96,kr,ku,rec⟩])
theorem DX (rec:kr.T→Option ku.T) (h:Ht.Ok prog ⟨96,kr,ku,rec⟩):(N5 rec).Ok prog:=ax trivial ⟨⟨h,rfl⟩,trivial⟩
@[reducible] def FU:az:=az.mk [(2,.c (.ptr 1 0)),(22,.c (.hole (.list .str))),(23,hI),(24,hI)] [(1,.cells [.fn 96 .nil (.cons (.ptr 0 0) (.cons (.ptr 1 0) .nil))] false),(0,.cells [.ptr 2 0] false),(2,.cells [.mp 3,.mp 4,.mp 5,.mp 6] false),(3,.map .str false tG true),(4,.map .str false (.list .str) false),(5,.map .str false .bool false),(6,.map .str false .bool false)] [] []
@[reducible] def FV:aZ:=[(.exit 0,az.mk [] [(0,.cells [.ptr 2 0] false),(2,.cells [.mp 3,.mp 4,.mp 5,.mp 6] false),(3,.map .str false tG true),(4,.map .str false (.list .str) false),(5,.map .str false .bool false),(6,.map .str false .bool false),(1,.cells [.fn 96 .nil (.cons (.ptr 0 0) (.cons (.ptr 1 0) .nil))] false)] [] [])]
noncomputable def N6 (rec:kr.T→Option ku.T) (h:Ht.Ok prog ⟨96,kr,ku,rec⟩):D prog 32 none 7:=dO [] (pick (kd prog f96) [(0,false)]) 0
noncomputable def gH96_0:List ByteArray×Int×Int×cK×cM×aS×aS×Unit→Tr kr.T ku.T ((List ByteArray×Int×Int×cK×cM×aS×aS×Unit) ⊕ ((cK×cM×aS×aS×Unit))):=fun (v22,v23,v24,m3,m4,m5,m6,_) =>
 .br (decide (v24<v23)) (
 .nb v24 (((v22).length:Nat):Int) <|
 .bd (.rc (((v22).getD (Int.toNat v24) (bs [])),m3,m4,m5,m6,())) fun y0 =>
 .ni (v24+(1:Int)) <|
 .ret (.inl (v22,v23,(v24+(1:Int)),y0.1,y0.2.1,y0.2.2.1,y0.2.2.2.1,()))) (
 .ret (.inr (m3,m4,m5,m6,())))
theorem XP (rec:kr.T→Option ku.T) (h:Ht.Ok prog ⟨96,kr,ku,rec⟩):∀x,Bv (jf (FU.T ⊕ FV.T)) (N5 rec) ew [0,1,2,3,4,5,6] FU FV (N6 rec h) (fun y=>some (.inl y)) (fun b=>some (.inr b)) x=run rec (gH96_0 x):=fun x=>by kernel_rfl
noncomputable def XQ (rec:kr.T→Option ku.T) (h:Ht.Ok prog ⟨96,kr,ku,rec⟩):cm prog 32 none 7:=bN mixed (N5 rec) (DX rec h) [0,1,2,3,4,5,6] rfl FU FV rfl (N6 rec h) (fun x=>run rec (gH96_0 x)) (XP rec h)
noncomputable def Vd (rec:kr.T→Option ku.T) (h:Ht.Ok prog ⟨96,kr,ku,rec⟩):D prog 32 none 7:=dO [.l (XQ rec h)] (kd prog f96) 0
noncomputable def FH96 (v0:ByteArray) (m3:cK) (m4:cM) (m5:aS) (m6:aS):Tr kr.T ku.T (cK×cM×aS×aS×Unit) :=
 .br (ay .str false m6 v0) (
 .ret (m3,m4,m5,m6,())) (
 .bd (.it gH96_0 ((ay .str [] m4 v0),((((ay .str [] m4 v0)).length:Nat):Int),(0:Int),m3,m4,m5,(aV .str m6 v0 true),())) fun z1 =>
 .ret (z1.1,z1.2.1,z1.2.2.1,z1.2.2.2.1,()))
theorem Sd (rec:kr.T→Option ku.T) (h:Ht.Ok prog ⟨96,kr,ku,rec⟩):cN prog f96=some ⟨32,3,(Vd rec h).er,[],[]⟩:=by kernel_rfl
theorem JZ (rec:kr.T→Option ku.T) (h:Ht.Ok prog ⟨96,kr,ku,rec⟩):Ht.Ok prog ⟨96,kr,ku,(fun x=>run rec (FH96 x.1 x.2.1 x.2.2.1 x.2.2.2.1 x.2.2.2.2.1))⟩:=bO mixed (DX rec h) rfl func96 (Sd rec h) (enters_of func96 rfl rfl) (Vd rec h) (by kernel_rfl) rfl rfl ⟨_,rfl⟩ rfl (pre:=[0,1,2,3,4,5,6]) rfl (fun x=>by kernel_rfl)
noncomputable def FH96fix (v0:ByteArray) (m3:cK) (m4:cM) (m5:aS) (m6:aS):bW (cK×cM×aS×aS×Unit):=.fx (A1:=kr.T) (B1:=ku.T) (fun x=>FH96 x.1 x.2.1 x.2.2.1 x.2.2.2.1 x.2.2.2.2.1) (v0,m3,m4,m5,m6,())
noncomputable def ht96:Ht:=⟨96,kr,ku,fun x=>aq (FH96fix x.1 x.2.1 x.2.2.1 x.2.2.2.1 x.2.2.2.2.1)⟩
theorem Se:ht96.Ok prog:=M5 (F:=fun rec x=>run rec (FH96 x.1 x.2.1 x.2.2.1 x.2.2.2.1 x.2.2.2.2.1)) (fun rec h=>JZ rec h)

/- 66, lent -/
@[reducible] def pH66:az:=az.mk [(0,.c (.ptr 0 0))] [(0,.cells [.mp 1] false),(1,.map tG true .bool false)] [.slot 0,.cell 0 0] []
@[reducible] def qH66:az:=az.mk [(0,.c (.ptr 2 0))] [(2,.cells [.mp 3,.mp 4,.mp 5,.mp 6] false),(0,.cells [.mp 1] false),(1,.map tG true .bool false),(3,.map .str false tG true),(4,.map .str false (.list .str) false),(5,.map .str false .bool false),(6,.map .str false .bool false)] [.slot 0,.cell 2 0,.cell 2 1,.cell 2 2,.cell 2 3] []
noncomputable def Ie:Cx:=(aL [] [XH,NS,NU,XI,ht97,ht96])
theorem rU:Ie.Ok prog:=ax trivial ⟨⟨H8,rfl⟩,⟨vo,rfl⟩,⟨vq,rfl⟩,⟨Ib,rfl⟩,⟨Sc,rfl⟩,⟨Se,rfl⟩,trivial⟩
@[reducible] def XR:az:=az.mk [(3,.c (.ptr 2 0)),(26,.c (.cC 3 tG)),(27,hI),(28,hI)] [(2,.cells [.ptr 4 0] false),(3,.arr tG false),(0,.cells [.mp 1] false),(1,.map tG true .bool false),(4,.cells [.mp 5,.mp 6,.mp 7,.mp 8] false),(5,.map .str false tG true),(6,.map .str false (.list .str) false),(7,.map .str false .bool false),(8,.map .str false .bool false)] [.slot 3,.slot 26,.cell 2 0,.cell 4 0,.cell 4 1,.cell 4 2,.cell 4 3] []
@[reducible] def XS:aZ:=[(.exit 0,az.mk [(3,.c (.ptr 2 0))] [(2,.cells [.ptr 3 0] false),(0,.cells [.mp 1] false),(1,.map tG true .bool false),(3,.cells [.mp 4,.mp 5,.mp 6,.mp 7] false),(4,.map .str false tG true),(5,.map .str false (.list .str) false),(6,.map .str false .bool false),(7,.map .str false .bool false)] [.slot 3,.cell 2 0,.cell 3 0,.cell 3 1,.cell 3 2,.cell 3 3] [])]
noncomputable def XT:D prog 148 none 2:=dO [] (pick (kd prog f66) [(0,false)]) 0
noncomputable def gH66_0:Nat×Int×Int×(List (GG))×(List ((GG)×Bool))×cK×cM×aS×aS×Unit→bW ((Nat×Int×Int×(List (GG))×(List ((GG)×Bool))×cK×cM×aS×aS×Unit) ⊕ (((List ((GG)×Bool))×cK×cM×aS×aS×Unit))):=fun (XU,v27,v28,b3,m1,m5,m6,m7,m8,_) =>
 .br (decide (v28<v27)) (
 .nb v28 ((XU:Nat):Int) <|
 .nd (decide (((0:Nat)+(Int.toNat v28))<(b3).length)) <|
 .br (!(aK .str m5 ((b3).getD ((0:Nat)+(Int.toNat v28)) ((bs []),(0:Int),(bs []),(bs []),(0:Int))).1)) (
 .ni (v28+(1:Int)) <|
 .ret (.inl (XU,v27,(v28+(1:Int)),b3,m1,(aV .str m5 ((b3).getD ((0:Nat)+(Int.toNat v28)) ((bs []),(0:Int),(bs []),(bs []),(0:Int))).1 (((b3).getD ((0:Nat)+(Int.toNat v28)) ((bs []),(0:Int),(bs []),(bs []),(0:Int))).1,((b3).getD ((0:Nat)+(Int.toNat v28)) ((bs []),(0:Int),(bs []),(bs []),(0:Int))).2.1,((b3).getD ((0:Nat)+(Int.toNat v28)) ((bs []),(0:Int),(bs []),(bs []),(0:Int))).2.2.1,((b3).getD ((0:Nat)+(Int.toNat v28)) ((bs []),(0:Int),(bs []),(bs []),(0:Int))).2.2.2.1,((b3).getD ((0:Nat)+(Int.toNat v28)) ((bs []),(0:Int),(bs []),(bs []),(0:Int))).2.2.2.2)),m6,m7,m8,()))) (
 .ni (v28+(1:Int)) <|
 .ret (.inl (XU,v27,(v28+(1:Int)),b3,m1,m5,m6,m7,m8,())))) (
 .ret (.inr (m1,m5,m6,m7,m8,())))
noncomputable def XV:cm prog 148 none 2:=bN mixed Ie rU [0,1] rfl XR XS rfl (XT) (fun x=>aq (gH66_0 x)) (fun x=>by kernel_rfl)
@[reducible] def qx:az:=az.mk [(3,.c (.ptr 2 0)),(57,.c (.cC 3 .str)),(58,hI),(59,hI)] [(2,.cells [.ptr 4 0] false),(3,.arr .str false),(0,.cells [.mp 1] false),(1,.map tG true .bool false),(4,.cells [.mp 5,.mp 6,.mp 7,.mp 8] false),(5,.map .str false tG true),(6,.map .str false (.list .str) false),(7,.map .str false .bool false),(8,.map .str false .bool false)] [.slot 3,.slot 57,.cell 2 0,.cell 4 0,.cell 4 1,.cell 4 2,.cell 4 3] []
@[reducible] def tB:aZ:=[(.exit 2,az.mk [(3,.c (.ptr 2 0))] [(2,.cells [.ptr 3 0] false),(0,.cells [.mp 1] false),(1,.map tG true .bool false),(3,.cells [.mp 4,.mp 5,.mp 6,.mp 7] false),(4,.map .str false tG true),(5,.map .str false (.list .str) false),(6,.map .str false .bool false),(7,.map .str false .bool false)] [.slot 3,.cell 2 0,.cell 3 0,.cell 3 1,.cell 3 2,.cell 3 3] [])]
noncomputable def XW:D prog 148 none 2:=dO [] (pick (kd prog f66) [(1,false)]) 0
noncomputable def gH66_1:Nat×Int×Int×List ByteArray×(List ((GG)×Bool))×cK×cM×aS×aS×Unit→bW ((Nat×Int×Int×List ByteArray×(List ((GG)×Bool))×cK×cM×aS×aS×Unit) ⊕ (((List ((GG)×Bool))×cK×cM×aS×aS×Unit))):=fun (dL,v58,v59,b3,m1,m5,m6,m7,m8,_) =>
 .br (decide (v59<v58)) (
 .nb v59 ((dL:Nat):Int) <|
 .nd (decide (((0:Nat)+(Int.toNat v59))<(b3).length)) <|
 .br ((ay .str ((bs []),(0:Int),(bs []),(bs []),(0:Int)) m5 ((b3).getD ((0:Nat)+(Int.toNat v59)) (bs []))).2.1==(3:Int)) (
 .ni (v59+(1:Int)) <|
 .ret (.inl (dL,v58,(v59+(1:Int)),b3,m1,m5,m6,(aV .str m7 (ay .str ((bs []),(0:Int),(bs []),(bs []),(0:Int)) m5 ((b3).getD ((0:Nat)+(Int.toNat v59)) (bs []))).2.2.1 true),m8,()))) (
 .br ((ay .str ((bs []),(0:Int),(bs []),(bs []),(0:Int)) m5 ((b3).getD ((0:Nat)+(Int.toNat v59)) (bs []))).2.1==(2:Int)) (
 .nd (decide (((ay .str [] m6 (ay .str ((bs []),(0:Int),(bs []),(bs []),(0:Int)) m5 ((b3).getD ((0:Nat)+(Int.toNat v59)) (bs []))).2.2.1)).length+1<cg)) <|
 .ni (v59+(1:Int)) <|
 .ret (.inl (dL,v58,(v59+(1:Int)),b3,m1,m5,(aV .str m6 (ay .str ((bs []),(0:Int),(bs []),(bs []),(0:Int)) m5 ((b3).getD ((0:Nat)+(Int.toNat v59)) (bs []))).2.2.1 ((ay .str [] m6 (ay .str ((bs []),(0:Int),(bs []),(bs []),(0:Int)) m5 ((b3).getD ((0:Nat)+(Int.toNat v59)) (bs []))).2.2.1)++(((b3).getD ((0:Nat)+(Int.toNat v59)) (bs []))::[]))),m7,m8,()))) (
 .ni (v59+(1:Int)) <|
 .ret (.inl (dL,v58,(v59+(1:Int)),b3,m1,m5,m6,m7,m8,()))))) (
 .ret (.inr (m1,m5,m6,m7,m8,())))
/-! The loop in which lists grow that lie in a map, by hand. -/
@[reducible] def tC:Ty:=.prod .str (.prod tI (.prod .str (.prod .str tI)))
def gu (b3:List ByteArray) (m1:List (tC.den×Bool)) (m5:List (ByteArray×tC.den)) (m7 m8:aS):ah :=
 [(2,.cells [.ptr 4 0] false),(3,.arr .str b3 false),(0,.cells [.mp 1] false),(1,.map tC true .bool false m1),(4,.cells [.mp 5,.mp 6,.mp 7,.mp 8] false),(5,.map .str false tC true m5),(7,.map .str false .bool false m7),(8,.map .str false .bool false m8)]
def xL (dL:Nat) (v58 v59:Int):Env:=[(3,.ptr 2 0),(57,.sl 3 .str 0 dL),(58,.int .i64 v58),(59,.int .i64 v59)]
def I66 (x:qx.T):St:=⟨xL x.1 x.2.1 x.2.2.1,⟨9,gu x.2.2.2.1 x.2.2.2.2.1 x.2.2.2.2.2.1 x.2.2.2.2.2.2.2.1 x.2.2.2.2.2.2.2.2.1⟩,[]⟩
def FW:C:=.aR [.op (some 97) none (.bin .add (.t 59) (.c (.int .i64 (Int.ofNat 1)))),.op (some 59) none (.mv (.t 97))]
def XX : C := .draw [[], [0], [0, 1], [0, 1, 2], [], [4], [0, 1, 2, 3, 4, 5]]
 [.op (some 73) none (.load false 1 (.t 3)),.op (some 74) none (.ex .iR [.t 73]),.op (some 75) none (.mB 2 [true,true,false] (.t 74)),.op (some 76) none (.load false 1 (.t 75)),.op (some 77) none (.mB 2 [true,true,false] (.t 10)),.op (some 78) none (.load false 1 (.t 77)),
 .op none none (.ex (.iy .str false .bool false) [.t 76,.t 78,.c (.tf true)])]
def in66 : C := .block 4 (.seq (.aR [.op (some 72) none (.bin .eql (.t 70) (.c (.int .i64 (Int.ofNat 3)))), .op (some 71) none (.mv (.t 72))])
 (.cond (.t 71) XX (.seq (.aR [.op (some 80) none (.bin .eql (.t 70) (.c (.int .i64 (Int.ofNat 2)))),.op (some 79) none (.mv (.t 80))]) (.cond (.t 79) (.draw mY DN) .skip))))
def Ve : C := .seq (.block 3 (.seq (.aR [.op (some 61) none (.idx 1 (.t 57) (.t 59)), .op (some 62) none (.load false 1 (.t 61)), .op (some 9) none (.mv (.t 62))])
 (.seq (.aR [.op (some 63) none (.load false 1 (.t 3)),.op (some 64) none (.ex .iR [.t 63]),.op (some 65) none (.mB 0 [false] (.t 64)),.op (some 66) none (.load false 1 (.t 65)),.op (some 67) none (.mv (.t 9)),
 .op (some 68) none (.ex (.gb .str false tC true false) [.t 66,.t 67]),.op (some 10) none (.alloc [.str ⟨⟨[]⟩⟩,.int .i64 (Int.ofNat 0),.str ⟨⟨[]⟩⟩,.str ⟨⟨[]⟩⟩,.int .i64 (Int.ofNat 0)]),.op none none (.store 5 (.t 10) (.t 68))])
 (.seq (.aR [.op (some 69) none (.mB 1 [true,false] (.t 10)),.op (some 70) none (.load false 1 (.t 69))]) in66)))) FW
def c66:C:=.seq (.aR [.op (some 60) none (.bin .lss (.t 59) (.t 58))]) (.seq (.cond (.t 60) .skip (.exit 2)) Ve)
theorem acg {dL : Nat} {v58 v59 : Int} {b3 : List ByteArray} {m1 : List (tC.den × Bool)} {m5 : List (ByteArray × tC.den)} {m7 m8 : aS} {env : Env} {nx : Nat} {bl : ah}
    (h3:get 3 env = .ptr 2 0) (h57:get 57 env = .sl 3 .str 0 dL) (h58:get 58 env = .int .i64 v58) (h59:get 59 env = .int .i64 v59) (hb:∀p∈gu b3 m1 m5 m7 m8,au p.1 bl=some p.2) :
    jl 2 (List.range 9) ⟨env,⟨nx,bl⟩,[]⟩ ⟨xL dL v58 v59,⟨9,gu b3 m1 m5 m7 m8⟩,[]⟩:=by
  refine JX (by omega) rfl rfl rfl (fun p hp=>?_) (fun p hp=>?_)
  · simp only [xL, List.mem_cons, List.not_mem_nil, or_false] at hp
    rcases hp with rfl|rfl|rfl|rfl
    · rw [h3];exact .ptr 2 2 0 rfl
    · rw [h57];exact .sl 3 3 .str 0 dL rfl
    · rw [h58];exact .int _ _
    · rw [h59];exact .int _ _
  · have hg := hb p hp
    simp only [gu,List.mem_cons,List.not_mem_nil,or_false] at hp
    rcases hp with rfl|rfl|rfl|rfl|rfl|rfl|rfl|rfl
    · exact ⟨by omega,2,rfl,_,hg,.cons (.ptr 4 4 0 rfl) .nil⟩
    · exact ⟨by omega,3,rfl,.inl hg⟩
    · exact ⟨by omega,0,rfl,_,hg,.cons (.mp 1 1 rfl) .nil⟩
    · exact ⟨by omega,1,rfl,hg⟩
    · exact ⟨by omega,4,rfl,_,hg,.cons (.mp 5 5 rfl) (.cons (.mp 6 6 rfl) (.cons (.mp 7 7 rfl) (.cons (.mp 8 8 rfl) .nil)))⟩
    · exact ⟨by omega,5,rfl,hg⟩
    · exact ⟨by omega,7,rfl,hg⟩
    · exact ⟨by omega,8,rfl,hg⟩
def P66:qx.T ⊕ tB.T→Ex→St→cM→Prop:=GRnd 6 2 I66 (fun x=>x.2.2.2.2.2.2.1) (tB.st 2) (fun b=>b.2.2.1)
theorem N7 {dL : Nat} {v58 v59 : Int} {b3 : List ByteArray} {m1 : List (tC.den × Bool)} {m5 : List (ByteArray × tC.den)} {m6 : cM} {m7 m8 : aS} {env : Env} {nx : Nat} {bl : ah} (u : Unit) (hi : gH .i64 (v59 + 1) = true)
    (h3:get 3 env = .ptr 2 0) (h57:get 57 env = .sl 3 .str 0 dL) (h58:get 58 env = .int .i64 v58) (h59:get 59 env = .int .i64 v59) (hb:∀p∈gu b3 m1 m5 m7 m8,au p.1 bl=some p.2) :
    gC prog 148 none 6 FW ⟨env,⟨nx,bl⟩,[]⟩ m6 (P66 (.inl (dL,v58,v59+1,b3,m1,m5,m6,m7,m8,u))):=by
  refine DP (env':=(59,.int .i64 (v59+1))::(97,.int .i64 (v59+1))::env) (EU:=nx) (bH:=bl) (ms':=[]) mixed (fun _=>rfl) (fun base=>?_) ⟨rfl,rfl,List.range 9,rfl,acg h3 h57 h58 rfl hb⟩
  refine Eq.trans (b:=need (gH .i64 (v59+1)) (some (Ex.normal,(59,.int .i64 (v59+1))::(97,.int .i64 (v59+1))::env,nx,bl,[]))) ?_ (by rw [gn hi])
  have h1:Uk ew (.bin .add (.t 59) (.c (.int .i64 (Int.ofNat 1)))) env bl nx=some ([gH .i64 (v59+1)],.int .i64 (v59+1),[]):=by
    show (match (O.t 59).ev env,(O.c (V.int .i64 (Int.ofNat 1))).ev env with
      | .int k a,.int k' b=>_
      | .str a,.str b=>_
      |_,_=>_)=_
    rw [show (O.t 59).ev env = .int .i64 v59 from h59]
    rfl
  show (match Uk ew (.bin .add (.t 59) (.c (.int .i64 (Int.ofNat 1)))) env bl nx with
    |some (ob,v,u)=>_
    |none=>_)=_
  rw [h1]
  rfl
def Ig (dL:Nat) (v58 v59:Int):Env:=(60,.tf true)::(60,.bool (decide (v59<v58)))::xL dL v58 v59
def rV (dL:Nat) (v58 v59:Int) (id:ByteArray) (m:tC.den):Env :=
 (70,.int .i64 m.2.1)::(69,.ptr 9 1)::(10,.ptr 9 0)::(68,.agg [.str m.1,.int .i64 m.2.1,.str m.2.2.1,.str m.2.2.2.1,.int .i64 m.2.2.2.2])::(67,.str id)::(66,.mp 5)::(65,.ptr 4 0)::(64,.ptr 4 0)::(63,.ptr 4 0) ::
 (9,.str id)::(62,.str id)::(61,.ep 3 .str (0+Int.toNat v59) [])::Ig dL v58 v59
/-- Up to the switch. -/
theorem xM {dL : Nat} {v58 v59 : Int} {b3 : List ByteArray} {m1 : List (tC.den × Bool)} {m5 : List (ByteArray × tC.den)} {m6 : cM} {m7 m8 : aS} {Q R : Ex → St → cM → Prop}
    (iq:fh v59 (dL:Int)=true) (eB:decide (0+Int.toNat v59<b3.length)=true) {id:ByteArray} {m:tC.den} (hid:id=b3.getD (0+Int.toNat v59) (bs [])) (hm:m=ay .str (bs [],(0:Int),bs [],bs [],(0:Int)) m5 id)
    (hin:gC prog 148 none 6 in66 ⟨rV dL v58 v59 id m,⟨10,(9,.cells [.str m.1,.int .i64 m.2.1,.str m.2.2.1,.str m.2.2.2.1,.int .i64 m.2.2.2.2] false)::gu b3 m1 m5 m7 m8⟩,[]⟩ m6 fun e S' es'=>e = .normal∧R .normal S' es')
    (h18:∀S' es',R .normal S' es'→gC prog 148 none 6 FW S' es' Q):gC prog 148 none 6 Ve ⟨Ig dL v58 v59,⟨9,gu b3 m1 m5 m7 m8⟩,[]⟩ m6 Q:=by
  subst hm;subst hid
  refine HS (Q1:=fun e S' es'=>e = .normal∧R .normal S' es') (fun _ _ h=>by cases h) (vj (Q1:=fun e S' es'=>e = .normal∧R .normal S' es') ?_ (fun _ _ h=>h) (fun i _ _ h=>by cases h.1) (fun _ _ h=>by cases h.1)) (fun S' es' hq=>h18 _ _ hq.2) (fun i S' es' hq=>by cases hq.1) (fun S' es' hq=>by cases hq.1)
  generalize hE3:((9,V.str (b3.getD (0+Int.toNat v59) (bs [])))::(62,V.str (b3.getD (0+Int.toNat v59) (bs [])))::(61,V.ep 3 .str (0+Int.toNat v59) [])::Ig dL v58 v59:Env)=e3
  refine fQ (env':=e3) (EU:=9) (bH:=gu b3 m1 m5 m7 m8) (ms':=[]) mixed (fun base=>Eq.trans (b:=need (fh v59 (dL:Int)) (need (decide (0+Int.toNat v59<b3.length)) (some (Ex.normal,e3,9,gu b3 m1 m5 m7 m8,[])))) (by subst hE3;kernel_rfl) (by rw [gn iq,gn eB])) ?_
  subst hE3
  refine fQ (EU := 10) (ms' := []) (bH := (9, .cells [.str (ay .str (bs [], (0 : Int), bs [], bs [], (0 : Int)) m5 (b3.getD (0 + Int.toNat v59) (bs []))).1, .int .i64 (ay .str (bs [], (0 : Int), bs [], bs [], (0 : Int)) m5 (b3.getD (0 + Int.toNat v59) (bs []))).2.1, .str (ay .str (bs [], (0 : Int), bs [], bs [], (0 : Int)) m5 (b3.getD (0 + Int.toNat v59) (bs []))).2.2.1, .str (ay .str (bs [], (0 : Int), bs [], bs [], (0 : Int)) m5 (b3.getD (0 + Int.toNat v59) (bs []))).2.2.2.1, .int .i64 (ay .str (bs [], (0 : Int), bs [], bs [], (0 : Int)) m5 (b3.getD (0 + Int.toNat v59) (bs []))).2.2.2.2] false) :: gu b3 m1 m5 m7 m8)
    (env':=(rV dL v58 v59 (b3.getD (0+Int.toNat v59) (bs [])) (ay .str (bs [],(0:Int),bs [],bs [],(0:Int)) m5 (b3.getD (0+Int.toNat v59) (bs [])))).drop 2) mixed (fun base=>by kernel_rfl) ?_
  exact fQ (EU:=10) (ms':=[]) mixed (fun base=>by kernel_rfl) hin
theorem XY:∀(x:qx.T) (r:qx.T ⊕ tB.T),aq (gH66_1 x)=some r→gC prog 148 none 6 c66 (I66 x) x.2.2.2.2.2.2.1 (P66 r):=by
  rintro ⟨dL,v58,v59,b3,m1,m5,m6,m7,m8,u⟩ r hr
  have hr:u5 (decide (v59<v58)) _ _=some r:=hr
  rcases iG hr with ⟨hlt,hr⟩|⟨hlt,hr⟩
  · obtain ⟨iq, hr⟩ := de hr
    obtain ⟨eB,hr⟩:=de hr
    refine fQ (env':=(60,.bool (decide (v59<v58)))::xL dL v58 v59) (EU:=9) (bH:=gu b3 m1 m5 m7 m8) (ms':=[]) mixed (fun base=>by kernel_rfl) ?_
    refine HS (Q1:=fun e S' es'=>e = .normal∧S'=⟨Ig dL v58 v59,⟨9,gu b3 m1 m5 m7 m8⟩,[]⟩∧es'=m6) (fun _ _ h=>by cases h) (qu (t:=true) (by show V.bool _=_;rw [hlt]) (DP mixed (fun _=>rfl) (fun base=>by kernel_rfl) ⟨rfl,rfl,rfl⟩)) (fun S' es' hq=>?_) (fun i S' es' hq=>by cases hq.1) (fun S' es' hq=>by cases hq.1)
    obtain ⟨-,rfl,rfl⟩:=hq
    obtain ⟨id,hid⟩:∃id,id=b3.getD (0+Int.toNat v59) (bs []):=⟨_,rfl⟩
    obtain ⟨m,hm⟩:∃m,m=ay .str (bs [],(0:Int),bs [],bs [],(0:Int)) m5 id:=⟨_,rfl⟩
    rw [←hid,←hm] at hr
    have hr:u5 (m.2.1==3) _ _=some r:=hr
    rcases iG hr with ⟨h3,hr⟩|⟨h3,hr⟩
    · obtain ⟨hi, hr⟩ := de hr
      cases hr
      refine xM (R:=fun _ S' EP=>EP=es'∧S'=⟨(78,.str m.2.2.1)::(77,.ptr 9 2)::(76,.mp 7)::(75,.ptr 4 2)::(74,.ptr 4 0)::(73,.ptr 4 0)::(71,.tf true)::(71,.bool (m.2.1==3))::(72,.bool (m.2.1==3))::rV dL v58 v59 id m,⟨17,(7,.map .str false .bool false (aV .str m7 m.2.2.1 true))::(9,.cells [.str m.1,.int .i64 m.2.1,.str m.2.2.1,.str m.2.2.2.1,.int .i64 m.2.2.2.2] false)::bt 7 (gu b3 m1 m5 m7 m8)⟩,[]⟩) iq eB hid hm ?_ ?_
      · refine vj (Q1 := fun e S' EP => e = .normal ∧ (EP = es' ∧ S' = _)) ?_ (fun _ _ h => h) (fun i _ _ h => by cases h.1) (fun _ _ h => by cases h.1)
        refine fQ (env':=(71,.bool (m.2.1==3))::(72,.bool (m.2.1==3))::rV dL v58 v59 id m) (EU:=10) (ms':=[]) (bH:=(9,.cells [.str m.1,.int .i64 m.2.1,.str m.2.2.1,.str m.2.2.2.1,.int .i64 m.2.2.2.2] false)::gu b3 m1 m5 m7 m8) mixed (fun base=>by kernel_rfl) ?_
        refine qu (t:=true) (by show V.bool _=_;rw [h3]) ?_
        exact DP mixed (fun _=>rfl) (fun base=>by kernel_rfl) ⟨rfl,rfl,rfl⟩
      · rintro S' EP ⟨rfl, rfl⟩
        refine N7 u hi rfl rfl rfl rfl fun p hp=>?_
        simp only [gu,List.mem_cons,List.not_mem_nil,or_false] at hp
        rcases hp with rfl|rfl|rfl|rfl|rfl|rfl|rfl|rfl<;>rfl
    · have hr : u5 (m.2.1 == 2) _ _ = some r := hr
      rcases iG hr with ⟨h2,hr⟩|⟨h2,hr⟩
      · obtain ⟨lF, hr⟩ := de hr
        obtain ⟨hi,hr⟩:=de hr
        cases hr
        refine xM (R:=fun _ S' EP=>EP=aV .str es' m.2.2.1 (ay .str [] es' m.2.2.1++[id])∧S'=⟨xL dL v58 v59,⟨28,gu b3 m1 m5 m7 m8⟩,[]⟩) iq eB hid hm ?_ ?_
        · refine vj (Q1 := fun e S' EP => e = .normal ∧ (EP = _ ∧ S' = _)) ?_ (fun _ _ h => h) (fun i _ _ h => by cases h.1) (fun _ _ h => by cases h.1)
          refine fQ (env':=(71,.bool (m.2.1==3))::(72,.bool (m.2.1==3))::rV dL v58 v59 id m) (EU:=10) (ms':=[]) (bH:=(9,.cells [.str m.1,.int .i64 m.2.1,.str m.2.2.1,.str m.2.2.2.1,.int .i64 m.2.2.2.2] false)::gu b3 m1 m5 m7 m8) mixed (fun base=>by kernel_rfl) ?_
          refine qu (t:=false) (by show V.bool _=_;rw [h3]) ?_
          refine fQ (env':=(79,.bool (m.2.1==2))::(80,.bool (m.2.1==2))::(71,.tf false)::(71,.bool (m.2.1==3))::(72,.bool (m.2.1==3))::rV dL v58 v59 id m) (EU:=10) (ms':=[]) (bH:=(9,.cells [.str m.1,.int .i64 m.2.1,.str m.2.2.1,.str m.2.2.2.1,.int .i64 m.2.2.2.2] false)::gu b3 m1 m5 m7 m8) mixed (fun base=>by kernel_rfl) ?_
          refine qu (t:=true) (by show V.bool _=_;rw [h2]) ?_
          refine Ni (Np (c2:=2) (c4:=4) (c9:=9) (k:=m.2.2.1) (x:=id) (env':=xL dL v58 v59) (bH:=gu b3 m1 m5 m7 m8) mixed rfl rfl rfl rfl rfl rfl (of_decide_eq_true lF) (fun i B hB=>?_) (fun t=>?_)) fun e S' EP hq=>⟨hq.1,hq.2.2,hq.2.1⟩
          · have hm := dn hB
            simp only [gu,List.mem_cons,List.not_mem_nil,or_false,Prod.mk.injEq] at hm
            rcases hm with ⟨rfl,rfl⟩|⟨rfl,rfl⟩|⟨rfl,rfl⟩|⟨rfl,rfl⟩|⟨rfl,rfl⟩|⟨rfl,rfl⟩|⟨rfl,rfl⟩|⟨rfl,rfl⟩<;>rfl
          · by_cases ht : t = 3 ∨ t = 57 ∨ t = 58 ∨ t = 59
            · rcases ht with rfl|rfl|rfl|rfl<;>exact .inr ⟨rfl,by omega⟩
            · refine .inl (get_none ?_)
              simp only [xL,List.map_cons,List.map_nil,List.mem_cons,List.not_mem_nil,or_false]
              omega
        · rintro S' EP ⟨rfl, rfl⟩
          refine N7 u hi rfl rfl rfl rfl fun p hp=>?_
          simp only [gu,List.mem_cons,List.not_mem_nil,or_false] at hp
          rcases hp with rfl|rfl|rfl|rfl|rfl|rfl|rfl|rfl<;>rfl
      · obtain ⟨hi, hr⟩ := de hr
        cases hr
        refine xM (R:=fun _ S' EP=>EP=es'∧S'=⟨(79,.tf false)::(79,.bool (m.2.1==2))::(80,.bool (m.2.1==2))::(71,.tf false)::(71,.bool (m.2.1==3))::(72,.bool (m.2.1==3))::rV dL v58 v59 id m,⟨10,(9,.cells [.str m.1,.int .i64 m.2.1,.str m.2.2.1,.str m.2.2.2.1,.int .i64 m.2.2.2.2] false)::gu b3 m1 m5 m7 m8⟩,[]⟩) iq eB hid hm ?_ ?_
        · refine vj (Q1 := fun e S' EP => e = .normal ∧ (EP = es' ∧ S' = _)) ?_ (fun _ _ h => h) (fun i _ _ h => by cases h.1) (fun _ _ h => by cases h.1)
          refine fQ (env':=(71,.bool (m.2.1==3))::(72,.bool (m.2.1==3))::rV dL v58 v59 id m) (EU:=10) (ms':=[]) (bH:=(9,.cells [.str m.1,.int .i64 m.2.1,.str m.2.2.1,.str m.2.2.2.1,.int .i64 m.2.2.2.2] false)::gu b3 m1 m5 m7 m8) mixed (fun base=>by kernel_rfl) ?_
          refine qu (t:=false) (by show V.bool _=_;rw [h3]) ?_
          refine fQ (env':=(79,.bool (m.2.1==2))::(80,.bool (m.2.1==2))::(71,.tf false)::(71,.bool (m.2.1==3))::(72,.bool (m.2.1==3))::rV dL v58 v59 id m) (EU:=10) (ms':=[]) (bH:=(9,.cells [.str m.1,.int .i64 m.2.1,.str m.2.2.1,.str m.2.2.2.1,.int .i64 m.2.2.2.2] false)::gu b3 m1 m5 m7 m8) mixed (fun base=>by kernel_rfl) ?_
          refine qu (t:=false) (by show V.bool _=_;rw [h2]) ?_
          exact DP mixed (fun _=>rfl) (fun base=>by kernel_rfl) ⟨rfl,rfl,rfl⟩
        · rintro S' EP ⟨rfl, rfl⟩
          refine N7 u hi rfl rfl rfl rfl fun p hp=>?_
          simp only [gu,List.mem_cons,List.not_mem_nil,or_false] at hp
          rcases hp with rfl|rfl|rfl|rfl|rfl|rfl|rfl|rfl<;>rfl
  · cases hr
    refine fQ (env':=(60,.bool (decide (v59<v58)))::xL dL v58 v59) (EU:=9) (bH:=gu b3 m1 m5 m7 m8) (ms':=[]) mixed (fun base=>by kernel_rfl) ?_
    refine HS (Q1:=fun e S' es'=>e = .exit 2∧S'=⟨(60,.tf false)::(60,.bool (decide (v59<v58)))::xL dL v58 v59,⟨9,gu b3 m1 m5 m7 m8⟩,[]⟩∧es'=m6) (fun _ _ h=>by cases h) (qu (t:=false) (by show V.bool _=_;rw [hlt]) ?_) (fun S' es' hq=>by cases hq.1) (fun i S' es' hq=>?_) (fun S' es' hq=>by cases hq.1)
    · exact DP mixed (fun _=>rfl) (fun base=>by kernel_rfl) ⟨rfl,rfl,rfl⟩
    · obtain ⟨h1, rfl, rfl⟩ := hq
      cases h1
      refine ⟨by simp,rfl,by show 6<9;omega,rfl,?_⟩
      obtain ⟨b',π,h1,h2,h3⟩:=aZ.dG (base:=2) (xs:=tB) (e:=.exit 2) (k:=fun x=>some x) (r:=(m1,m5,es',m7,m8,u)) (env:=(60,.tf false)::(60,.bool (decide (v59<v58)))::xL dL v58 v59) (nx:=9) (bl:=(6,.map .str false (.list .str) false es')::bt 6 (gu b3 m1 m5 m7 m8)) (ms:=[]) (by kernel_rfl)
      cases h1
      exact ⟨π,h3⟩
noncomputable def XZ:cm prog 148 none 2 where
  c:=(XW).er
  run kz env nx bl ms K:=qx.rd kz.no [0,1] 2 env nx bl ms fun x=>kz.nd x.2.2.2.2.2.2.1.isEmpty (kz.bd (iter (fun x=>aq (gH66_1 x)) x) fun b=>tB.go kz 2 b K)
  ok:=by
    intro X env nx bl ms K r h Q hQ
    obtain ⟨x,π,h1,h2⟩:=az.dG (base:=2) (show az.rd none (List.range 2) 2 qx _ _ _ _ _=some r from h)
    obtain ⟨hemp,h1⟩:=de h1
    obtain ⟨b,h3,h4⟩:=oV h1
    have h5:=aZ.zX h4
    intro body hbody Y ι μ a w ho hb hR
    have qF:=h2.rep hb hR
    obtain ⟨dL,v58,v59,b3,m1,m5,m6,m7,m8,u⟩:=x
    have hm:m6=[]:=List.isEmpty_iff.1 hemp
    subst hm
    have qE:∀id B,au id (gu b3 m1 m5 m7 m8)=some B→au id (qx.st 2 (dL,v58,v59,b3,m1,m5,[],m7,m8,u)).H.bl=some B∧id≠6:=by
      intro id B hB
      have hm:=dn hB
      simp only [gu,List.mem_cons,List.not_mem_nil,or_false,Prod.mk.injEq] at hm
      rcases hm with ⟨rfl,rfl⟩|⟨rfl,rfl⟩|⟨rfl,rfl⟩|⟨rfl,rfl⟩|⟨rfl,rfl⟩|⟨rfl,rfl⟩|⟨rfl,rfl⟩|⟨rfl,rfl⟩<;>exact ⟨rfl,by omega⟩
    obtain ⟨hI,hG⟩:=Ri (gi:=6) (bH:=gu b3 m1 m5 m7 m8) qF.inv rfl qE
    exact Xc (I:=I66) (ES:=fun x=>x.2.2.2.2.2.2.1) (X:=tB.st 2) (nb:=fun b=>b.2.2.1) (c:=c66) XY h3 (hQ _ _ _ _ _ h5) (by rw [hbody];kernel_rfl) ho hb ⟨qF.env,qF.sz,hI,qF.ms⟩ hG
@[reducible] def J1:az:=az.mk [(3,.c (.ptr 2 0)),(11,.c (.ptr 3 0)),(16,.c (.PT 10 .str)),(102,.c (.mp 5)),(103,.c (.ptr 9 0)),(121,.c (.ptr 11 1)),(122,hI),(123,.c (.hole .bool)),(132,.c (.hole (.list .str))),(133,hI),(134,hI)] [(2,.cells [.ptr 4 0] false),(3,.cells [.fn 96 .nil (.cons (.ptr 2 0) (.cons (.ptr 3 0) .nil))] false),(10,.arr .str false),(5,.map .str false (.list .str) false),(11,.cells [.hole .str,.hole tI,.hole .str,.hole .str,.hole tI] false),(4,.cells [.mp 6,.mp 5,.mp 7,.mp 8] false),(6,.map .str false tG true),(7,.map .str false .bool false),(8,.map .str false .bool false),(0,.cells [.mp 1] false),(1,.map tG true .bool false)] [.slot 16,.slot 121] []
@[reducible] def J2:aZ:=[(.exit 7,az.mk [(3,.c (.ptr 2 0)),(11,.c (.ptr 3 0)),(102,.c (.mp 5)),(103,.c (.ptr 9 0)),(121,.c (.ptr 10 1)),(122,hI),(123,.c (.hole .bool))] [(2,.cells [.ptr 4 0] false),(3,.cells [.fn 96 .nil (.cons (.ptr 2 0) (.cons (.ptr 3 0) .nil))] false),(5,.map .str false (.list .str) false),(10,.cells [.hole .str,.hole tI,.hole .str,.hole .str,.hole tI] false),(4,.cells [.mp 6,.mp 5,.mp 7,.mp 8] false),(6,.map .str false tG true),(7,.map .str false .bool false),(8,.map .str false .bool false),(0,.cells [.mp 1] false),(1,.map tG true .bool false)] [.slot 121] [])]
noncomputable def J3:D prog 148 none 10:=dO [] (pick (kd prog f66) [(2,false),(0,false)]) 0
noncomputable def gH66_2b_3:Nat×Nat×Int×Bool×List ByteArray×Int×Int×List ByteArray×cM×ByteArray×Int×ByteArray×ByteArray×Int×cK×aS×aS×(List ((GG)×Bool))×Unit→bW ((Nat×Nat×Int×Bool×List ByteArray×Int×Int×List ByteArray×cM×ByteArray×Int×ByteArray×ByteArray×Int×cK×aS×aS×(List ((GG)×Bool))×Unit) ⊕ ((Int×Bool×cM×ByteArray×Int×ByteArray×ByteArray×Int×cK×aS×aS×(List ((GG)×Bool))×Unit))):=fun (Sf,X0,DY,DZ,N8,X1,D0,PX,m5,N9,Oa,Ob,Oc,Od,m6,m7,m8,m1,_) =>
 .br (decide (D0<X1)) (
 .nb D0 (((N8).length:Nat):Int) <|
 .nb (0:Int) ((X0:Nat):Int) <|
 .nd (decide ((Sf+(Int.toNat (0:Int)))<(PX).length)) <|
 .br (!(seq ((N8).getD (Int.toNat D0) (bs [])) ((PX).getD (Sf+(Int.toNat (0:Int))) (bs [])))) (
 .bd (FH96fix ((N8).getD (Int.toNat D0) (bs [])) m6 m5 m7 m8) fun y7 =>
 .ni (D0+(1:Int)) <|
 .ret (.inl (Sf,X0,DY,DZ,N8,X1,(D0+(1:Int)),PX,y7.2.1,N9,Oa,Ob,Oc,Od,y7.1,y7.2.2.1,y7.2.2.2.1,m1,()))) (
 .ni (D0+(1:Int)) <|
 .ret (.inl (Sf,X0,DY,DZ,N8,X1,(D0+(1:Int)),PX,m5,N9,Oa,Ob,Oc,Od,m6,m7,m8,m1,())))) (
 .ret (.inr (DY,DZ,m5,N9,Oa,Ob,Oc,Od,m6,m7,m8,m1,())))
noncomputable def J4:cm prog 148 none 10:=bN mixed Ie rU [0,1,2,3,4,5,6,7,8,9] rfl J1 J2 rfl (J3) (fun x=>aq (gH66_2b_3 x)) (fun x=>by kernel_rfl)
@[reducible] def X2:az:=az.mk [(3,.c (.ptr 2 0)),(11,.c (.ptr 3 0)),(102,.c (.mp 5))] [(2,.cells [.ptr 4 0] false),(3,.cells [.fn 96 .nil (.cons (.ptr 2 0) (.cons (.ptr 3 0) .nil))] false),(4,.cells [.mp 6,.mp 5,.mp 7,.mp 8] false),(5,.map .str false (.list .str) false),(0,.cells [.mp 1] false),(1,.map tG true .bool false),(6,.map .str false tG true),(7,.map .str false .bool false),(8,.map .str false .bool false)] [.slot 3,.slot 11,.cell 2 0,.cell 4 1,.cell 4 0,.cell 4 2,.cell 4 3] []
noncomputable def X3:D prog 148 none 10:=dO [.l J4] (pick (kd prog f66) [(2,false)]) 0
noncomputable def gH66_2:((ByteArray)×(List ByteArray))→cM×(List ((GG)×Bool))×cK×aS×aS×Unit→bW (cM×(List ((GG)×Bool))×cK×aS×aS×Unit):=fun e (m5,m1,m6,m7,m8,_) =>
 .br (!(aK .str m6 e.1)) (
 .nd (jB m5 m5) <|
 .ret (m5,m1,m6,m7,m8,())) (
 .br ((ay .str ((bs []),(0:Int),(bs []),(bs []),(0:Int)) m6 e.1).2.1==(3:Int)) (
 .nd (jB m5 m5) <|
 .ret (m5,m1,m6,m7,m8,())) (
 .bd (FH98 e.2) fun y5 =>
 .bd (FH97 y5.1 y5.2.1 m6 m5 m7 m8) fun y6 =>
 .br (!(((y6.2.1:Nat):Int)==(1:Int))) (
 .nd (jB y6.2.2.2.2.1 m5) <|
 .ret (y6.2.2.2.2.1,m1,y6.2.2.2.1,y6.2.2.2.2.2.1,y6.2.2.2.2.2.2.1,())) (
 .bd (.it gH66_2b_3 (y6.1,y6.2.1,(ay .str ((bs []),(0:Int),(bs []),(bs []),(0:Int)) m6 e.1).2.1,((ay .str ((bs []),(0:Int),(bs []),(bs []),(0:Int)) m6 e.1).2.1==(3:Int)),e.2,(((e.2).length:Nat):Int),(0:Int),y6.2.2.1,y6.2.2.2.2.1,(ay .str ((bs []),(0:Int),(bs []),(bs []),(0:Int)) m6 e.1).1,(ay .str ((bs []),(0:Int),(bs []),(bs []),(0:Int)) m6 e.1).2.1,(ay .str ((bs []),(0:Int),(bs []),(bs []),(0:Int)) m6 e.1).2.2.1,(ay .str ((bs []),(0:Int),(bs []),(bs []),(0:Int)) m6 e.1).2.2.2.1,(ay .str ((bs []),(0:Int),(bs []),(bs []),(0:Int)) m6 e.1).2.2.2.2,y6.2.2.2.1,y6.2.2.2.2.2.1,y6.2.2.2.2.2.2.1,m1,())) fun z8 =>
 .nd (jB z8.2.2.1 m5) <|
 .ret (z8.2.2.1,z8.2.2.2.2.2.2.2.2.2.2.2.1,z8.2.2.2.2.2.2.2.2.1,z8.2.2.2.2.2.2.2.2.2.1,z8.2.2.2.2.2.2.2.2.2.2.1,()))))
noncomputable def X4:ru prog 148 none 2:=BG mixed Ie rU [0,1] rfl X2 ( [.op (some 99) none (.load false 1 (.t 3)),.op (some 100) none (.ex gw.iR [.t 99]),.op (some 101) none (.mB 1 [true,false] (.t 100)),.op (some 102) none (.load false 1 (.t 101))]) 102 103 [104,105] (some 106) ( .str)  false ( .list .str)  false 5 rfl 10 rfl (X3) (fun e x=>aq (gH66_2 e x)) (fun e=>fun x=>by kernel_rfl)
noncomputable def Vf:D prog 148 none 2:=dO [.l XV,.l XZ,.m X4] (kd prog f66) 0
noncomputable def FH66 (m1:List ((GG)×Bool)):bW ((List ((GG)×Bool))×cK×cM×aS×aS×Unit) :=
 .bd (FH47 m1) fun y0 =>
 .bd (.it gH66_0 (y0.1,((y0.1:Nat):Int),(0:Int),y0.2.1,y0.2.2.1,[],[],[],[],())) fun z1 =>
 .bd (FH95 z1.2.1) fun y2 =>
 .bd (FH81 y2.1) fun y3 =>
 .nd (z1.2.2.1).isEmpty <|
 .bd (.it gH66_1 (y3.1,((y3.1:Nat):Int),(0:Int),y3.2.1,z1.1,y3.2.2.1,z1.2.2.1,z1.2.2.2.1,z1.2.2.2.2.1,())) fun z4 =>
 .bd (.mq gH66_2 z4.2.2.1 (z4.2.2.1,z4.1,z4.2.1,z4.2.2.2.1,z4.2.2.2.2.1,())) fun z9 =>
 .ret (z9.2.1,z9.2.2.1,z9.1,z9.2.2.2.1,z9.2.2.2.2.1,())
theorem Sg:cN prog f66=some ⟨148,1,Vf.er,[.t 2],[none]⟩:=by kernel_rfl
noncomputable def D1:Ht:=⟨66,pH66,qH66,(fun x=>aq (FH66 x.1))⟩
theorem rW:D1.Ok prog:=bO mixed rU rfl func66 Sg (enters_of func66 rfl rfl) Vf (by kernel_rfl) rfl rfl ⟨_,rfl⟩ rfl (pre:=[0,1]) rfl (fun x=>by kernel_rfl)

/- 123, lent -/
@[reducible] def ach:az:=az.mk [(0,.c (.hole .str)),(1,.c (.ptr 0 0))] [(0,.cells [.ptr 1 0] false),(1,.cells [.mp 2,.mp 3,.mp 4,.mp 5] false),(2,.map .str false tG true),(3,.map .str false (.list .str) false),(4,.map .str false .bool false),(5,.map .str false .bool false)] [.slot 1,.cell 0 0,.cell 1 0,.cell 1 1,.cell 1 2,.cell 1 3] []
@[reducible] def aci:az:=az.mk [(0,.c (.hole .bool))] [(0,.cells [.ptr 1 0] false),(1,.cells [.mp 2,.mp 3,.mp 4,.mp 5] false),(2,.map .str false tG true),(3,.map .str false (.list .str) false),(4,.map .str false .bool false),(5,.map .str false .bool false)] [] []
noncomputable def X5:Cx:=(aL [] [])
theorem J5:X5.Ok prog:=ax trivial trivial
noncomputable def Oe:D prog 10 none 6:=dO [] (kd prog f123) 0
noncomputable def FH123 (v0:ByteArray) (m2:cK) (m3:cM) (m4:aS) (m5:aS):bW (Bool×cK×cM×aS×aS×Unit) :=
 .ret ((ay .str false m5 v0),m2,m3,m4,m5,())
theorem Of:cN prog f123=some ⟨10,2,Oe.er,[.t 3],[some .bool]⟩:=by kernel_rfl
noncomputable def Og:Ht:=⟨123,ach,aci,(fun x=>aq (FH123 x.1 x.2.1 x.2.2.1 x.2.2.2.1 x.2.2.2.2.1))⟩
theorem D2:Og.Ok prog:=bO mixed J5 rfl func123 Of (enters_of func123 rfl rfl) Oe (by kernel_rfl) rfl rfl ⟨_,rfl⟩ rfl (pre:=[0,1,2,3,4,5]) rfl (fun x=>by kernel_rfl)

/- 119, lent -/
@[reducible] def Oh:az:=az.mk [(0,.c (.cC 0 .str)),(1,.fn 123 [] [.ptr 1 0])] [(0,.arr .str false),(1,.cells [.ptr 2 0] false),(2,.cells [.mp 3,.mp 4,.mp 5,.mp 6] false),(3,.map .str false tG true),(4,.map .str false (.list .str) false),(5,.map .str false .bool false),(6,.map .str false .bool false)] [.slot 0,.part 1 0,.cell 1 0,.cell 2 0,.cell 2 1,.cell 2 2,.cell 2 3] []
@[reducible] def Oi:az:=az.mk [(0,hI)] [(1,.cells [.ptr 2 0] false),(2,.cells [.mp 3,.mp 4,.mp 5,.mp 6] false),(3,.map .str false tG true),(4,.map .str false (.list .str) false),(5,.map .str false .bool false),(6,.map .str false .bool false),(0,.arr .str false)] [] []
noncomputable def Ap:Cx:=(aL [] [Og])
theorem rX:Ap.Ok prog:=ax trivial ⟨⟨D2,rfl⟩,trivial⟩
@[reducible] def FX:az:=az.mk [(0,.c (.cC 0 .str)),(1,.fn 123 [] [.ptr 1 0]),(7,hI),(8,hI)] [(0,.arr .str false),(1,.cells [.ptr 2 0] false),(2,.cells [.mp 3,.mp 4,.mp 5,.mp 6] false),(3,.map .str false tG true),(4,.map .str false (.list .str) false),(5,.map .str false .bool false),(6,.map .str false .bool false)] [] []
@[reducible] def FY:aZ:=[(.ret,az.mk [(4,hI)] [(1,.cells [.ptr 2 0] false),(2,.cells [.mp 3,.mp 4,.mp 5,.mp 6] false),(3,.map .str false tG true),(4,.map .str false (.list .str) false),(5,.map .str false .bool false),(6,.map .str false .bool false),(0,.arr .str false)] [] []),(.exit 0,az.mk [] [(1,.cells [.ptr 2 0] false),(2,.cells [.mp 3,.mp 4,.mp 5,.mp 6] false),(3,.map .str false tG true),(4,.map .str false (.list .str) false),(5,.map .str false .bool false),(6,.map .str false .bool false),(0,.arr .str false)] [] [])]
noncomputable def FZ:D prog 19 none 7:=dO [] (pick (kd prog f119) [(0,false)]) 0
noncomputable def gH119_v1_0:Nat×Int×Int×List ByteArray×cK×cM×aS×aS×Unit→bW ((Nat×Int×Int×List ByteArray×cK×cM×aS×aS×Unit) ⊕ ((Int×cK×cM×aS×aS×List ByteArray×Unit) ⊕ ((cK×cM×aS×aS×List ByteArray×Unit)))):=fun (nc,v7,v8,b0,m3,m4,m5,m6,_) =>
 .br (decide (v8<v7)) (
 .nb v8 ((nc:Nat):Int) <|
 .nd (decide (((0:Nat)+(Int.toNat v8))<(b0).length)) <|
 .bd (FH123 ((b0).getD ((0:Nat)+(Int.toNat v8)) (bs [])) m3 m4 m5 m6) fun y0 =>
 .br y0.1 (
 .ret (.inr <| .inl<|(v8,y0.2.1,y0.2.2.1,y0.2.2.2.1,y0.2.2.2.2.1,b0,()))) (
 .ni (v8+(1:Int)) <|
 .ret (.inl (nc,v7,(v8+(1:Int)),b0,y0.2.1,y0.2.2.1,y0.2.2.2.1,y0.2.2.2.2.1,())))) (
 .ret (.inr <| .inr<|(m3,m4,m5,m6,b0,())))
noncomputable def Ga:cm prog 19 none 7:=bN mixed Ap rX [0,1,2,3,4,5,6] rfl FX FY rfl (FZ) (fun x=>aq (gH119_v1_0 x)) (fun x=>by kernel_rfl)
noncomputable def Aq:D prog 19 none 7:=dO [.l Ga] (kd prog f119) 0
noncomputable def FH119_v1 (nc:Nat) (b0:List ByteArray) (m3:cK) (m4:cM) (m5:aS) (m6:aS):bW (Int×cK×cM×aS×aS×List ByteArray×Unit) :=
 .bd (.it gH119_v1_0 (nc,((nc:Nat):Int),(0:Int),b0,m3,m4,m5,m6,())) fun z1 =>
 .sm z1 (fun z2 =>
 .ret (z2.1,z2.2.1,z2.2.2.1,z2.2.2.2.1,z2.2.2.2.2.1,z2.2.2.2.2.2.1,())) fun z3 =>
 .ret ((-1:Int),z3.1,z3.2.1,z3.2.2.1,z3.2.2.2.1,z3.2.2.2.2.1,())
theorem D3:cN prog f119=some ⟨19,2,Aq.er,[.t 4],[some tI]⟩:=by kernel_rfl
noncomputable def D4:Ht:=⟨119,Oh,Oi,(fun x=>aq (FH119_v1 x.1 x.2.1 x.2.2.1 x.2.2.2.1 x.2.2.2.2.1 x.2.2.2.2.2.1))⟩
theorem D5:D4.Ok prog:=bO mixed rX rfl func119 D3 (enters_of func119 rfl rfl) Aq (by kernel_rfl) rfl rfl ⟨_,rfl⟩ rfl (pre:=[0,1,2,3,4,5,6]) rfl (fun x=>by kernel_rfl)

/- 97, lent -/
@[reducible] def Si:az:=az.mk [(0,.c (.cC 0 .str)),(1,.fn 123 [] [.ptr 1 0])] [(0,.arr .str false),(1,.cells [.ptr 2 0] false),(2,.cells [.mp 3,.mp 4,.mp 5,.mp 6] false),(3,.map .str false tG true),(4,.map .str false (.list .str) false),(5,.map .str false .bool false),(6,.map .str false .bool false)] [.slot 0,.part 1 0,.cell 1 0,.cell 2 0,.cell 2 1,.cell 2 2,.cell 2 3] []
@[reducible] def Sj:az:=az.mk [(0,.c (.PT 0 .str))] [(0,.arr .str false),(1,.cells [.ptr 2 0] false),(2,.cells [.mp 3,.mp 4,.mp 5,.mp 6] false),(3,.map .str false tG true),(4,.map .str false (.list .str) false),(5,.map .str false .bool false),(6,.map .str false .bool false)] [] []
noncomputable def D6:Cx:=(aL [] [D4,Og])
theorem uk:D6.Ok prog:=ax trivial ⟨⟨D5,rfl⟩,⟨D2,rfl⟩,trivial⟩
@[reducible] def J6:az:=az.mk [(0,.c (.cC 0 .str)),(1,.fn 123 [] [.ptr 1 0]),(5,hI),(6,hI)] [(0,.arr .str false),(1,.cells [.ptr 2 0] false),(2,.cells [.mp 3,.mp 4,.mp 5,.mp 6] false),(3,.map .str false tG true),(4,.map .str false (.list .str) false),(5,.map .str false .bool false),(6,.map .str false .bool false)] [] []
@[reducible] def J7:aZ:=[(.exit 0,az.mk [(0,.c (.cC 0 .str)),(5,hI)] [(0,.arr .str false),(1,.cells [.ptr 2 0] false),(2,.cells [.mp 3,.mp 4,.mp 5,.mp 6] false),(3,.map .str false tG true),(4,.map .str false (.list .str) false),(5,.map .str false .bool false),(6,.map .str false .bool false)] [] [])]
noncomputable def J8:D prog 42 none 7:=dO [] (pick (kd prog f97) [(0,false)]) 0
noncomputable def gH97_v1_0:Nat×Int×Int×List ByteArray×cK×cM×aS×aS×Unit→bW ((Nat×Int×Int×List ByteArray×cK×cM×aS×aS×Unit) ⊕ ((Nat×Int×List ByteArray×cK×cM×aS×aS×Unit))):=fun (nc,v5,v6,b0,m3,m4,m5,m6,_) =>
 .br (decide (v6<((nc:Nat):Int))) (
 .nb v6 ((nc:Nat):Int) <|
 .nd (decide (((0:Nat)+(Int.toNat v6))<(b0).length)) <|
 .bd (FH123 ((b0).getD ((0:Nat)+(Int.toNat v6)) (bs [])) m3 m4 m5 m6) fun y1 =>
 .br (!y1.1) (
 .nb v5 ((nc:Nat):Int) <|
 .nd (decide (((0:Nat)+(Int.toNat v5))<(b0).length)) <|
 .ni (v5+(1:Int)) <|
 .ni (v6+(1:Int)) <|
 .ret (.inl (nc,(v5+(1:Int)),(v6+(1:Int)),((b0).set ((0:Nat)+(Int.toNat v5)) ((b0).getD ((0:Nat)+(Int.toNat v6)) (bs []))),y1.2.1,y1.2.2.1,y1.2.2.2.1,y1.2.2.2.2.1,()))) (
 .ni (v6+(1:Int)) <|
 .ret (.inl (nc,v5,(v6+(1:Int)),b0,y1.2.1,y1.2.2.1,y1.2.2.2.1,y1.2.2.2.2.1,())))) (
 .ret (.inr (nc,v5,b0,m3,m4,m5,m6,())))
noncomputable def J9:cm prog 42 none 7:=bN mixed D6 uk [0,1,2,3,4,5,6] rfl J6 J7 rfl (J8) (fun x=>aq (gH97_v1_0 x)) (fun x=>by kernel_rfl)
noncomputable def D7:D prog 42 none 7:=dO [.l J9] (kd prog f97) 0
noncomputable def FH97_v1 (nc:Nat) (b0:List ByteArray) (m3:cK) (m4:cM) (m5:aS) (m6:aS):bW (Nat×Nat×List ByteArray×cK×cM×aS×aS×Unit) :=
 .bd (FH119_v1 nc b0 m3 m4 m5 m6) fun y0 =>
 .br (y0.1==(-1:Int)) (
 .ret ((0:Nat),nc,y0.2.2.2.2.2.1,y0.2.1,y0.2.2.1,y0.2.2.2.1,y0.2.2.2.2.1,())) (
 .ni (y0.1+(1:Int)) <|
 .bd (.it gH97_v1_0 (nc,y0.1,(y0.1+(1:Int)),y0.2.2.2.2.2.1,y0.2.1,y0.2.2.1,y0.2.2.2.1,y0.2.2.2.2.1,())) fun z2 =>
 .nd (decide ((0:Int)≤z2.2.1)) <|
 .nd (decide (z2.2.1≤((z2.1:Nat):Int))) <|
 .nd (decide (((z2.1:Nat):Int)≤((z2.1:Nat):Int))) <|
 .nd (decide ((0:Int)≤(0:Int))) <|
 .nd (decide ((0:Int)≤z2.2.1)) <|
 .nd (decide (z2.2.1≤((z2.1:Nat):Int))) <|
 .ret (((0:Nat)+(Int.toNat (0:Int))),((Int.toNat z2.2.1) - (Int.toNat (0:Int))),(AF (bs []) z2.2.2.1 ((0:Nat)+(Int.toNat z2.2.1)) ((Int.toNat ((z2.1:Nat):Int)) - (Int.toNat z2.2.1))),z2.2.2.2.1,z2.2.2.2.2.1,z2.2.2.2.2.2.1,z2.2.2.2.2.2.2.1,()))
theorem Gb:cN prog f97=some ⟨42,2,D7.er,[.t 4],[some (.list .str)]⟩:=by kernel_rfl
noncomputable def Ih:Ht:=⟨97,Si,Sj,(fun x=>aq (FH97_v1 x.1 x.2.1 x.2.2.1 x.2.2.2.1 x.2.2.2.2.1 x.2.2.2.2.2.1))⟩
theorem Gc:Ih.Ok prog:=bO mixed uk rfl func97 Gb (enters_of func97 rfl rfl) D7 (by kernel_rfl) rfl rfl ⟨_,rfl⟩ rfl (pre:=[0,1,2,3,4,5,6]) rfl (fun x=>by kernel_rfl)

/- 104, lent -/
@[reducible] def acj:az:=az.mk [(0,.c (.ptr 0 0)),(1,.c (.hole .str))] [(0,.cells [.mp 1,.mp 2,.mp 3,.mp 4] false),(1,.map .str false tG true),(2,.map .str false (.list .str) false),(3,.map .str false .bool false),(4,.map .str false .bool false)] [.slot 0,.cell 0 0,.cell 0 1,.cell 0 2,.cell 0 3] []
@[reducible] def ack:az:=az.mk [(0,.c (.PT 5 .str))] [(5,.arr .str false),(0,.cells [.mp 1,.mp 2,.mp 3,.mp 4] false),(1,.map .str false tG true),(2,.map .str false (.list .str) false),(3,.map .str false .bool false),(4,.map .str false .bool false)] [.slot 0] []
noncomputable def X6:Cx:=(aL [] [XI,Ih])
theorem Ka:X6.Ok prog:=ax trivial ⟨⟨Ib,rfl⟩,⟨Gc,rfl⟩,trivial⟩
noncomputable def Oj:D prog 14 none 5:=dO [] (kd prog f104) 0
noncomputable def FH104 (v1:ByteArray) (m1:cK) (m2:cM) (m3:aS) (m4:aS):bW (Nat×Nat×List ByteArray×cK×cM×aS×aS×Unit) :=
 .bd (FH98 (ay .str [] m2 v1)) fun y0 =>
 .bd (FH97_v1 y0.1 y0.2.1 m1 m2 m3 m4) fun y1 =>
 .ret (y1.1,y1.2.1,y1.2.2.1,y1.2.2.2.1,y1.2.2.2.2.1,y1.2.2.2.2.2.1,y1.2.2.2.2.2.2.1,())
theorem Ol:cN prog f104=some ⟨14,2,Oj.er,[.t 4],[some (.list .str)]⟩:=by kernel_rfl
noncomputable def Vg:Ht:=⟨104,acj,ack,(fun x=>aq (FH104 x.1 x.2.1 x.2.2.1 x.2.2.2.1 x.2.2.2.2.1))⟩
theorem Om:Vg.Ok prog:=bO mixed Ka rfl func104 Ol (enters_of func104 rfl rfl) Oj (by kernel_rfl) rfl rfl ⟨_,rfl⟩ rfl (pre:=[0,1,2,3,4]) rfl (fun x=>by kernel_rfl)

/- 76, lent -/
@[reducible] def kA:az:=az.mk [(0,.c (.ptr 0 0)),(1,.c (.hole .str))] [(0,.cells [.mp 1,.mp 2,.mp 3,.mp 4] false),(1,.map .str false tG true),(2,.map .str false (.list .str) false),(3,.map .str false .bool false),(4,.map .str false .bool false)] [.slot 0,.cell 0 0,.cell 0 1,.cell 0 2,.cell 0 3] []
@[reducible] def kB:az:=az.mk [(0,.c (.cC 5 .str))] [(5,.arr .str false),(0,.cells [.mp 1,.mp 2,.mp 3,.mp 4] false),(1,.map .str false tG true),(2,.map .str false (.list .str) false),(3,.map .str false .bool false),(4,.map .str false .bool false)] [.slot 0] []
noncomputable def On (rec:kA.T→Option kB.T):Cx:=(aL [] [Vg,⟨76,kA,kB,rec⟩,An])
theorem D8 (rec:kA.T→Option kB.T) (h:Ht.Ok prog ⟨76,kA,kB,rec⟩):(On rec).Ok prog:=ax trivial ⟨⟨Om,rfl⟩,⟨h,rfl⟩,⟨xI,rfl⟩,trivial⟩
@[reducible] def Ge:az:=az.mk [(0,.c (.ptr 0 0)),(6,.c (.cC 5 .str)),(17,.c (.PT 6 .str)),(18,hI),(19,hI)] [(0,.cells [.mp 1,.mp 2,.mp 3,.mp 4] false),(5,.arr .str false),(6,.arr .str false),(1,.map .str false tG true),(2,.map .str false (.list .str) false),(3,.map .str false .bool false),(4,.map .str false .bool false)] [.slot 6,.slot 17] []
@[reducible] def Gf:aZ:=[(.exit 0,az.mk [(6,.c (.cC 5 .str))] [(5,.arr .str false),(0,.cells [.mp 1,.mp 2,.mp 3,.mp 4] false),(1,.map .str false tG true),(2,.map .str false (.list .str) false),(3,.map .str false .bool false),(4,.map .str false .bool false)] [.slot 6] [])]
noncomputable def Oo (rec:kA.T→Option kB.T) (h:Ht.Ok prog ⟨76,kA,kB,rec⟩):D prog 32 none 5:=dO [] (pick (kd prog f76) [(0,false)]) 0
noncomputable def gH76_0:Nat×Nat×Nat×Int×Int×List ByteArray×List ByteArray×cK×cM×aS×aS×Unit→Tr kA.T kB.T ((Nat×Nat×Nat×Int×Int×List ByteArray×List ByteArray×cK×cM×aS×aS×Unit) ⊕ ((Nat×List ByteArray×cK×cM×aS×aS×Unit))):=fun (nv6,X7,nv17,v18,Sk,b5,b6,m1,m2,m3,m4,_) =>
 .br (decide (Sk<v18)) (
 .nb Sk ((nv17:Nat):Int) <|
 .nd (decide ((X7+(Int.toNat Sk))<(b6).length)) <|
 .bd (.rc (((b6).getD (X7+(Int.toNat Sk)) (bs [])),m1,m2,m3,m4,())) fun y1 =>
 .nd (decide ((nv6+((((y1.2.1).drop (0:Nat)).take y1.1)).length)<cg)) <|
 .ni (Sk+(1:Int)) <|
 .ret (.inl ((nv6+((((y1.2.1).drop (0:Nat)).take y1.1)).length),X7,nv17,v18,(Sk+(1:Int)),((((b5).drop (0:Nat)).take nv6)++(((y1.2.1).drop (0:Nat)).take y1.1)),b6,y1.2.2.1,y1.2.2.2.1,y1.2.2.2.2.1,y1.2.2.2.2.2.1,()))) (
 .ret (.inr (nv6,b5,m1,m2,m3,m4,())))
theorem X8 (rec:kA.T→Option kB.T) (h:Ht.Ok prog ⟨76,kA,kB,rec⟩):∀x,Bv (jf (Ge.T ⊕ Gf.T)) (On rec) ew [0,1,2,3,4] Ge Gf (Oo rec h) (fun y=>some (.inl y)) (fun b=>some (.inr b)) x=run rec (gH76_0 x):=fun x=>by kernel_rfl
noncomputable def X9 (rec:kA.T→Option kB.T) (h:Ht.Ok prog ⟨76,kA,kB,rec⟩):cm prog 32 none 5:=bN mixed (On rec) (D8 rec h) [0,1,2,3,4] rfl Ge Gf rfl (Oo rec h) (fun x=>run rec (gH76_0 x)) (X8 rec h)
noncomputable def Vh (rec:kA.T→Option kB.T) (h:Ht.Ok prog ⟨76,kA,kB,rec⟩):D prog 32 none 5:=dO [.l (X9 rec h)] (kd prog f76) 0
noncomputable def FH76 (v1:ByteArray) (m1:cK) (m2:cM) (m3:aS) (m4:aS):Tr kA.T kB.T (Nat×List ByteArray×cK×cM×aS×aS×Unit) :=
 .bd (.up (FH104 v1 m1 m2 m3 m4)) fun y0 =>
 .br (((y0.2.1:Nat):Int)==(0:Int)) (
 .ret ((1:Nat),(v1::[]),y0.2.2.2.1,y0.2.2.2.2.1,y0.2.2.2.2.2.1,y0.2.2.2.2.2.2.1,())) (
 .bd (.it gH76_0 ((0:Nat),y0.1,y0.2.1,((y0.2.1:Nat):Int),(0:Int),[],y0.2.2.1,y0.2.2.2.1,y0.2.2.2.2.1,y0.2.2.2.2.2.1,y0.2.2.2.2.2.2.1,())) fun z2 =>
 .bd (.up (FH105 z2.1 z2.2.1)) fun y3 =>
 .ret (z2.1,y3.1,z2.2.2.1,z2.2.2.2.1,z2.2.2.2.2.1,z2.2.2.2.2.2.1,()))
theorem Sl (rec:kA.T→Option kB.T) (h:Ht.Ok prog ⟨76,kA,kB,rec⟩):cN prog f76=some ⟨32,2,(Vh rec h).er,[.t 4],[some (.list .str)]⟩:=by kernel_rfl
theorem Kb (rec:kA.T→Option kB.T) (h:Ht.Ok prog ⟨76,kA,kB,rec⟩):Ht.Ok prog ⟨76,kA,kB,(fun x=>run rec (FH76 x.1 x.2.1 x.2.2.1 x.2.2.2.1 x.2.2.2.2.1))⟩:=bO mixed (D8 rec h) rfl func76 (Sl rec h) (enters_of func76 rfl rfl) (Vh rec h) (by kernel_rfl) rfl rfl ⟨_,rfl⟩ rfl (pre:=[0,1,2,3,4]) rfl (fun x=>by kernel_rfl)
noncomputable def FH76fix (v1:ByteArray) (m1:cK) (m2:cM) (m3:aS) (m4:aS):bW (Nat×List ByteArray×cK×cM×aS×aS×Unit):=.fx (A1:=kA.T) (B1:=kB.T) (fun x=>FH76 x.1 x.2.1 x.2.2.1 x.2.2.2.1 x.2.2.2.2.1) (v1,m1,m2,m3,m4,())
noncomputable def Gg:Ht:=⟨76,kA,kB,fun x=>aq (FH76fix x.1 x.2.1 x.2.2.1 x.2.2.2.1 x.2.2.2.2.1)⟩
theorem rY:Gg.Ok prog:=M5 (F:=fun rec x=>run rec (FH76 x.1 x.2.1 x.2.2.1 x.2.2.2.1 x.2.2.2.2.1)) (fun rec h=>Kb rec h)

/- 74, lent -/
@[reducible] def pH74:az:=az.mk [(0,.c (.ptr 0 0)),(1,.c (.hole .str))] [(0,.cells [.mp 1,.mp 2,.mp 3,.mp 4] false),(1,.map .str false tG true),(2,.map .str false (.list .str) false),(3,.map .str false .bool false),(4,.map .str false .bool false)] [.slot 0,.cell 0 0,.cell 0 1,.cell 0 2,.cell 0 3] []
@[reducible] def qH74:az:=az.mk [(0,.cI [.cC 5 .str,.hole .bool])] [(5,.arr .str false),(0,.cells [.mp 1,.mp 2,.mp 3,.mp 4] false),(1,.map .str false tG true),(2,.map .str false (.list .str) false),(3,.map .str false .bool false),(4,.map .str false .bool false)] [.part 0 0] []
noncomputable def Vi:Cx:=(aL [] [Gg])
theorem D9:Vi.Ok prog:=ax trivial ⟨⟨rY,rfl⟩,trivial⟩
@[reducible] def Yc:az:=az.mk [(0,.c (.ptr 0 0)),(1,.c (.hole .str)),(11,.c (.mp 1))] [(0,.cells [.mp 1,.mp 2,.mp 3,.mp 4] false),(1,.map .str false tG true),(2,.map .str false (.list .str) false),(3,.map .str false .bool false),(4,.map .str false .bool false)] [] []
@[reducible] def Yd:aZ:=[(.ret,az.mk [(4,.c (.cC 5 .str)),(5,.c (.hole .bool))] [(5,.arr .str false),(0,.cells [.mp 1,.mp 2,.mp 3,.mp 4] false),(1,.map .str false tG true),(2,.map .str false (.list .str) false),(3,.map .str false .bool false),(4,.map .str false .bool false)] [.slot 4] [])]
noncomputable def Ye:D prog 50 none 6:=dO [] (pick (kd prog f74) [(0,false)]) 0
noncomputable def gH74_0:((ByteArray)×(GG))→ByteArray×cK×cM×aS×aS×Unit→bW ((ByteArray×cK×cM×aS×aS×Unit) ⊕ ((Nat×Bool×List ByteArray×cK×cM×aS×aS×Unit))):=fun e (v1,m1,m2,m3,m4,_) =>
 .br (!(aK .str m1 v1)) (
 .ret (.inr ((0:Nat),false,[],m1,m2,m3,m4,()))) (
 .br ((ay .str ((bs []),(0:Int),(bs []),(bs []),(0:Int)) m1 v1).2.1==(3:Int)) (
 .ret (.inr ((0:Nat),false,[],m1,m2,m3,m4,()))) (
 .br (ay .str false m4 v1) (
 .ret (.inr ((0:Nat),false,[],m1,m2,m3,m4,()))) (
 .br ((ay .str ((bs []),(0:Int),(bs []),(bs []),(0:Int)) m1 v1).2.1==(1:Int)) (
 .bd (FH76fix v1 m1 m2 m3 m4) fun y0 =>
 .ret (.inr (y0.1,true,y0.2.1,y0.2.2.1,y0.2.2.2.1,y0.2.2.2.2.1,y0.2.2.2.2.2.1,()))) (
 .nd (jB m1 m1) <|
 .ret (.inl ((ay .str ((bs []),(0:Int),(bs []),(bs []),(0:Int)) m1 v1).2.2.1,m1,m2,m3,m4,()))))))
noncomputable def Yf:ru prog 50 none 5:=WZ mixed Vi D9 [0,1,2,3,4] rfl Yc Yd rfl ( [.op (some 8) none (.mv (.t 0)),.op (some 9) none (.ex gw.iR [.t 8]),.op (some 10) none (.mB 0 [false] (.t 9)),.op (some 11) none (.load false 1 (.t 10))]) 11 12 [13,14] (none) ( .str)  false ( .prod .str (.prod tI (.prod .str (.prod .str tI))))  true 0 rfl 6 rfl (Ye) (fun e x=>aq (gH74_0 e x)) (fun e=>fun x=>by kernel_rfl)
noncomputable def Vj:D prog 50 none 5:=dO [.m Yf] (kd prog f74) 0
noncomputable def FH74 (v1:ByteArray) (m1:cK) (m2:cM) (m3:aS) (m4:aS):bW (Nat×Bool×List ByteArray×cK×cM×aS×aS×Unit) :=
 .bd (.mp gH74_0 m1 (v1,m1,m2,m3,m4,())) fun z1 =>
 .sm z1 (fun z2 =>
 .ret ((0:Nat),false,[],z2.2.1,z2.2.2.1,z2.2.2.2.1,z2.2.2.2.2.1,())) fun z3 =>
 .ret (z3.1,z3.2.1,z3.2.2.1,z3.2.2.2.1,z3.2.2.2.2.1,z3.2.2.2.2.2.1,z3.2.2.2.2.2.2.1,())
theorem Sm:cN prog f74=some ⟨50,2,Vj.er,[.t 4,.t 5],[some (.list .str),some .bool]⟩:=by kernel_rfl
noncomputable def Yg:Ht:=⟨74,pH74,qH74,(fun x=>aq (FH74 x.1 x.2.1 x.2.2.1 x.2.2.2.1 x.2.2.2.2.1))⟩
theorem Sn:Yg.Ok prog:=bO mixed D9 rfl func74 Sm (enters_of func74 rfl rfl) Vj (by kernel_rfl) rfl rfl ⟨_,rfl⟩ rfl (pre:=[0,1,2,3,4]) rfl (fun x=>by kernel_rfl)

/- 103 -/
noncomputable def Vk:Cx:=(aL [] [])
theorem Ea:Vk.Ok prog:=ax trivial trivial
@[reducible] def Yh:az:=az.mk [(0,.c (.hole (.list .str))),(1,.c (.hole .str)),(7,hI),(8,hI)] [] [] []
@[reducible] def Yi:aZ:=[(.ret,az.mk [(4,hI)] [] [] []),(.exit 0,az.mk [] [] [] [])]
noncomputable def Yj:D prog 19 none 0:=dO [] (pick (kd prog f103) [(0,false)]) 0
noncomputable def g103_0:List ByteArray×ByteArray×Int×Int×Unit→bW ((List ByteArray×ByteArray×Int×Int×Unit) ⊕ ((Int×Unit) ⊕ ((Unit)))):=fun (v0,v1,v7,v8,_) =>
 .br (decide (v8<v7)) (
 .nb v8 (((v0).length:Nat):Int) <|
 .br (seq v1 ((v0).getD (Int.toNat v8) (bs []))) (
 .ret (.inr <| .inl<|(v8,()))) (
 .ni (v8+(1:Int)) <|
 .ret (.inl (v0,v1,v7,(v8+(1:Int)),())))) (
 .ret (.inr <| .inr<|()))
noncomputable def Yk:cm prog 19 none 0:=bN mixed Vk Ea [] rfl Yh Yi rfl (Yj) (fun x=>aq (g103_0 x)) (fun x=>by kernel_rfl)
noncomputable def Vl:D prog 19 none 0:=dO [.l Yk] (kd prog f103) 0
noncomputable def F103 (a0:List ByteArray) (a1:ByteArray):bW (Int×Unit) :=
 .bd (.it g103_0 (a0,a1,(((a0).length:Nat):Int),(0:Int),())) fun z0 =>
 .sm z0 (fun z1 =>
 .ret (z1.1,())) fun z2 =>
 .ret ((-1:Int),())
theorem Sq:cN prog f103=some ⟨19,2,Vl.er,[.t 4],[some tI]⟩:=by kernel_rfl
noncomputable def Vm:Ct:=⟨103,[.c (.hole (.list .str)),.c (.hole .str)],hI,fun x=>aq (F103 x.1 x.2.1)⟩
theorem Oq:Vm.Ok prog:=cQ mixed Ea func103 Sq (enters_of func103 rfl rfl) Vl (by kernel_rfl) rfl (fun x=>by kernel_rfl)

/- 75 -/
noncomputable def cx75:Cx:=(aL [Vm] [])
theorem Sr:cx75.Ok prog:=ax ⟨Oq,trivial⟩ trivial
noncomputable def dd75:D prog 9 none 0:=dO [] (kd prog f75) 0
noncomputable def F75 (a0:List ByteArray) (a1:ByteArray):bW (Bool×Unit) :=
 .bd (F103 a0 a1) fun y0 =>
 .ret ((decide ((0:Int)≤y0.1)),())
theorem Yl:cN prog f75=some ⟨9,2,dd75.er,[.t 4],[some .bool]⟩:=by kernel_rfl
noncomputable def Ym:Ct:=⟨75,[.c (.hole (.list .str)),.c (.hole .str)],.c (.hole .bool),fun x=>aq (F75 x.1 x.2.1)⟩
theorem Su:Ym.Ok prog:=cQ mixed Sr func75 Yl (enters_of func75 rfl rfl) dd75 (by kernel_rfl) rfl (fun x=>by kernel_rfl)

/- 32, lent -/
@[reducible] def pH32:az:=az.mk [(0,.c (.ptr 0 0)),(1,.c (.hole .str))] [(0,.cells [.mp 1] false),(1,.map tG true .bool false)] [.slot 0,.cell 0 0] []
@[reducible] def qH32:az:=az.mk [(0,.cI [.hole tI,.hole tI])] [(0,.cells [.mp 1] false),(1,.map tG true .bool false)] [] []
noncomputable def Ii:Cx:=(aL [Ym] [yV,D1,Yg])
theorem Gi:Ii.Ok prog:=ax (u9:=[Ym]) (hts:=[yV,D1,Yg]) ⟨Su,trivial⟩ ⟨⟨mZ,rfl⟩,⟨rW,rfl⟩,⟨Sn,rfl⟩,trivial⟩
@[reducible] noncomputable def Sv:Go.AM.Fn:=⟨29,2,(dO [] (kd prog f73) 0:D prog 29 none 0).er,[.t 4,.cell 5 true 5,.t 6],[none,some tG,some tI]⟩
noncomputable def Ij:Cx:=DG prog Ii 73 Sv (fun _=>dO [] (kd prog f73) 0)
theorem Gj:Ij.Ok prog:=o4 mixed Gi func73 (by kernel_rfl) (enters_of func73 rfl rfl) (fun _=>by kernel_rfl)
noncomputable def aco:Cx:=Ij
theorem Ot:aco.Ok prog:=Gj
noncomputable def Vn:D prog 51 none 2:=dO [] (kd prog f32) 0
noncomputable def FH32 (v1:ByteArray) (m1:List ((GG)×Bool)):bW (Int×Int×(List ((GG)×Bool))×Unit) :=
 .bd (FH54 m1) fun y0 =>
 .br y0.1 (
 .br (!((9:Int)==(0:Int))) (
 .ret ((0:Int),(9:Int),y0.2.1,())) (
 .br ((0:Int)==(3:Int)) (
 .ret ((0:Int),(18:Int),y0.2.1,())) (
 .no))) (
 .bd (FH66 y0.2.1) fun y1 =>
 .br (!(aK .str y1.2.1 v1)) (
 .br (!((5:Int)==(0:Int))) (
 .ret ((0:Int),(5:Int),y1.1,())) (
 .br ((0:Int)==(3:Int)) (
 .ret ((0:Int),(18:Int),y1.1,())) (
 .no))) (
 .br (!((0:Int)==(0:Int))) (
 .ret ((0:Int),(0:Int),y1.1,())) (
 .br ((ay .str ((bs []),(0:Int),(bs []),(bs []),(0:Int)) y1.2.1 v1).2.1==(3:Int)) (
 .ret ((0:Int),(18:Int),y1.1,())) (
 .br (ay .str false y1.2.2.2.2.1 v1) (
 .ret ((2:Int),(0:Int),y1.1,())) (
 .bd (FH74 v1 y1.2.1 y1.2.2.1 y1.2.2.2.1 y1.2.2.2.2.1) fun y2 =>
 .br (!y2.2.1) (
 .ret ((1:Int),(0:Int),y1.1,())) (
 .bd (F75 (((y2.2.2.1).drop (0:Nat)).take y2.1) v1) fun y3 =>
 .br (!y3.1) (
 .ret ((3:Int),(0:Int),y1.1,())) (
 .br (decide ((1:Int)<((y2.1:Nat):Int))) (
 .ret ((5:Int),(0:Int),y1.1,())) (
 .ret ((4:Int),(0:Int),y1.1,())))))))))
theorem Sw:cN prog f32=some ⟨51,2,Vn.er,[.t 4,.t 5],[some tI,some tI]⟩:=by kernel_rfl
noncomputable def ht32:Ht:=⟨32,pH32,qH32,(fun x=>aq (FH32 x.1 x.2.1))⟩
theorem Sx:ht32.Ok prog:=bO mixed Ot rfl func32 Sw (enters_of func32 rfl rfl) Vn (by kernel_rfl) rfl rfl ⟨_,rfl⟩ rfl (pre:=[0,1]) rfl (fun x=>by kernel_rfl)

/- 104, lent -/
@[reducible] def Ou:az:=az.mk [(0,.c .ez),(1,.c (.hole .str))] [] [] []
@[reducible] def Ov:az:=az.mk [(0,.c .any)] [] [] []
noncomputable def Ke:Cx:=(aL [] [])
theorem BL:Ke.Ok prog:=ax trivial trivial
noncomputable def As:D prog 14 none 0:=dO [] (kd prog f104) 0
noncomputable def FH104_v1 (v1:ByteArray):bW (Unit) :=
 .no
theorem Eb:cN prog f104=some ⟨14,2,As.er,[.t 4],[some (.list .str)]⟩:=by kernel_rfl
noncomputable def Ec:Ht:=⟨104,Ou,Ov,(fun x=>aq (FH104_v1 x.1))⟩
theorem Ed:Ec.Ok prog:=bO mixed BL rfl func104 Eb (enters_of func104 rfl rfl) As (by kernel_rfl) rfl rfl ⟨_,rfl⟩ rfl (pre:=[]) rfl (fun x=>by kernel_rfl)

/- 76, lent -/
@[reducible] def Sy:az:=az.mk [(0,.c .ez),(1,.c (.hole .str))] [] [] []
@[reducible] def Sz:az:=az.mk [(0,.c .any)] [] [] []
noncomputable def Ow:Cx:=(aL [] [Ec])
theorem Ee:Ow.Ok prog:=ax trivial ⟨⟨Ed,rfl⟩,trivial⟩
noncomputable def Ef:D prog 32 none 0:=dO [.x] (kd prog f76) 0
noncomputable def FH76_v1 (v1:ByteArray):bW (Unit) :=
 .bd (FH104_v1 v1) fun y0 =>
 .no
theorem Gk:cN prog f76=some ⟨32,2,Ef.er,[.t 4],[some (.list .str)]⟩:=by kernel_rfl
noncomputable def BM:Ht:=⟨76,Sy,Sz,(fun x=>aq (FH76_v1 x.1))⟩
theorem Gl:BM.Ok prog:=bO mixed Ee rfl func76 Gk (enters_of func76 rfl rfl) Ef (by kernel_rfl) rfl rfl ⟨_,rfl⟩ rfl (pre:=[]) rfl (fun x=>by kernel_rfl)

/- 33, lent -/
@[reducible] def pH33:az:=az.mk [(0,.c (.ptr 0 0)),(1,.c (.hole .str))] [(0,.cells [.mp 1] false),(1,.map tG true .bool false)] [.slot 0,.cell 0 0] []
@[reducible] def qH33:az:=az.mk [(0,.cI [.cC 2 .str,.hole tI])] [(2,.arr .str false),(0,.cells [.mp 1] false),(1,.map tG true .bool false)] [.part 0 0] []
noncomputable def Ik:Cx:=(aL [] [yV,BM,D1,Gg])
theorem Gm:Ik.Ok prog:=ax (u9:=[]) (hts:=[yV,BM,D1,Gg]) trivial ⟨⟨mZ,rfl⟩,⟨Gl,rfl⟩,⟨rW,rfl⟩,⟨rY,rfl⟩,trivial⟩
@[reducible] noncomputable def SA:Go.AM.Fn:=⟨29,2,(dO [] (kd prog f73) 0:D prog 29 none 0).er,[.t 4,.cell 5 true 5,.t 6],[none,some tG,some tI]⟩
noncomputable def Il:Cx:=DG prog Ik 73 SA (fun _=>dO [] (kd prog f73) 0)
theorem Gn:Il.Ok prog:=o4 mixed Gm func73 (by kernel_rfl) (enters_of func73 rfl rfl) (fun _=>by kernel_rfl)
noncomputable def acq:Cx:=Il
theorem Ox:acq.Ok prog:=Gn
noncomputable def Vo:D prog 27 none 2:=dO [] (kd prog f33) 0
noncomputable def FH33 (v1:ByteArray) (m1:List ((GG)×Bool)):bW (Nat×Int×List ByteArray×(List ((GG)×Bool))×Unit) :=
 .bd (FH54 m1) fun y0 =>
 .br y0.1 (
 .br (!((9:Int)==(0:Int))) (
 .ret ((0:Nat),(9:Int),[],y0.2.1,())) (
 .br (!((0:Int)==(1:Int))) (
 .ret ((0:Nat),(18:Int),[],y0.2.1,())) (
 .bd (FH76_v1 v1) fun y1 =>
 .no))) (
 .bd (FH66 y0.2.1) fun y2 =>
 .br (!(aK .str y2.2.1 v1)) (
 .br (!((5:Int)==(0:Int))) (
 .ret ((0:Nat),(5:Int),[],y2.1,())) (
 .br (!((0:Int)==(1:Int))) (
 .ret ((0:Nat),(18:Int),[],y2.1,())) (
 .bd (FH76_v1 v1) fun y3 =>
 .no))) (
 .br (!((0:Int)==(0:Int))) (
 .ret ((0:Nat),(0:Int),[],y2.1,())) (
 .br (!((ay .str ((bs []),(0:Int),(bs []),(bs []),(0:Int)) y2.2.1 v1).2.1==(1:Int))) (
 .ret ((0:Nat),(18:Int),[],y2.1,())) (
 .bd (FH76fix v1 y2.2.1 y2.2.2.1 y2.2.2.2.1 y2.2.2.2.2.1) fun y4 =>
 .ret (y4.1,(0:Int),y4.2.1,y2.1,())))))
theorem SB:cN prog f33=some ⟨27,2,Vo.er,[.t 4,.t 5],[some (.list .str),some tI]⟩:=by kernel_rfl
noncomputable def Yn:Ht:=⟨33,pH33,qH33,(fun x=>aq (FH33 x.1 x.2.1))⟩
theorem Im:Yn.Ok prog:=bO mixed Ox rfl func33 SB (enters_of func33 rfl rfl) Vo (by kernel_rfl) rfl rfl ⟨_,rfl⟩ rfl (pre:=[0,1]) rfl (fun x=>by kernel_rfl)

/- 40, lent -/
@[reducible] def pH40:az:=az.mk [(0,.c (.ptr 0 0)),(1,.c (.hole .str)),(2,hI)] [(0,.cells [.mp 1] false),(1,.map tG true .bool false)] [.slot 0,.cell 0 0] []
@[reducible] def qH40:az:=az.mk [(0,.c (.hole .bool))] [(0,.cells [.mp 1] false),(1,.map tG true .bool false)] [] []
noncomputable def acr:Cx:=(aL [] [ht32])
theorem Oy:acr.Ok prog:=ax trivial ⟨⟨Sx,rfl⟩,trivial⟩
noncomputable def Vp:D prog 22 none 2:=dO [] (kd prog f40) 0
noncomputable def FH40 (v1:ByteArray) (v2:Int) (m1:List ((GG)×Bool)):bW (Bool×(List ((GG)×Bool))×Unit) :=
 .bd (FH32 v1 m1) fun y0 =>
 .br (y0.2.1==(0:Int)) (
 .ret ((y0.1==v2),y0.2.2.1,())) (
 .ret (false,y0.2.2.1,()))
theorem SC:cN prog f40=some ⟨22,3,Vp.er,[.t 6],[some .bool]⟩:=by kernel_rfl
noncomputable def Yo:Ht:=⟨40,pH40,qH40,(fun x=>aq (FH40 x.1 x.2.1 x.2.2.1))⟩
theorem Io:Yo.Ok prog:=bO mixed Oy rfl func40 SC (enters_of func40 rfl rfl) Vp (by kernel_rfl) rfl rfl ⟨_,rfl⟩ rfl (pre:=[0,1]) rfl (fun x=>by kernel_rfl)

/- 100, lent -/
@[reducible] def acs:az:=az.mk [(0,.c (.mp 0)),(1,hI)] [(0,.map tI false .unit true)] [.slot 0] []
@[reducible] def acu:az:=az.mk [(0,.c .any)] [(0,.map tI false .unit true)] [] []
noncomputable def Yp:Cx:=(aL [] [])
theorem Kf:Yp.Ok prog:=ax trivial trivial
noncomputable def Oz:D prog 7 none 1:=dO [] (kd prog f100) 0
noncomputable def FH100 (v1:Int) (m0:List (Int×Unit)):bW ((List (Int×Unit))×Unit) :=
 .ret ((aV (.int .i64) m0 v1 ()),())
theorem OA:cN prog f100=some ⟨7,2,Oz.er,[],[]⟩:=by kernel_rfl
noncomputable def OB:Ht:=⟨100,acs,acu,(fun x=>aq (FH100 x.1 x.2.1))⟩
theorem Eg:OB.Ok prog:=bO mixed Kf rfl func100 OA (enters_of func100 rfl rfl) Oz (by kernel_rfl) rfl rfl ⟨_,rfl⟩ rfl (pre:=[0]) rfl (fun x=>by kernel_rfl)

/- 79, lent -/
@[reducible] def pH79:az:=az.mk [(0,.c (.ptr 0 0))] [(0,.cells [.mp 1,.mp 2,.mp 3,.mp 4] false),(1,.map .str false tG true),(2,.map .str false (.list .str) false),(3,.map .str false .bool false),(4,.map .str false .bool false)] [.slot 0,.cell 0 0,.cell 0 1,.cell 0 2,.cell 0 3] []
@[reducible] def qH79:az:=az.mk [(0,.fn 106 [] [.ptr 5 0])] [(5,.cells [.ptr 0 0] false),(0,.cells [.mp 1,.mp 2,.mp 3,.mp 4] false),(1,.map .str false tG true),(2,.map .str false (.list .str) false),(3,.map .str false .bool false),(4,.map .str false .bool false)] [.part 0 0] []
noncomputable def acv:Cx:=(aL [] [])
theorem OC:acv.Ok prog:=ax trivial trivial
noncomputable def Vq:D prog 4 none 5:=dO [] (kd prog f79) 0
noncomputable def FH79 (m1:cK) (m2:cM) (m3:aS) (m4:aS):bW (cK×cM×aS×aS×Unit) :=
 .ret (m1,m2,m3,m4,())
theorem SD:cN prog f79=some ⟨4,1,Vq.er,[.t 2],[none]⟩:=by kernel_rfl
noncomputable def SE:Ht:=⟨79,pH79,qH79,(fun x=>aq (FH79 x.1 x.2.1 x.2.2.1 x.2.2.2.1))⟩
theorem BN:SE.Ok prog:=bO mixed OC rfl func79 SD (enters_of func79 rfl rfl) Vq (by kernel_rfl) rfl rfl ⟨_,rfl⟩ rfl (pre:=[0,1,2,3,4]) rfl (fun x=>by kernel_rfl)

/- 68 -/
noncomputable def cx68:Cx:=(aL [] [])
theorem SF:cx68.Ok prog:=ax trivial trivial
noncomputable def dd68:D prog 10 none 0:=dO [] (kd prog f68) 0
noncomputable def F68 (a0:GG) (a1:ByteArray):bW (Int×Unit) :=
 .br (!(seq a0.2.2.2.1 a1)) (
 .ret ((0:Int),())) (
 .ret (a0.2.2.2.2,()))
theorem Yq:cN prog f68=some ⟨10,2,dd68.er,[.t 3],[some tI]⟩:=by kernel_rfl
noncomputable def ct68:Ct:=⟨68,[.c (.hole tG),.c (.ff .str)],hI,fun x=>aq (F68 x.1 x.2.1)⟩
theorem SG:ct68.Ok prog:=cQ mixed SF func68 Yq (enters_of func68 rfl rfl) dd68 (by kernel_rfl) rfl (fun x=>by kernel_rfl)

/- 120, lent -/
@[reducible] def acz:az:=az.mk [(0,.c (.mp 0))] [(0,.map tI false .unit true)] [.slot 0] []
@[reducible] def acA:az:=az.mk [(0,.fn 132 [] [.ptr 1 0])] [(1,.cells [.mp 0] false),(0,.map tI false .unit true)] [.part 0 0] []
noncomputable def Yr:Cx:=(aL [] [])
theorem Kg:Yr.Ok prog:=ax trivial trivial
noncomputable def OD:D prog 4 none 1:=dO [] (kd prog f120) 0
noncomputable def FH120 (m0:List (Int×Unit)):bW ((List (Int×Unit))×Unit) :=
 .ret (m0,())
theorem OE:cN prog f120=some ⟨4,1,OD.er,[.t 2],[none]⟩:=by kernel_rfl
noncomputable def Vr:Ht:=⟨120,acz,acA,(fun x=>aq (FH120 x.1))⟩
theorem OG:Vr.Ok prog:=bO mixed Kg rfl func120 OE (enters_of func120 rfl rfl) OD (by kernel_rfl) rfl rfl ⟨_,rfl⟩ rfl (pre:=[0]) rfl (fun x=>by kernel_rfl)

/- 101, lent -/
@[reducible] def acB:az:=az.mk [(0,.c (.mp 0))] [(0,.map tI false .unit true)] [.slot 0] []
@[reducible] def acC:az:=az.mk [(0,.fn 132 [] [.ptr 1 0])] [(1,.cells [.mp 0] false),(0,.map tI false .unit true)] [.part 0 0] []
noncomputable def Ys:Cx:=(aL [] [Vr])
theorem Kh:Ys.Ok prog:=ax trivial ⟨⟨OG,rfl⟩,trivial⟩
noncomputable def OH:D prog 5 none 1:=dO [] (kd prog f101) 0
noncomputable def FH101 (m0:List (Int×Unit)):bW ((List (Int×Unit))×Unit) :=
 .bd (FH120 m0) fun y0 =>
 .ret (y0.1,())
theorem OI:cN prog f101=some ⟨5,1,OH.er,[.t 2],[none]⟩:=by kernel_rfl
noncomputable def OJ:Ht:=⟨101,acB,acC,(fun x=>aq (FH101 x.1))⟩
theorem Eh:OJ.Ok prog:=bO mixed Kh rfl func101 OI (enters_of func101 rfl rfl) OH (by kernel_rfl) rfl rfl ⟨_,rfl⟩ rfl (pre:=[0]) rfl (fun x=>by kernel_rfl)

/- 122, by hand -/
@[reducible] def acD:az:=az.mk [(0,.c (.cC 0 tI))] [(0,.arr tI false)] [.slot 0] []
@[reducible] def acE:az:=az.mk [(0,.c .any)] [(0,.arr tI false)] [] []
noncomputable def FH122 (nc:Nat) (b0:List Int):bW (List Int×Unit) :=
 .of (uE (.int .i64) b0 nc)
noncomputable def OK:Ht:=⟨122,acD,acE,(fun x=>aq (FH122 x.1 x.2.1))⟩
theorem OL:OK.Ok prog:=fun x y h=>Na (ρ:=xD) Xe (enters_of func122 rfl rfl) (xs:=x.2.1) (n:=x.1) (y:=y) h

/- 102, lent -/
@[reducible] def acF:az:=az.mk [(0,.fn 132 [] [.ptr 0 0])] [(0,.cells [.mp 1] false),(1,.map tI false .unit true)] [.part 0 0,.cell 0 0] []
@[reducible] def acG:az:=az.mk [(0,.c (.cC 2 tI))] [(2,.arr tI false),(0,.cells [.mp 1] false),(1,.map tI false .unit true)] [.slot 0] []
noncomputable def rZ:Cx:=(aL [] [OK])
theorem ow:rZ.Ok prog:=ax (u9:=[]) (hts:=[OK]) trivial ⟨⟨OL,rfl⟩,trivial⟩
noncomputable def lZ:D prog 13 (some 4) 7:=dO [] (pick (kd prog f133) [(0,false)]) 0
noncomputable def l5:D prog 13 (some 4) 7:=dO [] (pick (kd prog f133) [(0,true)]) 0
noncomputable def gT:Cx:=yT rZ (fun kz=>MY kz rZ ew 4 7 [7] (lZ) (l5))
theorem jd:(gT).Ok prog:=jI ow (fun h=>mU mixed ow h)
@[reducible] def qy:az:=az.mk [(0,.c (.yl 4)),(4,.c (.mp 1))] [(4,.loop .ready none 3 [(2,.c (.ptr 2 0)),(4,.c .bY),(6,.fn 132 [] [.ptr 0 0])] [7] (.aR [.op (some 5) none (.mv (.t 7))]) (.block 1 (.aR [.op (some 8) none (.load false 1 (.t 2)),.op (some 9) none (.mv (.t 5)),.op (some 10) none (.dU tI [.t 9]),.op (some 11) none (.append 1 (.t 8) (.t 10)),.op none none (.store 1 (.t 2) (.t 11))])) 13),(1,.map tI false .unit true),(3,.ig),(2,.cells [.cC 5 tI] false),(0,.cells [.mp 1] false),(5,.arr tI false)] [.cell 2 0] []
noncomputable def qz:D prog 14 none 7:=dO [] (pick (kd prog f132) [(0,false)]) 0
noncomputable def gH102f121f133_0i_0:((Int)×(Unit))→(List (Int×Unit))×Nat×List Int×Unit→bW ((List (Int×Unit))×Nat×List Int×Unit):=fun e (m1,kq,b5,_) =>
 .nd (decide ((kq+(((((e.1::[])).drop (0:Nat)).take (1:Nat))).length)<cg)) <|
 .nd (jB m1 m1) <|
 .ret (m1,(kq+(((((e.1::[])).drop (0:Nat)).take (1:Nat))).length),((((b5).drop (0:Nat)).take kq)++((((e.1::[])).drop (0:Nat)).take (1:Nat))),())
noncomputable def qA:ru prog 14 none 5:=vf mixed gT jd [0,1,2,3,4] rfl qy ( [.op (some 4) none (.load false 1 (.t 1))]) 4 5 [6,7] (some 8) ( .int .i64)  false ( .unit)  true 0 rfl 7 rfl (qz) (fun e x=>aq (gH102f121f133_0i_0 e x)) (fun e=>fun x=>by kernel_rfl)
@[reducible] def uH:az:=az.mk [(2,.c (.ptr 2 0)),(4,.c .bY),(6,.fn 132 [] [.ptr 0 0])] [(2,.cells [.bY] false),(0,.cells [.mp 1] false),(1,.map tI false .unit true)] [.slot 2] []
@[reducible] def uI:aZ:=[(.normal,az.mk [(2,.c (.ptr 2 0))] [(2,.cells [.cC 3 tI] false),(0,.cells [.mp 1] false),(1,.map tI false .unit true),(3,.arr tI false)] [.slot 2,.cell 2 0] [])]
noncomputable def l6:D prog 14 none 5:=dO [.m qA] (kd prog f132) 0
theorem tD:cN prog f132=some ⟨14,2,(l6).er,[],[]⟩:=by kernel_rfl
noncomputable def nE:gp prog 13 none 2:=rK mixed gT jd [0,1] rfl uH uI ( .t 6) [7] rfl (lZ).er (l5).er 132 func132 (tD) (enters_of func132 rfl rfl) 5 rfl (l6) rfl
@[reducible] noncomputable def OM:Go.AM.Fn:=⟨13,2,(dO [.r nE] (kd prog f133) 0:D prog 13 none 2).er,[.t 4],[some tL]⟩
noncomputable def Ei:Cx:=Ai prog rZ 133 OM 2 (dO [.r nE] (kd prog f133) 0)
theorem Ej:Ei.Ok prog:=rJ mixed ow func133 (by kernel_rfl) (enters_of func133 rfl rfl) rfl
@[reducible] noncomputable def ON:Go.AM.Fn:=⟨5,1,(dO [] (kd prog f121) 0:D prog 5 none 0).er,[.t 2],[some tL]⟩
noncomputable def Ek:Cx:=DG prog Ei 121 ON (fun _=>dO [] (kd prog f121) 0)
theorem El:Ek.Ok prog:=o4 mixed Ej func121 (by kernel_rfl) (enters_of func121 rfl rfl) (fun _=>by kernel_rfl)
noncomputable def Yt:Cx:=Ek
theorem Ki:Yt.Ok prog:=El
noncomputable def OO:D prog 9 none 2:=dO [] (kd prog f102) 0
noncomputable def FH102 (m1:List (Int×Unit)):bW (Nat×List Int×(List (Int×Unit))×Unit) :=
 .an m1 fun l0 =>
 .bd (.fm gH102f121f133_0i_0 l0 (m1,(0:Nat),[],())) fun z1 =>
 .bd (FH122 z1.2.1 z1.2.2.1) fun y2 =>
 .ret (z1.2.1,y2.1,z1.1,())
theorem OP:cN prog f102=some ⟨9,1,OO.er,[.t 2],[some tL]⟩:=by kernel_rfl
noncomputable def OQ:Ht:=⟨102,acF,acG,(fun x=>aq (FH102 x.1))⟩
theorem Em:OQ.Ok prog:=bO mixed Ki rfl func102 OP (enters_of func102 rfl rfl) OO (by kernel_rfl) rfl rfl ⟨_,rfl⟩ rfl (pre:=[0,1]) rfl (fun x=>by kernel_rfl)

/- 67, lent -/
@[reducible] def pH67:az:=az.mk [(0,.c (.ptr 0 0)),(1,.fn 68 [] [.ptr 1 0])] [(0,.cells [.mp 2,.mp 3,.mp 4,.mp 5] false),(1,.cells [.hole .str] false),(2,.map .str false tG true),(3,.map .str false (.list .str) false),(4,.map .str false .bool false),(5,.map .str false .bool false)] [.slot 0,.part 1 0,.cell 0 0,.cell 0 1,.cell 0 2,.cell 0 3] []
@[reducible] def qH67:az:=az.mk [(0,.c (.cC 6 tI))] [(6,.arr tI false),(0,.cells [.mp 2,.mp 3,.mp 4,.mp 5] false),(2,.map .str false tG true),(3,.map .str false (.list .str) false),(4,.map .str false .bool false),(5,.map .str false .bool false),(1,.cells [.hole .str] false)] [.slot 0] []
noncomputable def Au:Cx:=(aL [ct68] [OB,SE,NS,NU,Gg,OJ,OQ])
theorem l7:Au.Ok prog:=ax ⟨SG,trivial⟩ ⟨⟨Eg,rfl⟩,⟨BN,rfl⟩,⟨vo,rfl⟩,⟨vq,rfl⟩,⟨rY,rfl⟩,⟨Eh,rfl⟩,⟨Em,rfl⟩,trivial⟩
noncomputable def xN:D prog 48 (some 26) 29:=dO [] (pick (kd prog f67) [(0,true),(0,false),(0,false)]) 0
noncomputable def xP:D prog 48 (some 26) 29:=dO [] (pick (kd prog f67) [(0,true),(0,false),(0,true)]) 0
noncomputable def ox:Cx:=yT Au (fun kz=>MY kz Au ew 26 29 [37] (xN) (xP))
theorem oy:(ox).Ok prog:=jI l7 (fun h=>mU mixed l7 h)
@[reducible] def BO:az:=az.mk [(0,.c (.yl 26)),(4,.c (.mp 24))] [(26,.loop .ready none 11 [(2,.c (.ptr 6 0)),(3,.c (.ptr 7 0)),(5,.c (.ptr 8 0)),(8,.c (.ptr 21 0)),(11,.c (.ptr 22 0)),(21,.c (.cC 20 .str)),(22,hI),(23,hI),(36,.fn 132 [] [.ptr 23 0])] [37] (.aR [.op (some 12) none (.mv (.t 37))]) (.block 5 (.aR [.op (some 38) none (.load false 1 (.t 8)),.op (some 39) none (.mv (.t 12)),.op (some 40) none (.load false 1 (.t 11)),.op (some 41) none (.bin .add (.t 39) (.t 40)),.call (some 42) none (.c (.fn 100 [] [])) [.t 38,.t 41] [none,some tI]])) 48),(24,.map tI false .unit true),(11,.ig),(6,.cells [.ptr 0 0] false),(0,.cells [.mp 2,.mp 3,.mp 4,.mp 5] false),(2,.map .str false tG true),(3,.map .str false (.list .str) false),(4,.map .str false .bool false),(5,.map .str false .bool false),(7,.cells [.fn 68 .nil (.cons (.ptr 1 0) .nil)] false),(1,.cells [.hole .str] false),(8,.cells [.mp 24] false),(21,.cells [.mp 27] false),(22,.cells [.hole tI] false),(20,.arr .str false),(23,.cells [.mp 24] false),(9,.cells [.ptr 0 0] false),(12,.loop .busy none 11 [(2,.c (.ptr 6 0)),(3,.c (.ptr 7 0)),(4,.c .bY),(5,.c (.ptr 8 0)),(17,.fn 106 [] [.ptr 9 0])] [18,19] (.aR [.op (some 7) none (.mv (.t 19))]) (.block 1 (.seq (.aR [.op (some 20) none (.ex (gw.iS tI false .unit true) []),.op (some 8) none (.alloc [.cB]),.op none none (.store 1 (.t 8) (.t 20))]) (.seq (.seq (.aR [.op (some 21) none (.mv (.t 7)),.op (some 22) none (.len (.t 21)),.op (some 23) none (.mv (.c (.int .i64 (Int.ofNat 0))))]) (.block 2 (.loop (.seq (.aR [.op (some 24) none (.bin .lss (.t 23) (.t 22))]) (.seq (.cond (.t 24) .skip (.exit 2)) (.seq (.block 3 (.seq (.aR [.op (some 25) none (.idx 1 (.t 21) (.t 23)),.op (some 26) none (.load false 1 (.t 25)),.op (some 10) none (.mv (.t 26))]) (.seq (.draw [[],[],[1],[1,2],[1,2,3],[],[1,2,3,4,5],[0,1,2,3,4,5,6],[],[0,1,2,3,4,5,6,7,8]] [.op (some 27) none (.load false 1 (.t 3)),.op (some 28) none (.load false 1 (.t 2)),.op (some 29) none (.ex gw.iR [.t 28]),.op (some 30) none (.mB 0 [false] (.t 29)),.op (some 31) none (.load false 1 (.t 30)),.op (some 32) none (.mv (.t 10)),.op (some 33) none (.ex (gw.gb .str false tG true false) [.t 31,.t 32]),.call (some 34) none (.t 27) [.t 33] [some tG],.op (some 11) none (.alloc [.int .i64 (Int.ofNat 0)]),.op none none (.store 1 (.t 11) (.t 34))]) (.seq (.aR [.op (some 35) none (.load false 1 (.t 5)),.call (some 36) none (.c (.fn 101 [] [])) [.t 35] [none]]) (.block 4 (.bC (.t 36) [37] (.aR [.op (some 12) none (.mv (.t 37))]) (.block 5 (.aR [.op (some 38) none (.load false 1 (.t 8)),.op (some 39) none (.mv (.t 12)),.op (some 40) none (.load false 1 (.t 11)),.op (some 41) none (.bin .add (.t 39) (.t 40)),.call (some 42) none (.c (.fn 100 [] [])) [.t 38,.t 41] [none,some tI]])))))))) (.aR [.op (some 43) none (.bin .add (.t 23) (.c (.int .i64 (Int.ofNat 1)))),.op (some 23) none (.mv (.t 43))]))))))) (.aR [.op (some 44) none (.load false 1 (.t 8)),.op none none (.store 1 (.t 5) (.t 44))])))) 48),(13,.arr .str false),(27,.map tI false .unit true)] [.cell 21 0] []
noncomputable def BQ:D prog 14 none 29:=dO [] (pick (kd prog f132) [(0,false)]) 0
noncomputable def gH67_0b_2i_0:((Int)×(Unit))→Nat×Int×Int×(List (Int×Unit))×cK×cM×aS×aS×ByteArray×Int×List ByteArray×List ByteArray×(List (Int×Unit))×Unit→bW (Nat×Int×Int×(List (Int×Unit))×cK×cM×aS×aS×ByteArray×Int×List ByteArray×List ByteArray×(List (Int×Unit))×Unit):=fun e (Yu,w22,w23,m24,m2,m3,m4,m5,iK,Eo,pI,jg,m27,_) =>
 .ni (e.1+Eo) <|
 .bd (FH100 (e.1+Eo) m27) fun y7 =>
 .nd (jB m24 m24) <|
 .ret (Yu,w22,w23,m24,m2,m3,m4,m5,iK,Eo,pI,jg,y7.1,())
noncomputable def BR:ru prog 14 none 27:=BG mixed ox oy [0,1,2,3,4,5,6,7,8,9,10,11,12,13,14,15,16,17,18,19,20,21,22,23,24,25,26] rfl BO ( [.op (some 4) none (.load false 1 (.t 1))]) 4 5 [6,7] (some 8) ( .int .i64)  false ( .unit)  true 0 rfl 29 rfl (BQ) (fun e x=>aq (gH67_0b_2i_0 e x)) (fun e=>fun x=>by kernel_rfl)
@[reducible] def Kj:az:=az.mk [(2,.c (.ptr 6 0)),(3,.c (.ptr 7 0)),(5,.c (.ptr 8 0)),(8,.c (.ptr 21 0)),(11,.c (.ptr 22 0)),(21,.c (.cC 20 .str)),(22,hI),(23,hI),(36,.fn 132 [] [.ptr 23 0])] [(6,.cells [.ptr 0 0] false),(7,.cells [.fn 68 .nil (.cons (.ptr 1 0) .nil)] false),(8,.cells [.mp 24] false),(21,.cells [.mp 25] false),(22,.cells [.hole tI] false),(20,.arr .str false),(23,.cells [.mp 24] false),(0,.cells [.mp 2,.mp 3,.mp 4,.mp 5] false),(2,.map .str false tG true),(3,.map .str false (.list .str) false),(4,.map .str false .bool false),(5,.map .str false .bool false),(1,.cells [.hole .str] false),(9,.cells [.ptr 0 0] false),(11,.ig),(12,.loop .busy none 11 [(2,.c (.ptr 6 0)),(3,.c (.ptr 7 0)),(4,.c .bY),(5,.c (.ptr 8 0)),(17,.fn 106 [] [.ptr 9 0])] [18,19] (.aR [.op (some 7) none (.mv (.t 19))]) (.block 1 (.seq (.aR [.op (some 20) none (.ex (gw.iS tI false .unit true) []),.op (some 8) none (.alloc [.cB]),.op none none (.store 1 (.t 8) (.t 20))]) (.seq (.seq (.aR [.op (some 21) none (.mv (.t 7)),.op (some 22) none (.len (.t 21)),.op (some 23) none (.mv (.c (.int .i64 (Int.ofNat 0))))]) (.block 2 (.loop (.seq (.aR [.op (some 24) none (.bin .lss (.t 23) (.t 22))]) (.seq (.cond (.t 24) .skip (.exit 2)) (.seq (.block 3 (.seq (.aR [.op (some 25) none (.idx 1 (.t 21) (.t 23)),.op (some 26) none (.load false 1 (.t 25)),.op (some 10) none (.mv (.t 26))]) (.seq (.draw [[],[],[1],[1,2],[1,2,3],[],[1,2,3,4,5],[0,1,2,3,4,5,6],[],[0,1,2,3,4,5,6,7,8]] [.op (some 27) none (.load false 1 (.t 3)),.op (some 28) none (.load false 1 (.t 2)),.op (some 29) none (.ex gw.iR [.t 28]),.op (some 30) none (.mB 0 [false] (.t 29)),.op (some 31) none (.load false 1 (.t 30)),.op (some 32) none (.mv (.t 10)),.op (some 33) none (.ex (gw.gb .str false tG true false) [.t 31,.t 32]),.call (some 34) none (.t 27) [.t 33] [some tG],.op (some 11) none (.alloc [.int .i64 (Int.ofNat 0)]),.op none none (.store 1 (.t 11) (.t 34))]) (.seq (.aR [.op (some 35) none (.load false 1 (.t 5)),.call (some 36) none (.c (.fn 101 [] [])) [.t 35] [none]]) (.block 4 (.bC (.t 36) [37] (.aR [.op (some 12) none (.mv (.t 37))]) (.block 5 (.aR [.op (some 38) none (.load false 1 (.t 8)),.op (some 39) none (.mv (.t 12)),.op (some 40) none (.load false 1 (.t 11)),.op (some 41) none (.bin .add (.t 39) (.t 40)),.call (some 42) none (.c (.fn 100 [] [])) [.t 38,.t 41] [none,some tI]])))))))) (.aR [.op (some 43) none (.bin .add (.t 23) (.c (.int .i64 (Int.ofNat 1)))),.op (some 23) none (.mv (.t 43))]))))))) (.aR [.op (some 44) none (.load false 1 (.t 8)),.op none none (.store 1 (.t 5) (.t 44))])))) 48),(13,.arr .str false),(24,.map tI false .unit true),(25,.map tI false .unit true)] [.slot 8,.slot 11,.part 36 0,.cell 8 0,.cell 21 0] []
@[reducible] def Kk:aZ:=[(.normal,az.mk [(2,.c (.ptr 6 0)),(3,.c (.ptr 7 0)),(5,.c (.ptr 8 0)),(8,.c (.ptr 21 0)),(21,.c (.cC 20 .str)),(22,hI),(23,hI)] [(6,.cells [.ptr 0 0] false),(7,.cells [.fn 68 .nil (.cons (.ptr 1 0) .nil)] false),(8,.cells [.mp 22] false),(21,.cells [.mp 23] false),(20,.arr .str false),(0,.cells [.mp 2,.mp 3,.mp 4,.mp 5] false),(2,.map .str false tG true),(3,.map .str false (.list .str) false),(4,.map .str false .bool false),(5,.map .str false .bool false),(1,.cells [.hole .str] false),(9,.cells [.ptr 0 0] false),(11,.ig),(12,.loop .busy none 11 [(2,.c (.ptr 6 0)),(3,.c (.ptr 7 0)),(4,.c .bY),(5,.c (.ptr 8 0)),(17,.fn 106 [] [.ptr 9 0])] [18,19] (.aR [.op (some 7) none (.mv (.t 19))]) (.block 1 (.seq (.aR [.op (some 20) none (.ex (gw.iS tI false .unit true) []),.op (some 8) none (.alloc [.cB]),.op none none (.store 1 (.t 8) (.t 20))]) (.seq (.seq (.aR [.op (some 21) none (.mv (.t 7)),.op (some 22) none (.len (.t 21)),.op (some 23) none (.mv (.c (.int .i64 (Int.ofNat 0))))]) (.block 2 (.loop (.seq (.aR [.op (some 24) none (.bin .lss (.t 23) (.t 22))]) (.seq (.cond (.t 24) .skip (.exit 2)) (.seq (.block 3 (.seq (.aR [.op (some 25) none (.idx 1 (.t 21) (.t 23)),.op (some 26) none (.load false 1 (.t 25)),.op (some 10) none (.mv (.t 26))]) (.seq (.draw [[],[],[1],[1,2],[1,2,3],[],[1,2,3,4,5],[0,1,2,3,4,5,6],[],[0,1,2,3,4,5,6,7,8]] [.op (some 27) none (.load false 1 (.t 3)),.op (some 28) none (.load false 1 (.t 2)),.op (some 29) none (.ex gw.iR [.t 28]),.op (some 30) none (.mB 0 [false] (.t 29)),.op (some 31) none (.load false 1 (.t 30)),.op (some 32) none (.mv (.t 10)),.op (some 33) none (.ex (gw.gb .str false tG true false) [.t 31,.t 32]),.call (some 34) none (.t 27) [.t 33] [some tG],.op (some 11) none (.alloc [.int .i64 (Int.ofNat 0)]),.op none none (.store 1 (.t 11) (.t 34))]) (.seq (.aR [.op (some 35) none (.load false 1 (.t 5)),.call (some 36) none (.c (.fn 101 [] [])) [.t 35] [none]]) (.block 4 (.bC (.t 36) [37] (.aR [.op (some 12) none (.mv (.t 37))]) (.block 5 (.aR [.op (some 38) none (.load false 1 (.t 8)),.op (some 39) none (.mv (.t 12)),.op (some 40) none (.load false 1 (.t 11)),.op (some 41) none (.bin .add (.t 39) (.t 40)),.call (some 42) none (.c (.fn 100 [] [])) [.t 38,.t 41] [none,some tI]])))))))) (.aR [.op (some 43) none (.bin .add (.t 23) (.c (.int .i64 (Int.ofNat 1)))),.op (some 23) none (.mv (.t 43))]))))))) (.aR [.op (some 44) none (.load false 1 (.t 8)),.op none none (.store 1 (.t 5) (.t 44))])))) 48),(13,.arr .str false),(22,.map tI false .unit true),(23,.map tI false .unit true)] [.slot 8,.cell 8 0,.cell 21 0] [])]
noncomputable def xQ:D prog 14 none 27:=dO [.m BR] (kd prog f132) 0
theorem Gp:cN prog f132=some ⟨14,2,(xQ).er,[],[]⟩:=by kernel_rfl
noncomputable def gH67_0b_2:Nat×Int×Int×Int×List ByteArray×cK×cM×aS×aS×ByteArray×List ByteArray×(List (Int×Unit))×(List (Int×Unit))×Unit→bW ((Nat×Int×Int×List ByteArray×cK×cM×aS×aS×ByteArray×List ByteArray×(List (Int×Unit))×(List (Int×Unit))×Unit)):=fun (l8,v22,v23,Eo,pI,m2,m3,m4,m5,iK,jg,m24,m25,_) =>
 .bd (.mq gH67_0b_2i_0 m24 (l8,v22,v23,m24,m2,m3,m4,m5,iK,Eo,pI,jg,m25,())) fun z8 =>
 .ret ((l8,v22,v23,z8.2.2.2.2.2.2.2.2.2.2.1,z8.2.2.2.2.1,z8.2.2.2.2.2.1,z8.2.2.2.2.2.2.1,z8.2.2.2.2.2.2.2.1,z8.2.2.2.2.2.2.2.2.1,z8.2.2.2.2.2.2.2.2.2.2.2.1,z8.2.2.2.1,z8.2.2.2.2.2.2.2.2.2.2.2.2.1,()))
noncomputable def Kl:gp prog 48 (some 12) 21:=rH mixed ox oy [0,1,2,3,4,5,6,7,8,9,10,11,12,13,14,15,16,17,18,19,20] rfl Kj Kk ( .t 36) [37] rfl (xN).er (xP).er 132 func132 (Gp) (enters_of func132 rfl rfl) 27 rfl (xQ) rfl (fun x=>aq (gH67_0b_2 x)) (fun x=>by kernel_rfl)
@[reducible] def Km:az:=az.mk [(2,.c (.ptr 6 0)),(3,.c (.ptr 7 0)),(5,.c (.ptr 8 0)),(8,.c (.ptr 21 0)),(21,.c (.cC 20 .str)),(22,hI),(23,hI)] [(6,.cells [.ptr 0 0] false),(7,.cells [.fn 68 .nil (.cons (.ptr 1 0) .nil)] false),(8,.cells [.mp 22] false),(21,.cells [.mp 23] false),(20,.arr .str false),(0,.cells [.mp 2,.mp 3,.mp 4,.mp 5] false),(2,.map .str false tG true),(3,.map .str false (.list .str) false),(4,.map .str false .bool false),(5,.map .str false .bool false),(1,.cells [.hole .str] false),(9,.cells [.ptr 0 0] false),(11,.ig),(12,.loop .busy none 11 [(2,.c (.ptr 6 0)),(3,.c (.ptr 7 0)),(4,.c .bY),(5,.c (.ptr 8 0)),(17,.fn 106 [] [.ptr 9 0])] [18,19] (.aR [.op (some 7) none (.mv (.t 19))]) (.block 1 (.seq (.aR [.op (some 20) none (.ex (gw.iS tI false .unit true) []),.op (some 8) none (.alloc [.cB]),.op none none (.store 1 (.t 8) (.t 20))]) (.seq (.seq (.aR [.op (some 21) none (.mv (.t 7)),.op (some 22) none (.len (.t 21)),.op (some 23) none (.mv (.c (.int .i64 (Int.ofNat 0))))]) (.block 2 (.loop (.seq (.aR [.op (some 24) none (.bin .lss (.t 23) (.t 22))]) (.seq (.cond (.t 24) .skip (.exit 2)) (.seq (.block 3 (.seq (.aR [.op (some 25) none (.idx 1 (.t 21) (.t 23)),.op (some 26) none (.load false 1 (.t 25)),.op (some 10) none (.mv (.t 26))]) (.seq (.draw [[],[],[1],[1,2],[1,2,3],[],[1,2,3,4,5],[0,1,2,3,4,5,6],[],[0,1,2,3,4,5,6,7,8]] [.op (some 27) none (.load false 1 (.t 3)),.op (some 28) none (.load false 1 (.t 2)),.op (some 29) none (.ex gw.iR [.t 28]),.op (some 30) none (.mB 0 [false] (.t 29)),.op (some 31) none (.load false 1 (.t 30)),.op (some 32) none (.mv (.t 10)),.op (some 33) none (.ex (gw.gb .str false tG true false) [.t 31,.t 32]),.call (some 34) none (.t 27) [.t 33] [some tG],.op (some 11) none (.alloc [.int .i64 (Int.ofNat 0)]),.op none none (.store 1 (.t 11) (.t 34))]) (.seq (.aR [.op (some 35) none (.load false 1 (.t 5)),.call (some 36) none (.c (.fn 101 [] [])) [.t 35] [none]]) (.block 4 (.bC (.t 36) [37] (.aR [.op (some 12) none (.mv (.t 37))]) (.block 5 (.aR [.op (some 38) none (.load false 1 (.t 8)),.op (some 39) none (.mv (.t 12)),.op (some 40) none (.load false 1 (.t 11)),.op (some 41) none (.bin .add (.t 39) (.t 40)),.call (some 42) none (.c (.fn 100 [] [])) [.t 38,.t 41] [none,some tI]])))))))) (.aR [.op (some 43) none (.bin .add (.t 23) (.c (.int .i64 (Int.ofNat 1)))),.op (some 23) none (.mv (.t 43))]))))))) (.aR [.op (some 44) none (.load false 1 (.t 8)),.op none none (.store 1 (.t 5) (.t 44))])))) 48),(13,.arr .str false),(22,.map tI false .unit true),(23,.map tI false .unit true)] [.slot 8,.cell 8 0,.cell 21 0] []
@[reducible] def Kn:aZ:=[(.exit 2,az.mk [(5,.c (.ptr 8 0)),(8,.c (.ptr 21 0))] [(8,.cells [.mp 22] false),(21,.cells [.mp 23] false),(0,.cells [.mp 2,.mp 3,.mp 4,.mp 5] false),(2,.map .str false tG true),(3,.map .str false (.list .str) false),(4,.map .str false .bool false),(5,.map .str false .bool false),(1,.cells [.hole .str] false),(6,.cells [.ptr 0 0] false),(7,.cells [.fn 68 .nil (.cons (.ptr 1 0) .nil)] false),(9,.cells [.ptr 0 0] false),(11,.ig),(12,.loop .busy none 11 [(2,.c (.ptr 6 0)),(3,.c (.ptr 7 0)),(4,.c .bY),(5,.c (.ptr 8 0)),(17,.fn 106 [] [.ptr 9 0])] [18,19] (.aR [.op (some 7) none (.mv (.t 19))]) (.block 1 (.seq (.aR [.op (some 20) none (.ex (gw.iS tI false .unit true) []),.op (some 8) none (.alloc [.cB]),.op none none (.store 1 (.t 8) (.t 20))]) (.seq (.seq (.aR [.op (some 21) none (.mv (.t 7)),.op (some 22) none (.len (.t 21)),.op (some 23) none (.mv (.c (.int .i64 (Int.ofNat 0))))]) (.block 2 (.loop (.seq (.aR [.op (some 24) none (.bin .lss (.t 23) (.t 22))]) (.seq (.cond (.t 24) .skip (.exit 2)) (.seq (.block 3 (.seq (.aR [.op (some 25) none (.idx 1 (.t 21) (.t 23)),.op (some 26) none (.load false 1 (.t 25)),.op (some 10) none (.mv (.t 26))]) (.seq (.draw [[],[],[1],[1,2],[1,2,3],[],[1,2,3,4,5],[0,1,2,3,4,5,6],[],[0,1,2,3,4,5,6,7,8]] [.op (some 27) none (.load false 1 (.t 3)),.op (some 28) none (.load false 1 (.t 2)),.op (some 29) none (.ex gw.iR [.t 28]),.op (some 30) none (.mB 0 [false] (.t 29)),.op (some 31) none (.load false 1 (.t 30)),.op (some 32) none (.mv (.t 10)),.op (some 33) none (.ex (gw.gb .str false tG true false) [.t 31,.t 32]),.call (some 34) none (.t 27) [.t 33] [some tG],.op (some 11) none (.alloc [.int .i64 (Int.ofNat 0)]),.op none none (.store 1 (.t 11) (.t 34))]) (.seq (.aR [.op (some 35) none (.load false 1 (.t 5)),.call (some 36) none (.c (.fn 101 [] [])) [.t 35] [none]]) (.block 4 (.bC (.t 36) [37] (.aR [.op (some 12) none (.mv (.t 37))]) (.block 5 (.aR [.op (some 38) none (.load false 1 (.t 8)),.op (some 39) none (.mv (.t 12)),.op (some 40) none (.load false 1 (.t 11)),.op (some 41) none (.bin .add (.t 39) (.t 40)),.call (some 42) none (.c (.fn 100 [] [])) [.t 38,.t 41] [none,some tI]])))))))) (.aR [.op (some 43) none (.bin .add (.t 23) (.c (.int .i64 (Int.ofNat 1)))),.op (some 23) none (.mv (.t 43))]))))))) (.aR [.op (some 44) none (.load false 1 (.t 8)),.op none none (.store 1 (.t 5) (.t 44))])))) 48),(13,.arr .str false),(20,.arr .str false),(22,.map tI false .unit true),(23,.map tI false .unit true)] [.slot 8,.cell 8 0,.cell 21 0] [])]
noncomputable def Ko:D prog 48 (some 12) 21:=dO [.r Kl] (pick (kd prog f67) [(0,true),(0,false)]) 0
noncomputable def gH67_0b_1:Nat×Int×Int×List ByteArray×cK×cM×aS×aS×ByteArray×List ByteArray×(List (Int×Unit))×(List (Int×Unit))×Unit→bW ((Nat×Int×Int×List ByteArray×cK×cM×aS×aS×ByteArray×List ByteArray×(List (Int×Unit))×(List (Int×Unit))×Unit) ⊕ ((cK×cM×aS×aS×ByteArray×List ByteArray×List ByteArray×(List (Int×Unit))×(List (Int×Unit))×Unit))):=fun (l8,v22,v23,pI,m2,m3,m4,m5,iK,jg,m22,m23,_) =>
 .br (decide (v23<v22)) (
 .nb v23 ((l8:Nat):Int) <|
 .nd (decide (((0:Nat)+(Int.toNat v23))<(pI).length)) <|
 .bd (F68 ((ay .str ((bs []),(0:Int),(bs []),(bs []),(0:Int)) m2 ((pI).getD ((0:Nat)+(Int.toNat v23)) (bs []))).1,(ay .str ((bs []),(0:Int),(bs []),(bs []),(0:Int)) m2 ((pI).getD ((0:Nat)+(Int.toNat v23)) (bs []))).2.1,(ay .str ((bs []),(0:Int),(bs []),(bs []),(0:Int)) m2 ((pI).getD ((0:Nat)+(Int.toNat v23)) (bs []))).2.2.1,(ay .str ((bs []),(0:Int),(bs []),(bs []),(0:Int)) m2 ((pI).getD ((0:Nat)+(Int.toNat v23)) (bs []))).2.2.2.1,(ay .str ((bs []),(0:Int),(bs []),(bs []),(0:Int)) m2 ((pI).getD ((0:Nat)+(Int.toNat v23)) (bs []))).2.2.2.2) iK) fun y5 =>
 .bd (FH101 m22) fun y6 =>
 .bd (gH67_0b_2 (l8,v22,v23,y5.1,pI,m2,m3,m4,m5,iK,jg,y6.1,m23,())) fun z9 =>
 .ni (z9.2.2.1+(1:Int)) <|
 .ret (.inl (z9.1,z9.2.1,(z9.2.2.1+(1:Int)),z9.2.2.2.1,z9.2.2.2.2.1,z9.2.2.2.2.2.1,z9.2.2.2.2.2.2.1,z9.2.2.2.2.2.2.2.1,z9.2.2.2.2.2.2.2.2.1,z9.2.2.2.2.2.2.2.2.2.1,z9.2.2.2.2.2.2.2.2.2.2.1,z9.2.2.2.2.2.2.2.2.2.2.2.1,()))) (
 .ret (.inr (m2,m3,m4,m5,iK,jg,pI,m22,m23,())))
noncomputable def Kq:cm prog 48 (some 12) 21:=bN mixed Au l7 [0,1,2,3,4,5,6,7,8,9,10,11,12,13,14,15,16,17,18,19,20] rfl Km Kn rfl (Ko) (fun x=>aq (gH67_0b_1 x)) (fun x=>by kernel_rfl)
noncomputable def Ip:D prog 48 (some 12) 21:=dO [] (pick (kd prog f67) [(0,false)]) 0
noncomputable def Iq:D prog 48 (some 12) 21:=dO [.l Kq] (pick (kd prog f67) [(0,true)]) 0
noncomputable def xR:Cx:=yT Au (fun kz=>MY kz Au ew 12 21 [18,19] (Ip) (Iq))
theorem um:(xR).Ok prog:=jI l7 (fun h=>mU mixed l7 h)
@[reducible] def Kr:az:=az.mk [(0,.c (.yl 12)),(1,.c (.ptr 9 0)),(10,.c (.cC 13 .str)),(11,hI),(12,hI)] [(12,.loop .ready none 11 [(2,.c (.ptr 6 0)),(3,.c (.ptr 7 0)),(4,.c .bY),(5,.c (.ptr 8 0)),(17,.fn 106 [] [.ptr 9 0])] [18,19] (.aR [.op (some 7) none (.mv (.t 19))]) (.block 1 (.seq (.aR [.op (some 20) none (.ex (gw.iS tI false .unit true) []),.op (some 8) none (.alloc [.cB]),.op none none (.store 1 (.t 8) (.t 20))]) (.seq (.seq (.aR [.op (some 21) none (.mv (.t 7)),.op (some 22) none (.len (.t 21)),.op (some 23) none (.mv (.c (.int .i64 (Int.ofNat 0))))]) (.block 2 (.loop (.seq (.aR [.op (some 24) none (.bin .lss (.t 23) (.t 22))]) (.seq (.cond (.t 24) .skip (.exit 2)) (.seq (.block 3 (.seq (.aR [.op (some 25) none (.idx 1 (.t 21) (.t 23)),.op (some 26) none (.load false 1 (.t 25)),.op (some 10) none (.mv (.t 26))]) (.seq (.draw [[],[],[1],[1,2],[1,2,3],[],[1,2,3,4,5],[0,1,2,3,4,5,6],[],[0,1,2,3,4,5,6,7,8]] [.op (some 27) none (.load false 1 (.t 3)),.op (some 28) none (.load false 1 (.t 2)),.op (some 29) none (.ex gw.iR [.t 28]),.op (some 30) none (.mB 0 [false] (.t 29)),.op (some 31) none (.load false 1 (.t 30)),.op (some 32) none (.mv (.t 10)),.op (some 33) none (.ex (gw.gb .str false tG true false) [.t 31,.t 32]),.call (some 34) none (.t 27) [.t 33] [some tG],.op (some 11) none (.alloc [.int .i64 (Int.ofNat 0)]),.op none none (.store 1 (.t 11) (.t 34))]) (.seq (.aR [.op (some 35) none (.load false 1 (.t 5)),.call (some 36) none (.c (.fn 101 [] [])) [.t 35] [none]]) (.block 4 (.bC (.t 36) [37] (.aR [.op (some 12) none (.mv (.t 37))]) (.block 5 (.aR [.op (some 38) none (.load false 1 (.t 8)),.op (some 39) none (.mv (.t 12)),.op (some 40) none (.load false 1 (.t 11)),.op (some 41) none (.bin .add (.t 39) (.t 40)),.call (some 42) none (.c (.fn 100 [] [])) [.t 38,.t 41] [none,some tI]])))))))) (.aR [.op (some 43) none (.bin .add (.t 23) (.c (.int .i64 (Int.ofNat 1)))),.op (some 23) none (.mv (.t 43))]))))))) (.aR [.op (some 44) none (.load false 1 (.t 8)),.op none none (.store 1 (.t 5) (.t 44))])))) 48),(9,.cells [.ptr 0 0] false),(13,.arr .str false),(11,.ig),(6,.cells [.ptr 0 0] false),(0,.cells [.mp 2,.mp 3,.mp 4,.mp 5] false),(2,.map .str false tG true),(3,.map .str false (.list .str) false),(4,.map .str false .bool false),(5,.map .str false .bool false),(7,.cells [.fn 68 .nil (.cons (.ptr 1 0) .nil)] false),(1,.cells [.hole .str] false),(8,.cells [.mp 14] false),(14,.map tI false .unit true)] [.slot 10,.cell 8 0] []
@[reducible] def Ks:aZ:=[(.exit 0,az.mk [] [(0,.cells [.mp 2,.mp 3,.mp 4,.mp 5] false),(2,.map .str false tG true),(3,.map .str false (.list .str) false),(4,.map .str false .bool false),(5,.map .str false .bool false),(1,.cells [.hole .str] false),(6,.cells [.ptr 0 0] false),(7,.cells [.fn 68 .nil (.cons (.ptr 1 0) .nil)] false),(8,.cells [.mp 13] false),(9,.cells [.ptr 0 0] false),(11,.ig),(12,.loop .ready none 11 [(2,.c (.ptr 6 0)),(3,.c (.ptr 7 0)),(4,.c .bY),(5,.c (.ptr 8 0)),(17,.fn 106 [] [.ptr 9 0])] [18,19] (.aR [.op (some 7) none (.mv (.t 19))]) (.block 1 (.seq (.aR [.op (some 20) none (.ex (gw.iS tI false .unit true) []),.op (some 8) none (.alloc [.cB]),.op none none (.store 1 (.t 8) (.t 20))]) (.seq (.seq (.aR [.op (some 21) none (.mv (.t 7)),.op (some 22) none (.len (.t 21)),.op (some 23) none (.mv (.c (.int .i64 (Int.ofNat 0))))]) (.block 2 (.loop (.seq (.aR [.op (some 24) none (.bin .lss (.t 23) (.t 22))]) (.seq (.cond (.t 24) .skip (.exit 2)) (.seq (.block 3 (.seq (.aR [.op (some 25) none (.idx 1 (.t 21) (.t 23)),.op (some 26) none (.load false 1 (.t 25)),.op (some 10) none (.mv (.t 26))]) (.seq (.draw [[],[],[1],[1,2],[1,2,3],[],[1,2,3,4,5],[0,1,2,3,4,5,6],[],[0,1,2,3,4,5,6,7,8]] [.op (some 27) none (.load false 1 (.t 3)),.op (some 28) none (.load false 1 (.t 2)),.op (some 29) none (.ex gw.iR [.t 28]),.op (some 30) none (.mB 0 [false] (.t 29)),.op (some 31) none (.load false 1 (.t 30)),.op (some 32) none (.mv (.t 10)),.op (some 33) none (.ex (gw.gb .str false tG true false) [.t 31,.t 32]),.call (some 34) none (.t 27) [.t 33] [some tG],.op (some 11) none (.alloc [.int .i64 (Int.ofNat 0)]),.op none none (.store 1 (.t 11) (.t 34))]) (.seq (.aR [.op (some 35) none (.load false 1 (.t 5)),.call (some 36) none (.c (.fn 101 [] [])) [.t 35] [none]]) (.block 4 (.bC (.t 36) [37] (.aR [.op (some 12) none (.mv (.t 37))]) (.block 5 (.aR [.op (some 38) none (.load false 1 (.t 8)),.op (some 39) none (.mv (.t 12)),.op (some 40) none (.load false 1 (.t 11)),.op (some 41) none (.bin .add (.t 39) (.t 40)),.call (some 42) none (.c (.fn 100 [] [])) [.t 38,.t 41] [none,some tI]])))))))) (.aR [.op (some 43) none (.bin .add (.t 23) (.c (.int .i64 (Int.ofNat 1)))),.op (some 23) none (.mv (.t 43))]))))))) (.aR [.op (some 44) none (.load false 1 (.t 8)),.op none none (.store 1 (.t 5) (.t 44))])))) 48),(13,.map tI false .unit true)] [.cell 8 0] [])]
noncomputable def Kt:D prog 34 none 13:=dO [] (pick (kd prog f106) [(0,false)]) 0
noncomputable def gH67_0i_0:Nat×Int×Int×List ByteArray×cK×cM×aS×aS×ByteArray×(List (Int×Unit))×Unit→bW ((Nat×Int×Int×List ByteArray×cK×cM×aS×aS×ByteArray×(List (Int×Unit))×Unit) ⊕ ((cK×cM×aS×aS×ByteArray×(List (Int×Unit))×Unit))):=fun (xS,v11,v12,jg,m2,m3,m4,m5,iK,m14,_) =>
 .br (decide (v12<v11)) (
 .nb v12 ((xS:Nat):Int) <|
 .nd (decide (((0:Nat)+(Int.toNat v12))<(jg).length)) <|
 .br ((ay .str ((bs []),(0:Int),(bs []),(bs []),(0:Int)) m2 ((jg).getD ((0:Nat)+(Int.toNat v12)) (bs []))).2.1==(1:Int)) (
 .bd (FH76fix ((jg).getD ((0:Nat)+(Int.toNat v12)) (bs [])) m2 m3 m4 m5) fun y4 =>
 .bd (.it gH67_0b_1 (y4.1,((y4.1:Nat):Int),(0:Int),y4.2.1,y4.2.2.1,y4.2.2.2.1,y4.2.2.2.2.1,y4.2.2.2.2.2.1,iK,jg,m14,[],())) fun Ir =>
 .ni (v12+(1:Int)) <|
 .ret (.inl (xS,v11,(v12+(1:Int)),Ir.2.2.2.2.2.1,Ir.1,Ir.2.1,Ir.2.2.1,Ir.2.2.2.1,Ir.2.2.2.2.1,Ir.2.2.2.2.2.2.2.2.1,()))) (
 .ni (v12+(1:Int)) <|
 .ret (.inl (xS,v11,(v12+(1:Int)),jg,m2,m3,m4,m5,iK,m14,())))) (
 .ret (.inr (m2,m3,m4,m5,iK,m14,())))
noncomputable def Ku:cm prog 34 none 13:=bN mixed xR um [0,1,2,3,4,5,6,7,8,9,10,11,12] rfl Kr Ks rfl (Kt) (fun x=>aq (gH67_0i_0 x)) (fun x=>by kernel_rfl)
@[reducible] def Yv:az:=az.mk [(2,.c (.ptr 6 0)),(3,.c (.ptr 7 0)),(4,.c .bY),(5,.c (.ptr 8 0)),(17,.fn 106 [] [.ptr 9 0])] [(6,.cells [.ptr 0 0] false),(7,.cells [.fn 68 .nil (.cons (.ptr 1 0) .nil)] false),(8,.cells [.mp 10] false),(9,.cells [.ptr 0 0] false),(0,.cells [.mp 2,.mp 3,.mp 4,.mp 5] false),(2,.map .str false tG true),(3,.map .str false (.list .str) false),(4,.map .str false .bool false),(5,.map .str false .bool false),(1,.cells [.hole .str] false),(10,.map tI false .unit true)] [.slot 2,.slot 3,.slot 5,.part 17 0,.cell 8 0] []
@[reducible] def Yw:aZ:=[(.normal,az.mk [(5,.c (.ptr 6 0))] [(6,.cells [.mp 7] false),(0,.cells [.mp 2,.mp 3,.mp 4,.mp 5] false),(2,.map .str false tG true),(3,.map .str false (.list .str) false),(4,.map .str false .bool false),(5,.map .str false .bool false),(1,.cells [.hole .str] false),(7,.map tI false .unit true)] [.slot 5,.cell 6 0] [])]
noncomputable def Is:D prog 34 none 13:=dO [.l Ku] (kd prog f106) 0
theorem SH:cN prog f106=some ⟨34,2,(Is).er,[],[]⟩:=by kernel_rfl
noncomputable def gH67_0:cK×cM×aS×aS×ByteArray×(List (Int×Unit))×Unit→bW ((cK×cM×aS×aS×ByteArray×(List (Int×Unit))×Unit)):=fun (m2,m3,m4,m5,iK,m10,_) =>
 .bd (FH95 m2) fun y2 =>
 .bd (FH81 y2.1) fun y3 =>
 .bd (.it gH67_0i_0 (y3.1,((y3.1:Nat):Int),(0:Int),y3.2.1,y3.2.2.1,m3,m4,m5,iK,m10,())) fun K4 =>
 .ret ((K4.1,K4.2.1,K4.2.2.1,K4.2.2.2.1,K4.2.2.2.2.1,K4.2.2.2.2.2.1,()))
noncomputable def Yx:gp prog 48 none 6:=rH mixed xR um [0,1,2,3,4,5] rfl Yv Yw ( .t 17) [18,19] rfl (Ip).er (Iq).er 106 func106 (SH) (enters_of func106 rfl rfl) 13 rfl (Is) rfl (fun x=>aq (gH67_0 x)) (fun x=>by kernel_rfl)
noncomputable def Vs:D prog 48 none 6:=dO [.r Yx] (kd prog f67) 0
noncomputable def FH67 (iK:ByteArray) (m2:cK) (m3:cM) (m4:aS) (m5:aS):bW (Nat×List Int×cK×cM×aS×aS×ByteArray×Unit) :=
 .bd (FH100 (0:Int) []) fun y0 =>
 .bd (FH79 m2 m3 m4 m5) fun y1 =>
 .bd (gH67_0 (y1.1,y1.2.1,y1.2.2.1,y1.2.2.2.1,iK,y0.1,())) fun z12 =>
 .bd (FH101 z12.2.2.2.2.2.1) fun Vt =>
 .bd (FH102 Vt.1) fun SJ =>
 .ret (SJ.1,SJ.2.1,z12.1,z12.2.1,z12.2.2.1,z12.2.2.2.1,z12.2.2.2.2.1,())
theorem SK:cN prog f67=some ⟨48,2,Vs.er,[.t 4],[some tL]⟩:=by kernel_rfl
noncomputable def ht67:Ht:=⟨67,pH67,qH67,(fun x=>aq (FH67 x.1 x.2.1 x.2.2.1 x.2.2.2.1 x.2.2.2.2.1))⟩
theorem SM:ht67.Ok prog:=bO mixed l7 rfl func67 SK (enters_of func67 rfl rfl) Vs (by kernel_rfl) rfl rfl ⟨_,rfl⟩ rfl (pre:=[0,1,2,3,4,5]) rfl (fun x=>by kernel_rfl)

/- 23, lent -/
@[reducible] def pH23:az:=az.mk [(0,.c (.ptr 0 0)),(1,.c (.hole .str))] [(0,.cells [.mp 1] false),(1,.map tG true .bool false)] [.slot 0,.cell 0 0] []
@[reducible] def qH23:az:=az.mk [(0,.cI [.cC 2 tI,.hole tI])] [(2,.arr tI false),(0,.cells [.mp 1] false),(1,.map tG true .bool false)] [.part 0 0] []
noncomputable def acI:Cx:=(aL [NF] [yV,D1,ht67])
theorem OR:acI.Ok prog:=ax ⟨vk,trivial⟩ ⟨⟨mZ,rfl⟩,⟨rW,rfl⟩,⟨SM,rfl⟩,trivial⟩
noncomputable def Vu:D prog 15 none 2:=dO [] (kd prog f23) 0
noncomputable def FH23 (v1:ByteArray) (m1:List ((GG)×Bool)):bW (Nat×Int×List Int×(List ((GG)×Bool))×Unit) :=
 .bd (FH54 m1) fun y0 =>
 .br y0.1 (
 .ret ((0:Nat),(9:Int),[],y0.2.1,())) (
 .bd (F65 v1) fun y1 =>
 .br (!y1.1) (
 .ret ((0:Nat),(8:Int),[],y0.2.1,())) (
 .bd (FH66 y0.2.1) fun y2 =>
 .bd (FH67 v1 y2.2.1 y2.2.2.1 y2.2.2.2.1 y2.2.2.2.2.1) fun y3 =>
 .ret (y3.1,(0:Int),y3.2.1,y2.1,())))
theorem SN:cN prog f23=some ⟨15,2,Vu.er,[.t 4,.t 5],[some tL,some tI]⟩:=by kernel_rfl
noncomputable def Yy:Ht:=⟨23,pH23,qH23,(fun x=>aq (FH23 x.1 x.2.1))⟩
theorem It:Yy.Ok prog:=bO mixed OR rfl func23 SN (enters_of func23 rfl rfl) Vu (by kernel_rfl) rfl rfl ⟨_,rfl⟩ rfl (pre:=[0,1]) rfl (fun x=>by kernel_rfl)

/- 78 -/
noncomputable def cx78:Cx:=(aL [] [])
theorem SO:cx78.Ok prog:=ax trivial trivial
noncomputable def dd78:D prog 5 none 0:=dO [] (kd prog f78) 0
noncomputable def F78 (a0:GG):bW (Int×Unit) :=
 .ret (a0.2.2.2.2,())
theorem Yz:cN prog f78=some ⟨5,1,dd78.er,[.t 2],[some tI]⟩:=by kernel_rfl
noncomputable def ct78:Ct:=⟨78,[.c (.hole tG)],hI,fun x=>aq (F78 x.1)⟩
theorem SQ:ct78.Ok prog:=cQ mixed SO func78 Yz (enters_of func78 rfl rfl) dd78 (by kernel_rfl) rfl (fun x=>by kernel_rfl)

/- 67, lent -/
@[reducible] def SR:az:=az.mk [(0,.c (.ptr 0 0)),(1,.c (.fn0 78))] [(0,.cells [.mp 1,.mp 2,.mp 3,.mp 4] false),(1,.map .str false tG true),(2,.map .str false (.list .str) false),(3,.map .str false .bool false),(4,.map .str false .bool false)] [.slot 0,.cell 0 0,.cell 0 1,.cell 0 2,.cell 0 3] []
@[reducible] def SS:az:=az.mk [(0,.c (.cC 5 tI))] [(5,.arr tI false),(0,.cells [.mp 1,.mp 2,.mp 3,.mp 4] false),(1,.map .str false tG true),(2,.map .str false (.list .str) false),(3,.map .str false .bool false),(4,.map .str false .bool false)] [.slot 0] []
noncomputable def l9:Cx:=(aL [ct78] [OB,SE,NS,NU,Gg,OJ,OQ])
theorem gF:l9.Ok prog:=ax ⟨SQ,trivial⟩ ⟨⟨Eg,rfl⟩,⟨BN,rfl⟩,⟨vo,rfl⟩,⟨vq,rfl⟩,⟨rY,rfl⟩,⟨Eh,rfl⟩,⟨Em,rfl⟩,trivial⟩
noncomputable def pV:D prog 48 (some 25) 28:=dO [] (pick (kd prog f67) [(0,true),(0,false),(0,false)]) 0
noncomputable def pW:D prog 48 (some 25) 28:=dO [] (pick (kd prog f67) [(0,true),(0,false),(0,true)]) 0
noncomputable def kC:Cx:=yT l9 (fun kz=>MY kz l9 ew 25 28 [37] (pV) (pW))
theorem lq:(kC).Ok prog:=jI gF (fun h=>mU mixed gF h)
@[reducible] def uJ:az:=az.mk [(0,.c (.yl 25)),(4,.c (.mp 23))] [(25,.loop .ready none 10 [(2,.c (.ptr 5 0)),(3,.c (.ptr 6 0)),(5,.c (.ptr 7 0)),(8,.c (.ptr 20 0)),(11,.c (.ptr 21 0)),(21,.c (.cC 19 .str)),(22,hI),(23,hI),(36,.fn 132 [] [.ptr 22 0])] [37] (.aR [.op (some 12) none (.mv (.t 37))]) (.block 5 (.aR [.op (some 38) none (.load false 1 (.t 8)),.op (some 39) none (.mv (.t 12)),.op (some 40) none (.load false 1 (.t 11)),.op (some 41) none (.bin .add (.t 39) (.t 40)),.call (some 42) none (.c (.fn 100 [] [])) [.t 38,.t 41] [none,some tI]])) 48),(23,.map tI false .unit true),(10,.ig),(5,.cells [.ptr 0 0] false),(0,.cells [.mp 1,.mp 2,.mp 3,.mp 4] false),(1,.map .str false tG true),(2,.map .str false (.list .str) false),(3,.map .str false .bool false),(4,.map .str false .bool false),(6,.cells [.fn0 78] false),(7,.cells [.mp 23] false),(20,.cells [.mp 26] false),(21,.cells [.hole tI] false),(19,.arr .str false),(22,.cells [.mp 23] false),(8,.cells [.ptr 0 0] false),(11,.loop .busy none 10 [(2,.c (.ptr 5 0)),(3,.c (.ptr 6 0)),(4,.c .bY),(5,.c (.ptr 7 0)),(17,.fn 106 [] [.ptr 8 0])] [18,19] (.aR [.op (some 7) none (.mv (.t 19))]) (.block 1 (.seq (.aR [.op (some 20) none (.ex (gw.iS tI false .unit true) []),.op (some 8) none (.alloc [.cB]),.op none none (.store 1 (.t 8) (.t 20))]) (.seq (.seq (.aR [.op (some 21) none (.mv (.t 7)),.op (some 22) none (.len (.t 21)),.op (some 23) none (.mv (.c (.int .i64 (Int.ofNat 0))))]) (.block 2 (.loop (.seq (.aR [.op (some 24) none (.bin .lss (.t 23) (.t 22))]) (.seq (.cond (.t 24) .skip (.exit 2)) (.seq (.block 3 (.seq (.aR [.op (some 25) none (.idx 1 (.t 21) (.t 23)),.op (some 26) none (.load false 1 (.t 25)),.op (some 10) none (.mv (.t 26))]) (.seq (.draw [[],[],[1],[1,2],[1,2,3],[],[1,2,3,4,5],[0,1,2,3,4,5,6],[],[0,1,2,3,4,5,6,7,8]] [.op (some 27) none (.load false 1 (.t 3)),.op (some 28) none (.load false 1 (.t 2)),.op (some 29) none (.ex gw.iR [.t 28]),.op (some 30) none (.mB 0 [false] (.t 29)),.op (some 31) none (.load false 1 (.t 30)),.op (some 32) none (.mv (.t 10)),.op (some 33) none (.ex (gw.gb .str false tG true false) [.t 31,.t 32]),.call (some 34) none (.t 27) [.t 33] [some tG],.op (some 11) none (.alloc [.int .i64 (Int.ofNat 0)]),.op none none (.store 1 (.t 11) (.t 34))]) (.seq (.aR [.op (some 35) none (.load false 1 (.t 5)),.call (some 36) none (.c (.fn 101 [] [])) [.t 35] [none]]) (.block 4 (.bC (.t 36) [37] (.aR [.op (some 12) none (.mv (.t 37))]) (.block 5 (.aR [.op (some 38) none (.load false 1 (.t 8)),.op (some 39) none (.mv (.t 12)),.op (some 40) none (.load false 1 (.t 11)),.op (some 41) none (.bin .add (.t 39) (.t 40)),.call (some 42) none (.c (.fn 100 [] [])) [.t 38,.t 41] [none,some tI]])))))))) (.aR [.op (some 43) none (.bin .add (.t 23) (.c (.int .i64 (Int.ofNat 1)))),.op (some 23) none (.mv (.t 43))]))))))) (.aR [.op (some 44) none (.load false 1 (.t 8)),.op none none (.store 1 (.t 5) (.t 44))])))) 48),(12,.arr .str false),(26,.map tI false .unit true)] [.cell 20 0] []
noncomputable def uK:D prog 14 none 28:=dO [] (pick (kd prog f132) [(0,false)]) 0
noncomputable def gH67_v1_0b_2i_0:((Int)×(Unit))→Nat×Int×Int×(List (Int×Unit))×cK×cM×aS×aS×Int×List ByteArray×List ByteArray×(List (Int×Unit))×Unit→bW (Nat×Int×Int×(List (Int×Unit))×cK×cM×aS×aS×Int×List ByteArray×List ByteArray×(List (Int×Unit))×Unit):=fun e (Yu,w22,w23,m23,m1,m2,m3,m4,Ep,K5,K6,m26,_) =>
 .ni (e.1+Ep) <|
 .bd (FH100 (e.1+Ep) m26) fun y7 =>
 .nd (jB m23 m23) <|
 .ret (Yu,w22,w23,m23,m1,m2,m3,m4,Ep,K5,K6,y7.1,())
noncomputable def uL:ru prog 14 none 26:=BG mixed kC lq [0,1,2,3,4,5,6,7,8,9,10,11,12,13,14,15,16,17,18,19,20,21,22,23,24,25] rfl uJ ( [.op (some 4) none (.load false 1 (.t 1))]) 4 5 [6,7] (some 8) ( .int .i64)  false ( .unit)  true 0 rfl 28 rfl (uK) (fun e x=>aq (gH67_v1_0b_2i_0 e x)) (fun e=>fun x=>by kernel_rfl)
@[reducible] def BT:az:=az.mk [(2,.c (.ptr 5 0)),(3,.c (.ptr 6 0)),(5,.c (.ptr 7 0)),(8,.c (.ptr 20 0)),(11,.c (.ptr 21 0)),(21,.c (.cC 19 .str)),(22,hI),(23,hI),(36,.fn 132 [] [.ptr 22 0])] [(5,.cells [.ptr 0 0] false),(6,.cells [.fn0 78] false),(7,.cells [.mp 23] false),(20,.cells [.mp 24] false),(21,.cells [.hole tI] false),(19,.arr .str false),(22,.cells [.mp 23] false),(0,.cells [.mp 1,.mp 2,.mp 3,.mp 4] false),(1,.map .str false tG true),(2,.map .str false (.list .str) false),(3,.map .str false .bool false),(4,.map .str false .bool false),(8,.cells [.ptr 0 0] false),(10,.ig),(11,.loop .busy none 10 [(2,.c (.ptr 5 0)),(3,.c (.ptr 6 0)),(4,.c .bY),(5,.c (.ptr 7 0)),(17,.fn 106 [] [.ptr 8 0])] [18,19] (.aR [.op (some 7) none (.mv (.t 19))]) (.block 1 (.seq (.aR [.op (some 20) none (.ex (gw.iS tI false .unit true) []),.op (some 8) none (.alloc [.cB]),.op none none (.store 1 (.t 8) (.t 20))]) (.seq (.seq (.aR [.op (some 21) none (.mv (.t 7)),.op (some 22) none (.len (.t 21)),.op (some 23) none (.mv (.c (.int .i64 (Int.ofNat 0))))]) (.block 2 (.loop (.seq (.aR [.op (some 24) none (.bin .lss (.t 23) (.t 22))]) (.seq (.cond (.t 24) .skip (.exit 2)) (.seq (.block 3 (.seq (.aR [.op (some 25) none (.idx 1 (.t 21) (.t 23)),.op (some 26) none (.load false 1 (.t 25)),.op (some 10) none (.mv (.t 26))]) (.seq (.draw [[],[],[1],[1,2],[1,2,3],[],[1,2,3,4,5],[0,1,2,3,4,5,6],[],[0,1,2,3,4,5,6,7,8]] [.op (some 27) none (.load false 1 (.t 3)),.op (some 28) none (.load false 1 (.t 2)),.op (some 29) none (.ex gw.iR [.t 28]),.op (some 30) none (.mB 0 [false] (.t 29)),.op (some 31) none (.load false 1 (.t 30)),.op (some 32) none (.mv (.t 10)),.op (some 33) none (.ex (gw.gb .str false tG true false) [.t 31,.t 32]),.call (some 34) none (.t 27) [.t 33] [some tG],.op (some 11) none (.alloc [.int .i64 (Int.ofNat 0)]),.op none none (.store 1 (.t 11) (.t 34))]) (.seq (.aR [.op (some 35) none (.load false 1 (.t 5)),.call (some 36) none (.c (.fn 101 [] [])) [.t 35] [none]]) (.block 4 (.bC (.t 36) [37] (.aR [.op (some 12) none (.mv (.t 37))]) (.block 5 (.aR [.op (some 38) none (.load false 1 (.t 8)),.op (some 39) none (.mv (.t 12)),.op (some 40) none (.load false 1 (.t 11)),.op (some 41) none (.bin .add (.t 39) (.t 40)),.call (some 42) none (.c (.fn 100 [] [])) [.t 38,.t 41] [none,some tI]])))))))) (.aR [.op (some 43) none (.bin .add (.t 23) (.c (.int .i64 (Int.ofNat 1)))),.op (some 23) none (.mv (.t 43))]))))))) (.aR [.op (some 44) none (.load false 1 (.t 8)),.op none none (.store 1 (.t 5) (.t 44))])))) 48),(12,.arr .str false),(23,.map tI false .unit true),(24,.map tI false .unit true)] [.slot 8,.slot 11,.part 36 0,.cell 7 0,.cell 20 0] []
@[reducible] def BU:aZ:=[(.normal,az.mk [(2,.c (.ptr 5 0)),(3,.c (.ptr 6 0)),(5,.c (.ptr 7 0)),(8,.c (.ptr 20 0)),(21,.c (.cC 19 .str)),(22,hI),(23,hI)] [(5,.cells [.ptr 0 0] false),(6,.cells [.fn0 78] false),(7,.cells [.mp 21] false),(20,.cells [.mp 22] false),(19,.arr .str false),(0,.cells [.mp 1,.mp 2,.mp 3,.mp 4] false),(1,.map .str false tG true),(2,.map .str false (.list .str) false),(3,.map .str false .bool false),(4,.map .str false .bool false),(8,.cells [.ptr 0 0] false),(10,.ig),(11,.loop .busy none 10 [(2,.c (.ptr 5 0)),(3,.c (.ptr 6 0)),(4,.c .bY),(5,.c (.ptr 7 0)),(17,.fn 106 [] [.ptr 8 0])] [18,19] (.aR [.op (some 7) none (.mv (.t 19))]) (.block 1 (.seq (.aR [.op (some 20) none (.ex (gw.iS tI false .unit true) []),.op (some 8) none (.alloc [.cB]),.op none none (.store 1 (.t 8) (.t 20))]) (.seq (.seq (.aR [.op (some 21) none (.mv (.t 7)),.op (some 22) none (.len (.t 21)),.op (some 23) none (.mv (.c (.int .i64 (Int.ofNat 0))))]) (.block 2 (.loop (.seq (.aR [.op (some 24) none (.bin .lss (.t 23) (.t 22))]) (.seq (.cond (.t 24) .skip (.exit 2)) (.seq (.block 3 (.seq (.aR [.op (some 25) none (.idx 1 (.t 21) (.t 23)),.op (some 26) none (.load false 1 (.t 25)),.op (some 10) none (.mv (.t 26))]) (.seq (.draw [[],[],[1],[1,2],[1,2,3],[],[1,2,3,4,5],[0,1,2,3,4,5,6],[],[0,1,2,3,4,5,6,7,8]] [.op (some 27) none (.load false 1 (.t 3)),.op (some 28) none (.load false 1 (.t 2)),.op (some 29) none (.ex gw.iR [.t 28]),.op (some 30) none (.mB 0 [false] (.t 29)),.op (some 31) none (.load false 1 (.t 30)),.op (some 32) none (.mv (.t 10)),.op (some 33) none (.ex (gw.gb .str false tG true false) [.t 31,.t 32]),.call (some 34) none (.t 27) [.t 33] [some tG],.op (some 11) none (.alloc [.int .i64 (Int.ofNat 0)]),.op none none (.store 1 (.t 11) (.t 34))]) (.seq (.aR [.op (some 35) none (.load false 1 (.t 5)),.call (some 36) none (.c (.fn 101 [] [])) [.t 35] [none]]) (.block 4 (.bC (.t 36) [37] (.aR [.op (some 12) none (.mv (.t 37))]) (.block 5 (.aR [.op (some 38) none (.load false 1 (.t 8)),.op (some 39) none (.mv (.t 12)),.op (some 40) none (.load false 1 (.t 11)),.op (some 41) none (.bin .add (.t 39) (.t 40)),.call (some 42) none (.c (.fn 100 [] [])) [.t 38,.t 41] [none,some tI]])))))))) (.aR [.op (some 43) none (.bin .add (.t 23) (.c (.int .i64 (Int.ofNat 1)))),.op (some 23) none (.mv (.t 43))]))))))) (.aR [.op (some 44) none (.load false 1 (.t 8)),.op none none (.store 1 (.t 5) (.t 44))])))) 48),(12,.arr .str false),(21,.map tI false .unit true),(22,.map tI false .unit true)] [.slot 8,.cell 7 0,.cell 20 0] [])]
noncomputable def pX:D prog 14 none 26:=dO [.m uL] (kd prog f132) 0
theorem yW:cN prog f132=some ⟨14,2,(pX).er,[],[]⟩:=by kernel_rfl
noncomputable def gH67_v1_0b_2:Nat×Int×Int×Int×List ByteArray×cK×cM×aS×aS×List ByteArray×(List (Int×Unit))×(List (Int×Unit))×Unit→bW ((Nat×Int×Int×List ByteArray×cK×cM×aS×aS×List ByteArray×(List (Int×Unit))×(List (Int×Unit))×Unit)):=fun (l8,v22,v23,Ep,K5,m1,m2,m3,m4,K6,m23,m24,_) =>
 .bd (.mq gH67_v1_0b_2i_0 m23 (l8,v22,v23,m23,m1,m2,m3,m4,Ep,K5,K6,m24,())) fun z8 =>
 .ret ((l8,v22,v23,z8.2.2.2.2.2.2.2.2.2.1,z8.2.2.2.2.1,z8.2.2.2.2.2.1,z8.2.2.2.2.2.2.1,z8.2.2.2.2.2.2.2.1,z8.2.2.2.2.2.2.2.2.2.2.1,z8.2.2.2.1,z8.2.2.2.2.2.2.2.2.2.2.2.1,()))
noncomputable def BV:gp prog 48 (some 11) 20:=rH mixed kC lq [0,1,2,3,4,5,6,7,8,9,10,11,12,13,14,15,16,17,18,19] rfl BT BU ( .t 36) [37] rfl (pV).er (pW).er 132 func132 (yW) (enters_of func132 rfl rfl) 26 rfl (pX) rfl (fun x=>aq (gH67_v1_0b_2 x)) (fun x=>by kernel_rfl)
@[reducible] def BW:az:=az.mk [(2,.c (.ptr 5 0)),(3,.c (.ptr 6 0)),(5,.c (.ptr 7 0)),(8,.c (.ptr 20 0)),(21,.c (.cC 19 .str)),(22,hI),(23,hI)] [(5,.cells [.ptr 0 0] false),(6,.cells [.fn0 78] false),(7,.cells [.mp 21] false),(20,.cells [.mp 22] false),(19,.arr .str false),(0,.cells [.mp 1,.mp 2,.mp 3,.mp 4] false),(1,.map .str false tG true),(2,.map .str false (.list .str) false),(3,.map .str false .bool false),(4,.map .str false .bool false),(8,.cells [.ptr 0 0] false),(10,.ig),(11,.loop .busy none 10 [(2,.c (.ptr 5 0)),(3,.c (.ptr 6 0)),(4,.c .bY),(5,.c (.ptr 7 0)),(17,.fn 106 [] [.ptr 8 0])] [18,19] (.aR [.op (some 7) none (.mv (.t 19))]) (.block 1 (.seq (.aR [.op (some 20) none (.ex (gw.iS tI false .unit true) []),.op (some 8) none (.alloc [.cB]),.op none none (.store 1 (.t 8) (.t 20))]) (.seq (.seq (.aR [.op (some 21) none (.mv (.t 7)),.op (some 22) none (.len (.t 21)),.op (some 23) none (.mv (.c (.int .i64 (Int.ofNat 0))))]) (.block 2 (.loop (.seq (.aR [.op (some 24) none (.bin .lss (.t 23) (.t 22))]) (.seq (.cond (.t 24) .skip (.exit 2)) (.seq (.block 3 (.seq (.aR [.op (some 25) none (.idx 1 (.t 21) (.t 23)),.op (some 26) none (.load false 1 (.t 25)),.op (some 10) none (.mv (.t 26))]) (.seq (.draw [[],[],[1],[1,2],[1,2,3],[],[1,2,3,4,5],[0,1,2,3,4,5,6],[],[0,1,2,3,4,5,6,7,8]] [.op (some 27) none (.load false 1 (.t 3)),.op (some 28) none (.load false 1 (.t 2)),.op (some 29) none (.ex gw.iR [.t 28]),.op (some 30) none (.mB 0 [false] (.t 29)),.op (some 31) none (.load false 1 (.t 30)),.op (some 32) none (.mv (.t 10)),.op (some 33) none (.ex (gw.gb .str false tG true false) [.t 31,.t 32]),.call (some 34) none (.t 27) [.t 33] [some tG],.op (some 11) none (.alloc [.int .i64 (Int.ofNat 0)]),.op none none (.store 1 (.t 11) (.t 34))]) (.seq (.aR [.op (some 35) none (.load false 1 (.t 5)),.call (some 36) none (.c (.fn 101 [] [])) [.t 35] [none]]) (.block 4 (.bC (.t 36) [37] (.aR [.op (some 12) none (.mv (.t 37))]) (.block 5 (.aR [.op (some 38) none (.load false 1 (.t 8)),.op (some 39) none (.mv (.t 12)),.op (some 40) none (.load false 1 (.t 11)),.op (some 41) none (.bin .add (.t 39) (.t 40)),.call (some 42) none (.c (.fn 100 [] [])) [.t 38,.t 41] [none,some tI]])))))))) (.aR [.op (some 43) none (.bin .add (.t 23) (.c (.int .i64 (Int.ofNat 1)))),.op (some 23) none (.mv (.t 43))]))))))) (.aR [.op (some 44) none (.load false 1 (.t 8)),.op none none (.store 1 (.t 5) (.t 44))])))) 48),(12,.arr .str false),(21,.map tI false .unit true),(22,.map tI false .unit true)] [.slot 8,.cell 7 0,.cell 20 0] []
@[reducible] def BX:aZ:=[(.exit 2,az.mk [(5,.c (.ptr 7 0)),(8,.c (.ptr 20 0))] [(7,.cells [.mp 21] false),(20,.cells [.mp 22] false),(0,.cells [.mp 1,.mp 2,.mp 3,.mp 4] false),(1,.map .str false tG true),(2,.map .str false (.list .str) false),(3,.map .str false .bool false),(4,.map .str false .bool false),(5,.cells [.ptr 0 0] false),(6,.cells [.fn0 78] false),(8,.cells [.ptr 0 0] false),(10,.ig),(11,.loop .busy none 10 [(2,.c (.ptr 5 0)),(3,.c (.ptr 6 0)),(4,.c .bY),(5,.c (.ptr 7 0)),(17,.fn 106 [] [.ptr 8 0])] [18,19] (.aR [.op (some 7) none (.mv (.t 19))]) (.block 1 (.seq (.aR [.op (some 20) none (.ex (gw.iS tI false .unit true) []),.op (some 8) none (.alloc [.cB]),.op none none (.store 1 (.t 8) (.t 20))]) (.seq (.seq (.aR [.op (some 21) none (.mv (.t 7)),.op (some 22) none (.len (.t 21)),.op (some 23) none (.mv (.c (.int .i64 (Int.ofNat 0))))]) (.block 2 (.loop (.seq (.aR [.op (some 24) none (.bin .lss (.t 23) (.t 22))]) (.seq (.cond (.t 24) .skip (.exit 2)) (.seq (.block 3 (.seq (.aR [.op (some 25) none (.idx 1 (.t 21) (.t 23)),.op (some 26) none (.load false 1 (.t 25)),.op (some 10) none (.mv (.t 26))]) (.seq (.draw [[],[],[1],[1,2],[1,2,3],[],[1,2,3,4,5],[0,1,2,3,4,5,6],[],[0,1,2,3,4,5,6,7,8]] [.op (some 27) none (.load false 1 (.t 3)),.op (some 28) none (.load false 1 (.t 2)),.op (some 29) none (.ex gw.iR [.t 28]),.op (some 30) none (.mB 0 [false] (.t 29)),.op (some 31) none (.load false 1 (.t 30)),.op (some 32) none (.mv (.t 10)),.op (some 33) none (.ex (gw.gb .str false tG true false) [.t 31,.t 32]),.call (some 34) none (.t 27) [.t 33] [some tG],.op (some 11) none (.alloc [.int .i64 (Int.ofNat 0)]),.op none none (.store 1 (.t 11) (.t 34))]) (.seq (.aR [.op (some 35) none (.load false 1 (.t 5)),.call (some 36) none (.c (.fn 101 [] [])) [.t 35] [none]]) (.block 4 (.bC (.t 36) [37] (.aR [.op (some 12) none (.mv (.t 37))]) (.block 5 (.aR [.op (some 38) none (.load false 1 (.t 8)),.op (some 39) none (.mv (.t 12)),.op (some 40) none (.load false 1 (.t 11)),.op (some 41) none (.bin .add (.t 39) (.t 40)),.call (some 42) none (.c (.fn 100 [] [])) [.t 38,.t 41] [none,some tI]])))))))) (.aR [.op (some 43) none (.bin .add (.t 23) (.c (.int .i64 (Int.ofNat 1)))),.op (some 23) none (.mv (.t 43))]))))))) (.aR [.op (some 44) none (.load false 1 (.t 8)),.op none none (.store 1 (.t 5) (.t 44))])))) 48),(12,.arr .str false),(19,.arr .str false),(21,.map tI false .unit true),(22,.map tI false .unit true)] [.slot 8,.cell 7 0,.cell 20 0] [])]
noncomputable def B3:D prog 48 (some 11) 20:=dO [.r BV] (pick (kd prog f67) [(0,true),(0,false)]) 0
noncomputable def gH67_v1_0b_1:Nat×Int×Int×List ByteArray×cK×cM×aS×aS×List ByteArray×(List (Int×Unit))×(List (Int×Unit))×Unit→bW ((Nat×Int×Int×List ByteArray×cK×cM×aS×aS×List ByteArray×(List (Int×Unit))×(List (Int×Unit))×Unit) ⊕ ((cK×cM×aS×aS×List ByteArray×List ByteArray×(List (Int×Unit))×(List (Int×Unit))×Unit))):=fun (l8,v22,v23,K5,m1,m2,m3,m4,K6,m21,m22,_) =>
 .br (decide (v23<v22)) (
 .nb v23 ((l8:Nat):Int) <|
 .nd (decide (((0:Nat)+(Int.toNat v23))<(K5).length)) <|
 .bd (F78 ((ay .str ((bs []),(0:Int),(bs []),(bs []),(0:Int)) m1 ((K5).getD ((0:Nat)+(Int.toNat v23)) (bs []))).1,(ay .str ((bs []),(0:Int),(bs []),(bs []),(0:Int)) m1 ((K5).getD ((0:Nat)+(Int.toNat v23)) (bs []))).2.1,(ay .str ((bs []),(0:Int),(bs []),(bs []),(0:Int)) m1 ((K5).getD ((0:Nat)+(Int.toNat v23)) (bs []))).2.2.1,(ay .str ((bs []),(0:Int),(bs []),(bs []),(0:Int)) m1 ((K5).getD ((0:Nat)+(Int.toNat v23)) (bs []))).2.2.2.1,(ay .str ((bs []),(0:Int),(bs []),(bs []),(0:Int)) m1 ((K5).getD ((0:Nat)+(Int.toNat v23)) (bs []))).2.2.2.2)) fun y5 =>
 .bd (FH101 m21) fun y6 =>
 .bd (gH67_v1_0b_2 (l8,v22,v23,y5.1,K5,m1,m2,m3,m4,K6,y6.1,m22,())) fun z9 =>
 .ni (z9.2.2.1+(1:Int)) <|
 .ret (.inl (z9.1,z9.2.1,(z9.2.2.1+(1:Int)),z9.2.2.2.1,z9.2.2.2.2.1,z9.2.2.2.2.2.1,z9.2.2.2.2.2.2.1,z9.2.2.2.2.2.2.2.1,z9.2.2.2.2.2.2.2.2.1,z9.2.2.2.2.2.2.2.2.2.1,z9.2.2.2.2.2.2.2.2.2.2.1,()))) (
 .ret (.inr (m1,m2,m3,m4,K6,K5,m21,m22,())))
noncomputable def B4:cm prog 48 (some 11) 20:=bN mixed l9 gF [0,1,2,3,4,5,6,7,8,9,10,11,12,13,14,15,16,17,18,19] rfl BW BX rfl (B3) (fun x=>aq (gH67_v1_0b_1 x)) (fun x=>by kernel_rfl)
noncomputable def xU:D prog 48 (some 11) 20:=dO [] (pick (kd prog f67) [(0,false)]) 0
noncomputable def xV:D prog 48 (some 11) 20:=dO [.l B4] (pick (kd prog f67) [(0,true)]) 0
noncomputable def oz:Cx:=yT l9 (fun kz=>MY kz l9 ew 11 20 [18,19] (xU) (xV))
theorem oB:(oz).Ok prog:=jI gF (fun h=>mU mixed gF h)
@[reducible] def B5:az:=az.mk [(0,.c (.yl 11)),(1,.c (.ptr 8 0)),(10,.c (.cC 12 .str)),(11,hI),(12,hI)] [(11,.loop .ready none 10 [(2,.c (.ptr 5 0)),(3,.c (.ptr 6 0)),(4,.c .bY),(5,.c (.ptr 7 0)),(17,.fn 106 [] [.ptr 8 0])] [18,19] (.aR [.op (some 7) none (.mv (.t 19))]) (.block 1 (.seq (.aR [.op (some 20) none (.ex (gw.iS tI false .unit true) []),.op (some 8) none (.alloc [.cB]),.op none none (.store 1 (.t 8) (.t 20))]) (.seq (.seq (.aR [.op (some 21) none (.mv (.t 7)),.op (some 22) none (.len (.t 21)),.op (some 23) none (.mv (.c (.int .i64 (Int.ofNat 0))))]) (.block 2 (.loop (.seq (.aR [.op (some 24) none (.bin .lss (.t 23) (.t 22))]) (.seq (.cond (.t 24) .skip (.exit 2)) (.seq (.block 3 (.seq (.aR [.op (some 25) none (.idx 1 (.t 21) (.t 23)),.op (some 26) none (.load false 1 (.t 25)),.op (some 10) none (.mv (.t 26))]) (.seq (.draw [[],[],[1],[1,2],[1,2,3],[],[1,2,3,4,5],[0,1,2,3,4,5,6],[],[0,1,2,3,4,5,6,7,8]] [.op (some 27) none (.load false 1 (.t 3)),.op (some 28) none (.load false 1 (.t 2)),.op (some 29) none (.ex gw.iR [.t 28]),.op (some 30) none (.mB 0 [false] (.t 29)),.op (some 31) none (.load false 1 (.t 30)),.op (some 32) none (.mv (.t 10)),.op (some 33) none (.ex (gw.gb .str false tG true false) [.t 31,.t 32]),.call (some 34) none (.t 27) [.t 33] [some tG],.op (some 11) none (.alloc [.int .i64 (Int.ofNat 0)]),.op none none (.store 1 (.t 11) (.t 34))]) (.seq (.aR [.op (some 35) none (.load false 1 (.t 5)),.call (some 36) none (.c (.fn 101 [] [])) [.t 35] [none]]) (.block 4 (.bC (.t 36) [37] (.aR [.op (some 12) none (.mv (.t 37))]) (.block 5 (.aR [.op (some 38) none (.load false 1 (.t 8)),.op (some 39) none (.mv (.t 12)),.op (some 40) none (.load false 1 (.t 11)),.op (some 41) none (.bin .add (.t 39) (.t 40)),.call (some 42) none (.c (.fn 100 [] [])) [.t 38,.t 41] [none,some tI]])))))))) (.aR [.op (some 43) none (.bin .add (.t 23) (.c (.int .i64 (Int.ofNat 1)))),.op (some 23) none (.mv (.t 43))]))))))) (.aR [.op (some 44) none (.load false 1 (.t 8)),.op none none (.store 1 (.t 5) (.t 44))])))) 48),(8,.cells [.ptr 0 0] false),(12,.arr .str false),(10,.ig),(5,.cells [.ptr 0 0] false),(0,.cells [.mp 1,.mp 2,.mp 3,.mp 4] false),(1,.map .str false tG true),(2,.map .str false (.list .str) false),(3,.map .str false .bool false),(4,.map .str false .bool false),(6,.cells [.fn0 78] false),(7,.cells [.mp 13] false),(13,.map tI false .unit true)] [.slot 10,.cell 7 0] []
@[reducible] def B6:aZ:=[(.exit 0,az.mk [] [(0,.cells [.mp 1,.mp 2,.mp 3,.mp 4] false),(1,.map .str false tG true),(2,.map .str false (.list .str) false),(3,.map .str false .bool false),(4,.map .str false .bool false),(5,.cells [.ptr 0 0] false),(6,.cells [.fn0 78] false),(7,.cells [.mp 12] false),(8,.cells [.ptr 0 0] false),(10,.ig),(11,.loop .ready none 10 [(2,.c (.ptr 5 0)),(3,.c (.ptr 6 0)),(4,.c .bY),(5,.c (.ptr 7 0)),(17,.fn 106 [] [.ptr 8 0])] [18,19] (.aR [.op (some 7) none (.mv (.t 19))]) (.block 1 (.seq (.aR [.op (some 20) none (.ex (gw.iS tI false .unit true) []),.op (some 8) none (.alloc [.cB]),.op none none (.store 1 (.t 8) (.t 20))]) (.seq (.seq (.aR [.op (some 21) none (.mv (.t 7)),.op (some 22) none (.len (.t 21)),.op (some 23) none (.mv (.c (.int .i64 (Int.ofNat 0))))]) (.block 2 (.loop (.seq (.aR [.op (some 24) none (.bin .lss (.t 23) (.t 22))]) (.seq (.cond (.t 24) .skip (.exit 2)) (.seq (.block 3 (.seq (.aR [.op (some 25) none (.idx 1 (.t 21) (.t 23)),.op (some 26) none (.load false 1 (.t 25)),.op (some 10) none (.mv (.t 26))]) (.seq (.draw [[],[],[1],[1,2],[1,2,3],[],[1,2,3,4,5],[0,1,2,3,4,5,6],[],[0,1,2,3,4,5,6,7,8]] [.op (some 27) none (.load false 1 (.t 3)),.op (some 28) none (.load false 1 (.t 2)),.op (some 29) none (.ex gw.iR [.t 28]),.op (some 30) none (.mB 0 [false] (.t 29)),.op (some 31) none (.load false 1 (.t 30)),.op (some 32) none (.mv (.t 10)),.op (some 33) none (.ex (gw.gb .str false tG true false) [.t 31,.t 32]),.call (some 34) none (.t 27) [.t 33] [some tG],.op (some 11) none (.alloc [.int .i64 (Int.ofNat 0)]),.op none none (.store 1 (.t 11) (.t 34))]) (.seq (.aR [.op (some 35) none (.load false 1 (.t 5)),.call (some 36) none (.c (.fn 101 [] [])) [.t 35] [none]]) (.block 4 (.bC (.t 36) [37] (.aR [.op (some 12) none (.mv (.t 37))]) (.block 5 (.aR [.op (some 38) none (.load false 1 (.t 8)),.op (some 39) none (.mv (.t 12)),.op (some 40) none (.load false 1 (.t 11)),.op (some 41) none (.bin .add (.t 39) (.t 40)),.call (some 42) none (.c (.fn 100 [] [])) [.t 38,.t 41] [none,some tI]])))))))) (.aR [.op (some 43) none (.bin .add (.t 23) (.c (.int .i64 (Int.ofNat 1)))),.op (some 23) none (.mv (.t 43))]))))))) (.aR [.op (some 44) none (.load false 1 (.t 8)),.op none none (.store 1 (.t 5) (.t 44))])))) 48),(12,.map tI false .unit true)] [.cell 7 0] [])]
noncomputable def B7:D prog 34 none 12:=dO [] (pick (kd prog f106) [(0,false)]) 0
noncomputable def gH67_v1_0i_0:Nat×Int×Int×List ByteArray×cK×cM×aS×aS×(List (Int×Unit))×Unit→bW ((Nat×Int×Int×List ByteArray×cK×cM×aS×aS×(List (Int×Unit))×Unit) ⊕ ((cK×cM×aS×aS×(List (Int×Unit))×Unit))):=fun (xS,v11,v12,K6,m1,m2,m3,m4,m13,_) =>
 .br (decide (v12<v11)) (
 .nb v12 ((xS:Nat):Int) <|
 .nd (decide (((0:Nat)+(Int.toNat v12))<(K6).length)) <|
 .br ((ay .str ((bs []),(0:Int),(bs []),(bs []),(0:Int)) m1 ((K6).getD ((0:Nat)+(Int.toNat v12)) (bs []))).2.1==(1:Int)) (
 .bd (FH76fix ((K6).getD ((0:Nat)+(Int.toNat v12)) (bs [])) m1 m2 m3 m4) fun y4 =>
 .bd (.it gH67_v1_0b_1 (y4.1,((y4.1:Nat):Int),(0:Int),y4.2.1,y4.2.2.1,y4.2.2.2.1,y4.2.2.2.2.1,y4.2.2.2.2.2.1,K6,m13,[],())) fun Ir =>
 .ni (v12+(1:Int)) <|
 .ret (.inl (xS,v11,(v12+(1:Int)),Ir.2.2.2.2.1,Ir.1,Ir.2.1,Ir.2.2.1,Ir.2.2.2.1,Ir.2.2.2.2.2.2.2.1,()))) (
 .ni (v12+(1:Int)) <|
 .ret (.inl (xS,v11,(v12+(1:Int)),K6,m1,m2,m3,m4,m13,())))) (
 .ret (.inr (m1,m2,m3,m4,m13,())))
noncomputable def B8:cm prog 34 none 12:=bN mixed oz oB [0,1,2,3,4,5,6,7,8,9,10,11] rfl B5 B6 rfl (B7) (fun x=>aq (gH67_v1_0i_0 x)) (fun x=>by kernel_rfl)
@[reducible] def Kv:az:=az.mk [(2,.c (.ptr 5 0)),(3,.c (.ptr 6 0)),(4,.c .bY),(5,.c (.ptr 7 0)),(17,.fn 106 [] [.ptr 8 0])] [(5,.cells [.ptr 0 0] false),(6,.cells [.fn0 78] false),(7,.cells [.mp 9] false),(8,.cells [.ptr 0 0] false),(0,.cells [.mp 1,.mp 2,.mp 3,.mp 4] false),(1,.map .str false tG true),(2,.map .str false (.list .str) false),(3,.map .str false .bool false),(4,.map .str false .bool false),(9,.map tI false .unit true)] [.slot 2,.slot 3,.slot 5,.part 17 0,.cell 7 0] []
@[reducible] def Kw:aZ:=[(.normal,az.mk [(5,.c (.ptr 5 0))] [(5,.cells [.mp 6] false),(0,.cells [.mp 1,.mp 2,.mp 3,.mp 4] false),(1,.map .str false tG true),(2,.map .str false (.list .str) false),(3,.map .str false .bool false),(4,.map .str false .bool false),(6,.map tI false .unit true)] [.slot 5,.cell 5 0] [])]
noncomputable def xW:D prog 34 none 12:=dO [.l B8] (kd prog f106) 0
theorem Gq:cN prog f106=some ⟨34,2,(xW).er,[],[]⟩:=by kernel_rfl
noncomputable def gH67_v1_0:cK×cM×aS×aS×(List (Int×Unit))×Unit→bW ((cK×cM×aS×aS×(List (Int×Unit))×Unit)):=fun (m1,m2,m3,m4,m9,_) =>
 .bd (FH95 m1) fun y2 =>
 .bd (FH81 y2.1) fun y3 =>
 .bd (.it gH67_v1_0i_0 (y3.1,((y3.1:Nat):Int),(0:Int),y3.2.1,y3.2.2.1,m2,m3,m4,m9,())) fun K4 =>
 .ret ((K4.1,K4.2.1,K4.2.2.1,K4.2.2.2.1,K4.2.2.2.2.1,()))
noncomputable def Kx:gp prog 48 none 5:=rH mixed oz oB [0,1,2,3,4] rfl Kv Kw ( .t 17) [18,19] rfl (xU).er (xV).er 106 func106 (Gq) (enters_of func106 rfl rfl) 12 rfl (xW) rfl (fun x=>aq (gH67_v1_0 x)) (fun x=>by kernel_rfl)
noncomputable def Er:D prog 48 none 5:=dO [.r Kx] (kd prog f67) 0
noncomputable def FH67_v1 (m1:cK) (m2:cM) (m3:aS) (m4:aS):bW (Nat×List Int×cK×cM×aS×aS×Unit) :=
 .bd (FH100 (0:Int) []) fun y0 =>
 .bd (FH79 m1 m2 m3 m4) fun y1 =>
 .bd (gH67_v1_0 (y1.1,y1.2.1,y1.2.2.1,y1.2.2.2.1,y0.1,())) fun z12 =>
 .bd (FH101 z12.2.2.2.2.1) fun Vt =>
 .bd (FH102 Vt.1) fun SJ =>
 .ret (SJ.1,SJ.2.1,z12.1,z12.2.1,z12.2.2.1,z12.2.2.2.1,())
theorem Gr:cN prog f67=some ⟨48,2,Er.er,[.t 4],[some tL]⟩:=by kernel_rfl
noncomputable def Iu:Ht:=⟨67,SR,SS,(fun x=>aq (FH67_v1 x.1 x.2.1 x.2.2.1 x.2.2.2.1))⟩
theorem Gs:Iu.Ok prog:=bO mixed gF rfl func67 Gr (enters_of func67 rfl rfl) Er (by kernel_rfl) rfl rfl ⟨_,rfl⟩ rfl (pre:=[0,1,2,3,4]) rfl (fun x=>by kernel_rfl)

/- 72 -/
noncomputable def cx72:Cx:=(aL [] [])
theorem SU:cx72.Ok prog:=ax trivial trivial
noncomputable def dd72:D prog 13 none 0:=dO [] (kd prog f72) 0
noncomputable def F72 (a0:List Int):bW ((Int×Int)×Unit) :=
 .nb (0:Int) (((a0).length:Nat):Int) <|
 .ni ((((a0).length:Nat):Int) - (1:Int)) <|
 .nb ((((a0).length:Nat):Int) - (1:Int)) (((a0).length:Nat):Int) <|
 .ret ((((a0).getD (Int.toNat (0:Int)) (0:Int)),((a0).getD (Int.toNat ((((a0).length:Nat):Int) - (1:Int))) (0:Int))),())
theorem YA:cN prog f72=some ⟨13,1,dd72.er,[.cell 2 true 2],[some (.prod tI tI)]⟩:=by kernel_rfl
noncomputable def YB:Ct:=⟨72,[hL],.c (.hole (.prod tI tI)),fun x=>aq (F72 x.1)⟩
theorem Iv:YB.Ok prog:=cQ mixed SU func72 YA (enters_of func72 rfl rfl) dd72 (by kernel_rfl) rfl (fun x=>by kernel_rfl)

/- 37, lent -/
@[reducible] def pH37:az:=az.mk [(0,.c (.ptr 0 0))] [(0,.cells [.mp 1] false),(1,.map tG true .bool false)] [.slot 0,.cell 0 0] []
@[reducible] def qH37:az:=az.mk [(0,.cI [.hole (.prod tI tI),.hole tI])] [(0,.cells [.mp 1] false),(1,.map tG true .bool false)] [] []
noncomputable def acM:Cx:=(aL [YB] [yV,D1,Iu])
theorem OS:acM.Ok prog:=ax ⟨Iv,trivial⟩ ⟨⟨mZ,rfl⟩,⟨rW,rfl⟩,⟨Gs,rfl⟩,trivial⟩
noncomputable def Vv:D prog 11 none 2:=dO [] (kd prog f37) 0
noncomputable def FH37 (m1:List ((GG)×Bool)):bW ((Int×Int)×Int×(List ((GG)×Bool))×Unit) :=
 .bd (FH54 m1) fun y0 =>
 .br y0.1 (
 .ret (((0:Int),(0:Int)),(9:Int),y0.2.1,())) (
 .bd (FH66 y0.2.1) fun y1 =>
 .bd (FH67_v1 y1.2.1 y1.2.2.1 y1.2.2.2.1 y1.2.2.2.2.1) fun y2 =>
 .bd (F72 (((y2.2.1).drop (0:Nat)).take y2.1)) fun y3 =>
 .ret ((y3.1.1,y3.1.2),(0:Int),y1.1,()))
theorem SV:cN prog f37=some ⟨11,1,Vv.er,[.cell 2 true 2,.t 3],[some (.prod tI tI),some tI]⟩:=by kernel_rfl
noncomputable def ht37:Ht:=⟨37,pH37,qH37,(fun x=>aq (FH37 x.1))⟩
theorem SX:ht37.Ok prog:=bO mixed OS rfl func37 SV (enters_of func37 rfl rfl) Vv (by kernel_rfl) rfl rfl ⟨_,rfl⟩ rfl (pre:=[0,1]) rfl (fun x=>by kernel_rfl)

/- 25, lent -/
@[reducible] def pH25:az:=az.mk [(0,.c (.ptr 0 0)),(1,.c (.hole .str))] [(0,.cells [.mp 1] false),(1,.map tG true .bool false)] [.slot 0,.cell 0 0] []
@[reducible] def qH25:az:=az.mk [(0,.cI [.hole (.prod tI tI),.hole tI])] [(0,.cells [.mp 1] false),(1,.map tG true .bool false)] [] []
noncomputable def acO:Cx:=(aL [YB] [Yy])
theorem OT:acO.Ok prog:=ax ⟨Iv,trivial⟩ ⟨⟨It,rfl⟩,trivial⟩
noncomputable def Vw:D prog 20 none 2:=dO [] (kd prog f25) 0
noncomputable def FH25 (v1:ByteArray) (m1:List ((GG)×Bool)):bW ((Int×Int)×Int×(List ((GG)×Bool))×Unit) :=
 .bd (FH23 v1 m1) fun y0 =>
 .br (!(y0.2.1==(0:Int))) (
 .ret (((0:Int),(0:Int)),y0.2.1,y0.2.2.2.1,())) (
 .bd (F72 (((y0.2.2.1).drop (0:Nat)).take y0.1)) fun y1 =>
 .ret ((y1.1.1,y1.1.2),(0:Int),y0.2.2.2.1,()))
theorem SY:cN prog f25=some ⟨20,2,Vw.er,[.cell 4 true 2,.t 5],[some (.prod tI tI),some tI]⟩:=by kernel_rfl
noncomputable def ht25:Ht:=⟨25,pH25,qH25,(fun x=>aq (FH25 x.1 x.2.1))⟩
theorem SZ:ht25.Ok prog:=bO mixed OT rfl func25 SY (enters_of func25 rfl rfl) Vw (by kernel_rfl) rfl rfl ⟨_,rfl⟩ rfl (pre:=[0,1]) rfl (fun x=>by kernel_rfl)

/- 36 -/
noncomputable def cx36:Cx:=(aL [] [])
theorem Iw:cx36.Ok prog:=ax trivial trivial
@[reducible] def acR:az:=az.mk [(0,.c (.hole (.list .str))),(1,.c (.hole (.list .str))),(5,hI)] [] [] []
@[reducible] def acS:aZ:=[(.ret,az.mk [(4,.c (.tf false))] [] [] []),(.exit 0,az.mk [] [] [] [])]
noncomputable def acT:D prog 26 none 0:=dO [] (pick (kd prog f36) [(0,false)]) 0
noncomputable def g36_0:List ByteArray×List ByteArray×Int×Unit→bW ((List ByteArray×List ByteArray×Int×Unit) ⊕ ((Unit) ⊕ ((Unit)))):=fun (v0,v1,v5,_) =>
 .br (decide (v5<(((v0).length:Nat):Int))) (
 .nb v5 (((v0).length:Nat):Int) <|
 .nb v5 (((v1).length:Nat):Int) <|
 .br (!(seq ((v0).getD (Int.toNat v5) (bs [])) ((v1).getD (Int.toNat v5) (bs [])))) (
 .ret (.inr <| .inl<|())) (
 .ni (v5+(1:Int)) <|
 .ret (.inl (v0,v1,(v5+(1:Int)),())))) (
 .ret (.inr <| .inr<|()))
noncomputable def acU:cm prog 26 none 0:=bN mixed cx36 Iw [] rfl acR acS rfl (acT) (fun x=>aq (g36_0 x)) (fun x=>by kernel_rfl)
noncomputable def dd36:D prog 26 none 0:=dO [.l acU] (kd prog f36) 0
noncomputable def F36 (a0:List ByteArray) (a1:List ByteArray):bW (Bool×Unit) :=
 .br (!((((a0).length:Nat):Int)==(((a1).length:Nat):Int))) (
 .ret (false,())) (
 .bd (.it g36_0 (a0,a1,(0:Int),())) fun z0 =>
 .sm z0 (fun z1 =>
 .ret (false,())) fun z2 =>
 .ret (true,()))
theorem YC:cN prog f36=some ⟨26,2,dd36.er,[.t 4],[some .bool]⟩:=by kernel_rfl
noncomputable def YD:Ct:=⟨36,[.c (.hole (.list .str)),.c (.hole (.list .str))],.c (.hole .bool),fun x=>aq (F36 x.1 x.2.1)⟩
theorem Iy:YD.Ok prog:=cQ mixed Iw func36 YC (enters_of func36 rfl rfl) dd36 (by kernel_rfl) rfl (fun x=>by kernel_rfl)

/- 27 -/
noncomputable def cx27:Cx:=(aL [] [])
theorem Iz:cx27.Ok prog:=ax trivial trivial
@[reducible] def acX:az:=az.mk [(0,hL),(1,hL),(5,hI)] [] [] []
@[reducible] def acY:aZ:=[(.ret,az.mk [(4,.c (.tf false))] [] [] []),(.exit 0,az.mk [] [] [] [])]
noncomputable def acZ:D prog 26 none 0:=dO [] (pick (kd prog f27) [(0,false)]) 0
noncomputable def g27_0:List Int×List Int×Int×Unit→bW ((List Int×List Int×Int×Unit) ⊕ ((Unit) ⊕ ((Unit)))):=fun (v0,v1,v5,_) =>
 .br (decide (v5<(((v0).length:Nat):Int))) (
 .nb v5 (((v0).length:Nat):Int) <|
 .nb v5 (((v1).length:Nat):Int) <|
 .br (!(((v0).getD (Int.toNat v5) (0:Int))==((v1).getD (Int.toNat v5) (0:Int)))) (
 .ret (.inr <| .inl<|())) (
 .ni (v5+(1:Int)) <|
 .ret (.inl (v0,v1,(v5+(1:Int)),())))) (
 .ret (.inr <| .inr<|()))
noncomputable def ac0:cm prog 26 none 0:=bN mixed cx27 Iz [] rfl acX acY rfl (acZ) (fun x=>aq (g27_0 x)) (fun x=>by kernel_rfl)
noncomputable def dd27:D prog 26 none 0:=dO [.l ac0] (kd prog f27) 0
noncomputable def F27 (a0:List Int) (a1:List Int):bW (Bool×Unit) :=
 .br (!((((a0).length:Nat):Int)==(((a1).length:Nat):Int))) (
 .ret (false,())) (
 .bd (.it g27_0 (a0,a1,(0:Int),())) fun z0 =>
 .sm z0 (fun z1 =>
 .ret (false,())) fun z2 =>
 .ret (true,()))
theorem YE:cN prog f27=some ⟨26,2,dd27.er,[.t 4],[some .bool]⟩:=by kernel_rfl
noncomputable def ct27:Ct:=⟨27,[hL,hL],.c (.hole .bool),fun x=>aq (F27 x.1 x.2.1)⟩
theorem S2:ct27.Ok prog:=cQ mixed Iz func27 YE (enters_of func27 rfl rfl) dd27 (by kernel_rfl) rfl (fun x=>by kernel_rfl)

/- 80, lent -/
@[reducible] def pH80:az:=az.mk [(0,.c (.mp 0)),(1,.c (.hole .str))] [(0,.map .str false .unit true)] [.slot 0] []
@[reducible] def qH80:az:=az.mk [(0,.c .any)] [(0,.map .str false .unit true)] [] []
noncomputable def ac3:Cx:=(aL [] [])
theorem OU:ac3.Ok prog:=ax trivial trivial
noncomputable def Vx:D prog 7 none 1:=dO [] (kd prog f80) 0
noncomputable def FH80 (v1:ByteArray) (m0:List (ByteArray×Unit)):bW ((List (ByteArray×Unit))×Unit) :=
 .ret ((aV .str m0 v1 ()),())
theorem S4:cN prog f80=some ⟨7,2,Vx.er,[],[]⟩:=by kernel_rfl
noncomputable def ht80:Ht:=⟨80,pH80,qH80,(fun x=>aq (FH80 x.1 x.2.1))⟩
theorem S5:ht80.Ok prog:=bO mixed OU rfl func80 S4 (enters_of func80 rfl rfl) Vx (by kernel_rfl) rfl rfl ⟨_,rfl⟩ rfl (pre:=[0]) rfl (fun x=>by kernel_rfl)

/- 108, lent -/
@[reducible] def ac5:az:=az.mk [(0,.c (.mp 0))] [(0,.map .str false .unit true)] [.slot 0] []
@[reducible] def ac6:az:=az.mk [(0,.fn 127 [] [.ptr 1 0])] [(1,.cells [.mp 0] false),(0,.map .str false .unit true)] [.part 0 0] []
noncomputable def YF:Cx:=(aL [] [])
theorem Ky:YF.Ok prog:=ax trivial trivial
noncomputable def OV:D prog 4 none 1:=dO [] (kd prog f108) 0
noncomputable def FH108 (m0:List (ByteArray×Unit)):bW ((List (ByteArray×Unit))×Unit) :=
 .ret (m0,())
theorem OW:cN prog f108=some ⟨4,1,OV.er,[.t 2],[none]⟩:=by kernel_rfl
noncomputable def Vy:Ht:=⟨108,ac5,ac6,(fun x=>aq (FH108 x.1))⟩
theorem OX:Vy.Ok prog:=bO mixed Ky rfl func108 OW (enters_of func108 rfl rfl) OV (by kernel_rfl) rfl rfl ⟨_,rfl⟩ rfl (pre:=[0]) rfl (fun x=>by kernel_rfl)

/- 82, lent -/
@[reducible] def pH82:az:=az.mk [(0,.c (.mp 0))] [(0,.map .str false .unit true)] [.slot 0] []
@[reducible] def qH82:az:=az.mk [(0,.fn 127 [] [.ptr 1 0])] [(1,.cells [.mp 0] false),(0,.map .str false .unit true)] [.part 0 0] []
noncomputable def ac7:Cx:=(aL [] [Vy])
theorem OY:ac7.Ok prog:=ax trivial ⟨⟨OX,rfl⟩,trivial⟩
noncomputable def Vz:D prog 5 none 1:=dO [] (kd prog f82) 0
noncomputable def FH82 (m0:List (ByteArray×Unit)):bW ((List (ByteArray×Unit))×Unit) :=
 .bd (FH108 m0) fun y0 =>
 .ret (y0.1,())
theorem S6:cN prog f82=some ⟨5,1,Vz.er,[.t 2],[none]⟩:=by kernel_rfl
noncomputable def ht82:Ht:=⟨82,pH82,qH82,(fun x=>aq (FH82 x.1))⟩
theorem S7:ht82.Ok prog:=bO mixed OY rfl func82 S6 (enters_of func82 rfl rfl) Vz (by kernel_rfl) rfl rfl ⟨_,rfl⟩ rfl (pre:=[0]) rfl (fun x=>by kernel_rfl)

/- 81, lent -/
@[reducible] def S8:az:=az.mk [(0,.fn 127 [] [.ptr 0 0])] [(0,.cells [.mp 1] false),(1,.map .str false .unit true)] [.part 0 0,.cell 0 0] []
@[reducible] def S9:az:=az.mk [(0,.c (.cC 2 .str))] [(2,.arr .str false),(0,.cells [.mp 1] false),(1,.map .str false .unit true)] [.slot 0] []
noncomputable def nh:Cx:=(aL [] [An])
theorem lJ:nh.Ok prog:=ax (u9:=[]) (hts:=[An]) trivial ⟨⟨xI,rfl⟩,trivial⟩
noncomputable def kD:D prog 13 (some 4) 7:=dO [] (pick (kd prog f126) [(0,false)]) 0
noncomputable def kF:D prog 13 (some 4) 7:=dO [] (pick (kd prog f126) [(0,true)]) 0
noncomputable def fE:Cx:=yT nh (fun kz=>MY kz nh ew 4 7 [7] (kD) (kF))
theorem gU:(fE).Ok prog:=jI lJ (fun h=>mU mixed lJ h)
@[reducible] def oC:az:=az.mk [(0,.c (.yl 4)),(4,.c (.mp 1))] [(4,.loop .ready none 3 [(2,.c (.ptr 2 0)),(4,.c .bY),(6,.fn 127 [] [.ptr 0 0])] [7] (.aR [.op (some 5) none (.mv (.t 7))]) (.block 1 (.aR [.op (some 8) none (.load false 1 (.t 2)),.op (some 9) none (.mv (.t 5)),.op (some 10) none (.dU .str [.t 9]),.op (some 11) none (.append 1 (.t 8) (.t 10)),.op none none (.store 1 (.t 2) (.t 11))])) 13),(1,.map .str false .unit true),(3,.ig),(2,.cells [.cC 5 .str] false),(0,.cells [.mp 1] false),(5,.arr .str false)] [.cell 2 0] []
noncomputable def oD:D prog 14 none 7:=dO [] (pick (kd prog f127) [(0,false)]) 0
noncomputable def gH81_v1f107f126_0i_0:((ByteArray)×(Unit))→(List (ByteArray×Unit))×Nat×List ByteArray×Unit→bW ((List (ByteArray×Unit))×Nat×List ByteArray×Unit):=fun e (m1,kq,b5,_) =>
 .nd (decide ((kq+(((((e.1::[])).drop (0:Nat)).take (1:Nat))).length)<cg)) <|
 .nd (jB m1 m1) <|
 .ret (m1,(kq+(((((e.1::[])).drop (0:Nat)).take (1:Nat))).length),((((b5).drop (0:Nat)).take kq)++((((e.1::[])).drop (0:Nat)).take (1:Nat))),())
noncomputable def oE:ru prog 14 none 5:=vf mixed fE gU [0,1,2,3,4] rfl oC ( [.op (some 4) none (.load false 1 (.t 1))]) 4 5 [6,7] (some 8) ( .str)  false ( .unit)  true 0 rfl 7 rfl (oD) (fun e x=>aq (gH81_v1f107f126_0i_0 e x)) (fun e=>fun x=>by kernel_rfl)
@[reducible] def r8:az:=az.mk [(2,.c (.ptr 2 0)),(4,.c .bY),(6,.fn 127 [] [.ptr 0 0])] [(2,.cells [.bY] false),(0,.cells [.mp 1] false),(1,.map .str false .unit true)] [.slot 2] []
@[reducible] def r9:aZ:=[(.normal,az.mk [(2,.c (.ptr 2 0))] [(2,.cells [.cC 3 .str] false),(0,.cells [.mp 1] false),(1,.map .str false .unit true),(3,.arr .str false)] [.slot 2,.cell 2 0] [])]
noncomputable def kG:D prog 14 none 5:=dO [.m oE] (kd prog f127) 0
theorem qB:cN prog f127=some ⟨14,2,(kG).er,[],[]⟩:=by kernel_rfl
noncomputable def lu:gp prog 13 none 2:=rK mixed fE gU [0,1] rfl r8 r9 ( .t 6) [7] rfl (kD).er (kF).er 127 func127 (qB) (enters_of func127 rfl rfl) 5 rfl (kG) rfl
@[reducible] noncomputable def Gt:Go.AM.Fn:=⟨13,2,(dO [.r lu] (kd prog f126) 0:D prog 13 none 2).er,[.t 4],[some (.list .str)]⟩
noncomputable def xX:Cx:=Ai prog nh 126 Gt 2 (dO [.r lu] (kd prog f126) 0)
theorem yX:xX.Ok prog:=rJ mixed lJ func126 (by kernel_rfl) (enters_of func126 rfl rfl) rfl
@[reducible] noncomputable def Gu:Go.AM.Fn:=⟨5,1,(dO [] (kd prog f107) 0:D prog 5 none 0).er,[.t 2],[some (.list .str)]⟩
noncomputable def xY:Cx:=DG prog xX 107 Gu (fun _=>dO [] (kd prog f107) 0)
theorem yY:xY.Ok prog:=o4 mixed yX func107 (by kernel_rfl) (enters_of func107 rfl rfl) (fun _=>by kernel_rfl)
noncomputable def OZ:Cx:=xY
theorem Es:OZ.Ok prog:=yY
noncomputable def Et:D prog 9 none 2:=dO [] (kd prog f81) 0
noncomputable def FH81_v1 (m1:List (ByteArray×Unit)):bW (Nat×List ByteArray×(List (ByteArray×Unit))×Unit) :=
 .an m1 fun l0 =>
 .bd (.fm gH81_v1f107f126_0i_0 l0 (m1,(0:Nat),[],())) fun z1 =>
 .bd (FH105 z1.2.1 z1.2.2.1) fun y2 =>
 .ret (z1.2.1,y2.1,z1.1,())
theorem Gv:cN prog f81=some ⟨9,1,Et.er,[.t 2],[some (.list .str)]⟩:=by kernel_rfl
noncomputable def IA:Ht:=⟨81,S8,S9,(fun x=>aq (FH81_v1 x.1))⟩
theorem Gw:IA.Ok prog:=bO mixed Es rfl func81 Gv (enters_of func81 rfl rfl) Et (by kernel_rfl) rfl rfl ⟨_,rfl⟩ rfl (pre:=[0,1]) rfl (fun x=>by kernel_rfl)

/- 45, lent -/
@[reducible] def pH45:az:=az.mk [(0,.c (.ptr 0 0))] [(0,.cells [.mp 1] false),(1,.map tG true .bool false)] [.slot 0,.cell 0 0] []
@[reducible] def qH45:az:=az.mk [(0,.c (.cC 2 .str))] [(2,.arr .str false),(0,.cells [.mp 1] false),(1,.map tG true .bool false)] [.slot 0] []
noncomputable def IB:Cx:=(aL [] [yV,D1,SE,NS,NU,Gg,ht80,ht82,IA])
theorem sg:IB.Ok prog:=ax trivial ⟨⟨mZ,rfl⟩,⟨rW,rfl⟩,⟨BN,rfl⟩,⟨vo,rfl⟩,⟨vq,rfl⟩,⟨rY,rfl⟩,⟨S5,rfl⟩,⟨S7,rfl⟩,⟨Gw,rfl⟩,trivial⟩
@[reducible] def KA:az:=az.mk [(3,.c (.ptr 2 0)),(4,.c (.ptr 3 0)),(18,.c (.cC 20 .str)),(19,hI),(20,hI)] [(2,.cells [.ptr 5 0] false),(3,.cells [.mp 21] false),(20,.arr .str false),(5,.cells [.mp 7,.mp 8,.mp 9,.mp 10] false),(7,.map .str false tG true),(8,.map .str false (.list .str) false),(9,.map .str false .bool false),(10,.map .str false .bool false),(0,.cells [.mp 1] false),(1,.map tG true .bool false),(4,.cells [.ptr 5 0] false),(11,.ig),(12,.loop .busy none 11 [(2,.c .bY),(3,.c (.ptr 2 0)),(4,.c (.ptr 3 0)),(15,.fn 106 [] [.ptr 4 0])] [16,17] (.aR [.op (some 6) none (.mv (.t 17))]) (.block 1 (.seq (.aR [.op (some 18) none (.mv (.t 6)),.op (some 19) none (.len (.t 18)),.op (some 20) none (.mv (.c (.int .i64 (Int.ofNat 0))))]) (.block 2 (.loop (.seq (.aR [.op (some 21) none (.bin .lss (.t 20) (.t 19))]) (.seq (.cond (.t 21) .skip (.exit 2)) (.seq (.block 3 (.seq (.aR [.op (some 22) none (.idx 1 (.t 18) (.t 20)),.op (some 23) none (.load false 1 (.t 22)),.op (some 8) none (.mv (.t 23))]) (.seq (.draw [[],[],[1],[1,2],[1,2,3],[],[1,2,3,4,5],[1,2,3,4,5,6],[0,1,2,3,4,5,6,7]] [.op (some 24) none (.load false 1 (.t 4)),.op (some 25) none (.load false 1 (.t 3)),.op (some 26) none (.ex gw.iR [.t 25]),.op (some 27) none (.mB 0 [false] (.t 26)),.op (some 28) none (.load false 1 (.t 27)),.op (some 29) none (.mv (.t 8)),.op (some 30) none (.ex (gw.gb .str false tG true false) [.t 28,.t 29]),.op (some 31) none (.field false 3 1 (.t 30))]) (.aR [.call (some 32) none (.c (.fn 80 [] [])) [.t 24,.t 31] [none,some .str]])))) (.aR [.op (some 33) none (.bin .add (.t 20) (.c (.int .i64 (Int.ofNat 1)))),.op (some 20) none (.mv (.t 33))])))))))) 37),(13,.arr .str false),(21,.map .str false .unit true)] [.cell 3 0] []
@[reducible] def KB:aZ:=[(.exit 2,az.mk [] [(0,.cells [.mp 1] false),(1,.map tG true .bool false),(2,.cells [.ptr 5 0] false),(5,.cells [.mp 7,.mp 8,.mp 9,.mp 10] false),(7,.map .str false tG true),(8,.map .str false (.list .str) false),(9,.map .str false .bool false),(10,.map .str false .bool false),(3,.cells [.mp 21] false),(4,.cells [.ptr 5 0] false),(11,.ig),(12,.loop .busy none 11 [(2,.c .bY),(3,.c (.ptr 2 0)),(4,.c (.ptr 3 0)),(15,.fn 106 [] [.ptr 4 0])] [16,17] (.aR [.op (some 6) none (.mv (.t 17))]) (.block 1 (.seq (.aR [.op (some 18) none (.mv (.t 6)),.op (some 19) none (.len (.t 18)),.op (some 20) none (.mv (.c (.int .i64 (Int.ofNat 0))))]) (.block 2 (.loop (.seq (.aR [.op (some 21) none (.bin .lss (.t 20) (.t 19))]) (.seq (.cond (.t 21) .skip (.exit 2)) (.seq (.block 3 (.seq (.aR [.op (some 22) none (.idx 1 (.t 18) (.t 20)),.op (some 23) none (.load false 1 (.t 22)),.op (some 8) none (.mv (.t 23))]) (.seq (.draw [[],[],[1],[1,2],[1,2,3],[],[1,2,3,4,5],[1,2,3,4,5,6],[0,1,2,3,4,5,6,7]] [.op (some 24) none (.load false 1 (.t 4)),.op (some 25) none (.load false 1 (.t 3)),.op (some 26) none (.ex gw.iR [.t 25]),.op (some 27) none (.mB 0 [false] (.t 26)),.op (some 28) none (.load false 1 (.t 27)),.op (some 29) none (.mv (.t 8)),.op (some 30) none (.ex (gw.gb .str false tG true false) [.t 28,.t 29]),.op (some 31) none (.field false 3 1 (.t 30))]) (.aR [.call (some 32) none (.c (.fn 80 [] [])) [.t 24,.t 31] [none,some .str]])))) (.aR [.op (some 33) none (.bin .add (.t 20) (.c (.int .i64 (Int.ofNat 1)))),.op (some 20) none (.mv (.t 33))])))))))) 37),(13,.arr .str false),(20,.arr .str false),(21,.map .str false .unit true)] [.cell 3 0] [])]
noncomputable def KC:D prog 37 (some 12) 21:=dO [] (pick (kd prog f45) [(0,true),(0,false)]) 0
noncomputable def gH45_0b_1:Nat×Int×Int×List ByteArray×cK×cM×aS×aS×(List ((GG)×Bool))×List ByteArray×(List (ByteArray×Unit))×Unit→bW ((Nat×Int×Int×List ByteArray×cK×cM×aS×aS×(List ((GG)×Bool))×List ByteArray×(List (ByteArray×Unit))×Unit) ⊕ (((List ((GG)×Bool))×cK×cM×aS×aS×List ByteArray×List ByteArray×(List (ByteArray×Unit))×Unit))):=fun (nv18,Sk,v20,pI,m7,m8,m9,m10,m1,jg,m21,_) =>
 .br (decide (v20<Sk)) (
 .nb v20 ((nv18:Nat):Int) <|
 .nd (decide (((0:Nat)+(Int.toNat v20))<(pI).length)) <|
 .bd (FH80 (ay .str ((bs []),(0:Int),(bs []),(bs []),(0:Int)) m7 ((pI).getD ((0:Nat)+(Int.toNat v20)) (bs []))).2.2.2.1 m21) fun y6 =>
 .ni (v20+(1:Int)) <|
 .ret (.inl (nv18,Sk,(v20+(1:Int)),pI,m7,m8,m9,m10,m1,jg,y6.1,()))) (
 .ret (.inr (m1,m7,m8,m9,m10,jg,pI,m21,())))
noncomputable def KE:cm prog 37 (some 12) 21:=bN mixed IB sg [0,1,2,3,4,5,6,7,8,9,10,11,12,13,14,15,16,17,18,19,20] rfl KA KB rfl (KC) (fun x=>aq (gH45_0b_1 x)) (fun x=>by kernel_rfl)
noncomputable def IC:D prog 37 (some 12) 21:=dO [] (pick (kd prog f45) [(0,false)]) 0
noncomputable def ID:D prog 37 (some 12) 21:=dO [.l KE] (pick (kd prog f45) [(0,true)]) 0
noncomputable def xZ:Cx:=yT IB (fun kz=>MY kz IB ew 12 21 [16,17] (IC) (ID))
theorem uo:(xZ).Ok prog:=jI sg (fun h=>mU mixed sg h)
@[reducible] def KF:az:=az.mk [(0,.c (.yl 12)),(1,.c (.ptr 4 0)),(10,.c (.cC 13 .str)),(11,hI),(12,hI)] [(12,.loop .ready none 11 [(2,.c .bY),(3,.c (.ptr 2 0)),(4,.c (.ptr 3 0)),(15,.fn 106 [] [.ptr 4 0])] [16,17] (.aR [.op (some 6) none (.mv (.t 17))]) (.block 1 (.seq (.aR [.op (some 18) none (.mv (.t 6)),.op (some 19) none (.len (.t 18)),.op (some 20) none (.mv (.c (.int .i64 (Int.ofNat 0))))]) (.block 2 (.loop (.seq (.aR [.op (some 21) none (.bin .lss (.t 20) (.t 19))]) (.seq (.cond (.t 21) .skip (.exit 2)) (.seq (.block 3 (.seq (.aR [.op (some 22) none (.idx 1 (.t 18) (.t 20)),.op (some 23) none (.load false 1 (.t 22)),.op (some 8) none (.mv (.t 23))]) (.seq (.draw [[],[],[1],[1,2],[1,2,3],[],[1,2,3,4,5],[1,2,3,4,5,6],[0,1,2,3,4,5,6,7]] [.op (some 24) none (.load false 1 (.t 4)),.op (some 25) none (.load false 1 (.t 3)),.op (some 26) none (.ex gw.iR [.t 25]),.op (some 27) none (.mB 0 [false] (.t 26)),.op (some 28) none (.load false 1 (.t 27)),.op (some 29) none (.mv (.t 8)),.op (some 30) none (.ex (gw.gb .str false tG true false) [.t 28,.t 29]),.op (some 31) none (.field false 3 1 (.t 30))]) (.aR [.call (some 32) none (.c (.fn 80 [] [])) [.t 24,.t 31] [none,some .str]])))) (.aR [.op (some 33) none (.bin .add (.t 20) (.c (.int .i64 (Int.ofNat 1)))),.op (some 20) none (.mv (.t 33))])))))))) 37),(4,.cells [.ptr 5 0] false),(13,.arr .str false),(11,.ig),(2,.cells [.ptr 5 0] false),(5,.cells [.mp 7,.mp 8,.mp 9,.mp 10] false),(7,.map .str false tG true),(8,.map .str false (.list .str) false),(9,.map .str false .bool false),(10,.map .str false .bool false),(3,.cells [.mp 14] false),(0,.cells [.mp 1] false),(1,.map tG true .bool false),(14,.map .str false .unit true)] [.slot 10,.cell 3 0] []
@[reducible] def KG:aZ:=[(.exit 0,az.mk [] [(0,.cells [.mp 1] false),(1,.map tG true .bool false),(2,.cells [.ptr 5 0] false),(5,.cells [.mp 7,.mp 8,.mp 9,.mp 10] false),(7,.map .str false tG true),(8,.map .str false (.list .str) false),(9,.map .str false .bool false),(10,.map .str false .bool false),(3,.cells [.mp 13] false),(4,.cells [.ptr 5 0] false),(11,.ig),(12,.loop .ready none 11 [(2,.c .bY),(3,.c (.ptr 2 0)),(4,.c (.ptr 3 0)),(15,.fn 106 [] [.ptr 4 0])] [16,17] (.aR [.op (some 6) none (.mv (.t 17))]) (.block 1 (.seq (.aR [.op (some 18) none (.mv (.t 6)),.op (some 19) none (.len (.t 18)),.op (some 20) none (.mv (.c (.int .i64 (Int.ofNat 0))))]) (.block 2 (.loop (.seq (.aR [.op (some 21) none (.bin .lss (.t 20) (.t 19))]) (.seq (.cond (.t 21) .skip (.exit 2)) (.seq (.block 3 (.seq (.aR [.op (some 22) none (.idx 1 (.t 18) (.t 20)),.op (some 23) none (.load false 1 (.t 22)),.op (some 8) none (.mv (.t 23))]) (.seq (.draw [[],[],[1],[1,2],[1,2,3],[],[1,2,3,4,5],[1,2,3,4,5,6],[0,1,2,3,4,5,6,7]] [.op (some 24) none (.load false 1 (.t 4)),.op (some 25) none (.load false 1 (.t 3)),.op (some 26) none (.ex gw.iR [.t 25]),.op (some 27) none (.mB 0 [false] (.t 26)),.op (some 28) none (.load false 1 (.t 27)),.op (some 29) none (.mv (.t 8)),.op (some 30) none (.ex (gw.gb .str false tG true false) [.t 28,.t 29]),.op (some 31) none (.field false 3 1 (.t 30))]) (.aR [.call (some 32) none (.c (.fn 80 [] [])) [.t 24,.t 31] [none,some .str]])))) (.aR [.op (some 33) none (.bin .add (.t 20) (.c (.int .i64 (Int.ofNat 1)))),.op (some 20) none (.mv (.t 33))])))))))) 37),(13,.map .str false .unit true)] [.cell 3 0] [])]
noncomputable def KH:D prog 34 none 13:=dO [] (pick (kd prog f106) [(0,false)]) 0
noncomputable def gH45_0i_0:Nat×Int×Int×List ByteArray×cK×cM×aS×aS×(List ((GG)×Bool))×(List (ByteArray×Unit))×Unit→bW ((Nat×Int×Int×List ByteArray×cK×cM×aS×aS×(List ((GG)×Bool))×(List (ByteArray×Unit))×Unit) ⊕ (((List ((GG)×Bool))×cK×cM×aS×aS×(List (ByteArray×Unit))×Unit))):=fun (xS,v11,v12,jg,m7,m8,m9,m10,m1,m14,_) =>
 .br (decide (v12<v11)) (
 .nb v12 ((xS:Nat):Int) <|
 .nd (decide (((0:Nat)+(Int.toNat v12))<(jg).length)) <|
 .br ((ay .str ((bs []),(0:Int),(bs []),(bs []),(0:Int)) m7 ((jg).getD ((0:Nat)+(Int.toNat v12)) (bs []))).2.1==(1:Int)) (
 .bd (FH76fix ((jg).getD ((0:Nat)+(Int.toNat v12)) (bs [])) m7 m8 m9 m10) fun y5 =>
 .bd (.it gH45_0b_1 (y5.1,((y5.1:Nat):Int),(0:Int),y5.2.1,y5.2.2.1,y5.2.2.2.1,y5.2.2.2.2.1,y5.2.2.2.2.2.1,m1,jg,m14,())) fun z7 =>
 .ni (v12+(1:Int)) <|
 .ret (.inl (xS,v11,(v12+(1:Int)),z7.2.2.2.2.2.1,z7.2.1,z7.2.2.1,z7.2.2.2.1,z7.2.2.2.2.1,z7.1,z7.2.2.2.2.2.2.2.1,()))) (
 .ni (v12+(1:Int)) <|
 .ret (.inl (xS,v11,(v12+(1:Int)),jg,m7,m8,m9,m10,m1,m14,())))) (
 .ret (.inr (m1,m7,m8,m9,m10,m14,())))
noncomputable def KJ:cm prog 34 none 13:=bN mixed xZ uo [0,1,2,3,4,5,6,7,8,9,10,11,12] rfl KF KG rfl (KH) (fun x=>aq (gH45_0i_0 x)) (fun x=>by kernel_rfl)
@[reducible] def YG:az:=az.mk [(2,.c .bY),(3,.c (.ptr 2 0)),(4,.c (.ptr 3 0)),(15,.fn 106 [] [.ptr 4 0])] [(2,.cells [.ptr 5 0] false),(3,.cells [.mp 6] false),(4,.cells [.ptr 5 0] false),(0,.cells [.mp 1] false),(1,.map tG true .bool false),(5,.cells [.mp 7,.mp 8,.mp 9,.mp 10] false),(6,.map .str false .unit true),(7,.map .str false tG true),(8,.map .str false (.list .str) false),(9,.map .str false .bool false),(10,.map .str false .bool false)] [.slot 3,.slot 4,.part 15 0,.cell 2 0,.cell 3 0,.cell 5 0,.cell 5 1,.cell 5 2,.cell 5 3] []
@[reducible] def YH:aZ:=[(.normal,az.mk [(4,.c (.ptr 2 0))] [(2,.cells [.mp 3] false),(0,.cells [.mp 1] false),(1,.map tG true .bool false),(3,.map .str false .unit true)] [.slot 4,.cell 2 0] [])]
noncomputable def IE:D prog 34 none 13:=dO [.l KJ] (kd prog f106) 0
theorem Ta:cN prog f106=some ⟨34,2,(IE).er,[],[]⟩:=by kernel_rfl
noncomputable def gH45_0:(List ((GG)×Bool))×(List (ByteArray×Unit))×cK×cM×aS×aS×Unit→bW (((List ((GG)×Bool))×(List (ByteArray×Unit))×Unit)):=fun (m1,m6,m7,m8,m9,m10,_) =>
 .bd (FH95 m7) fun y3 =>
 .bd (FH81 y3.1) fun y4 =>
 .bd (.it gH45_0i_0 (y4.1,((y4.1:Nat):Int),(0:Int),y4.2.1,y4.2.2.1,m8,m9,m10,m1,m6,())) fun z8 =>
 .ret ((z8.1,z8.2.2.2.2.2.1,()))
noncomputable def YI:gp prog 37 none 2:=rH mixed xZ uo [0,1] rfl YG YH ( .t 15) [16,17] rfl (IC).er (ID).er 106 func106 (Ta) (enters_of func106 rfl rfl) 13 rfl (IE) rfl (fun x=>aq (gH45_0 x)) (fun x=>by kernel_rfl)
noncomputable def VA:D prog 37 none 2:=dO [.r YI] (kd prog f45) 0
noncomputable def FH45 (m1:List ((GG)×Bool)):bW (Nat×List ByteArray×(List ((GG)×Bool))×Unit) :=
 .bd (FH54 m1) fun y0 =>
 .br y0.1 (
 .ret ((0:Nat),[],y0.2.1,())) (
 .bd (FH66 y0.2.1) fun y1 =>
 .bd (FH79 y1.2.1 y1.2.2.1 y1.2.2.2.1 y1.2.2.2.2.1) fun y2 =>
 .bd (gH45_0 (y1.1,[],y2.1,y2.2.1,y2.2.2.1,y2.2.2.2.1,())) fun z9 =>
 .bd (FH82 z9.2.1) fun K7 =>
 .bd (FH81_v1 K7.1) fun YJ =>
 .ret (YJ.1,YJ.2.1,z9.1,()))
theorem Tb:cN prog f45=some ⟨37,1,VA.er,[.t 2],[some (.list .str)]⟩:=by kernel_rfl
noncomputable def ht45:Ht:=⟨45,pH45,qH45,(fun x=>aq (FH45 x.1))⟩
theorem Tc:ht45.Ok prog:=bO mixed sg rfl func45 Tb (enters_of func45 rfl rfl) VA (by kernel_rfl) rfl rfl ⟨_,rfl⟩ rfl (pre:=[0,1]) rfl (fun x=>by kernel_rfl)

/- 17 -/
noncomputable def cx17:Cx:=(aL [ct46,YD,ct27] [XF,Yn,Yy,ht37,ht25,ht45,Yo,XH])
theorem Td:cx17.Ok prog:=ax ⟨Rx,Iy,S2,trivial⟩ ⟨⟨HZ,rfl⟩,⟨Im,rfl⟩,⟨It,rfl⟩,⟨SX,rfl⟩,⟨SZ,rfl⟩,⟨Tc,rfl⟩,⟨Io,rfl⟩,⟨H8,rfl⟩,trivial⟩
noncomputable def dd17:D prog 130 none 0:=dO [] (kd prog f17) 0
noncomputable def F17:bW (Bool×Unit) :=
 .bd (F46) fun y0 =>
 .nd (decide ((0:Int)≤(0:Int))) <|
 .nd (decide ((0:Int)≤(6:Int))) <|
 .nd (decide ((6:Int)≤(((y0.1).length:Nat):Int))) <|
 .bd (FH29 (((y0.1).drop (Int.toNat (0:Int))).take ((Int.toNat (6:Int)) - (Int.toNat (0:Int))))) fun y1 =>
 .bd (F46) fun y2 =>
 .nd (decide ((0:Int)≤(0:Int))) <|
 .nd (decide ((0:Int)≤(7:Int))) <|
 .nd (decide ((7:Int)≤(((y2.1).length:Nat):Int))) <|
 .bd (FH29 (((y2.1).drop (Int.toNat (0:Int))).take ((Int.toNat (7:Int)) - (Int.toNat (0:Int))))) fun y3 =>
 .bd (F46) fun y4 =>
 .bd (FH29 y4.1) fun y5 =>
 .bd (FH33 (bs [116,49]) y1.1) fun y6 =>
 .bd (FH23 (bs [97,110,97]) y6.2.2.2.1) fun y7 =>
 .bd (FH23 (bs [97,110,97]) y3.1) fun y8 =>
 .bd (FH37 y7.2.2.2.1) fun y9 =>
 .bd (FH25 (bs [99,121]) y5.1) fun K7 =>
 .br (y6.2.1==(0:Int)) (
 .br (y7.2.1==(0:Int)) (
 .br (y8.2.1==(0:Int)) (
 .br (y9.2.1==(0:Int)) (
 .br (K7.2.1==(0:Int)) (
 .bd (F36 (((y6.2.2.1).drop (0:Nat)).take y6.1) (((((bs [99,50])::((bs [99,51])::[]))).drop (0:Nat)).take (2:Nat))) fun YJ =>
 .br YJ.1 (
 .bd (F27 (((y7.2.2.1).drop (0:Nat)).take y7.1) (((((0:Int)::((41:Int)::[]))).drop (0:Nat)).take (2:Nat))) fun YK =>
 .br YK.1 (
 .bd (F27 (((y8.2.2.1).drop (0:Nat)).take y8.1) (((((41:Int)::[])).drop (0:Nat)).take (1:Nat))) fun Vt =>
 .br Vt.1 (
 .br ((y9.1.1==(65:Int))&&((y9.1.2==(66:Int))&&true)) (
 .br ((K7.1.1==(0:Int))&&((K7.1.2==(40:Int))&&true)) (
 .bd (FH45 y9.2.2.1) fun SJ =>
 .bd (F36 (((SJ.2.1).drop (0:Nat)).take SJ.1) (((((bs [97,110,97])::((bs [98,101,110])::((bs [99,121])::[])))).drop (0:Nat)).take (3:Nat))) fun y15 =>
 .br y15.1 (
 .bd (FH40 (bs [116,49]) (3:Int) SJ.2.2.1) fun y16 =>
 .br y16.1 (
 .bd (FH40 (bs [116,50]) (4:Int) y16.2.1) fun y17 =>
 .br y17.1 (
 .bd (FH40 (bs [99,51]) (5:Int) y17.2.1) fun y18 =>
 .br y18.1 (
 .bd (FH40 (bs [119,49]) (1:Int) y18.2.1) fun y19 =>
 .br y19.1 (
 .bd (FH40 (bs [99,50]) (2:Int) y8.2.2.2.1) fun y20 =>
 .br y20.1 (
 .bd (FH40 (bs [99,51]) (4:Int) y20.2.1) fun y21 =>
 .br y21.1 (
 .bd (FH40 (bs [99,50]) (5:Int) K7.2.2.1) fun y22 =>
 .br y22.1 (
 .bd (FH47 y22.2.1) fun y23 =>
 .ret ((((y23.1:Nat):Int)==(8:Int)),())) (
 .ret (false,()))) (
 .ret (false,()))) (
 .ret (false,()))) (
 .ret (false,()))) (
 .ret (false,()))) (
 .ret (false,()))) (
 .ret (false,()))) (
 .ret (false,()))) (
 .ret (false,()))) (
 .ret (false,()))) (
 .ret (false,()))) (
 .ret (false,()))) (
 .ret (false,()))) (
 .ret (false,()))) (
 .ret (false,()))) (
 .ret (false,()))) (
 .ret (false,()))) (
 .ret (false,()))
theorem YL:cN prog f17=some ⟨130,0,dd17.er,[.t 0],[some .bool]⟩:=by kernel_rfl
noncomputable def ct17:Ct:=⟨17,[],.c (.hole .bool),fun x=>aq (F17)⟩
theorem Te:ct17.Ok prog:=cQ mixed Td func17 YL (enters_of func17 rfl rfl) dd17 (by kernel_rfl) rfl (fun x=>by kernel_rfl)

/- 43 -/
noncomputable def cx43:Cx:=(aL [] [])
theorem Tf:cx43.Ok prog:=ax trivial trivial
noncomputable def dd43:D prog 11 none 0:=dO [] (kd prog f43) 0
noncomputable def F43 (a0:Int) (a1:Int):bW (ByteArray×Unit) :=
 .nd (gH .u8 a1) <|
 .nd (gH .u8 (a0+a1)) <|
 .ret ((uu (((((a0+a1)::[])).drop (0:Nat)).take (1:Nat))),())
theorem YM:cN prog f43=some ⟨11,2,dd43.er,[.t 4],[some .str]⟩:=by kernel_rfl
noncomputable def YN:Ct:=⟨43,[.c (.hole (.int .u8)),hI],.c (.hole .str),fun x=>aq (F43 x.1 x.2.1)⟩
theorem IF:YN.Ok prog:=cQ mixed Tf func43 YM (enters_of func43 rfl rfl) dd43 (by kernel_rfl) rfl (fun x=>by kernel_rfl)

/- 44 -/
noncomputable def cx44:Cx:=(aL [YN] [])
theorem Tg:cx44.Ok prog:=ax ⟨IF,trivial⟩ trivial
noncomputable def dd44:D prog 52 none 0:=dO [] (kd prog f44) 0
noncomputable def F44 (a0:Int×Int×Int×Int):bW ((GG)×Unit) :=
 .nd (decide ((0:Nat)<((a0.1::(a0.2.1::(a0.2.2.1::(a0.2.2.2::[]))))).length)) <|
 .ni (((a0.1::(a0.2.1::(a0.2.2.1::(a0.2.2.2::[]))))).getD (0:Nat) (0:Int)) <|
 .nd (!((8:Int)==(0:Int))) <|
 .nd (decide ((1:Nat)<((a0.1::(a0.2.1::(a0.2.2.1::(a0.2.2.2::[]))))).length)) <|
 .ni (((a0.1::(a0.2.1::(a0.2.2.1::(a0.2.2.2::[]))))).getD (1:Nat) (0:Int)) <|
 .nd (!((8:Int)==(0:Int))) <|
 .br ((Int.tmod (((a0.1::(a0.2.1::(a0.2.2.1::(a0.2.2.2::[]))))).getD (0:Nat) (0:Int)) (8:Int))==(Int.tmod (((a0.1::(a0.2.1::(a0.2.2.1::(a0.2.2.2::[]))))).getD (1:Nat) (0:Int)) (8:Int))) (
 .ni ((Int.tmod (((a0.1::(a0.2.1::(a0.2.2.1::(a0.2.2.2::[]))))).getD (1:Nat) (0:Int)) (8:Int))+(1:Int)) <|
 .nd (!((8:Int)==(0:Int))) <|
 .bd (F43 (97:Int) (Int.tmod (((a0.1::(a0.2.1::(a0.2.2.1::(a0.2.2.2::[]))))).getD (0:Nat) (0:Int)) (8:Int))) fun y0 =>
 .bd (F43 (97:Int) (Int.tmod ((Int.tmod (((a0.1::(a0.2.1::(a0.2.2.1::(a0.2.2.2::[]))))).getD (1:Nat) (0:Int)) (8:Int))+(1:Int)) (8:Int))) fun y1 =>
 .nd (decide ((2:Nat)<((a0.1::(a0.2.1::(a0.2.2.1::(a0.2.2.2::[]))))).length)) <|
 .ni (((a0.1::(a0.2.1::(a0.2.2.1::(a0.2.2.2::[]))))).getD (2:Nat) (0:Int)) <|
 .nd (!((3:Int)==(0:Int))) <|
 .bd (F43 (120:Int) (Int.tmod (((a0.1::(a0.2.1::(a0.2.2.1::(a0.2.2.2::[]))))).getD (2:Nat) (0:Int)) (3:Int))) fun y2 =>
 .nd (decide ((2:Nat)<((a0.1::(a0.2.1::(a0.2.2.1::(a0.2.2.2::[]))))).length)) <|
 .ni (((a0.1::(a0.2.1::(a0.2.2.1::(a0.2.2.2::[]))))).getD (2:Nat) (0:Int)) <|
 .nd (!((3:Int)==(0:Int))) <|
 .ni (Int.tdiv (((a0.1::(a0.2.1::(a0.2.2.1::(a0.2.2.2::[]))))).getD (2:Nat) (0:Int)) (3:Int)) <|
 .nd (!((12:Int)==(0:Int))) <|
 .ni ((Int.tmod (Int.tdiv (((a0.1::(a0.2.1::(a0.2.2.1::(a0.2.2.2::[]))))).getD (2:Nat) (0:Int)) (3:Int)) (12:Int)) - (3:Int)) <|
 .nd (decide ((3:Nat)<((a0.1::(a0.2.1::(a0.2.2.1::(a0.2.2.2::[]))))).length)) <|
 .ni (((a0.1::(a0.2.1::(a0.2.2.1::(a0.2.2.2::[]))))).getD (3:Nat) (0:Int)) <|
 .nd (!((8:Int)==(0:Int))) <|
 .br ((Int.tmod (((a0.1::(a0.2.1::(a0.2.2.1::(a0.2.2.2::[]))))).getD (3:Nat) (0:Int)) (8:Int))==(0:Int)) (
 .ret ((y0.1,(1:Int),(bs []),y2.1,((Int.tmod (Int.tdiv (((a0.1::(a0.2.1::(a0.2.2.1::(a0.2.2.2::[]))))).getD (2:Nat) (0:Int)) (3:Int)) (12:Int)) - (3:Int))),())) (
 .br ((Int.tmod (((a0.1::(a0.2.1::(a0.2.2.1::(a0.2.2.2::[]))))).getD (3:Nat) (0:Int)) (8:Int))==(1:Int)) (
 .ret ((y0.1,(1:Int),(bs []),y2.1,((Int.tmod (Int.tdiv (((a0.1::(a0.2.1::(a0.2.2.1::(a0.2.2.2::[]))))).getD (2:Nat) (0:Int)) (3:Int)) (12:Int)) - (3:Int))),())) (
 .br ((Int.tmod (((a0.1::(a0.2.1::(a0.2.2.1::(a0.2.2.2::[]))))).getD (3:Nat) (0:Int)) (8:Int))==(2:Int)) (
 .ret ((y0.1,(1:Int),(bs []),y2.1,((Int.tmod (Int.tdiv (((a0.1::(a0.2.1::(a0.2.2.1::(a0.2.2.2::[]))))).getD (2:Nat) (0:Int)) (3:Int)) (12:Int)) - (3:Int))),())) (
 .br ((Int.tmod (((a0.1::(a0.2.1::(a0.2.2.1::(a0.2.2.2::[]))))).getD (3:Nat) (0:Int)) (8:Int))==(3:Int)) (
 .ret ((y0.1,(3:Int),y1.1,(bs []),(0:Int)),())) (
 .ret ((y0.1,(2:Int),y1.1,y2.1,((Int.tmod (Int.tdiv (((a0.1::(a0.2.1::(a0.2.2.1::(a0.2.2.2::[]))))).getD (2:Nat) (0:Int)) (3:Int)) (12:Int)) - (3:Int))),())))))) (
 .bd (F43 (97:Int) (Int.tmod (((a0.1::(a0.2.1::(a0.2.2.1::(a0.2.2.2::[]))))).getD (0:Nat) (0:Int)) (8:Int))) fun y3 =>
 .bd (F43 (97:Int) (Int.tmod (((a0.1::(a0.2.1::(a0.2.2.1::(a0.2.2.2::[]))))).getD (1:Nat) (0:Int)) (8:Int))) fun y4 =>
 .nd (decide ((2:Nat)<((a0.1::(a0.2.1::(a0.2.2.1::(a0.2.2.2::[]))))).length)) <|
 .ni (((a0.1::(a0.2.1::(a0.2.2.1::(a0.2.2.2::[]))))).getD (2:Nat) (0:Int)) <|
 .nd (!((3:Int)==(0:Int))) <|
 .bd (F43 (120:Int) (Int.tmod (((a0.1::(a0.2.1::(a0.2.2.1::(a0.2.2.2::[]))))).getD (2:Nat) (0:Int)) (3:Int))) fun y5 =>
 .nd (decide ((2:Nat)<((a0.1::(a0.2.1::(a0.2.2.1::(a0.2.2.2::[]))))).length)) <|
 .ni (((a0.1::(a0.2.1::(a0.2.2.1::(a0.2.2.2::[]))))).getD (2:Nat) (0:Int)) <|
 .nd (!((3:Int)==(0:Int))) <|
 .ni (Int.tdiv (((a0.1::(a0.2.1::(a0.2.2.1::(a0.2.2.2::[]))))).getD (2:Nat) (0:Int)) (3:Int)) <|
 .nd (!((12:Int)==(0:Int))) <|
 .ni ((Int.tmod (Int.tdiv (((a0.1::(a0.2.1::(a0.2.2.1::(a0.2.2.2::[]))))).getD (2:Nat) (0:Int)) (3:Int)) (12:Int)) - (3:Int)) <|
 .nd (decide ((3:Nat)<((a0.1::(a0.2.1::(a0.2.2.1::(a0.2.2.2::[]))))).length)) <|
 .ni (((a0.1::(a0.2.1::(a0.2.2.1::(a0.2.2.2::[]))))).getD (3:Nat) (0:Int)) <|
 .nd (!((8:Int)==(0:Int))) <|
 .br ((Int.tmod (((a0.1::(a0.2.1::(a0.2.2.1::(a0.2.2.2::[]))))).getD (3:Nat) (0:Int)) (8:Int))==(0:Int)) (
 .ret ((y3.1,(1:Int),(bs []),y5.1,((Int.tmod (Int.tdiv (((a0.1::(a0.2.1::(a0.2.2.1::(a0.2.2.2::[]))))).getD (2:Nat) (0:Int)) (3:Int)) (12:Int)) - (3:Int))),())) (
 .br ((Int.tmod (((a0.1::(a0.2.1::(a0.2.2.1::(a0.2.2.2::[]))))).getD (3:Nat) (0:Int)) (8:Int))==(1:Int)) (
 .ret ((y3.1,(1:Int),(bs []),y5.1,((Int.tmod (Int.tdiv (((a0.1::(a0.2.1::(a0.2.2.1::(a0.2.2.2::[]))))).getD (2:Nat) (0:Int)) (3:Int)) (12:Int)) - (3:Int))),())) (
 .br ((Int.tmod (((a0.1::(a0.2.1::(a0.2.2.1::(a0.2.2.2::[]))))).getD (3:Nat) (0:Int)) (8:Int))==(2:Int)) (
 .ret ((y3.1,(1:Int),(bs []),y5.1,((Int.tmod (Int.tdiv (((a0.1::(a0.2.1::(a0.2.2.1::(a0.2.2.2::[]))))).getD (2:Nat) (0:Int)) (3:Int)) (12:Int)) - (3:Int))),())) (
 .br ((Int.tmod (((a0.1::(a0.2.1::(a0.2.2.1::(a0.2.2.2::[]))))).getD (3:Nat) (0:Int)) (8:Int))==(3:Int)) (
 .ret ((y3.1,(3:Int),y4.1,(bs []),(0:Int)),())) (
 .ret ((y3.1,(2:Int),y4.1,y5.1,((Int.tmod (Int.tdiv (((a0.1::(a0.2.1::(a0.2.2.1::(a0.2.2.2::[]))))).getD (2:Nat) (0:Int)) (3:Int)) (12:Int)) - (3:Int))),()))))))
theorem YO:cN prog f44=some ⟨52,1,dd44.er,[.cell 2 true 5],[some tG]⟩:=by kernel_rfl
noncomputable def ct44:Ct:=⟨44,[.c (.hole (.prod (.int .u8) (.prod (.int .u8) (.prod (.int .u8) (.int .u8)))))],.c (.hole tG),fun x=>aq (F44 x.1)⟩
theorem Th:ct44.Ok prog:=cQ mixed Tg func44 YO (enters_of func44 rfl rfl) dd44 (by kernel_rfl) rfl (fun x=>by kernel_rfl)

/- 28 -/
noncomputable def cx28:Cx:=(aL [ct44] [])
theorem IG:cx28.Ok prog:=ax ⟨Th,trivial⟩ trivial
@[reducible] def adj:az:=az.mk [(0,.c (.hole (.list (.prod (.int .u8) (.prod (.int .u8) (.prod (.int .u8) (.int .u8))))))),(3,.c (.cC 0 tG)),(4,hI)] [(0,.arr tG false)] [.slot 3] []
@[reducible] def adk:aZ:=[(.exit 0,az.mk [(3,.c (.cC 0 tG))] [(0,.arr tG false)] [.slot 3] [])]
noncomputable def adl:D prog 24 none 0:=dO [] (pick (kd prog f28) [(0,false)]) 0
noncomputable def g28_0:(List (Int×Int×Int×Int))×Nat×Int×(List (GG))×Unit→bW (((List (Int×Int×Int×Int))×Nat×Int×(List (GG))×Unit) ⊕ ((Nat×(List (GG))×Unit))):=fun (v0,Av,v4,b0,_) =>
 .br (decide (v4<(((v0).length:Nat):Int))) (
 .br (decide (v4<(10:Int))) (
 .nb v4 (((v0).length:Nat):Int) <|
 .bd (F44 (((v0).getD (Int.toNat v4) ((0:Int),(0:Int),(0:Int),(0:Int))).1,((v0).getD (Int.toNat v4) ((0:Int),(0:Int),(0:Int),(0:Int))).2.1,((v0).getD (Int.toNat v4) ((0:Int),(0:Int),(0:Int),(0:Int))).2.2.1,((v0).getD (Int.toNat v4) ((0:Int),(0:Int),(0:Int),(0:Int))).2.2.2)) fun y0 =>
 .nd (decide ((Av+((((((y0.1.1,y0.1.2.1,y0.1.2.2.1,y0.1.2.2.2.1,y0.1.2.2.2.2)::[])).drop (0:Nat)).take (1:Nat))).length)<cg)) <|
 .ni (v4+(1:Int)) <|
 .ret (.inl (v0,(Av+((((((y0.1.1,y0.1.2.1,y0.1.2.2.1,y0.1.2.2.2.1,y0.1.2.2.2.2)::[])).drop (0:Nat)).take (1:Nat))).length),(v4+(1:Int)),((((b0).drop (0:Nat)).take Av)++(((((y0.1.1,y0.1.2.1,y0.1.2.2.1,y0.1.2.2.2.1,y0.1.2.2.2.2)::[])).drop (0:Nat)).take (1:Nat))),()))) (
 .ret (.inr (Av,b0,())))) (
 .ret (.inr (Av,b0,())))
noncomputable def adm:cm prog 24 none 0:=bN mixed cx28 IG [] rfl adj adk rfl (adl) (fun x=>aq (g28_0 x)) (fun x=>by kernel_rfl)
noncomputable def dd28:D prog 24 none 0:=dO [.l adm] (kd prog f28) 0
noncomputable def F28 (a0:List (Int×Int×Int×Int)):bW ((List (GG))×Unit) :=
 .bd (.it g28_0 (a0,(0:Nat),(0:Int),[],())) fun z1 =>
 .ret ((((z1.2.1).drop (0:Nat)).take z1.1),())
theorem YP:cN prog f28=some ⟨24,1,dd28.er,[.t 2],[some (.list tG)]⟩:=by kernel_rfl
noncomputable def ct28:Ct:=⟨28,[.c (.hole (.list (.prod (.int .u8) (.prod (.int .u8) (.prod (.int .u8) (.int .u8))))))],.c (.hole (.list tG)),fun x=>aq (F28 x.1)⟩
theorem Ti:ct28.Ok prog:=cQ mixed IG func28 YP (enters_of func28 rfl rfl) dd28 (by kernel_rfl) rfl (fun x=>by kernel_rfl)

/- 31 -/
noncomputable def cx31:Cx:=(aL [] [])
theorem Tj:cx31.Ok prog:=ax trivial trivial
noncomputable def dd31:D prog 2 none 0:=dO [] (kd prog f31) 0
noncomputable def F31:bW (List ByteArray×Unit) :=
 .ret ((((((bs [97])::((bs [98])::((bs [99])::((bs [100])::((bs [101])::((bs [102])::((bs [103])::((bs [104])::[]))))))))).drop (0:Nat)).take (8:Nat)),())
theorem YQ:cN prog f31=some ⟨2,0,dd31.er,[.t 0],[some (.list .str)]⟩:=by kernel_rfl
noncomputable def ct31:Ct:=⟨31,[],.c (.hole (.list .str)),fun x=>aq (F31)⟩
theorem Tl:ct31.Ok prog:=cQ mixed Tj func31 YQ (enters_of func31 rfl rfl) dd31 (by kernel_rfl) rfl (fun x=>by kernel_rfl)

/- 30 -/
noncomputable def YR:Cx:=(aL [ct31] [])
theorem B9:YR.Ok prog:=ax ⟨Tl,trivial⟩ trivial
@[reducible] def adr:az:=az.mk [(0,.c (.hole (.list tG))),(3,.c (.cC 0 tG)),(5,.c (.hole .str)),(6,.c (.ptr 1 0)),(9,.c (.hole (.list .str))),(10,hI),(11,hI),(15,.c (.hole (.list tG))),(16,hI),(17,hI)] [(0,.arr tG false),(1,.cells [.hole .str,.hole tI,.hole .str,.hole .str,.hole tI] false)] [.slot 3,.slot 6] []
@[reducible] def ads:aZ:=[(.exit 2,az.mk [(0,.c (.hole (.list tG))),(3,.c (.cC 0 tG)),(6,.c (.ptr 1 0)),(9,.c (.hole (.list .str))),(10,hI),(11,hI)] [(0,.arr tG false),(1,.cells [.hole .str,.hole tI,.hole .str,.hole .str,.hole tI] false)] [.slot 3,.slot 6] [])]
noncomputable def adt:D prog 90 none 0:=dO [] (pick (kd prog f30) [(0,false),(0,false)]) 0
noncomputable def g30_1:(List (GG))×Nat×ByteArray×List ByteArray×Int×Int×(List (GG))×Int×Int×(List (GG))×ByteArray×Int×ByteArray×ByteArray×Int×Unit→bW (((List (GG))×Nat×ByteArray×List ByteArray×Int×Int×(List (GG))×Int×Int×(List (GG))×ByteArray×Int×ByteArray×ByteArray×Int×Unit) ⊕ (((List (GG))×Nat×List ByteArray×Int×Int×(List (GG))×ByteArray×Int×ByteArray×ByteArray×Int×Unit))):=fun (v0,Av,v5,v9,v10,v11,aI,yD,v17,b0,iK,tE,uM,uN,yb,_) =>
 .br (decide (v17<yD)) (
 .nb v17 (((aI).length:Nat):Int) <|
 .br (seq ((aI).getD (Int.toNat v17) ((bs []),(0:Int),(bs []),(bs []),(0:Int))).1 v5) (
 .br (tE==(0:Int)) (
 .ni (v17+(1:Int)) <|
 .ret (.inl (v0,Av,v5,v9,v10,v11,aI,yD,(v17+(1:Int)),b0,((aI).getD (Int.toNat v17) ((bs []),(0:Int),(bs []),(bs []),(0:Int))).1,((aI).getD (Int.toNat v17) ((bs []),(0:Int),(bs []),(bs []),(0:Int))).2.1,((aI).getD (Int.toNat v17) ((bs []),(0:Int),(bs []),(bs []),(0:Int))).2.2.1,((aI).getD (Int.toNat v17) ((bs []),(0:Int),(bs []),(bs []),(0:Int))).2.2.2.1,((aI).getD (Int.toNat v17) ((bs []),(0:Int),(bs []),(bs []),(0:Int))).2.2.2.2,()))) (
 .br (decide (((aI).getD (Int.toNat v17) ((bs []),(0:Int),(bs []),(bs []),(0:Int))).2.1<tE)) (
 .ni (v17+(1:Int)) <|
 .ret (.inl (v0,Av,v5,v9,v10,v11,aI,yD,(v17+(1:Int)),b0,((aI).getD (Int.toNat v17) ((bs []),(0:Int),(bs []),(bs []),(0:Int))).1,((aI).getD (Int.toNat v17) ((bs []),(0:Int),(bs []),(bs []),(0:Int))).2.1,((aI).getD (Int.toNat v17) ((bs []),(0:Int),(bs []),(bs []),(0:Int))).2.2.1,((aI).getD (Int.toNat v17) ((bs []),(0:Int),(bs []),(bs []),(0:Int))).2.2.2.1,((aI).getD (Int.toNat v17) ((bs []),(0:Int),(bs []),(bs []),(0:Int))).2.2.2.2,()))) (
 .br (((aI).getD (Int.toNat v17) ((bs []),(0:Int),(bs []),(bs []),(0:Int))).2.1==tE) (
 .br (slt ((aI).getD (Int.toNat v17) ((bs []),(0:Int),(bs []),(bs []),(0:Int))).2.2.1 uM) (
 .ni (v17+(1:Int)) <|
 .ret (.inl (v0,Av,v5,v9,v10,v11,aI,yD,(v17+(1:Int)),b0,((aI).getD (Int.toNat v17) ((bs []),(0:Int),(bs []),(bs []),(0:Int))).1,((aI).getD (Int.toNat v17) ((bs []),(0:Int),(bs []),(bs []),(0:Int))).2.1,((aI).getD (Int.toNat v17) ((bs []),(0:Int),(bs []),(bs []),(0:Int))).2.2.1,((aI).getD (Int.toNat v17) ((bs []),(0:Int),(bs []),(bs []),(0:Int))).2.2.2.1,((aI).getD (Int.toNat v17) ((bs []),(0:Int),(bs []),(bs []),(0:Int))).2.2.2.2,()))) (
 .br (seq ((aI).getD (Int.toNat v17) ((bs []),(0:Int),(bs []),(bs []),(0:Int))).2.2.1 uM) (
 .br (slt ((aI).getD (Int.toNat v17) ((bs []),(0:Int),(bs []),(bs []),(0:Int))).2.2.2.1 uN) (
 .ni (v17+(1:Int)) <|
 .ret (.inl (v0,Av,v5,v9,v10,v11,aI,yD,(v17+(1:Int)),b0,((aI).getD (Int.toNat v17) ((bs []),(0:Int),(bs []),(bs []),(0:Int))).1,((aI).getD (Int.toNat v17) ((bs []),(0:Int),(bs []),(bs []),(0:Int))).2.1,((aI).getD (Int.toNat v17) ((bs []),(0:Int),(bs []),(bs []),(0:Int))).2.2.1,((aI).getD (Int.toNat v17) ((bs []),(0:Int),(bs []),(bs []),(0:Int))).2.2.2.1,((aI).getD (Int.toNat v17) ((bs []),(0:Int),(bs []),(bs []),(0:Int))).2.2.2.2,()))) (
 .br (seq ((aI).getD (Int.toNat v17) ((bs []),(0:Int),(bs []),(bs []),(0:Int))).2.2.2.1 uN) (
 .br (decide (((aI).getD (Int.toNat v17) ((bs []),(0:Int),(bs []),(bs []),(0:Int))).2.2.2.2<yb)) (
 .ni (v17+(1:Int)) <|
 .ret (.inl (v0,Av,v5,v9,v10,v11,aI,yD,(v17+(1:Int)),b0,((aI).getD (Int.toNat v17) ((bs []),(0:Int),(bs []),(bs []),(0:Int))).1,((aI).getD (Int.toNat v17) ((bs []),(0:Int),(bs []),(bs []),(0:Int))).2.1,((aI).getD (Int.toNat v17) ((bs []),(0:Int),(bs []),(bs []),(0:Int))).2.2.1,((aI).getD (Int.toNat v17) ((bs []),(0:Int),(bs []),(bs []),(0:Int))).2.2.2.1,((aI).getD (Int.toNat v17) ((bs []),(0:Int),(bs []),(bs []),(0:Int))).2.2.2.2,()))) (
 .ni (v17+(1:Int)) <|
 .ret (.inl (v0,Av,v5,v9,v10,v11,aI,yD,(v17+(1:Int)),b0,iK,tE,uM,uN,yb,())))) (
 .ni (v17+(1:Int)) <|
 .ret (.inl (v0,Av,v5,v9,v10,v11,aI,yD,(v17+(1:Int)),b0,iK,tE,uM,uN,yb,()))))) (
 .ni (v17+(1:Int)) <|
 .ret (.inl (v0,Av,v5,v9,v10,v11,aI,yD,(v17+(1:Int)),b0,iK,tE,uM,uN,yb,()))))) (
 .ni (v17+(1:Int)) <|
 .ret (.inl (v0,Av,v5,v9,v10,v11,aI,yD,(v17+(1:Int)),b0,iK,tE,uM,uN,yb,())))))) (
 .ni (v17+(1:Int)) <|
 .ret (.inl (v0,Av,v5,v9,v10,v11,aI,yD,(v17+(1:Int)),b0,iK,tE,uM,uN,yb,())))) (
 .ret (.inr (v0,Av,v9,v10,v11,b0,iK,tE,uM,uN,yb,())))
noncomputable def adu:cm prog 90 none 0:=bN mixed YR B9 [] rfl adr ads rfl (adt) (fun x=>aq (g30_1 x)) (fun x=>by kernel_rfl)
@[reducible] def adv:az:=az.mk [(0,.c (.hole (.list tG))),(3,.c (.cC 0 tG)),(9,.c (.hole (.list .str))),(10,hI),(11,hI)] [(0,.arr tG false)] [.slot 3] []
@[reducible] def adw:aZ:=[(.exit 0,az.mk [(3,.c (.cC 0 tG))] [(0,.arr tG false)] [.slot 3] [])]
noncomputable def adx:D prog 90 none 0:=dO [.l adu] (pick (kd prog f30) [(0,false)]) 0
noncomputable def g30_0:(List (GG))×Nat×List ByteArray×Int×Int×(List (GG))×Unit→bW (((List (GG))×Nat×List ByteArray×Int×Int×(List (GG))×Unit) ⊕ ((Nat×(List (GG))×Unit))):=fun (v0,Av,v9,v10,v11,b0,_) =>
 .br (decide (v11<v10)) (
 .nb v11 (((v9).length:Nat):Int) <|
 .bd (.it g30_1 (v0,Av,((v9).getD (Int.toNat v11) (bs [])),v9,v10,v11,v0,(((v0).length:Nat):Int),(0:Int),b0,(bs []),(0:Int),(bs []),(bs []),(0:Int),())) fun z1 =>
 .br (decide ((0:Int)<z1.2.2.2.2.2.2.2.1)) (
 .nd (decide ((z1.2.1+((((((z1.2.2.2.2.2.2.1,z1.2.2.2.2.2.2.2.1,z1.2.2.2.2.2.2.2.2.1,z1.2.2.2.2.2.2.2.2.2.1,z1.2.2.2.2.2.2.2.2.2.2.1)::[])).drop (0:Nat)).take (1:Nat))).length)<cg)) <|
 .ni (z1.2.2.2.2.1+(1:Int)) <|
 .ret (.inl (z1.1,(z1.2.1+((((((z1.2.2.2.2.2.2.1,z1.2.2.2.2.2.2.2.1,z1.2.2.2.2.2.2.2.2.1,z1.2.2.2.2.2.2.2.2.2.1,z1.2.2.2.2.2.2.2.2.2.2.1)::[])).drop (0:Nat)).take (1:Nat))).length),z1.2.2.1,z1.2.2.2.1,(z1.2.2.2.2.1+(1:Int)),((((z1.2.2.2.2.2.1).drop (0:Nat)).take z1.2.1)++(((((z1.2.2.2.2.2.2.1,z1.2.2.2.2.2.2.2.1,z1.2.2.2.2.2.2.2.2.1,z1.2.2.2.2.2.2.2.2.2.1,z1.2.2.2.2.2.2.2.2.2.2.1)::[])).drop (0:Nat)).take (1:Nat))),()))) (
 .ni (z1.2.2.2.2.1+(1:Int)) <|
 .ret (.inl (z1.1,z1.2.1,z1.2.2.1,z1.2.2.2.1,(z1.2.2.2.2.1+(1:Int)),z1.2.2.2.2.2.1,())))) (
 .ret (.inr (Av,b0,())))
noncomputable def ady:cm prog 90 none 0:=bN mixed YR B9 [] rfl adv adw rfl (adx) (fun x=>aq (g30_0 x)) (fun x=>by kernel_rfl)
noncomputable def dd30:D prog 90 none 0:=dO [.l ady] (kd prog f30) 0
noncomputable def F30 (a0:List (GG)):bW ((List (GG))×Unit) :=
 .bd (F31) fun y0 =>
 .bd (.it g30_0 (a0,(0:Nat),y0.1,(((y0.1).length:Nat):Int),(0:Int),[],())) fun z2 =>
 .ret ((((z2.2.1).drop (0:Nat)).take z2.1),())
theorem YS:cN prog f30=some ⟨90,1,dd30.er,[.t 2],[some (.list tG)]⟩:=by kernel_rfl
noncomputable def ct30:Ct:=⟨30,[.c (.hole (.list tG))],.c (.hole (.list tG)),fun x=>aq (F30 x.1)⟩
theorem Tm:ct30.Ok prog:=cQ mixed B9 func30 YS (enters_of func30 rfl rfl) dd30 (by kernel_rfl) rfl (fun x=>by kernel_rfl)

end Go.Proofs.Tryz

