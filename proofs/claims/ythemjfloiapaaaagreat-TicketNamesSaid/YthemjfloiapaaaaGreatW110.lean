/- Functions of the program as functions of data, part 1; printed by a program of mine. -/
import Derived.Test.YthemjfloiapaaaaGreatP11
import Derived.Test.YthemjfloiapaaaaGreatProg
set_option linter.unusedSectionVars false
set_option linter.unusedVariables false
set_option linter.unusedSimpArgs false
open Go.AM
namespace Go.Proofs.Tryz
set_option maxRecDepth 100000
set_option synthInstance.maxSize 4000
set_option synthInstance.maxHeartbeats 400000
set_option synthInstance.maxSize 4000
set_option synthInstance.maxHeartbeats 400000
theorem mixed : prog.follows .mixedOrders = true := by kernel_rfl
@[reducible] def tG : Ty := .prod .str (.prod tI (.prod .str (.prod .str tI)))
abbrev GG := ByteArray × Int × ByteArray × ByteArray × Int
abbrev Tbk := List (GG × Bool)
abbrev aO := List (ByteArray × Bool)
abbrev cz := List (ByteArray × List ByteArray)
abbrev cg := List (ByteArray × GG)
abbrev Tlg := List GG
@[reducible] def oo (n : Nat) (i : I) : eA := .op (some n) none i
@[reducible] def om (n k : Nat) : eA := .op (some n) none (.mv (.t k))
@[reducible] def ol (n k : Nat) : eA := .op (some n) none (.load false 1 (.t k))
@[reducible] def og (n k : Nat) (b : Bool) (i : I) : eA := .op (some n) (some (k, b)) i
@[reducible] def ki (n : Nat) : O := .c (.int .i64 (Int.ofNat n))
@[reducible] def hzI : SP := .c (.hole (.int .i64))
@[reducible] def hzL : SP := .c (.hole (.list (.int .i64)))
@[reducible] def hzM : SP := .c (.hole (.list (.list (.int .i64))))

/- 130 -/
noncomputable def abc:Cx:=(aL [] [])
theorem Ns:abc.Ok prog:=au trivial trivial
noncomputable def UR:D prog 6 none 0:=dO [] (kd prog f130) 0
noncomputable def F130 (a0:ByteArray):bO (Bool×Unit) :=
 .ret ((!(seq a0 a0)),())
theorem Rl:cC prog f130=some ⟨6,1,UR.er,[.t 2],[some .bool]⟩:=by kernel_rfl
noncomputable def US:Ct:=⟨130,[.c (.hole .str)],.c (.hole .bool),fun x=>ak (F130 x.1)⟩
theorem Nt:US.Ok prog:=cZ mixed Ns func130 Rl (enters_of func130 rfl rfl) UR (by kernel_rfl) rfl (fun x=>by kernel_rfl)

/- 113 -/
noncomputable def abd:Cx:=(aL [US] [])
theorem Nv:abd.Ok prog:=au ⟨Nt,trivial⟩ trivial
noncomputable def UT:D prog 20 none 0:=dO [] (kd prog f113) 0
noncomputable def F113 (a0:ByteArray) (a1:ByteArray):bO (Int×Unit) :=
 .bd (F130 a0) fun y0 =>
 .bd (F130 a1) fun y1 =>
 .br y0.1 (
 .br y1.1 (
 .ret ((0:Int),())) (
 .ret ((-1:Int),()))) (
 .br y1.1 (
 .ret ((1:Int),())) (
 .br (slt a0 a1) (
 .ret ((-1:Int),())) (
 .br (!(ET (slt a0 a1) true (seq a0 a1))) (
 .ret ((1:Int),())) (
 .ret ((0:Int),())))))
theorem Rm:cC prog f113=some ⟨20,2,UT.er,[.t 4],[some tI]⟩:=by kernel_rfl
noncomputable def UU:Ct:=⟨113,[.c (.hole .str),.c (.hole .str)],hI,fun x=>ak (F113 x.1 x.2.1)⟩
theorem Nw:UU.Ok prog:=cZ mixed Nv func113 Rm (enters_of func113 rfl rfl) UT (by kernel_rfl) rfl (fun x=>by kernel_rfl)

/- 131 -/
noncomputable def abe:Cx:=(aL [] [])
theorem Nx:abe.Ok prog:=au trivial trivial
noncomputable def UW:D prog 6 none 0:=dO [] (kd prog f131) 0
noncomputable def F131 (a0:Int):bO (Bool×Unit) :=
 .ret ((!(a0==a0)),())
theorem Ro:cC prog f131=some ⟨6,1,UW.er,[.t 2],[some .bool]⟩:=by kernel_rfl
noncomputable def UX:Ct:=⟨131,[hI],.c (.hole .bool),fun x=>ak (F131 x.1)⟩
theorem Ny:UX.Ok prog:=cZ mixed Nx func131 Ro (enters_of func131 rfl rfl) UW (by kernel_rfl) rfl (fun x=>by kernel_rfl)

/- 114 -/
noncomputable def abf:Cx:=(aL [UX] [])
theorem Nz:abf.Ok prog:=au ⟨Ny,trivial⟩ trivial
noncomputable def UY:D prog 20 none 0:=dO [] (kd prog f114) 0
noncomputable def F114 (a0:Int) (a1:Int):bO (Int×Unit) :=
 .bd (F131 a0) fun y0 =>
 .bd (F131 a1) fun y1 =>
 .br y0.1 (
 .br y1.1 (
 .ret ((0:Int),())) (
 .ret ((-1:Int),()))) (
 .br y1.1 (
 .ret ((1:Int),())) (
 .br (decide (a0<a1)) (
 .ret ((-1:Int),())) (
 .br (decide (a1<a0)) (
 .ret ((1:Int),())) (
 .ret ((0:Int),())))))
theorem Rp:cC prog f114=some ⟨20,2,UY.er,[.t 4],[some tI]⟩:=by kernel_rfl
noncomputable def UZ:Ct:=⟨114,[hI,hI],hI,fun x=>ak (F114 x.1 x.2.1)⟩
theorem NA:UZ.Ok prog:=cZ mixed Nz func114 Rp (enters_of func114 rfl rfl) UY (by kernel_rfl) rfl (fun x=>by kernel_rfl)

/- 112 -/
noncomputable def U0:Cx:=(aL [] [])
theorem DE:U0.Ok prog:=au trivial trivial
@[reducible] def Xn:ay:=ay.mk [(3,hI),(6,hL),(7,hI),(8,hI)] [] [] []
@[reducible] def Xo:aU:=[(.ret,ay.mk [(2,hI)] [] [] []),(.exit 0,ay.mk [(3,hI)] [] [] [])]
noncomputable def Xp:D prog 18 none 0:=dO [] (pick (kd prog f112) [(0,false)]) 0
noncomputable def g112_0:Int×List Int×Int×Int×Unit→bO ((Int×List Int×Int×Int×Unit) ⊕ ((Int×Unit) ⊕ ((Int×Unit)))):=fun (v3,v6,v7,v8,_) =>
 .br (decide (v8<v7)) (
 .nb v8 (((v6).length:Nat):Int) <|
 .br (!(((v6).getD (Int.toNat v8) (0:Int))==v3)) (
 .ret (.inr <| .inl<|(((v6).getD (Int.toNat v8) (0:Int)),()))) (
 .ni (v8+(1:Int)) <|
 .ret (.inl (v3,v6,v7,(v8+(1:Int)),())))) (
 .ret (.inr <| .inr<|(v3,())))
noncomputable def Xq:cq prog 18 none 0:=bP mixed U0 DE [] rfl Xn Xo rfl (Xp) (fun x=>ak (g112_0 x)) (fun x=>by kernel_rfl)
noncomputable def U1:D prog 18 none 0:=dO [.l Xq] (kd prog f112) 0
noncomputable def F112 (a0:List Int):bO (Int×Unit) :=
 .bd (.it g112_0 ((0:Int),a0,(((a0).length:Nat):Int),(0:Int),())) fun z0 =>
 .sm z0 (fun z1 =>
 .ret (z1.1,())) fun z2 =>
 .ret (z2.1,())
theorem Rq:cC prog f112=some ⟨18,1,U1.er,[.t 2],[some tI]⟩:=by kernel_rfl
noncomputable def U2:Ct:=⟨112,[hL],hI,fun x=>ak (F112 x.1)⟩
theorem NB:U2.Ok prog:=cZ mixed DE func112 Rq (enters_of func112 rfl rfl) U1 (by kernel_rfl) rfl (fun x=>by kernel_rfl)

/- 85 -/
noncomputable def cx85:Cx:=(aL [UU,UZ,U2] [])
theorem Rr:cx85.Ok prog:=au ⟨Nw,NA,NB,trivial⟩ trivial
noncomputable def dd85:D prog 35 none 0:=dO [] (kd prog f85) 0
noncomputable def F85 (a0:GG) (a1:GG):bO (Int×Unit) :=
 .br ((seq a0.1 a1.1)&&((a0.2.1==a1.2.1)&&((seq a0.2.2.1 a1.2.2.1)&&((seq a0.2.2.2.1 a1.2.2.2.1)&&((a0.2.2.2.2==a1.2.2.2.2)&&true))))) (
 .ret ((0:Int),())) (
 .bd (F113 a0.1 a1.1) fun y0 =>
 .bd (F114 a0.2.1 a1.2.1) fun y1 =>
 .bd (F113 a0.2.2.1 a1.2.2.1) fun y2 =>
 .bd (F113 a0.2.2.2.1 a1.2.2.2.1) fun y3 =>
 .bd (F114 a0.2.2.2.2 a1.2.2.2.2) fun y4 =>
 .bd (F112 ((((y0.1::(y1.1::(y2.1::(y3.1::(y4.1::[])))))).drop (0:Nat)).take (5:Nat))) fun y5 =>
 .ret (y5.1,()))
theorem Xr:cC prog f85=some ⟨35,2,dd85.er,[.t 4],[some tI]⟩:=by kernel_rfl
noncomputable def ct85:Ct:=⟨85,[.c (.hole tG),.c (.hole tG)],hI,fun x=>ak (F85 x.1 x.2.1)⟩
theorem Rs:ct85.Ok prog:=cZ mixed Rr func85 Xr (enters_of func85 rfl rfl) dd85 (by kernel_rfl) rfl (fun x=>by kernel_rfl)

/- 50 -/
noncomputable def cx50:Cx:=(aL [] [])
theorem Rt:cx50.Ok prog:=au trivial trivial
noncomputable def dd50:D prog 11 none 0:=dO [] (kd prog f50) 0
noncomputable def F50 (a0:ByteArray) (a1:ByteArray) (a2:Int):bO ((GG)×Unit) :=
 .ret ((a0,(1:Int),(bs []),a1,a2),())
theorem Xs:cC prog f50=some ⟨11,3,dd50.er,[.cell 6 true 5],[some tG]⟩:=by kernel_rfl
noncomputable def ct50:Ct:=⟨50,[.c (.hole .str),.c (.hole .str),hI],.c (.hole tG),fun x=>ak (F50 x.1 x.2.1 x.2.2.1)⟩
theorem Ru:ct50.Ok prog:=cZ mixed Rt func50 Xs (enters_of func50 rfl rfl) dd50 (by kernel_rfl) rfl (fun x=>by kernel_rfl)

/- 42 -/
noncomputable def cx42:Cx:=(aL [] [])
theorem Rv:cx42.Ok prog:=au trivial trivial
noncomputable def dd42:D prog 14 none 0:=dO [] (kd prog f42) 0
noncomputable def F42 (a0:ByteArray) (a1:ByteArray) (a2:ByteArray) (a3:Int):bO ((GG)×Unit) :=
 .ret ((a0,(2:Int),a1,a2,a3),())
theorem Xt:cC prog f42=some ⟨14,4,dd42.er,[.cell 8 true 5],[some tG]⟩:=by kernel_rfl
noncomputable def ct42:Ct:=⟨42,[.c (.hole .str),.c (.hole .str),.c (.hole .str),hI],.c (.hole tG),fun x=>ak (F42 x.1 x.2.1 x.2.2.1 x.2.2.2.1)⟩
theorem Rw:ct42.Ok prog:=cZ mixed Rv func42 Xt (enters_of func42 rfl rfl) dd42 (by kernel_rfl) rfl (fun x=>by kernel_rfl)

/- 39 -/
noncomputable def cx39:Cx:=(aL [] [])
theorem Rx:cx39.Ok prog:=au trivial trivial
noncomputable def dd39:D prog 8 none 0:=dO [] (kd prog f39) 0
noncomputable def F39 (a0:ByteArray) (a1:ByteArray):bO ((GG)×Unit) :=
 .ret ((a0,(3:Int),a1,(bs []),(0:Int)),())
theorem Xu:cC prog f39=some ⟨8,2,dd39.er,[.cell 4 true 5],[some tG]⟩:=by kernel_rfl
noncomputable def ct39:Ct:=⟨39,[.c (.hole .str),.c (.hole .str)],.c (.hole tG),fun x=>ak (F39 x.1 x.2.1)⟩
theorem Ry:ct39.Ok prog:=cZ mixed Rx func39 Xu (enters_of func39 rfl rfl) dd39 (by kernel_rfl) rfl (fun x=>by kernel_rfl)

/- 46 -/
noncomputable def cx46:Cx:=(aL [ct50,ct42,ct39] [])
theorem Rz:cx46.Ok prog:=au ⟨Ru,Rw,Ry,trivial⟩ trivial
noncomputable def dd46:D prog 10 none 0:=dO [] (kd prog f46) 0
noncomputable def F46:bO ((List (GG))×Unit) :=
 .bd (F50 (bs [116,49]) (bs [97,110,97]) (40:Int)) fun y0 =>
 .bd (F50 (bs [116,50]) (bs [98,101,110]) (25:Int)) fun y1 =>
 .bd (F42 (bs [99,49]) (bs [116,49]) (bs [97,110,97]) (42:Int)) fun y2 =>
 .bd (F42 (bs [99,50]) (bs [116,49]) (bs [99,121]) (40:Int)) fun y3 =>
 .bd (F42 (bs [99,51]) (bs [99,49]) (bs [97,110,97]) (41:Int)) fun y4 =>
 .bd (F42 (bs [119,49]) (bs [120,57]) (bs [98,101,110]) (5:Int)) fun y5 =>
 .bd (F39 (bs [114,49]) (bs [99,49])) fun y6 =>
 .bd (F39 (bs [114,50]) (bs [99,50])) fun y7 =>
 .ret ((((((y0.1.1,y0.1.2.1,y0.1.2.2.1,y0.1.2.2.2.1,y0.1.2.2.2.2)::((y1.1.1,y1.1.2.1,y1.1.2.2.1,y1.1.2.2.2.1,y1.1.2.2.2.2)::((y2.1.1,y2.1.2.1,y2.1.2.2.1,y2.1.2.2.2.1,y2.1.2.2.2.2)::((y3.1.1,y3.1.2.1,y3.1.2.2.1,y3.1.2.2.2.1,y3.1.2.2.2.2)::((y4.1.1,y4.1.2.1,y4.1.2.2.1,y4.1.2.2.2.1,y4.1.2.2.2.2)::((y5.1.1,y5.1.2.1,y5.1.2.2.1,y5.1.2.2.2.1,y5.1.2.2.2.2)::((y6.1.1,y6.1.2.1,y6.1.2.2.1,y6.1.2.2.2.1,y6.1.2.2.2.2)::((y7.1.1,y7.1.2.1,y7.1.2.2.1,y7.1.2.2.2.1,y7.1.2.2.2.2)::[]))))))))).drop (0:Nat)).take (8:Nat)),())
theorem Xv:cC prog f46=some ⟨10,0,dd46.er,[.t 0],[some (.list tG)]⟩:=by kernel_rfl
noncomputable def ct46:Ct:=⟨46,[],.c (.hole (.list tG)),fun x=>ak (F46)⟩
theorem RA:ct46.Ok prog:=cZ mixed Rz func46 Xv (enters_of func46 rfl rfl) dd46 (by kernel_rfl) rfl (fun x=>by kernel_rfl)

/- 18, lent -/
@[reducible] def pH18:ay:=ay.mk [] [] [] []
@[reducible] def qH18:ay:=ay.mk [(0,.c (.ptr 0 0))] [(0,.cells [.mp 1] false),(1,.map tG true .bool false)] [.slot 0,.cell 0 0] []
noncomputable def abp:Cx:=(aL [] [])
theorem NC:abp.Ok prog:=au trivial trivial
noncomputable def U3:D prog 4 none 0:=dO [] (kd prog f18) 0
noncomputable def FH18:bO ((List ((GG)×Bool))×Unit) :=
 .ret ([],())
theorem RB:cC prog f18=some ⟨4,0,U3.er,[.t 0],[none]⟩:=by kernel_rfl
noncomputable def Xw:Ht:=⟨18,pH18,qH18,(fun x=>ak (FH18))⟩
theorem HW:Xw.Ok prog:=bE mixed NC rfl func18 RB (enters_of func18 rfl rfl) U3 (by kernel_rfl) rfl rfl ⟨_,rfl⟩ rfl (pre:=[]) rfl (fun x=>by kernel_rfl)

/- 54, lent -/
@[reducible] def pH54:ay:=ay.mk [(0,.c (.ptr 0 0))] [(0,.cells [.mp 1] false),(1,.map tG true .bool false)] [.slot 0,.cell 0 0] []
@[reducible] def qH54:ay:=ay.mk [(0,.c (.hole .bool))] [(0,.cells [.mp 1] false),(1,.map tG true .bool false)] [] []
noncomputable def abq:Cx:=(aL [] [])
theorem ND:abq.Ok prog:=au trivial trivial
noncomputable def U4:D prog 12 none 2:=dO [] (kd prog f54) 0
noncomputable def FH54 (m1:List ((GG)×Bool)):bO (Bool×(List ((GG)×Bool))×Unit) :=
 .ret (false,m1,())
theorem RC:cC prog f54=some ⟨12,1,U4.er,[.t 2],[some .bool]⟩:=by kernel_rfl
noncomputable def yG:Ht:=⟨54,pH54,qH54,(fun x=>ak (FH54 x.1))⟩
theorem mN:yG.Ok prog:=bE mixed ND rfl func54 RC (enters_of func54 rfl rfl) U4 (by kernel_rfl) rfl rfl ⟨_,rfl⟩ rfl (pre:=[0,1]) rfl (fun x=>by kernel_rfl)

/- 65 -/
noncomputable def cx65:Cx:=(aL [] [])
theorem HX:cx65.Ok prog:=au trivial trivial
@[reducible] def abt:ay:=ay.mk [(0,.c (.hole .str)),(6,.c (.hole (.list (.int .u8)))),(7,hI),(8,hI)] [] [] []
@[reducible] def abu:aU:=[(.ret,ay.mk [(2,.c (.tf false))] [] [] []),(.exit 0,ay.mk [(0,.c (.hole .str))] [] [] [])]
noncomputable def abv:D prog 40 none 0:=dO [] (pick (kd prog f65) [(0,false)]) 0
noncomputable def g65_0:ByteArray×List Int×Int×Int×Unit→bO ((ByteArray×List Int×Int×Int×Unit) ⊕ ((Unit) ⊕ ((ByteArray×Unit)))):=fun (v0,v6,v7,v8,_) =>
 .br (decide (v8<v7)) (
 .nb v8 (((v6).length:Nat):Int) <|
 .br (decide (((v6).getD (Int.toNat v8) (0:Int))<(97:Int))) (
 .br (v8==(0:Int)) (
 .ret (.inr <| .inl<|())) (
 .br (decide (((v6).getD (Int.toNat v8) (0:Int))<(48:Int))) (
 .ret (.inr <| .inl<|())) (
 .br (decide ((57:Int)<((v6).getD (Int.toNat v8) (0:Int)))) (
 .ret (.inr <| .inl<|())) (
 .ni (v8+(1:Int)) <|
 .ret (.inl (v0,v6,v7,(v8+(1:Int)),())))))) (
 .br (decide ((122:Int)<((v6).getD (Int.toNat v8) (0:Int)))) (
 .br (v8==(0:Int)) (
 .ret (.inr <| .inl<|())) (
 .br (decide (((v6).getD (Int.toNat v8) (0:Int))<(48:Int))) (
 .ret (.inr <| .inl<|())) (
 .br (decide ((57:Int)<((v6).getD (Int.toNat v8) (0:Int)))) (
 .ret (.inr <| .inl<|())) (
 .ni (v8+(1:Int)) <|
 .ret (.inl (v0,v6,v7,(v8+(1:Int)),())))))) (
 .ni (v8+(1:Int)) <|
 .ret (.inl (v0,v6,v7,(v8+(1:Int)),()))))) (
 .ret (.inr <| .inr<|(v0,())))
noncomputable def abw:cq prog 40 none 0:=bP mixed cx65 HX [] rfl abt abu rfl (abv) (fun x=>ak (g65_0 x)) (fun x=>by kernel_rfl)
noncomputable def dd65:D prog 40 none 0:=dO [.l abw] (kd prog f65) 0
noncomputable def F65 (a0:ByteArray):bO (Bool×Unit) :=
 .bd (.it g65_0 (a0,(bA a0),((((bA a0)).length:Nat):Int),(0:Int),())) fun z0 =>
 .sm z0 (fun z1 =>
 .ret (false,())) fun z2 =>
 .br (decide ((0:Int)<((z2.1.size:Nat):Int))) (
 .ret ((decide (((z2.1.size:Nat):Int)≤(10:Int))),())) (
 .ret (false,()))
theorem Xx:cC prog f65=some ⟨40,1,dd65.er,[.t 2],[some .bool]⟩:=by kernel_rfl
noncomputable def NF:Ct:=⟨65,[.c (.hole .str)],.c (.hole .bool),fun x=>ak (F65 x.1)⟩
theorem uY:NF.Ok prog:=cZ mixed HX func65 Xx (enters_of func65 rfl rfl) dd65 (by kernel_rfl) rfl (fun x=>by kernel_rfl)

/- 87 -/
noncomputable def cx87:Cx:=(aL [NF] [])
theorem RD:cx87.Ok prog:=au ⟨uY,trivial⟩ trivial
noncomputable def dd87:D prog 27 none 0:=dO [] (kd prog f87) 0
noncomputable def F87 (a0:GG):bO (Int×Unit) :=
 .br (a0.2.1==(1:Int)) (
 .br (!(seq a0.2.2.1 (bs []))) (
 .ret ((22:Int),())) (
 .br (a0.2.1==(1:Int)) (
 .ret ((0:Int),())) (
 .bd (F65 a0.2.2.1) fun y0 =>
 .br (!y0.1) (
 .ret ((8:Int),())) (
 .br (seq a0.2.2.1 a0.1) (
 .ret ((22:Int),())) (
 .ret ((0:Int),())))))) (
 .br (a0.2.1==(1:Int)) (
 .ret ((0:Int),())) (
 .bd (F65 a0.2.2.1) fun y1 =>
 .br (!y1.1) (
 .ret ((8:Int),())) (
 .br (seq a0.2.2.1 a0.1) (
 .ret ((22:Int),())) (
 .ret ((0:Int),())))))
theorem Xy:cC prog f87=some ⟨27,1,dd87.er,[.t 2],[some tI]⟩:=by kernel_rfl
noncomputable def ct87:Ct:=⟨87,[.c (.hole tG)],hI,fun x=>ak (F87 x.1)⟩
theorem RE:ct87.Ok prog:=cZ mixed RD func87 Xy (enters_of func87 rfl rfl) dd87 (by kernel_rfl) rfl (fun x=>by kernel_rfl)

/- 88 -/
noncomputable def cx88:Cx:=(aL [NF] [])
theorem RG:cx88.Ok prog:=au ⟨uY,trivial⟩ trivial
noncomputable def dd88:D prog 35 none 0:=dO [] (kd prog f88) 0
noncomputable def F88 (a0:GG):bO (Int×Unit) :=
 .br (a0.2.1==(3:Int)) (
 .br (!(seq a0.2.2.2.1 (bs []))) (
 .ret ((22:Int),())) (
 .br (!(a0.2.2.2.2==(0:Int))) (
 .ret ((22:Int),())) (
 .br (a0.2.1==(3:Int)) (
 .ret ((0:Int),())) (
 .bd (F65 a0.2.2.2.1) fun y0 =>
 .br (!y0.1) (
 .ret ((8:Int),())) (
 .br (decide (a0.2.2.2.2<(-1000:Int))) (
 .ret ((2:Int),())) (
 .br (decide ((1000:Int)<a0.2.2.2.2)) (
 .ret ((2:Int),())) (
 .ret ((0:Int),())))))))) (
 .br (a0.2.1==(3:Int)) (
 .ret ((0:Int),())) (
 .bd (F65 a0.2.2.2.1) fun y1 =>
 .br (!y1.1) (
 .ret ((8:Int),())) (
 .br (decide (a0.2.2.2.2<(-1000:Int))) (
 .ret ((2:Int),())) (
 .br (decide ((1000:Int)<a0.2.2.2.2)) (
 .ret ((2:Int),())) (
 .ret ((0:Int),()))))))
theorem Xz:cC prog f88=some ⟨35,1,dd88.er,[.t 2],[some tI]⟩:=by kernel_rfl
noncomputable def ct88:Ct:=⟨88,[.c (.hole tG)],hI,fun x=>ak (F88 x.1)⟩
theorem RH:ct88.Ok prog:=cZ mixed RG func88 Xz (enters_of func88 rfl rfl) dd88 (by kernel_rfl) rfl (fun x=>by kernel_rfl)

/- 86 -/
noncomputable def cx86:Cx:=(aL [] [])
theorem HY:cx86.Ok prog:=au trivial trivial
@[reducible] def abD:ay:=ay.mk [(3,hI),(6,hL),(7,hI),(8,hI)] [] [] []
@[reducible] def abE:aU:=[(.ret,ay.mk [(2,hI)] [] [] []),(.exit 0,ay.mk [(3,hI)] [] [] [])]
noncomputable def abF:D prog 18 none 0:=dO [] (pick (kd prog f86) [(0,false)]) 0
noncomputable def g86_0:Int×List Int×Int×Int×Unit→bO ((Int×List Int×Int×Int×Unit) ⊕ ((Int×Unit) ⊕ ((Int×Unit)))):=fun (v3,v6,v7,v8,_) =>
 .br (decide (v8<v7)) (
 .nb v8 (((v6).length:Nat):Int) <|
 .br (!(((v6).getD (Int.toNat v8) (0:Int))==v3)) (
 .ret (.inr <| .inl<|(((v6).getD (Int.toNat v8) (0:Int)),()))) (
 .ni (v8+(1:Int)) <|
 .ret (.inl (v3,v6,v7,(v8+(1:Int)),())))) (
 .ret (.inr <| .inr<|(v3,())))
noncomputable def abG:cq prog 18 none 0:=bP mixed cx86 HY [] rfl abD abE rfl (abF) (fun x=>ak (g86_0 x)) (fun x=>by kernel_rfl)
noncomputable def dd86:D prog 18 none 0:=dO [.l abG] (kd prog f86) 0
noncomputable def F86 (a0:List Int):bO (Int×Unit) :=
 .bd (.it g86_0 ((0:Int),a0,(((a0).length:Nat):Int),(0:Int),())) fun z0 =>
 .sm z0 (fun z1 =>
 .ret (z1.1,())) fun z2 =>
 .ret (z2.1,())
theorem XA:cC prog f86=some ⟨18,1,dd86.er,[.t 2],[some tI]⟩:=by kernel_rfl
noncomputable def ct86:Ct:=⟨86,[hL],hI,fun x=>ak (F86 x.1)⟩
theorem RI:ct86.Ok prog:=cZ mixed HY func86 XA (enters_of func86 rfl rfl) dd86 (by kernel_rfl) rfl (fun x=>by kernel_rfl)

/- 55 -/
noncomputable def cx55:Cx:=(aL [NF,ct87,ct88,ct86] [])
theorem RJ:cx55.Ok prog:=au ⟨uY,RE,RH,RI,trivial⟩ trivial
noncomputable def dd55:D prog 23 none 0:=dO [] (kd prog f55) 0
noncomputable def F55 (a0:GG):bO (Int×Unit) :=
 .br (decide (a0.2.1<(1:Int))) (
 .ret ((18:Int),())) (
 .br (decide ((3:Int)<a0.2.1)) (
 .ret ((18:Int),())) (
 .bd (F65 a0.1) fun y0 =>
 .br (!y0.1) (
 .ret ((8:Int),())) (
 .bd (F87 (a0.1,a0.2.1,a0.2.2.1,a0.2.2.2.1,a0.2.2.2.2)) fun y1 =>
 .bd (F88 (a0.1,a0.2.1,a0.2.2.1,a0.2.2.2.1,a0.2.2.2.2)) fun y2 =>
 .bd (F86 ((((y1.1::(y2.1::[]))).drop (0:Nat)).take (2:Nat))) fun y3 =>
 .ret (y3.1,()))))
theorem XB:cC prog f55=some ⟨23,1,dd55.er,[.t 2],[some tI]⟩:=by kernel_rfl
noncomputable def ct55:Ct:=⟨55,[.c (.hole tG)],hI,fun x=>ak (F55 x.1)⟩
theorem RK:ct55.Ok prog:=cZ mixed RJ func55 XB (enters_of func55 rfl rfl) dd55 (by kernel_rfl) rfl (fun x=>by kernel_rfl)

/- 89, by hand -/
@[reducible] def pH89:ay:=ay.mk [(0,.c (.mp 0))] [(0,.map tG true .bool false)] [.slot 0] []
@[reducible] def qH89:ay:=ay.mk [(0,.c (.mp 1))] [(1,.map tG true .bool false),(0,.map tG true .bool false)] [.slot 0] []
noncomputable def FH89 (m0:List ((GG)×Bool)):bO ((List ((GG)×Bool))×(List ((GG)×Bool))×Unit) :=
 .ret (m0,m0,())
noncomputable def ht89:Ht:=⟨89,pH89,qH89,(fun x=>ak (FH89 x.1))⟩
theorem RL:ht89.Ok prog:=fun x y h=>by
  have h':some (x.1,x.1,())=some y:=h
  cases h'
  exact Dv (ρ:=zT) abb (enters_of func89 rfl rfl)

/- 193, lent -/
@[reducible] def abM:ay:=ay.mk [(0,.c (.hole tG))] [] [] []
@[reducible] def abN:ay:=ay.mk [(0,.c (.cB 0 tG))] [(0,.arr tG false)] [.slot 0] []
noncomputable def XC:Cx:=(aL [] [])
theorem JZ:XC.Ok prog:=au trivial trivial
noncomputable def NG:D prog 5 none 0:=dO [] (kd prog f193) 0
noncomputable def FH193 (v0:GG):bO (Nat×(List (GG))×Unit) :=
 .ret ((1:Nat),((v0.1,v0.2.1,v0.2.2.1,v0.2.2.2.1,v0.2.2.2.2)::[]),())
theorem NH:cC prog f193=some ⟨5,1,NG.er,[.t 2],[some (.list tG)]⟩:=by kernel_rfl
noncomputable def U5:Ht:=⟨193,abM,abN,(fun x=>ak (FH193 x.1))⟩
theorem NI:U5.Ok prog:=bE mixed JZ rfl func193 NH (enters_of func193 rfl rfl) NG (by kernel_rfl) rfl rfl ⟨_,rfl⟩ rfl (pre:=[]) rfl (fun x=>by kernel_rfl)

/- 56, lent -/
@[reducible] def pH56:ay:=ay.mk [(0,.c (.ptr 0 0)),(1,.c (.Fz 33 true (.cons (.hole .str) (.cons (.hole tI) (.cons (.hole .str) (.cons (.hole .str) (.cons (.hole tI) .nil)))))))] [(0,.cells [.mp 1] false),(1,.map tG true .bool false)] [.slot 0,.cell 0 0] []
@[reducible] def qH56:ay:=ay.mk [(0,hI)] [(0,.cells [.mp 2] false),(2,.map tG true .bool false)] [.cell 0 0] []
noncomputable def U6:Cx:=(aL [] [ht89,U5])
theorem DF:U6.Ok prog:=au trivial ⟨⟨RL,rfl⟩,⟨NI,rfl⟩,trivial⟩
@[reducible] def XD:ay:=ay.mk [(0,.c (.ptr 0 0)),(5,.c (.mp 2)),(14,.c (.cB 3 tG)),(15,hI),(16,hI)] [(0,.cells [.mp 1] false),(2,.map tG true .bool false),(3,.arr tG false),(1,.map tG true .bool false)] [.slot 5,.slot 14] []
@[reducible] def XE:aU:=[(.exit 0,ay.mk [(0,.c (.ptr 0 0)),(5,.c (.mp 2))] [(0,.cells [.mp 1] false),(2,.map tG true .bool false),(1,.map tG true .bool false)] [.slot 5] [])]
noncomputable def XF:D prog 30 none 2:=dO [] (pick (kd prog f56) [(0,false)]) 0
noncomputable def gH56_0:Nat×Int×Int×(List ((GG)×Bool))×(List (GG))×(List ((GG)×Bool))×Unit→bO ((Nat×Int×Int×(List ((GG)×Bool))×(List (GG))×(List ((GG)×Bool))×Unit) ⊕ (((List ((GG)×Bool))×(List ((GG)×Bool))×Unit))):=fun (nv14,v15,PT,m2,b3,m1,_) =>
 .br (decide (PT<v15)) (
 .nb PT ((nv14:Nat):Int) <|
 .nd (decide (((0:Nat)+(Int.toNat PT))<(b3).length)) <|
 .ni (PT+(1:Int)) <|
 .ret (.inl (nv14,v15,(PT+(1:Int)),(aQ (.prod .str (.prod (.int .i64) (.prod .str (.prod .str (.int .i64))))) m2 (((b3).getD ((0:Nat)+(Int.toNat PT)) ((bs []),(0:Int),(bs []),(bs []),(0:Int))).1,((b3).getD ((0:Nat)+(Int.toNat PT)) ((bs []),(0:Int),(bs []),(bs []),(0:Int))).2.1,((b3).getD ((0:Nat)+(Int.toNat PT)) ((bs []),(0:Int),(bs []),(bs []),(0:Int))).2.2.1,((b3).getD ((0:Nat)+(Int.toNat PT)) ((bs []),(0:Int),(bs []),(bs []),(0:Int))).2.2.2.1,((b3).getD ((0:Nat)+(Int.toNat PT)) ((bs []),(0:Int),(bs []),(bs []),(0:Int))).2.2.2.2) true),b3,m1,()))) (
 .ret (.inr (m2,m1,())))
noncomputable def XG:cq prog 30 none 2:=bP mixed U6 DF [0,1] rfl XD XE rfl (XF) (fun x=>ak (gH56_0 x)) (fun x=>by kernel_rfl)
noncomputable def U7:D prog 30 none 2:=dO [.l XG] (kd prog f56) 0
noncomputable def FH56 (v1c0:ByteArray) (v1c1:Int) (v1c2:ByteArray) (v1c3:ByteArray) (v1c4:Int) (m1:List ((GG)×Bool)):bO (Int×(List ((GG)×Bool))×Unit) :=
 .bd (FH89 m1) fun y0 =>
 .bd (FH193 (v1c0,v1c1,v1c2,v1c3,v1c4)) fun y1 =>
 .bd (.it gH56_0 (y1.1,((y1.1:Nat):Int),(0:Int),y0.1,y1.2.1,y0.2.1,())) fun z2 =>
 .br (decide ((60:Int)<(((z2.1).length:Nat):Int))) (
 .ret ((15:Int),z2.2.1,())) (
 .ret ((0:Int),z2.1,()))
theorem RM:cC prog f56=some ⟨30,2,U7.er,[.t 4],[some tI]⟩:=by kernel_rfl
noncomputable def ht56:Ht:=⟨56,pH56,qH56,(fun x=>ak (FH56 x.1 x.2.1 x.2.2.1 x.2.2.2.1 x.2.2.2.2.1 x.2.2.2.2.2.1))⟩
theorem RN:ht56.Ok prog:=bE mixed DF rfl func56 RM (enters_of func56 rfl rfl) U7 (by kernel_rfl) rfl rfl ⟨_,rfl⟩ rfl (pre:=[0,1]) rfl (fun x=>by kernel_rfl)

/- 20, lent -/
@[reducible] def pH20:ay:=ay.mk [(0,.c (.ptr 0 0)),(1,.c (.hole tG))] [(0,.cells [.mp 1] false),(1,.map tG true .bool false)] [.slot 0,.cell 0 0] []
@[reducible] def qH20:ay:=ay.mk [(0,hI)] [(0,.cells [.mp 2] false),(2,.map tG true .bool false)] [.cell 0 0] []
noncomputable def abQ:Cx:=(aL [ct55] [yG,ht56])
theorem NJ:abQ.Ok prog:=au ⟨RK,trivial⟩ ⟨⟨mN,rfl⟩,⟨RN,rfl⟩,trivial⟩
noncomputable def U9:D prog 17 none 2:=dO [] (kd prog f20) 0
noncomputable def FH20 (v1:GG) (m1:List ((GG)×Bool)):bO (Int×(List ((GG)×Bool))×Unit) :=
 .bd (FH54 m1) fun y0 =>
 .br y0.1 (
 .ret ((9:Int),y0.2.1,())) (
 .bd (F55 (v1.1,v1.2.1,v1.2.2.1,v1.2.2.2.1,v1.2.2.2.2)) fun y1 =>
 .br (!(y1.1==(0:Int))) (
 .ret (y1.1,y0.2.1,())) (
 .bd (FH56 v1.1 v1.2.1 v1.2.2.1 v1.2.2.2.1 v1.2.2.2.2 y0.2.1) fun y2 =>
 .ret (y2.1,y2.2.1,())))
theorem RO:cC prog f20=some ⟨17,2,U9.er,[.t 4],[some tI]⟩:=by kernel_rfl
noncomputable def XH:Ht:=⟨20,pH20,qH20,(fun x=>ak (FH20 x.1 x.2.1))⟩
theorem HZ:XH.Ok prog:=bE mixed NJ rfl func20 RO (enters_of func20 rfl rfl) U9 (by kernel_rfl) rfl rfl ⟨_,rfl⟩ rfl (pre:=[0,1]) rfl (fun x=>by kernel_rfl)

/- 29, lent -/
@[reducible] def pH29:ay:=ay.mk [(0,.c (.hole (.list tG)))] [] [] []
@[reducible] def qH29:ay:=ay.mk [(0,.c (.ptr 0 0))] [(0,.cells [.mp 1] false),(1,.map tG true .bool false)] [.slot 0,.cell 0 0] []
noncomputable def Va:Cx:=(aL [] [Xw,XH])
theorem DG:Va.Ok prog:=au trivial ⟨⟨HW,rfl⟩,⟨HZ,rfl⟩,trivial⟩
@[reducible] def XI:ay:=ay.mk [(0,.c (.hole (.list tG))),(3,.c (.ptr 0 0)),(4,hI)] [(0,.cells [.mp 1] false),(1,.map tG true .bool false)] [.slot 3,.cell 0 0] []
@[reducible] def XJ:aU:=[(.exit 0,ay.mk [(3,.c (.ptr 0 0))] [(0,.cells [.mp 1] false),(1,.map tG true .bool false)] [.slot 3,.cell 0 0] [])]
noncomputable def XK:D prog 19 none 0:=dO [] (pick (kd prog f29) [(0,false)]) 0
noncomputable def gH29_0:(List (GG))×Int×(List ((GG)×Bool))×Unit→bO (((List (GG))×Int×(List ((GG)×Bool))×Unit) ⊕ (((List ((GG)×Bool))×Unit))):=fun (v0,v4,m1,_) =>
 .br (decide (v4<(((v0).length:Nat):Int))) (
 .nb v4 (((v0).length:Nat):Int) <|
 .bd (FH20 (((v0).getD (Int.toNat v4) ((bs []),(0:Int),(bs []),(bs []),(0:Int))).1,((v0).getD (Int.toNat v4) ((bs []),(0:Int),(bs []),(bs []),(0:Int))).2.1,((v0).getD (Int.toNat v4) ((bs []),(0:Int),(bs []),(bs []),(0:Int))).2.2.1,((v0).getD (Int.toNat v4) ((bs []),(0:Int),(bs []),(bs []),(0:Int))).2.2.2.1,((v0).getD (Int.toNat v4) ((bs []),(0:Int),(bs []),(bs []),(0:Int))).2.2.2.2) m1) fun y1 =>
 .ni (v4+(1:Int)) <|
 .ret (.inl (v0,(v4+(1:Int)),y1.2.1,()))) (
 .ret (.inr (m1,())))
noncomputable def XM:cq prog 19 none 0:=bP mixed Va DG [] rfl XI XJ rfl (XK) (fun x=>ak (gH29_0 x)) (fun x=>by kernel_rfl)
noncomputable def Vb:D prog 19 none 0:=dO [.l XM] (kd prog f29) 0
noncomputable def FH29 (v0:List (GG)):bO ((List ((GG)×Bool))×Unit) :=
 .bd (FH18) fun y0 =>
 .bd (.it gH29_0 (v0,(0:Int),y0.1,())) fun z2 =>
 .ret (z2.1,())
theorem RP:cC prog f29=some ⟨19,1,Vb.er,[.t 2],[none]⟩:=by kernel_rfl
noncomputable def XN:Ht:=⟨29,pH29,qH29,(fun x=>ak (FH29 x.1))⟩
theorem H6:XN.Ok prog:=bE mixed DG rfl func29 RP (enters_of func29 rfl rfl) Vb (by kernel_rfl) rfl rfl ⟨_,rfl⟩ rfl (pre:=[]) rfl (fun x=>by kernel_rfl)

/- 84, lent -/
@[reducible] def pH84:ay:=ay.mk [(0,.c (.mp 0))] [(0,.map tG true .bool false)] [.slot 0] []
@[reducible] def qH84:ay:=ay.mk [(0,.fn 111 [] [.ptr 1 0])] [(1,.cells [.mp 0] false),(0,.map tG true .bool false)] [.part 0 0] []
noncomputable def abR:Cx:=(aL [] [])
theorem NK:abR.Ok prog:=au trivial trivial
noncomputable def Vc:D prog 4 none 1:=dO [] (kd prog f84) 0
noncomputable def FH84 (m0:List ((GG)×Bool)):bO ((List ((GG)×Bool))×Unit) :=
 .ret (m0,())
theorem RQ:cC prog f84=some ⟨4,1,Vc.er,[.t 2],[none]⟩:=by kernel_rfl
noncomputable def ht84:Ht:=⟨84,pH84,qH84,(fun x=>ak (FH84 x.1))⟩
theorem RR:ht84.Ok prog:=bE mixed NK rfl func84 RQ (enters_of func84 rfl rfl) Vc (by kernel_rfl) rfl rfl ⟨_,rfl⟩ rfl (pre:=[0]) rfl (fun x=>by kernel_rfl)

/- 110, by hand -/
@[reducible] def abT:ay:=ay.mk [(0,.c (.cB 0 tG)),(1,.c (.fn0 85))] [(0,.arr tG false)] [.slot 0] []
@[reducible] def abU:ay:=ay.mk [(0,.c .any)] [(0,.arr tG false)] [] []
noncomputable def FH110 (kJ:Nat) (b0:List (GG)):bO ((List (GG))×Unit) :=
 .of (ux (.prod .str (.prod (.int .i64) (.prod .str (.prod .str (.int .i64))))) b0 kJ)
noncomputable def NL:Ht:=⟨110,abT,abU,(fun x=>ak (FH110 x.1 x.2.1))⟩
theorem uZ (a b:ByteArray):(seq a b=true)↔a=b:=by
  unfold seq
  rw [beq_iff_eq,Go.ByteArray.toList_eq,Go.ByteArray.toList_eq]
  obtain ⟨a⟩:=a;obtain ⟨b⟩:=b
  simp
def mV (a b:ByteArray):Int:=if slt a b=true then -1 else if a=b then 0 else 1
def pL (a b:Int):Int:=if a<b then -1 else if b<a then 1 else 0
def o5 : List Int → Int
 |[]=>0
 |a::r=>if a=0 then o5 r else a
theorem abV (a:ByteArray):ak (F130 a)=some (false,()):=by
  have:seq a a=true:=(uZ a a).2 rfl
  simp [F130,af,this]
theorem abW (a:Int):ak (F131 a)=some (false,()):=by simp [F131,af]
theorem abX (a b:ByteArray):ak (F113 a b)=some (mV a b,()):=by
  simp only [F113,aD,az,af,abV,aF,DD,mU,mV]
  cases h:slt a b
  · by_cases he : a = b
    · subst he;simp [(uZ a a).2 rfl]
    · have : seq a b = false := by rw [← Bool.not_eq_true]; exact fun h => he ((uZ a b).1 h)
      simp [this,he]
  · simp
theorem abY (a b:Int):ak (F114 a b)=some (pL a b,()):=by
  simp only [F114,aD,az,af,abW,aF,DD,bw,pL]
  repeat' split
  all_goals rfl
theorem abZ (l:List Int) (hl:l.length≤1000):ak (F112 l)=some (o5 l,()):=by
  simp only [F112,aD,bN,af]
  refine bind_eq (bf l (fun k (_:Unit)=>((0:Int),l,((l.length:Nat):Int),(k:Int),())) (fun _ r=>if o5 r=0 then .inr (0,()) else .inl (o5 r,())) (fun _ _=>True) ?_ ?_ (s:=()) trivial) ?_
  · rintro pre x post _ hx -
    have hlen:l.length=pre.length+(post.length+1):=by rw [hx];simp
    have hd:l.getD pre.length 0=x:=by rw [hx];exact bx rfl
    have i1:fu (pre.length:Int) ((l.length:Nat):Int)=true:=bQ (by omega) (by omega)
    have r1:gm .i64 ((pre.length:Int)+1)=true:=aJ (by omega) (by omega)
    simp only [g112_0,az,bC,aZ,aW,af,Int.toNat_natCast,hd,i1,r1,ax,bw,dw,cu]
    rw [if_pos (by omega)]
    by_cases h:x=0
    · left
      refine ⟨(),?_,trivial,by simp [o5,h]⟩
      rw [if_pos h];rfl
    · right
      rw [if_neg h]
      have:o5 (x::post)=x:=by simp [o5,h]
      rw [this,if_neg h]
  · rintro _ _
    simp only [g112_0,az,bw,af]
    rw [if_neg (by omega)]
    simp [o5]
  · by_cases h : o5 l = 0
    · rw [if_pos h,h];rfl
    · rw [if_neg h];rfl
@[reducible] def NM:Ty:=.prod .str (.prod tI (.prod .str (.prod .str tI)))
def xg (a b:NM.den):Int:=o5 [mV a.1 b.1,pL a.2.1 b.2.1,mV a.2.2.1 b.2.2.1,mV a.2.2.2.1 b.2.2.2.1,pL a.2.2.2.2 b.2.2.2.2]
theorem u5 {a b:ByteArray}:mV a b=0↔a=b:=by
  unfold mV
  split
  · rename_i h
    constructor
    · intro h';omega
    · rintro rfl
      have:fC .str a a=true:=h
      rw [HR (t:=.str) rfl] at this;cases this
  · split<;>simp_all
theorem Bo {a b:Int}:pL a b=0↔a=b:=by
  unfold pL
  repeat' split
  all_goals omega
theorem RT {a b:ByteArray}:mV a b<0↔fC .str a b=true:=by
  unfold mV
  split
  · rename_i h;simp only [fC];exact ⟨fun _=>h,fun _=>by omega⟩
  · rename_i h
    constructor
    · intro h';split at h'<;>omega
    · intro h';exact absurd h' h
theorem RU {a b:Int}:pL a b<0↔fC tI a b=true:=by
  have e:fC tI a b=decide (a<b):=rfl
  rw [e,decide_eq_true_eq]
  unfold pL
  repeat' split
  all_goals omega
theorem XO {c:Int} {r:List Int}:o5 (c::r)<0↔c<0∨(c=0∧o5 r<0):=by
  simp only [o5]
  split<;>omega
theorem RW (a b:NM.den):decide (xg a b<0)=fC NM a b:=by
  have hS:∀x y:ByteArray,dx .str x y=true↔x=y:=fun x y=>⟨fun h=>bu h,fun h=>by subst h;exact j5 (t:=.str) x rfl⟩
  have hI:∀x y:Int,dx tI x y=true↔x=y:=fun x y=>⟨fun h=>bu (t:=tI) h,fun h=>by subst h;exact j5 (t:=tI) x rfl⟩
  rw [Bool.eq_iff_iff,decide_eq_true_eq]
  show _↔(fC .str a.1 b.1||(dx .str a.1 b.1&&(fC tI a.2.1 b.2.1||(dx tI a.2.1 b.2.1&&(fC .str a.2.2.1 b.2.2.1||(dx .str a.2.2.1 b.2.2.1&&(fC .str a.2.2.2.1 b.2.2.2.1||(dx .str a.2.2.2.1 b.2.2.2.1&&fC tI a.2.2.2.2 b.2.2.2.2))))))))=true
  have e:o5 []<0↔False:=by simp [o5]
  unfold xg
  simp only [XO,e,and_false,or_false,u5,Bo,RT,RU,Bool.or_eq_true,Bool.and_eq_true,hS,hI]
theorem wq85 (a b:NM.den):ak (F85 a b)=some (xg a b,()):=by
  have hq:∀x y:ByteArray,(x.toList=y.toList)↔x=y:=fun x y=>by rw [←uZ];unfold seq;rw [beq_iff_eq]
  simp only [F85,az,aD,af,abX,abY,aF,mU]
  split
  · rename_i h
    simp only [Bool.and_eq_true,beq_iff_eq,and_true,hq] at h
    obtain ⟨h1,h2,h3,h4,h5⟩:=h
    have:xg a b=0:=by
      unfold xg
      simp only [o5,u5.2 h1,Bo.2 h2,u5.2 h3,u5.2 h4,Bo.2 h5,if_true]
    rw [this]
  · exact bind_eq (abZ [mV a.1 b.1,pL a.2.1 b.2.1,mV a.2.2.1 b.2.2.1,mV a.2.2.2.1 b.2.2.2.1,pL a.2.2.2.2 b.2.2.2.2] (by simp)) rfl
theorem NN:NL.Ok prog:=fun x y h =>
  Rh (ρ := xe) Xm (enters_of func110 rfl rfl) (g := 85) (t := NM) (ks := [.s, .i, .s, .s, .i]) rfl (by decide) (fun w => isAgg33 w) (fun w => sizeOf33 w) xg
    (fun a b=>Rs (a,b,()) (xg a b,()) (wq85 a b)) RW (xs:=x.2.1) (n:=x.1) (y:=y) h

/- 83, lent -/
@[reducible] def pH83:ay:=ay.mk [(0,.fn 111 [] [.ptr 0 0]),(1,.c (.fn0 85))] [(0,.cells [.mp 1] false),(1,.map tG true .bool false)] [.part 0 0,.cell 0 0] []
@[reducible] def qH83:ay:=ay.mk [(0,.c (.cB 2 tG))] [(2,.arr tG false),(0,.cells [.mp 1] false),(1,.map tG true .bool false)] [.slot 0] []
noncomputable def u7:Cx:=(aL [] [NL])
theorem qj:u7.Ok prog:=au (uS:=[]) (hts:=[NL]) trivial ⟨⟨NN,rfl⟩,trivial⟩
noncomputable def mW:D prog 13 (some 4) 8:=dO [] (pick (kd prog f128) [(0,false)]) 0
noncomputable def mX:D prog 13 (some 4) 8:=dO [] (pick (kd prog f128) [(0,true)]) 0
noncomputable def iw:Cx:=yE u7 (fun kz=>MW kz u7 dU 4 8 [7] (mW) (mX))
theorem jr:(iw).Ok prog:=jC qj (fun h=>mJ mixed qj h)
@[reducible] def rE:ay:=ay.mk [(0,.c (.yl 4)),(4,.c (.mp 1))] [(4,.loop .ready none 3 [(2,.c (.ptr 2 0)),(4,.c .bL),(6,.fn 111 [] [.ptr 0 0])] [7] (.aN [.op (some 5) none (.alloc [.str (ByteArray.mk (Array.mk [])),.int .i64 (Int.ofNat 0),.str (ByteArray.mk (Array.mk [])),.str (ByteArray.mk (Array.mk [])),.int .i64 (Int.ofNat 0)]),.op none none (.store 5 (.t 5) (.t 7))]) (.block 1 (.aN [.op (some 8) none (.load false 1 (.t 2)),.op (some 9) none (.load true 5 (.t 5)),.op (some 10) none (.dH tG [.t 9]),.op (some 11) none (.append 5 (.t 8) (.t 10)),.op none none (.store 1 (.t 2) (.t 11))])) 13),(1,.map tG true .bool false),(3,.gQ),(2,.cells [.cB 5 tG] false),(0,.cells [.mp 1] false),(5,.arr tG false)] [.cell 2 0] []
noncomputable def rF:D prog 14 none 7:=dO [] (pick (kd prog f111) [(0,false)]) 0
noncomputable def gH83f109f128_0i_0:(((GG))×(Bool))→(List ((GG)×Bool))×Nat×(List (GG))×Unit→bO ((List ((GG)×Bool))×Nat×(List (GG))×Unit):=fun e (m1,j8,b5,_) =>
 .nd (decide ((j8+((((((e.1.1,e.1.2.1,e.1.2.2.1,e.1.2.2.2.1,e.1.2.2.2.2)::[])).drop (0:Nat)).take (1:Nat))).length)<cn)) <|
 .nd (jq m1 m1) <|
 .ret (m1,(j8+((((((e.1.1,e.1.2.1,e.1.2.2.1,e.1.2.2.2.1,e.1.2.2.2.2)::[])).drop (0:Nat)).take (1:Nat))).length),((((b5).drop (0:Nat)).take j8)++(((((e.1.1,e.1.2.1,e.1.2.2.1,e.1.2.2.2.1,e.1.2.2.2.2)::[])).drop (0:Nat)).take (1:Nat))),())
noncomputable def rG:qS prog 14 none 5:=uV mixed iw jr [0,1,2,3,4] rfl rE ( [.op (some 4) none (.load false 1 (.t 1))]) 4 5 [6,7] (some 8) ( .prod .str (.prod tI (.prod .str (.prod .str tI))))  true ( .bool)  false 0 rfl 7 rfl (rF) (fun e x=>ak (gH83f109f128_0i_0 e x)) (fun e=>fun x=>by kernel_rfl)
@[reducible] def xk:ay:=ay.mk [(2,.c (.ptr 2 0)),(4,.c .bL),(6,.fn 111 [] [.ptr 0 0])] [(2,.cells [.bL] false),(0,.cells [.mp 1] false),(1,.map tG true .bool false)] [.slot 2] []
@[reducible] def xq:aU:=[(.normal,ay.mk [(2,.c (.ptr 2 0))] [(2,.cells [.cB 3 tG] false),(0,.cells [.mp 1] false),(1,.map tG true .bool false),(3,.arr tG false)] [.slot 2,.cell 2 0] [])]
noncomputable def mY:D prog 14 none 5:=dO [.m rG] (kd prog f111) 0
theorem uy:cC prog f111=some ⟨14,2,(mY).er,[],[]⟩:=by kernel_rfl
noncomputable def nZ:fW prog 13 none 2:=rA mixed iw jr [0,1] rfl xk xq ( .t 6) [7] rfl (mW).er (mX).er 111 func111 (uy) (enters_of func111 rfl rfl) 5 rfl (mY) rfl
@[reducible] noncomputable def RX:Go.AM.Fn:=⟨13,2,(dO [.r nZ] (kd prog f128) 0:D prog 13 none 2).er,[.t 4],[some (.list tG)]⟩
noncomputable def H7:Cx:=zP prog u7 128 RX 2 (dO [.r nZ] (kd prog f128) 0)
theorem FJ:H7.Ok prog:=rz mixed qj func128 (by kernel_rfl) (enters_of func128 rfl rfl) rfl
@[reducible] noncomputable def RY:Go.AM.Fn:=⟨5,1,(dO [] (kd prog f109) 0:D prog 5 none 0).er,[.t 2],[some (.list tG)]⟩
noncomputable def H8:Cx:=Dr prog H7 109 RY (fun _=>dO [] (kd prog f109) 0)
theorem FK:H8.Ok prog:=oR mixed FJ func109 (by kernel_rfl) (enters_of func109 rfl rfl) (fun _=>by kernel_rfl)
noncomputable def ab0:Cx:=H8
theorem NO:ab0.Ok prog:=FK
noncomputable def Vd:D prog 12 none 2:=dO [] (kd prog f83) 0
noncomputable def FH83 (m1:List ((GG)×Bool)):bO (Nat×(List (GG))×(List ((GG)×Bool))×Unit) :=
 .an m1 fun l0 =>
 .bd (.fm gH83f109f128_0i_0 l0 (m1,(0:Nat),[],())) fun z1 =>
 .bd (FH110 z1.2.1 z1.2.2.1) fun y2 =>
 .ret (z1.2.1,y2.1,z1.1,())
theorem RZ:cC prog f83=some ⟨12,2,Vd.er,[.t 4],[some (.list tG)]⟩:=by kernel_rfl
noncomputable def ht83:Ht:=⟨83,pH83,qH83,(fun x=>ak (FH83 x.1))⟩
theorem R1:ht83.Ok prog:=bE mixed NO rfl func83 RZ (enters_of func83 rfl rfl) Vd (by kernel_rfl) rfl rfl ⟨_,rfl⟩ rfl (pre:=[0,1]) rfl (fun x=>by kernel_rfl)

/- 47, lent -/
@[reducible] def pH47:ay:=ay.mk [(0,.c (.ptr 0 0))] [(0,.cells [.mp 1] false),(1,.map tG true .bool false)] [.slot 0,.cell 0 0] []
@[reducible] def qH47:ay:=ay.mk [(0,.c (.cB 2 tG))] [(2,.arr tG false),(0,.cells [.mp 1] false),(1,.map tG true .bool false)] [.slot 0] []
noncomputable def ab2:Cx:=(aL [] [yG,ht84,ht83])
theorem NP:ab2.Ok prog:=au trivial ⟨⟨mN,rfl⟩,⟨RR,rfl⟩,⟨R1,rfl⟩,trivial⟩
noncomputable def Ve:D prog 11 none 2:=dO [] (kd prog f47) 0
noncomputable def FH47 (m1:List ((GG)×Bool)):bO (Nat×(List (GG))×(List ((GG)×Bool))×Unit) :=
 .bd (FH54 m1) fun y0 =>
 .br y0.1 (
 .ret ((0:Nat),[],y0.2.1,())) (
 .bd (FH84 y0.2.1) fun y1 =>
 .bd (FH83 y1.1) fun y2 =>
 .ret (y2.1,y2.2.1,y2.2.2.1,()))
theorem R2:cC prog f47=some ⟨11,1,Ve.er,[.t 2],[some (.list tG)]⟩:=by kernel_rfl
noncomputable def XP:Ht:=⟨47,pH47,qH47,(fun x=>ak (FH47 x.1))⟩
theorem H9:XP.Ok prog:=bE mixed NP rfl func47 R2 (enters_of func47 rfl rfl) Ve (by kernel_rfl) rfl rfl ⟨_,rfl⟩ rfl (pre:=[0,1]) rfl (fun x=>by kernel_rfl)

/- 95, lent -/
@[reducible] def pH95:ay:=ay.mk [(0,.c (.mp 0))] [(0,.map .str false tG true)] [.slot 0] []
@[reducible] def qH95:ay:=ay.mk [(0,.fn 118 [] [.ptr 1 0])] [(1,.cells [.mp 0] false),(0,.map .str false tG true)] [.part 0 0] []
noncomputable def ab3:Cx:=(aL [] [])
theorem NQ:ab3.Ok prog:=au trivial trivial
noncomputable def Vf:D prog 4 none 1:=dO [] (kd prog f95) 0
noncomputable def FH95 (m0:cg):bO (cg×Unit) :=
 .ret (m0,())
theorem R3:cC prog f95=some ⟨4,1,Vf.er,[.t 2],[none]⟩:=by kernel_rfl
noncomputable def NS:Ht:=⟨95,pH95,qH95,(fun x=>ak (FH95 x.1))⟩
theorem u9:NS.Ok prog:=bE mixed NQ rfl func95 R3 (enters_of func95 rfl rfl) Vf (by kernel_rfl) rfl rfl ⟨_,rfl⟩ rfl (pre:=[0]) rfl (fun x=>by kernel_rfl)

/- 105, by hand -/
@[reducible] def ab4:ay:=ay.mk [(0,.c (.cB 0 .str))] [(0,.arr .str false)] [.slot 0] []
@[reducible] def ab5:ay:=ay.mk [(0,.c .any)] [(0,.arr .str false)] [] []
noncomputable def FH105 (kJ:Nat) (b0:List ByteArray):bO (List ByteArray×Unit) :=
 .of (ux .str b0 kJ)
noncomputable def zU:Ht:=⟨105,ab4,ab5,(fun x=>ak (FH105 x.1 x.2.1))⟩
theorem xu:zU.Ok prog:=fun x y h=>Nb (ρ:=w9) Xk (enters_of func105 rfl rfl) (xs:=x.2.1) (n:=x.1) (y:=y) h

/- 81, lent -/
@[reducible] def pH81:ay:=ay.mk [(0,.fn 118 [] [.ptr 0 0])] [(0,.cells [.mp 1] false),(1,.map .str false tG true)] [.part 0 0,.cell 0 0] []
@[reducible] def qH81:ay:=ay.mk [(0,.c (.cB 2 .str))] [(2,.arr .str false),(0,.cells [.mp 1] false),(1,.map .str false tG true)] [.slot 0] []
noncomputable def vc:Cx:=(aL [] [zU])
theorem qk:vc.Ok prog:=au (uS:=[]) (hts:=[zU]) trivial ⟨⟨xu,rfl⟩,trivial⟩
noncomputable def mZ:D prog 13 (some 4) 7:=dO [] (pick (kd prog f126) [(0,false)]) 0
noncomputable def nc:D prog 13 (some 4) 7:=dO [] (pick (kd prog f126) [(0,true)]) 0
noncomputable def iy:Cx:=yE vc (fun kz=>MW kz vc dU 4 7 [7] (mZ) (nc))
theorem js:(iy).Ok prog:=jC qk (fun h=>mJ mixed qk h)
@[reducible] def rH:ay:=ay.mk [(0,.c (.yl 4)),(4,.c (.mp 1))] [(4,.loop .ready none 3 [(2,.c (.ptr 2 0)),(4,.c .bL),(6,.fn 118 [] [.ptr 0 0])] [7] (.aN [.op (some 5) none (.mv (.t 7))]) (.block 1 (.aN [.op (some 8) none (.load false 1 (.t 2)),.op (some 9) none (.mv (.t 5)),.op (some 10) none (.dH .str [.t 9]),.op (some 11) none (.append 1 (.t 8) (.t 10)),.op none none (.store 1 (.t 2) (.t 11))])) 13),(1,.map .str false tG true),(3,.gQ),(2,.cells [.cB 5 .str] false),(0,.cells [.mp 1] false),(5,.arr .str false)] [.cell 2 0] []
noncomputable def rI:D prog 14 none 7:=dO [] (pick (kd prog f118) [(0,false)]) 0
noncomputable def gH81f107f126_0i_0:((ByteArray)×(GG))→cg×Nat×List ByteArray×Unit→bO (cg×Nat×List ByteArray×Unit):=fun e (m1,j8,b5,_) =>
 .nd (decide ((j8+(((((e.1::[])).drop (0:Nat)).take (1:Nat))).length)<cn)) <|
 .nd (jq m1 m1) <|
 .ret (m1,(j8+(((((e.1::[])).drop (0:Nat)).take (1:Nat))).length),((((b5).drop (0:Nat)).take j8)++((((e.1::[])).drop (0:Nat)).take (1:Nat))),())
noncomputable def rJ:qS prog 14 none 5:=uV mixed iy js [0,1,2,3,4] rfl rH ( [.op (some 4) none (.load false 1 (.t 1))]) 4 5 [6,7] (some 8) ( .str)  false ( .prod .str (.prod tI (.prod .str (.prod .str tI))))  true 0 rfl 7 rfl (rI) (fun e x=>ak (gH81f107f126_0i_0 e x)) (fun e=>fun x=>by kernel_rfl)
@[reducible] def xw:ay:=ay.mk [(2,.c (.ptr 2 0)),(4,.c .bL),(6,.fn 118 [] [.ptr 0 0])] [(2,.cells [.bL] false),(0,.cells [.mp 1] false),(1,.map .str false tG true)] [.slot 2] []
@[reducible] def xy:aU:=[(.normal,ay.mk [(2,.c (.ptr 2 0))] [(2,.cells [.cB 3 .str] false),(0,.cells [.mp 1] false),(1,.map .str false tG true),(3,.arr .str false)] [.slot 2,.cell 2 0] [])]
noncomputable def nh:D prog 14 none 5:=dO [.m rJ] (kd prog f118) 0
theorem uz:cC prog f118=some ⟨14,2,(nh).er,[],[]⟩:=by kernel_rfl
noncomputable def n9:fW prog 13 none 2:=rA mixed iy js [0,1] rfl xw xy ( .t 6) [7] rfl (mZ).er (nc).er 118 func118 (uz) (enters_of func118 rfl rfl) 5 rfl (nh) rfl
@[reducible] noncomputable def R4:Go.AM.Fn:=⟨13,2,(dO [.r n9] (kd prog f126) 0:D prog 13 none 2).er,[.t 4],[some (.list .str)]⟩
noncomputable def Ia:Cx:=zP prog vc 126 R4 2 (dO [.r n9] (kd prog f126) 0)
theorem FL:Ia.Ok prog:=rz mixed qk func126 (by kernel_rfl) (enters_of func126 rfl rfl) rfl
@[reducible] noncomputable def R5:Go.AM.Fn:=⟨5,1,(dO [] (kd prog f107) 0:D prog 5 none 0).er,[.t 2],[some (.list .str)]⟩
noncomputable def Ib:Cx:=Dr prog Ia 107 R5 (fun _=>dO [] (kd prog f107) 0)
theorem FM:Ib.Ok prog:=oR mixed FL func107 (by kernel_rfl) (enters_of func107 rfl rfl) (fun _=>by kernel_rfl)
noncomputable def ab6:Cx:=Ib
theorem NT:ab6.Ok prog:=FM
noncomputable def Vg:D prog 9 none 2:=dO [] (kd prog f81) 0
noncomputable def FH81 (m1:cg):bO (Nat×List ByteArray×cg×Unit) :=
 .an m1 fun l0 =>
 .bd (.fm gH81f107f126_0i_0 l0 (m1,(0:Nat),[],())) fun z1 =>
 .bd (FH105 z1.2.1 z1.2.2.1) fun y2 =>
 .ret (z1.2.1,y2.1,z1.1,())
theorem R6:cC prog f81=some ⟨9,1,Vg.er,[.t 2],[some (.list .str)]⟩:=by kernel_rfl
noncomputable def NU:Ht:=⟨81,pH81,qH81,(fun x=>ak (FH81 x.1))⟩
theorem ve:NU.Ok prog:=bE mixed NT rfl func81 R6 (enters_of func81 rfl rfl) Vg (by kernel_rfl) rfl rfl ⟨_,rfl⟩ rfl (pre:=[0,1]) rfl (fun x=>by kernel_rfl)

/- 98, lent -/
@[reducible] def pH98:ay:=ay.mk [(0,.c (.hole (.list .str)))] [] [] []
@[reducible] def qH98:ay:=ay.mk [(0,.c (.cB 0 .str))] [(0,.arr .str false)] [.slot 0] []
noncomputable def ab7:Cx:=(aL [] [])
theorem NV:ab7.Ok prog:=au trivial trivial
noncomputable def Vh:D prog 8 none 0:=dO [] (kd prog f98) 0
noncomputable def FH98 (v0:List ByteArray):bO (Nat×List ByteArray×Unit) :=
 .br ((((v0).length:Nat):Int)==(0:Int)) (
 .am inferInstance (
 .ret ((0:Nat),[],())) (
 .nd (decide (((0:Nat)+(v0).length)<cn)) <|
 .ret (((0:Nat)+(v0).length),(((([]).drop (0:Nat)).take (0:Nat))++v0),()))) (
 .nd (decide (((0:Nat)+(v0).length)<cn)) <|
 .ret (((0:Nat)+(v0).length),(((([]).drop (0:Nat)).take (0:Nat))++v0),()))
theorem R7:cC prog f98=some ⟨8,1,Vh.er,[.t 2],[some (.list .str)]⟩:=by kernel_rfl
noncomputable def XQ:Ht:=⟨98,pH98,qH98,(fun x=>ak (FH98 x.1))⟩
theorem Ic:XQ.Ok prog:=bE mixed NV rfl func98 R7 (enters_of func98 rfl rfl) Vh (by kernel_rfl) rfl rfl ⟨_,rfl⟩ rfl (pre:=[]) rfl (fun x=>by kernel_rfl)

/- 99, lent -/
@[reducible] def pH99:ay:=ay.mk [(0,.c (.hole .str)),(1,.c (.ptr 0 0))] [(0,.cells [.ptr 1 0] false),(1,.cells [.mp 2,.mp 3,.mp 4,.mp 5] false),(2,.map .str false tG true),(3,.map .str false (.list .str) false),(4,.map .str false .bool false),(5,.map .str false .bool false)] [.slot 1,.cell 0 0,.cell 1 0,.cell 1 1,.cell 1 2,.cell 1 3] []
@[reducible] def qH99:ay:=ay.mk [(0,.c (.hole .bool))] [(0,.cells [.ptr 1 0] false),(1,.cells [.mp 2,.mp 3,.mp 4,.mp 5] false),(2,.map .str false tG true),(3,.map .str false (.list .str) false),(4,.map .str false .bool false),(5,.map .str false .bool false)] [] []
noncomputable def ab8:Cx:=(aL [] [])
theorem NW:ab8.Ok prog:=au trivial trivial
noncomputable def Vi:D prog 11 none 6:=dO [] (kd prog f99) 0
noncomputable def FH99 (v0:ByteArray) (m2:cg) (m3:cz) (m4:aO) (m5:aO):bO (Bool×cg×cz×aO×aO×Unit) :=
 .ret ((!(aq .str false m4 v0)),m2,m3,m4,m5,())
theorem R8:cC prog f99=some ⟨11,2,Vi.er,[.t 3],[some .bool]⟩:=by kernel_rfl
noncomputable def XR:Ht:=⟨99,pH99,qH99,(fun x=>ak (FH99 x.1 x.2.1 x.2.2.1 x.2.2.2.1 x.2.2.2.2.1))⟩
theorem Ie:XR.Ok prog:=bE mixed NW rfl func99 R8 (enters_of func99 rfl rfl) Vi (by kernel_rfl) rfl rfl ⟨_,rfl⟩ rfl (pre:=[0,1,2,3,4,5]) rfl (fun x=>by kernel_rfl)

/- 119, lent -/
@[reducible] def ab9:ay:=ay.mk [(0,.c (.cB 0 .str)),(1,.fn 99 [] [.ptr 1 0])] [(0,.arr .str false),(1,.cells [.ptr 2 0] false),(2,.cells [.mp 3,.mp 4,.mp 5,.mp 6] false),(3,.map .str false tG true),(4,.map .str false (.list .str) false),(5,.map .str false .bool false),(6,.map .str false .bool false)] [.slot 0,.part 1 0,.cell 1 0,.cell 2 0,.cell 2 1,.cell 2 2,.cell 2 3] []
@[reducible] def acd:ay:=ay.mk [(0,hI)] [(1,.cells [.ptr 2 0] false),(2,.cells [.mp 3,.mp 4,.mp 5,.mp 6] false),(3,.map .str false tG true),(4,.map .str false (.list .str) false),(5,.map .str false .bool false),(6,.map .str false .bool false),(0,.arr .str false)] [] []
noncomputable def NX:Cx:=(aL [] [XR])
theorem zV:NX.Ok prog:=au trivial ⟨⟨Ie,rfl⟩,trivial⟩
@[reducible] def R9:ay:=ay.mk [(0,.c (.cB 0 .str)),(1,.fn 99 [] [.ptr 1 0]),(7,hI),(8,hI)] [(0,.arr .str false),(1,.cells [.ptr 2 0] false),(2,.cells [.mp 3,.mp 4,.mp 5,.mp 6] false),(3,.map .str false tG true),(4,.map .str false (.list .str) false),(5,.map .str false .bool false),(6,.map .str false .bool false)] [] []
@[reducible] def Sa:aU:=[(.ret,ay.mk [(4,hI)] [(1,.cells [.ptr 2 0] false),(2,.cells [.mp 3,.mp 4,.mp 5,.mp 6] false),(3,.map .str false tG true),(4,.map .str false (.list .str) false),(5,.map .str false .bool false),(6,.map .str false .bool false),(0,.arr .str false)] [] []),(.exit 0,ay.mk [] [(1,.cells [.ptr 2 0] false),(2,.cells [.mp 3,.mp 4,.mp 5,.mp 6] false),(3,.map .str false tG true),(4,.map .str false (.list .str) false),(5,.map .str false .bool false),(6,.map .str false .bool false),(0,.arr .str false)] [] [])]
noncomputable def Sb:D prog 19 none 7:=dO [] (pick (kd prog f119) [(0,false)]) 0
noncomputable def gH119_0:Nat×Int×Int×List ByteArray×cg×cz×aO×aO×Unit→bO ((Nat×Int×Int×List ByteArray×cg×cz×aO×aO×Unit) ⊕ ((Int×cg×cz×aO×aO×List ByteArray×Unit) ⊕ ((cg×cz×aO×aO×List ByteArray×Unit)))):=fun (kJ,v7,v8,b0,m3,m4,m5,m6,_) =>
 .br (decide (v8<v7)) (
 .nb v8 ((kJ:Nat):Int) <|
 .nd (decide (((0:Nat)+(Int.toNat v8))<(b0).length)) <|
 .bd (FH99 ((b0).getD ((0:Nat)+(Int.toNat v8)) (bs [])) m3 m4 m5 m6) fun y0 =>
 .br y0.1 (
 .ret (.inr <| .inl<|(v8,y0.2.1,y0.2.2.1,y0.2.2.2.1,y0.2.2.2.2.1,b0,()))) (
 .ni (v8+(1:Int)) <|
 .ret (.inl (kJ,v7,(v8+(1:Int)),b0,y0.2.1,y0.2.2.1,y0.2.2.2.1,y0.2.2.2.2.1,())))) (
 .ret (.inr <| .inr<|(m3,m4,m5,m6,b0,())))
noncomputable def Sc:cq prog 19 none 7:=bP mixed NX zV [0,1,2,3,4,5,6] rfl R9 Sa rfl (Sb) (fun x=>ak (gH119_0 x)) (fun x=>by kernel_rfl)
noncomputable def NY:D prog 19 none 7:=dO [.l Sc] (kd prog f119) 0
noncomputable def FH119 (kJ:Nat) (b0:List ByteArray) (m3:cg) (m4:cz) (m5:aO) (m6:aO):bO (Int×cg×cz×aO×aO×List ByteArray×Unit) :=
 .bd (.it gH119_0 (kJ,((kJ:Nat):Int),(0:Int),b0,m3,m4,m5,m6,())) fun z1 =>
 .sm z1 (fun z2 =>
 .ret (z2.1,z2.2.1,z2.2.2.1,z2.2.2.2.1,z2.2.2.2.2.1,z2.2.2.2.2.2.1,())) fun z3 =>
 .ret ((-1:Int),z3.1,z3.2.1,z3.2.2.1,z3.2.2.2.1,z3.2.2.2.2.1,())
theorem NZ:cC prog f119=some ⟨19,2,NY.er,[.t 4],[some tI]⟩:=by kernel_rfl
noncomputable def Vj:Ht:=⟨119,ab9,acd,(fun x=>ak (FH119 x.1 x.2.1 x.2.2.1 x.2.2.2.1 x.2.2.2.2.1 x.2.2.2.2.2.1))⟩
theorem N4:Vj.Ok prog:=bE mixed zV rfl func119 NZ (enters_of func119 rfl rfl) NY (by kernel_rfl) rfl rfl ⟨_,rfl⟩ rfl (pre:=[0,1,2,3,4,5,6]) rfl (fun x=>by kernel_rfl)

/- 97, lent -/
@[reducible] def pH97:ay:=ay.mk [(0,.c (.cB 0 .str)),(1,.fn 99 [] [.ptr 1 0])] [(0,.arr .str false),(1,.cells [.ptr 2 0] false),(2,.cells [.mp 3,.mp 4,.mp 5,.mp 6] false),(3,.map .str false tG true),(4,.map .str false (.list .str) false),(5,.map .str false .bool false),(6,.map .str false .bool false)] [.slot 0,.part 1 0,.cell 1 0,.cell 2 0,.cell 2 1,.cell 2 2,.cell 2 3] []
@[reducible] def qH97:ay:=ay.mk [(0,.c (.PN 0 .str))] [(0,.arr .str false),(1,.cells [.ptr 2 0] false),(2,.cells [.mp 3,.mp 4,.mp 5,.mp 6] false),(3,.map .str false tG true),(4,.map .str false (.list .str) false),(5,.map .str false .bool false),(6,.map .str false .bool false)] [] []
noncomputable def Vk:Cx:=(aL [] [Vj,XR])
theorem DH:Vk.Ok prog:=au trivial ⟨⟨N4,rfl⟩,⟨Ie,rfl⟩,trivial⟩
@[reducible] def XS:ay:=ay.mk [(0,.c (.cB 0 .str)),(1,.fn 99 [] [.ptr 1 0]),(5,hI),(6,hI)] [(0,.arr .str false),(1,.cells [.ptr 2 0] false),(2,.cells [.mp 3,.mp 4,.mp 5,.mp 6] false),(3,.map .str false tG true),(4,.map .str false (.list .str) false),(5,.map .str false .bool false),(6,.map .str false .bool false)] [] []
@[reducible] def XT:aU:=[(.exit 0,ay.mk [(0,.c (.cB 0 .str)),(5,hI)] [(0,.arr .str false),(1,.cells [.ptr 2 0] false),(2,.cells [.mp 3,.mp 4,.mp 5,.mp 6] false),(3,.map .str false tG true),(4,.map .str false (.list .str) false),(5,.map .str false .bool false),(6,.map .str false .bool false)] [] [])]
noncomputable def XU:D prog 42 none 7:=dO [] (pick (kd prog f97) [(0,false)]) 0
noncomputable def gH97_0:Nat×Int×Int×List ByteArray×cg×cz×aO×aO×Unit→bO ((Nat×Int×Int×List ByteArray×cg×cz×aO×aO×Unit) ⊕ ((Nat×Int×List ByteArray×cg×cz×aO×aO×Unit))):=fun (kJ,v5,v6,b0,m3,m4,m5,m6,_) =>
 .br (decide (v6<((kJ:Nat):Int))) (
 .nb v6 ((kJ:Nat):Int) <|
 .nd (decide (((0:Nat)+(Int.toNat v6))<(b0).length)) <|
 .bd (FH99 ((b0).getD ((0:Nat)+(Int.toNat v6)) (bs [])) m3 m4 m5 m6) fun y1 =>
 .br (!y1.1) (
 .nb v5 ((kJ:Nat):Int) <|
 .nd (decide (((0:Nat)+(Int.toNat v5))<(b0).length)) <|
 .ni (v5+(1:Int)) <|
 .ni (v6+(1:Int)) <|
 .ret (.inl (kJ,(v5+(1:Int)),(v6+(1:Int)),((b0).set ((0:Nat)+(Int.toNat v5)) ((b0).getD ((0:Nat)+(Int.toNat v6)) (bs []))),y1.2.1,y1.2.2.1,y1.2.2.2.1,y1.2.2.2.2.1,()))) (
 .ni (v6+(1:Int)) <|
 .ret (.inl (kJ,v5,(v6+(1:Int)),b0,y1.2.1,y1.2.2.1,y1.2.2.2.1,y1.2.2.2.2.1,())))) (
 .ret (.inr (kJ,v5,b0,m3,m4,m5,m6,())))
noncomputable def XV:cq prog 42 none 7:=bP mixed Vk DH [0,1,2,3,4,5,6] rfl XS XT rfl (XU) (fun x=>ak (gH97_0 x)) (fun x=>by kernel_rfl)
noncomputable def Vl:D prog 42 none 7:=dO [.l XV] (kd prog f97) 0
noncomputable def FH97 (kJ:Nat) (b0:List ByteArray) (m3:cg) (m4:cz) (m5:aO) (m6:aO):bO (Nat×Nat×List ByteArray×cg×cz×aO×aO×Unit) :=
 .bd (FH119 kJ b0 m3 m4 m5 m6) fun y0 =>
 .br (y0.1==(-1:Int)) (
 .ret ((0:Nat),kJ,y0.2.2.2.2.2.1,y0.2.1,y0.2.2.1,y0.2.2.2.1,y0.2.2.2.2.1,())) (
 .ni (y0.1+(1:Int)) <|
 .bd (.it gH97_0 (kJ,y0.1,(y0.1+(1:Int)),y0.2.2.2.2.2.1,y0.2.1,y0.2.2.1,y0.2.2.2.1,y0.2.2.2.2.1,())) fun z2 =>
 .nd (decide ((0:Int)≤z2.2.1)) <|
 .nd (decide (z2.2.1≤((z2.1:Nat):Int))) <|
 .nd (decide (((z2.1:Nat):Int)≤((z2.1:Nat):Int))) <|
 .nd (decide ((0:Int)≤(0:Int))) <|
 .nd (decide ((0:Int)≤z2.2.1)) <|
 .nd (decide (z2.2.1≤((z2.1:Nat):Int))) <|
 .ret (((0:Nat)+(Int.toNat (0:Int))),((Int.toNat z2.2.1) - (Int.toNat (0:Int))),(Aj (bs []) z2.2.2.1 ((0:Nat)+(Int.toNat z2.2.1)) ((Int.toNat ((z2.1:Nat):Int)) - (Int.toNat z2.2.1))),z2.2.2.2.1,z2.2.2.2.2.1,z2.2.2.2.2.2.1,z2.2.2.2.2.2.2.1,()))
theorem Sd:cC prog f97=some ⟨42,2,Vl.er,[.t 4],[some (.list .str)]⟩:=by kernel_rfl
noncomputable def ht97:Ht:=⟨97,pH97,qH97,(fun x=>ak (FH97 x.1 x.2.1 x.2.2.1 x.2.2.2.1 x.2.2.2.2.1 x.2.2.2.2.2.1))⟩
theorem Se:ht97.Ok prog:=bE mixed DH rfl func97 Sd (enters_of func97 rfl rfl) Vl (by kernel_rfl) rfl rfl ⟨_,rfl⟩ rfl (pre:=[0,1,2,3,4,5,6]) rfl (fun x=>by kernel_rfl)

/- 96, lent -/
@[reducible] def j9:ay:=ay.mk [(0,.c (.hole .str)),(1,.c (.ptr 0 0)),(2,.c (.ptr 1 0))] [(0,.cells [.ptr 2 0] false),(1,.cells [.fn 96 .nil (.cons (.ptr 0 0) (.cons (.ptr 1 0) .nil))] false),(2,.cells [.mp 3,.mp 4,.mp 5,.mp 6] false),(3,.map .str false tG true),(4,.map .str false (.list .str) false),(5,.map .str false .bool false),(6,.map .str false .bool false)] [.slot 1,.slot 2,.cell 0 0,.cell 2 0,.cell 2 1,.cell 2 2,.cell 2 3] []
@[reducible] def kf:ay:=ay.mk [(0,.c .any)] [(0,.cells [.ptr 2 0] false),(2,.cells [.mp 3,.mp 4,.mp 5,.mp 6] false),(3,.map .str false tG true),(4,.map .str false (.list .str) false),(5,.map .str false .bool false),(6,.map .str false .bool false),(1,.cells [.fn 96 .nil (.cons (.ptr 0 0) (.cons (.ptr 1 0) .nil))] false)] [] []
noncomputable def N5 (rec:j9.T→Option kf.T):Cx:=(aL [] [⟨96,j9,kf,rec⟩])
theorem DI (rec:j9.T→Option kf.T) (h:Ht.Ok prog ⟨96,j9,kf,rec⟩):(N5 rec).Ok prog:=au trivial ⟨⟨h,rfl⟩,trivial⟩
@[reducible] def FN:ay:=ay.mk [(2,.c (.ptr 1 0)),(22,.c (.hole (.list .str))),(23,hI),(24,hI)] [(1,.cells [.fn 96 .nil (.cons (.ptr 0 0) (.cons (.ptr 1 0) .nil))] false),(0,.cells [.ptr 2 0] false),(2,.cells [.mp 3,.mp 4,.mp 5,.mp 6] false),(3,.map .str false tG true),(4,.map .str false (.list .str) false),(5,.map .str false .bool false),(6,.map .str false .bool false)] [] []
@[reducible] def FO:aU:=[(.exit 0,ay.mk [] [(0,.cells [.ptr 2 0] false),(2,.cells [.mp 3,.mp 4,.mp 5,.mp 6] false),(3,.map .str false tG true),(4,.map .str false (.list .str) false),(5,.map .str false .bool false),(6,.map .str false .bool false),(1,.cells [.fn 96 .nil (.cons (.ptr 0 0) (.cons (.ptr 1 0) .nil))] false)] [] [])]
noncomputable def N6 (rec:j9.T→Option kf.T) (h:Ht.Ok prog ⟨96,j9,kf,rec⟩):D prog 32 none 7:=dO [] (pick (kd prog f96) [(0,false)]) 0
noncomputable def gH96_0:List ByteArray×Int×Int×cg×cz×aO×aO×Unit→Tr j9.T kf.T ((List ByteArray×Int×Int×cg×cz×aO×aO×Unit) ⊕ ((cg×cz×aO×aO×Unit))):=fun (v22,v23,v24,m3,m4,m5,m6,_) =>
 .br (decide (v24<v23)) (
 .nb v24 (((v22).length:Nat):Int) <|
 .bd (.rc (((v22).getD (Int.toNat v24) (bs [])),m3,m4,m5,m6,())) fun y0 =>
 .ni (v24+(1:Int)) <|
 .ret (.inl (v22,v23,(v24+(1:Int)),y0.1,y0.2.1,y0.2.2.1,y0.2.2.2.1,()))) (
 .ret (.inr (m3,m4,m5,m6,())))
theorem XW (rec:j9.T→Option kf.T) (h:Ht.Ok prog ⟨96,j9,kf,rec⟩):∀x,wO (iO (FN.T ⊕ FO.T)) (N5 rec) dU [0,1,2,3,4,5,6] FN FO (N6 rec h) (fun y=>some (.inl y)) (fun b=>some (.inr b)) x=run rec (gH96_0 x):=fun x=>by kernel_rfl
noncomputable def XX (rec:j9.T→Option kf.T) (h:Ht.Ok prog ⟨96,j9,kf,rec⟩):cq prog 32 none 7:=bP mixed (N5 rec) (DI rec h) [0,1,2,3,4,5,6] rfl FN FO rfl (N6 rec h) (fun x=>run rec (gH96_0 x)) (XW rec h)
noncomputable def Vm (rec:j9.T→Option kf.T) (h:Ht.Ok prog ⟨96,j9,kf,rec⟩):D prog 32 none 7:=dO [.l (XX rec h)] (kd prog f96) 0
noncomputable def FH96 (v0:ByteArray) (m3:cg) (m4:cz) (m5:aO) (m6:aO):Tr j9.T kf.T (cg×cz×aO×aO×Unit) :=
 .br (aq .str false m6 v0) (
 .ret (m3,m4,m5,m6,())) (
 .bd (.it gH96_0 ((aq .str [] m4 v0),((((aq .str [] m4 v0)).length:Nat):Int),(0:Int),m3,m4,m5,(aQ .str m6 v0 true),())) fun z1 =>
 .ret (z1.1,z1.2.1,z1.2.2.1,z1.2.2.2.1,()))
theorem Sf (rec:j9.T→Option kf.T) (h:Ht.Ok prog ⟨96,j9,kf,rec⟩):cC prog f96=some ⟨32,3,(Vm rec h).er,[],[]⟩:=by kernel_rfl
theorem J1 (rec:j9.T→Option kf.T) (h:Ht.Ok prog ⟨96,j9,kf,rec⟩):Ht.Ok prog ⟨96,j9,kf,(fun x=>run rec (FH96 x.1 x.2.1 x.2.2.1 x.2.2.2.1 x.2.2.2.2.1))⟩:=bE mixed (DI rec h) rfl func96 (Sf rec h) (enters_of func96 rfl rfl) (Vm rec h) (by kernel_rfl) rfl rfl ⟨_,rfl⟩ rfl (pre:=[0,1,2,3,4,5,6]) rfl (fun x=>by kernel_rfl)
noncomputable def FH96fix (v0:ByteArray) (m3:cg) (m4:cz) (m5:aO) (m6:aO):bO (cg×cz×aO×aO×Unit):=.fx (A1:=j9.T) (B1:=kf.T) (fun x=>FH96 x.1 x.2.1 x.2.2.1 x.2.2.2.1 x.2.2.2.2.1) (v0,m3,m4,m5,m6,())
noncomputable def ht96:Ht:=⟨96,j9,kf,fun x=>ak (FH96fix x.1 x.2.1 x.2.2.1 x.2.2.2.1 x.2.2.2.2.1)⟩
theorem Sg:ht96.Ok prog:=M3 (F:=fun rec x=>run rec (FH96 x.1 x.2.1 x.2.2.1 x.2.2.2.1 x.2.2.2.2.1)) (fun rec h=>J1 rec h)

/- 66, lent -/
@[reducible] def pH66:ay:=ay.mk [(0,.c (.ptr 0 0))] [(0,.cells [.mp 1] false),(1,.map tG true .bool false)] [.slot 0,.cell 0 0] []
@[reducible] def qH66:ay:=ay.mk [(0,.c (.ptr 2 0))] [(2,.cells [.mp 3,.mp 4,.mp 5,.mp 6] false),(0,.cells [.mp 1] false),(1,.map tG true .bool false),(3,.map .str false tG true),(4,.map .str false (.list .str) false),(5,.map .str false .bool false),(6,.map .str false .bool false)] [.slot 0,.cell 2 0,.cell 2 1,.cell 2 2,.cell 2 3] []
noncomputable def Ig:Cx:=(aL [] [XP,NS,NU,XQ,ht97,ht96])
theorem rK:Ig.Ok prog:=au trivial ⟨⟨H9,rfl⟩,⟨u9,rfl⟩,⟨ve,rfl⟩,⟨Ic,rfl⟩,⟨Se,rfl⟩,⟨Sg,rfl⟩,trivial⟩
@[reducible] def XY:ay:=ay.mk [(3,.c (.ptr 2 0)),(26,.c (.cB 3 tG)),(27,hI),(28,hI)] [(2,.cells [.ptr 4 0] false),(3,.arr tG false),(0,.cells [.mp 1] false),(1,.map tG true .bool false),(4,.cells [.mp 5,.mp 6,.mp 7,.mp 8] false),(5,.map .str false tG true),(6,.map .str false (.list .str) false),(7,.map .str false .bool false),(8,.map .str false .bool false)] [.slot 3,.slot 26,.cell 2 0,.cell 4 0,.cell 4 1,.cell 4 2,.cell 4 3] []
@[reducible] def XZ:aU:=[(.exit 0,ay.mk [(3,.c (.ptr 2 0))] [(2,.cells [.ptr 3 0] false),(0,.cells [.mp 1] false),(1,.map tG true .bool false),(3,.cells [.mp 4,.mp 5,.mp 6,.mp 7] false),(4,.map .str false tG true),(5,.map .str false (.list .str) false),(6,.map .str false .bool false),(7,.map .str false .bool false)] [.slot 3,.cell 2 0,.cell 3 0,.cell 3 1,.cell 3 2,.cell 3 3] [])]
noncomputable def X0:D prog 148 none 2:=dO [] (pick (kd prog f66) [(0,false)]) 0
noncomputable def gH66_0:Nat×Int×Int×(List (GG))×(List ((GG)×Bool))×cg×cz×aO×aO×Unit→bO ((Nat×Int×Int×(List (GG))×(List ((GG)×Bool))×cg×cz×aO×aO×Unit) ⊕ (((List ((GG)×Bool))×cg×cz×aO×aO×Unit))):=fun (X1,v27,v28,b3,m1,m5,m6,m7,m8,_) =>
 .br (decide (v28<v27)) (
 .nb v28 ((X1:Nat):Int) <|
 .nd (decide (((0:Nat)+(Int.toNat v28))<(b3).length)) <|
 .br (!(aK .str m5 ((b3).getD ((0:Nat)+(Int.toNat v28)) ((bs []),(0:Int),(bs []),(bs []),(0:Int))).1)) (
 .ni (v28+(1:Int)) <|
 .ret (.inl (X1,v27,(v28+(1:Int)),b3,m1,(aQ .str m5 ((b3).getD ((0:Nat)+(Int.toNat v28)) ((bs []),(0:Int),(bs []),(bs []),(0:Int))).1 (((b3).getD ((0:Nat)+(Int.toNat v28)) ((bs []),(0:Int),(bs []),(bs []),(0:Int))).1,((b3).getD ((0:Nat)+(Int.toNat v28)) ((bs []),(0:Int),(bs []),(bs []),(0:Int))).2.1,((b3).getD ((0:Nat)+(Int.toNat v28)) ((bs []),(0:Int),(bs []),(bs []),(0:Int))).2.2.1,((b3).getD ((0:Nat)+(Int.toNat v28)) ((bs []),(0:Int),(bs []),(bs []),(0:Int))).2.2.2.1,((b3).getD ((0:Nat)+(Int.toNat v28)) ((bs []),(0:Int),(bs []),(bs []),(0:Int))).2.2.2.2)),m6,m7,m8,()))) (
 .ni (v28+(1:Int)) <|
 .ret (.inl (X1,v27,(v28+(1:Int)),b3,m1,m5,m6,m7,m8,())))) (
 .ret (.inr (m1,m5,m6,m7,m8,())))
noncomputable def X2:cq prog 148 none 2:=bP mixed Ig rK [0,1] rfl XY XZ rfl (X0) (fun x=>ak (gH66_0 x)) (fun x=>by kernel_rfl)
@[reducible] def ql:ay:=ay.mk [(3,.c (.ptr 2 0)),(57,.c (.cB 3 .str)),(58,hI),(59,hI)] [(2,.cells [.ptr 4 0] false),(3,.arr .str false),(0,.cells [.mp 1] false),(1,.map tG true .bool false),(4,.cells [.mp 5,.mp 6,.mp 7,.mp 8] false),(5,.map .str false tG true),(6,.map .str false (.list .str) false),(7,.map .str false .bool false),(8,.map .str false .bool false)] [.slot 3,.slot 57,.cell 2 0,.cell 4 0,.cell 4 1,.cell 4 2,.cell 4 3] []
@[reducible] def sZ:aU:=[(.exit 2,ay.mk [(3,.c (.ptr 2 0))] [(2,.cells [.ptr 3 0] false),(0,.cells [.mp 1] false),(1,.map tG true .bool false),(3,.cells [.mp 4,.mp 5,.mp 6,.mp 7] false),(4,.map .str false tG true),(5,.map .str false (.list .str) false),(6,.map .str false .bool false),(7,.map .str false .bool false)] [.slot 3,.cell 2 0,.cell 3 0,.cell 3 1,.cell 3 2,.cell 3 3] [])]
noncomputable def X3:D prog 148 none 2:=dO [] (pick (kd prog f66) [(1,false)]) 0
noncomputable def gH66_1:Nat×Int×Int×List ByteArray×(List ((GG)×Bool))×cg×cz×aO×aO×Unit→bO ((Nat×Int×Int×List ByteArray×(List ((GG)×Bool))×cg×cz×aO×aO×Unit) ⊕ (((List ((GG)×Bool))×cg×cz×aO×aO×Unit))):=fun (dA,v58,v59,b3,m1,m5,m6,m7,m8,_) =>
 .br (decide (v59<v58)) (
 .nb v59 ((dA:Nat):Int) <|
 .nd (decide (((0:Nat)+(Int.toNat v59))<(b3).length)) <|
 .br ((aq .str ((bs []),(0:Int),(bs []),(bs []),(0:Int)) m5 ((b3).getD ((0:Nat)+(Int.toNat v59)) (bs []))).2.1==(3:Int)) (
 .ni (v59+(1:Int)) <|
 .ret (.inl (dA,v58,(v59+(1:Int)),b3,m1,m5,m6,(aQ .str m7 (aq .str ((bs []),(0:Int),(bs []),(bs []),(0:Int)) m5 ((b3).getD ((0:Nat)+(Int.toNat v59)) (bs []))).2.2.1 true),m8,()))) (
 .br ((aq .str ((bs []),(0:Int),(bs []),(bs []),(0:Int)) m5 ((b3).getD ((0:Nat)+(Int.toNat v59)) (bs []))).2.1==(2:Int)) (
 .nd (decide (((aq .str [] m6 (aq .str ((bs []),(0:Int),(bs []),(bs []),(0:Int)) m5 ((b3).getD ((0:Nat)+(Int.toNat v59)) (bs []))).2.2.1)).length+1<cn)) <|
 .ni (v59+(1:Int)) <|
 .ret (.inl (dA,v58,(v59+(1:Int)),b3,m1,m5,(aQ .str m6 (aq .str ((bs []),(0:Int),(bs []),(bs []),(0:Int)) m5 ((b3).getD ((0:Nat)+(Int.toNat v59)) (bs []))).2.2.1 ((aq .str [] m6 (aq .str ((bs []),(0:Int),(bs []),(bs []),(0:Int)) m5 ((b3).getD ((0:Nat)+(Int.toNat v59)) (bs []))).2.2.1)++(((b3).getD ((0:Nat)+(Int.toNat v59)) (bs []))::[]))),m7,m8,()))) (
 .ni (v59+(1:Int)) <|
 .ret (.inl (dA,v58,(v59+(1:Int)),b3,m1,m5,m6,m7,m8,()))))) (
 .ret (.inr (m1,m5,m6,m7,m8,())))
/-! The loop in which lists grow that lie in a map, by hand. -/
@[reducible] def th:Ty:=.prod .str (.prod tI (.prod .str (.prod .str tI)))
def gb (b3:List ByteArray) (m1:List (th.den×Bool)) (m5:List (ByteArray×th.den)) (m7 m8:aO):ah :=
 [(2,.cells [.ptr 4 0] false),(3,.arr .str b3 false),(0,.cells [.mp 1] false),(1,.map th true .bool false m1),(4,.cells [.mp 5,.mp 6,.mp 7,.mp 8] false),(5,.map .str false th true m5),(7,.map .str false .bool false m7),(8,.map .str false .bool false m8)]
def xz (dA:Nat) (v58 v59:Int):Env:=[(3,.ptr 2 0),(57,.sl 3 .str 0 dA),(58,.int .i64 v58),(59,.int .i64 v59)]
def I66 (x:ql.T):St:=⟨xz x.1 x.2.1 x.2.2.1,⟨9,gb x.2.2.2.1 x.2.2.2.2.1 x.2.2.2.2.2.1 x.2.2.2.2.2.2.2.1 x.2.2.2.2.2.2.2.2.1⟩,[]⟩
def FP:C:=.aN [.op (some 97) none (.bin .add (.t 59) (.c (.int .i64 (Int.ofNat 1)))),.op (some 59) none (.mv (.t 97))]
def X4 : C := .draw [[], [0], [0, 1], [0, 1, 2], [], [4], [0, 1, 2, 3, 4, 5]]
 [.op (some 73) none (.load false 1 (.t 3)),.op (some 74) none (.ex .iF [.t 73]),.op (some 75) none (.mb 2 [true,true,false] (.t 74)),.op (some 76) none (.load false 1 (.t 75)),.op (some 77) none (.mb 2 [true,true,false] (.t 10)),.op (some 78) none (.load false 1 (.t 77)),
 .op none none (.ex (.gU .str false .bool false) [.t 76,.t 78,.c (.tf true)])]
def in66 : C := .block 4 (.seq (.aN [.op (some 72) none (.bin .eql (.t 70) (.c (.int .i64 (Int.ofNat 3)))), .op (some 71) none (.mv (.t 72))])
 (.cond (.t 71) X4 (.seq (.aN [.op (some 80) none (.bin .eql (.t 70) (.c (.int .i64 (Int.ofNat 2)))),.op (some 79) none (.mv (.t 80))]) (.cond (.t 79) (.draw mM Dz) .skip))))
def Vn : C := .seq (.block 3 (.seq (.aN [.op (some 61) none (.idx 1 (.t 57) (.t 59)), .op (some 62) none (.load false 1 (.t 61)), .op (some 9) none (.mv (.t 62))])
 (.seq (.aN [.op (some 63) none (.load false 1 (.t 3)),.op (some 64) none (.ex .iF [.t 63]),.op (some 65) none (.mb 0 [false] (.t 64)),.op (some 66) none (.load false 1 (.t 65)),.op (some 67) none (.mv (.t 9)),
 .op (some 68) none (.ex (.fP .str false th true false) [.t 66,.t 67]),.op (some 10) none (.alloc [.str ⟨⟨[]⟩⟩,.int .i64 (Int.ofNat 0),.str ⟨⟨[]⟩⟩,.str ⟨⟨[]⟩⟩,.int .i64 (Int.ofNat 0)]),.op none none (.store 5 (.t 10) (.t 68))])
 (.seq (.aN [.op (some 69) none (.mb 1 [true,false] (.t 10)),.op (some 70) none (.load false 1 (.t 69))]) in66)))) FP
def c66:C:=.seq (.aN [.op (some 60) none (.bin .lss (.t 59) (.t 58))]) (.seq (.cond (.t 60) .skip (.exit 2)) Vn)
theorem ach {dA : Nat} {v58 v59 : Int} {b3 : List ByteArray} {m1 : List (th.den × Bool)} {m5 : List (ByteArray × th.den)} {m7 m8 : aO} {env : Env} {nx : Nat} {bl : ah}
    (h3:get 3 env = .ptr 2 0) (h57:get 57 env = .sl 3 .str 0 dA) (h58:get 58 env = .int .i64 v58) (h59:get 59 env = .int .i64 v59) (hb:∀p∈gb b3 m1 m5 m7 m8,aj p.1 bl=some p.2) :
    ja 2 (List.range 9) ⟨env,⟨nx,bl⟩,[]⟩ ⟨xz dA v58 v59,⟨9,gb b3 m1 m5 m7 m8⟩,[]⟩:=by
  refine JY (by omega) rfl rfl rfl (fun p hp=>?_) (fun p hp=>?_)
  · simp only [xz, List.mem_cons, List.not_mem_nil, or_false] at hp
    rcases hp with rfl|rfl|rfl|rfl
    · rw [h3];exact .ptr 2 2 0 rfl
    · rw [h57];exact .sl 3 3 .str 0 dA rfl
    · rw [h58];exact .int _ _
    · rw [h59];exact .int _ _
  · have hg := hb p hp
    simp only [gb,List.mem_cons,List.not_mem_nil,or_false] at hp
    rcases hp with rfl|rfl|rfl|rfl|rfl|rfl|rfl|rfl
    · exact ⟨by omega,2,rfl,_,hg,.cons (.ptr 4 4 0 rfl) .nil⟩
    · exact ⟨by omega,3,rfl,.inl hg⟩
    · exact ⟨by omega,0,rfl,_,hg,.cons (.mp 1 1 rfl) .nil⟩
    · exact ⟨by omega,1,rfl,hg⟩
    · exact ⟨by omega,4,rfl,_,hg,.cons (.mp 5 5 rfl) (.cons (.mp 6 6 rfl) (.cons (.mp 7 7 rfl) (.cons (.mp 8 8 rfl) .nil)))⟩
    · exact ⟨by omega,5,rfl,hg⟩
    · exact ⟨by omega,7,rfl,hg⟩
    · exact ⟨by omega,8,rfl,hg⟩
def P66:ql.T ⊕ sZ.T→Ex→St→cz→Prop:=GRnd 6 2 I66 (fun x=>x.2.2.2.2.2.2.1) (sZ.st 2) (fun b=>b.2.2.1)
theorem N7 {dA : Nat} {v58 v59 : Int} {b3 : List ByteArray} {m1 : List (th.den × Bool)} {m5 : List (ByteArray × th.den)} {m6 : cz} {m7 m8 : aO} {env : Env} {nx : Nat} {bl : ah} (u : Unit) (hi : gm .i64 (v59 + 1) = true)
    (h3:get 3 env = .ptr 2 0) (h57:get 57 env = .sl 3 .str 0 dA) (h58:get 58 env = .int .i64 v58) (h59:get 59 env = .int .i64 v59) (hb:∀p∈gb b3 m1 m5 m7 m8,aj p.1 bl=some p.2) :
    gC prog 148 none 6 FP ⟨env,⟨nx,bl⟩,[]⟩ m6 (P66 (.inl (dA,v58,v59+1,b3,m1,m5,m6,m7,m8,u))):=by
  refine DB (env':=(59,.int .i64 (v59+1))::(97,.int .i64 (v59+1))::env) (EI:=nx) (bB:=bl) (ms':=[]) mixed (fun _=>rfl) (fun base=>?_) ⟨rfl,rfl,List.range 9,rfl,ach h3 h57 h58 rfl hb⟩
  refine Eq.trans (b:=need (gm .i64 (v59+1)) (some (Ex.normal,(59,.int .i64 (v59+1))::(97,.int .i64 (v59+1))::env,nx,bl,[]))) ?_ (by rw [fU hi])
  have h1:Ut dU (.bin .add (.t 59) (.c (.int .i64 (Int.ofNat 1)))) env bl nx=some ([gm .i64 (v59+1)],.int .i64 (v59+1),[]):=by
    show (match (O.t 59).ev env,(O.c (V.int .i64 (Int.ofNat 1))).ev env with
      | .int k a,.int k' b=>_
      | .str a,.str b=>_
      |_,_=>_)=_
    rw [show (O.t 59).ev env = .int .i64 v59 from h59]
    rfl
  show (match Ut dU (.bin .add (.t 59) (.c (.int .i64 (Int.ofNat 1)))) env bl nx with
    |some (ob,v,u)=>_
    |none=>_)=_
  rw [h1]
  rfl
def Ih (dA:Nat) (v58 v59:Int):Env:=(60,.tf true)::(60,.bool (decide (v59<v58)))::xz dA v58 v59
def rL (dA:Nat) (v58 v59:Int) (id:ByteArray) (m:th.den):Env :=
 (70,.int .i64 m.2.1)::(69,.ptr 9 1)::(10,.ptr 9 0)::(68,.agg [.str m.1,.int .i64 m.2.1,.str m.2.2.1,.str m.2.2.2.1,.int .i64 m.2.2.2.2])::(67,.str id)::(66,.mp 5)::(65,.ptr 4 0)::(64,.ptr 4 0)::(63,.ptr 4 0) ::
 (9,.str id)::(62,.str id)::(61,.ep 3 .str (0+Int.toNat v59) [])::Ih dA v58 v59
/-- Up to the switch. -/
theorem xA {dA : Nat} {v58 v59 : Int} {b3 : List ByteArray} {m1 : List (th.den × Bool)} {m5 : List (ByteArray × th.den)} {m6 : cz} {m7 m8 : aO} {Q R : Ex → St → cz → Prop}
    (iL:fu v59 (dA:Int)=true) (ez:decide (0+Int.toNat v59<b3.length)=true) {id:ByteArray} {m:th.den} (hid:id=b3.getD (0+Int.toNat v59) (bs [])) (hm:m=aq .str (bs [],(0:Int),bs [],bs [],(0:Int)) m5 id)
    (hin:gC prog 148 none 6 in66 ⟨rL dA v58 v59 id m,⟨10,(9,.cells [.str m.1,.int .i64 m.2.1,.str m.2.2.1,.str m.2.2.2.1,.int .i64 m.2.2.2.2] false)::gb b3 m1 m5 m7 m8⟩,[]⟩ m6 fun e S' es'=>e = .normal∧R .normal S' es')
    (h18:∀S' es',R .normal S' es'→gC prog 148 none 6 FP S' es' Q):gC prog 148 none 6 Vn ⟨Ih dA v58 v59,⟨9,gb b3 m1 m5 m7 m8⟩,[]⟩ m6 Q:=by
  subst hm;subst hid
  refine HT (Q1:=fun e S' es'=>e = .normal∧R .normal S' es') (fun _ _ h=>by cases h) (uX (Q1:=fun e S' es'=>e = .normal∧R .normal S' es') ?_ (fun _ _ h=>h) (fun i _ _ h=>by cases h.1) (fun _ _ h=>by cases h.1)) (fun S' es' hq=>h18 _ _ hq.2) (fun i S' es' hq=>by cases hq.1) (fun S' es' hq=>by cases hq.1)
  generalize hE3:((9,V.str (b3.getD (0+Int.toNat v59) (bs [])))::(62,V.str (b3.getD (0+Int.toNat v59) (bs [])))::(61,V.ep 3 .str (0+Int.toNat v59) [])::Ih dA v58 v59:Env)=e3
  refine fI (env':=e3) (EI:=9) (bB:=gb b3 m1 m5 m7 m8) (ms':=[]) mixed (fun base=>Eq.trans (b:=need (fu v59 (dA:Int)) (need (decide (0+Int.toNat v59<b3.length)) (some (Ex.normal,e3,9,gb b3 m1 m5 m7 m8,[])))) (by subst hE3;kernel_rfl) (by rw [fU iL,fU ez])) ?_
  subst hE3
  refine fI (EI := 10) (ms' := []) (bB := (9, .cells [.str (aq .str (bs [], (0 : Int), bs [], bs [], (0 : Int)) m5 (b3.getD (0 + Int.toNat v59) (bs []))).1, .int .i64 (aq .str (bs [], (0 : Int), bs [], bs [], (0 : Int)) m5 (b3.getD (0 + Int.toNat v59) (bs []))).2.1, .str (aq .str (bs [], (0 : Int), bs [], bs [], (0 : Int)) m5 (b3.getD (0 + Int.toNat v59) (bs []))).2.2.1, .str (aq .str (bs [], (0 : Int), bs [], bs [], (0 : Int)) m5 (b3.getD (0 + Int.toNat v59) (bs []))).2.2.2.1, .int .i64 (aq .str (bs [], (0 : Int), bs [], bs [], (0 : Int)) m5 (b3.getD (0 + Int.toNat v59) (bs []))).2.2.2.2] false) :: gb b3 m1 m5 m7 m8)
    (env':=(rL dA v58 v59 (b3.getD (0+Int.toNat v59) (bs [])) (aq .str (bs [],(0:Int),bs [],bs [],(0:Int)) m5 (b3.getD (0+Int.toNat v59) (bs [])))).drop 2) mixed (fun base=>by kernel_rfl) ?_
  exact fI (EI:=10) (ms':=[]) mixed (fun base=>by kernel_rfl) hin
theorem X5:∀(x:ql.T) (r:ql.T ⊕ sZ.T),ak (gH66_1 x)=some r→gC prog 148 none 6 c66 (I66 x) x.2.2.2.2.2.2.1 (P66 r):=by
  rintro ⟨dA,v58,v59,b3,m1,m5,m6,m7,m8,u⟩ r hr
  have hr:tW (decide (v59<v58)) _ _=some r:=hr
  rcases ir hr with ⟨hlt,hr⟩|⟨hlt,hr⟩
  · obtain ⟨iL, hr⟩ := cE hr
    obtain ⟨ez,hr⟩:=cE hr
    refine fI (env':=(60,.bool (decide (v59<v58)))::xz dA v58 v59) (EI:=9) (bB:=gb b3 m1 m5 m7 m8) (ms':=[]) mixed (fun base=>by kernel_rfl) ?_
    refine HT (Q1:=fun e S' es'=>e = .normal∧S'=⟨Ih dA v58 v59,⟨9,gb b3 m1 m5 m7 m8⟩,[]⟩∧es'=m6) (fun _ _ h=>by cases h) (qi (t:=true) (by show V.bool _=_;rw [hlt]) (DB mixed (fun _=>rfl) (fun base=>by kernel_rfl) ⟨rfl,rfl,rfl⟩)) (fun S' es' hq=>?_) (fun i S' es' hq=>by cases hq.1) (fun S' es' hq=>by cases hq.1)
    obtain ⟨-,rfl,rfl⟩:=hq
    obtain ⟨id,hid⟩:∃id,id=b3.getD (0+Int.toNat v59) (bs []):=⟨_,rfl⟩
    obtain ⟨m,hm⟩:∃m,m=aq .str (bs [],(0:Int),bs [],bs [],(0:Int)) m5 id:=⟨_,rfl⟩
    rw [←hid,←hm] at hr
    have hr:tW (m.2.1==3) _ _=some r:=hr
    rcases ir hr with ⟨h3,hr⟩|⟨h3,hr⟩
    · obtain ⟨hi, hr⟩ := cE hr
      cases hr
      refine xA (R:=fun _ S' EF=>EF=es'∧S'=⟨(78,.str m.2.2.1)::(77,.ptr 9 2)::(76,.mp 7)::(75,.ptr 4 2)::(74,.ptr 4 0)::(73,.ptr 4 0)::(71,.tf true)::(71,.bool (m.2.1==3))::(72,.bool (m.2.1==3))::rL dA v58 v59 id m,⟨17,(7,.map .str false .bool false (aQ .str m7 m.2.2.1 true))::(9,.cells [.str m.1,.int .i64 m.2.1,.str m.2.2.1,.str m.2.2.2.1,.int .i64 m.2.2.2.2] false)::aX 7 (gb b3 m1 m5 m7 m8)⟩,[]⟩) iL ez hid hm ?_ ?_
      · refine uX (Q1 := fun e S' EF => e = .normal ∧ (EF = es' ∧ S' = _)) ?_ (fun _ _ h => h) (fun i _ _ h => by cases h.1) (fun _ _ h => by cases h.1)
        refine fI (env':=(71,.bool (m.2.1==3))::(72,.bool (m.2.1==3))::rL dA v58 v59 id m) (EI:=10) (ms':=[]) (bB:=(9,.cells [.str m.1,.int .i64 m.2.1,.str m.2.2.1,.str m.2.2.2.1,.int .i64 m.2.2.2.2] false)::gb b3 m1 m5 m7 m8) mixed (fun base=>by kernel_rfl) ?_
        refine qi (t:=true) (by show V.bool _=_;rw [h3]) ?_
        exact DB mixed (fun _=>rfl) (fun base=>by kernel_rfl) ⟨rfl,rfl,rfl⟩
      · rintro S' EF ⟨rfl, rfl⟩
        refine N7 u hi rfl rfl rfl rfl fun p hp=>?_
        simp only [gb,List.mem_cons,List.not_mem_nil,or_false] at hp
        rcases hp with rfl|rfl|rfl|rfl|rfl|rfl|rfl|rfl<;>rfl
    · have hr : tW (m.2.1 == 2) _ _ = some r := hr
      rcases ir hr with ⟨h2,hr⟩|⟨h2,hr⟩
      · obtain ⟨lz, hr⟩ := cE hr
        obtain ⟨hi,hr⟩:=cE hr
        cases hr
        refine xA (R:=fun _ S' EF=>EF=aQ .str es' m.2.2.1 (aq .str [] es' m.2.2.1++[id])∧S'=⟨xz dA v58 v59,⟨28,gb b3 m1 m5 m7 m8⟩,[]⟩) iL ez hid hm ?_ ?_
        · refine uX (Q1 := fun e S' EF => e = .normal ∧ (EF = _ ∧ S' = _)) ?_ (fun _ _ h => h) (fun i _ _ h => by cases h.1) (fun _ _ h => by cases h.1)
          refine fI (env':=(71,.bool (m.2.1==3))::(72,.bool (m.2.1==3))::rL dA v58 v59 id m) (EI:=10) (ms':=[]) (bB:=(9,.cells [.str m.1,.int .i64 m.2.1,.str m.2.2.1,.str m.2.2.2.1,.int .i64 m.2.2.2.2] false)::gb b3 m1 m5 m7 m8) mixed (fun base=>by kernel_rfl) ?_
          refine qi (t:=false) (by show V.bool _=_;rw [h3]) ?_
          refine fI (env':=(79,.bool (m.2.1==2))::(80,.bool (m.2.1==2))::(71,.tf false)::(71,.bool (m.2.1==3))::(72,.bool (m.2.1==3))::rL dA v58 v59 id m) (EI:=10) (ms':=[]) (bB:=(9,.cells [.str m.1,.int .i64 m.2.1,.str m.2.2.1,.str m.2.2.2.1,.int .i64 m.2.2.2.2] false)::gb b3 m1 m5 m7 m8) mixed (fun base=>by kernel_rfl) ?_
          refine qi (t:=true) (by show V.bool _=_;rw [h2]) ?_
          refine Ni (Np (c2:=2) (c4:=4) (c9:=9) (k:=m.2.2.1) (x:=id) (env':=xz dA v58 v59) (bB:=gb b3 m1 m5 m7 m8) mixed rfl rfl rfl rfl rfl rfl (of_decide_eq_true lz) (fun i B hB=>?_) (fun t=>?_)) fun e S' EF hq=>⟨hq.1,hq.2.2,hq.2.1⟩
          · have hm := cW hB
            simp only [gb,List.mem_cons,List.not_mem_nil,or_false,Prod.mk.injEq] at hm
            rcases hm with ⟨rfl,rfl⟩|⟨rfl,rfl⟩|⟨rfl,rfl⟩|⟨rfl,rfl⟩|⟨rfl,rfl⟩|⟨rfl,rfl⟩|⟨rfl,rfl⟩|⟨rfl,rfl⟩<;>rfl
          · by_cases ht : t = 3 ∨ t = 57 ∨ t = 58 ∨ t = 59
            · rcases ht with rfl|rfl|rfl|rfl<;>exact .inr ⟨rfl,by omega⟩
            · refine .inl (get_none ?_)
              simp only [xz,List.map_cons,List.map_nil,List.mem_cons,List.not_mem_nil,or_false]
              omega
        · rintro S' EF ⟨rfl, rfl⟩
          refine N7 u hi rfl rfl rfl rfl fun p hp=>?_
          simp only [gb,List.mem_cons,List.not_mem_nil,or_false] at hp
          rcases hp with rfl|rfl|rfl|rfl|rfl|rfl|rfl|rfl<;>rfl
      · obtain ⟨hi, hr⟩ := cE hr
        cases hr
        refine xA (R:=fun _ S' EF=>EF=es'∧S'=⟨(79,.tf false)::(79,.bool (m.2.1==2))::(80,.bool (m.2.1==2))::(71,.tf false)::(71,.bool (m.2.1==3))::(72,.bool (m.2.1==3))::rL dA v58 v59 id m,⟨10,(9,.cells [.str m.1,.int .i64 m.2.1,.str m.2.2.1,.str m.2.2.2.1,.int .i64 m.2.2.2.2] false)::gb b3 m1 m5 m7 m8⟩,[]⟩) iL ez hid hm ?_ ?_
        · refine uX (Q1 := fun e S' EF => e = .normal ∧ (EF = es' ∧ S' = _)) ?_ (fun _ _ h => h) (fun i _ _ h => by cases h.1) (fun _ _ h => by cases h.1)
          refine fI (env':=(71,.bool (m.2.1==3))::(72,.bool (m.2.1==3))::rL dA v58 v59 id m) (EI:=10) (ms':=[]) (bB:=(9,.cells [.str m.1,.int .i64 m.2.1,.str m.2.2.1,.str m.2.2.2.1,.int .i64 m.2.2.2.2] false)::gb b3 m1 m5 m7 m8) mixed (fun base=>by kernel_rfl) ?_
          refine qi (t:=false) (by show V.bool _=_;rw [h3]) ?_
          refine fI (env':=(79,.bool (m.2.1==2))::(80,.bool (m.2.1==2))::(71,.tf false)::(71,.bool (m.2.1==3))::(72,.bool (m.2.1==3))::rL dA v58 v59 id m) (EI:=10) (ms':=[]) (bB:=(9,.cells [.str m.1,.int .i64 m.2.1,.str m.2.2.1,.str m.2.2.2.1,.int .i64 m.2.2.2.2] false)::gb b3 m1 m5 m7 m8) mixed (fun base=>by kernel_rfl) ?_
          refine qi (t:=false) (by show V.bool _=_;rw [h2]) ?_
          exact DB mixed (fun _=>rfl) (fun base=>by kernel_rfl) ⟨rfl,rfl,rfl⟩
        · rintro S' EF ⟨rfl, rfl⟩
          refine N7 u hi rfl rfl rfl rfl fun p hp=>?_
          simp only [gb,List.mem_cons,List.not_mem_nil,or_false] at hp
          rcases hp with rfl|rfl|rfl|rfl|rfl|rfl|rfl|rfl<;>rfl
  · cases hr
    refine fI (env':=(60,.bool (decide (v59<v58)))::xz dA v58 v59) (EI:=9) (bB:=gb b3 m1 m5 m7 m8) (ms':=[]) mixed (fun base=>by kernel_rfl) ?_
    refine HT (Q1:=fun e S' es'=>e = .exit 2∧S'=⟨(60,.tf false)::(60,.bool (decide (v59<v58)))::xz dA v58 v59,⟨9,gb b3 m1 m5 m7 m8⟩,[]⟩∧es'=m6) (fun _ _ h=>by cases h) (qi (t:=false) (by show V.bool _=_;rw [hlt]) ?_) (fun S' es' hq=>by cases hq.1) (fun i S' es' hq=>?_) (fun S' es' hq=>by cases hq.1)
    · exact DB mixed (fun _=>rfl) (fun base=>by kernel_rfl) ⟨rfl,rfl,rfl⟩
    · obtain ⟨h1, rfl, rfl⟩ := hq
      cases h1
      refine ⟨by simp,rfl,by show 6<9;omega,rfl,?_⟩
      obtain ⟨b',π,h1,h2,h3⟩:=aU.dn (base:=2) (xs:=sZ) (e:=.exit 2) (k:=fun x=>some x) (r:=(m1,m5,es',m7,m8,u)) (env:=(60,.tf false)::(60,.bool (decide (v59<v58)))::xz dA v58 v59) (nx:=9) (bl:=(6,.map .str false (.list .str) false es')::aX 6 (gb b3 m1 m5 m7 m8)) (ms:=[]) (by kernel_rfl)
      cases h1
      exact ⟨π,h3⟩
noncomputable def X6:cq prog 148 none 2 where
  c:=(X3).er
  run kz env nx bl ms K:=ql.rd kz.no [0,1] 2 env nx bl ms fun x=>kz.nd x.2.2.2.2.2.2.1.isEmpty (kz.bd (iter (fun x=>ak (gH66_1 x)) x) fun b=>sZ.go kz 2 b K)
  ok:=by
    intro X env nx bl ms K r h Q hQ
    obtain ⟨x,π,h1,h2⟩:=ay.dn (base:=2) (show ay.rd none (List.range 2) 2 ql _ _ _ _ _=some r from h)
    obtain ⟨hemp,h1⟩:=cE h1
    obtain ⟨b,h3,h4⟩:=oN h1
    have h5:=aU.zD h4
    intro body hbody Y ι μ a w ho hb hR
    have qv:=h2.rep hb hR
    obtain ⟨dA,v58,v59,b3,m1,m5,m6,m7,m8,u⟩:=x
    have hm:m6=[]:=List.isEmpty_iff.1 hemp
    subst hm
    have qu:∀id B,aj id (gb b3 m1 m5 m7 m8)=some B→aj id (ql.st 2 (dA,v58,v59,b3,m1,m5,[],m7,m8,u)).H.bl=some B∧id≠6:=by
      intro id B hB
      have hm:=cW hB
      simp only [gb,List.mem_cons,List.not_mem_nil,or_false,Prod.mk.injEq] at hm
      rcases hm with ⟨rfl,rfl⟩|⟨rfl,rfl⟩|⟨rfl,rfl⟩|⟨rfl,rfl⟩|⟨rfl,rfl⟩|⟨rfl,rfl⟩|⟨rfl,rfl⟩|⟨rfl,rfl⟩<;>exact ⟨rfl,by omega⟩
    obtain ⟨hI,hG⟩:=Rk (gi:=6) (bB:=gb b3 m1 m5 m7 m8) qv.inv rfl qu
    exact Xj (I:=I66) (ES:=fun x=>x.2.2.2.2.2.2.1) (X:=sZ.st 2) (nb:=fun b=>b.2.2.1) (c:=c66) X5 h3 (hQ _ _ _ _ _ h5) (by rw [hbody];kernel_rfl) ho hb ⟨qv.env,qv.sz,hI,qv.ms⟩ hG
@[reducible] def J2:ay:=ay.mk [(3,.c (.ptr 2 0)),(11,.c (.ptr 3 0)),(16,.c (.PN 10 .str)),(102,.c (.mp 5)),(103,.c (.ptr 9 0)),(121,.c (.ptr 11 1)),(122,hI),(123,.c (.hole .bool)),(132,.c (.hole (.list .str))),(133,hI),(134,hI)] [(2,.cells [.ptr 4 0] false),(3,.cells [.fn 96 .nil (.cons (.ptr 2 0) (.cons (.ptr 3 0) .nil))] false),(10,.arr .str false),(5,.map .str false (.list .str) false),(11,.cells [.hole .str,.hole tI,.hole .str,.hole .str,.hole tI] false),(4,.cells [.mp 6,.mp 5,.mp 7,.mp 8] false),(6,.map .str false tG true),(7,.map .str false .bool false),(8,.map .str false .bool false),(0,.cells [.mp 1] false),(1,.map tG true .bool false)] [.slot 16,.slot 121] []
@[reducible] def J3:aU:=[(.exit 7,ay.mk [(3,.c (.ptr 2 0)),(11,.c (.ptr 3 0)),(102,.c (.mp 5)),(103,.c (.ptr 9 0)),(121,.c (.ptr 10 1)),(122,hI),(123,.c (.hole .bool))] [(2,.cells [.ptr 4 0] false),(3,.cells [.fn 96 .nil (.cons (.ptr 2 0) (.cons (.ptr 3 0) .nil))] false),(5,.map .str false (.list .str) false),(10,.cells [.hole .str,.hole tI,.hole .str,.hole .str,.hole tI] false),(4,.cells [.mp 6,.mp 5,.mp 7,.mp 8] false),(6,.map .str false tG true),(7,.map .str false .bool false),(8,.map .str false .bool false),(0,.cells [.mp 1] false),(1,.map tG true .bool false)] [.slot 121] [])]
noncomputable def J4:D prog 148 none 10:=dO [] (pick (kd prog f66) [(2,false),(0,false)]) 0
noncomputable def gH66_2b_3:Nat×Nat×Int×Bool×List ByteArray×Int×Int×List ByteArray×cz×ByteArray×Int×ByteArray×ByteArray×Int×cg×aO×aO×(List ((GG)×Bool))×Unit→bO ((Nat×Nat×Int×Bool×List ByteArray×Int×Int×List ByteArray×cz×ByteArray×Int×ByteArray×ByteArray×Int×cg×aO×aO×(List ((GG)×Bool))×Unit) ⊕ ((Int×Bool×cz×ByteArray×Int×ByteArray×ByteArray×Int×cg×aO×aO×(List ((GG)×Bool))×Unit))):=fun (Si,X7,nw,ny,N8,X8,DJ,PU,m5,N9,Oa,Ob,Oc,Od,m6,m7,m8,m1,_) =>
 .br (decide (DJ<X8)) (
 .nb DJ (((N8).length:Nat):Int) <|
 .nb (0:Int) ((X7:Nat):Int) <|
 .nd (decide ((Si+(Int.toNat (0:Int)))<(PU).length)) <|
 .br (!(seq ((N8).getD (Int.toNat DJ) (bs [])) ((PU).getD (Si+(Int.toNat (0:Int))) (bs [])))) (
 .bd (FH96fix ((N8).getD (Int.toNat DJ) (bs [])) m6 m5 m7 m8) fun y7 =>
 .ni (DJ+(1:Int)) <|
 .ret (.inl (Si,X7,nw,ny,N8,X8,(DJ+(1:Int)),PU,y7.2.1,N9,Oa,Ob,Oc,Od,y7.1,y7.2.2.1,y7.2.2.2.1,m1,()))) (
 .ni (DJ+(1:Int)) <|
 .ret (.inl (Si,X7,nw,ny,N8,X8,(DJ+(1:Int)),PU,m5,N9,Oa,Ob,Oc,Od,m6,m7,m8,m1,())))) (
 .ret (.inr (nw,ny,m5,N9,Oa,Ob,Oc,Od,m6,m7,m8,m1,())))
noncomputable def J5:cq prog 148 none 10:=bP mixed Ig rK [0,1,2,3,4,5,6,7,8,9] rfl J2 J3 rfl (J4) (fun x=>ak (gH66_2b_3 x)) (fun x=>by kernel_rfl)
@[reducible] def X9:ay:=ay.mk [(3,.c (.ptr 2 0)),(11,.c (.ptr 3 0)),(102,.c (.mp 5))] [(2,.cells [.ptr 4 0] false),(3,.cells [.fn 96 .nil (.cons (.ptr 2 0) (.cons (.ptr 3 0) .nil))] false),(4,.cells [.mp 6,.mp 5,.mp 7,.mp 8] false),(5,.map .str false (.list .str) false),(0,.cells [.mp 1] false),(1,.map tG true .bool false),(6,.map .str false tG true),(7,.map .str false .bool false),(8,.map .str false .bool false)] [.slot 3,.slot 11,.cell 2 0,.cell 4 1,.cell 4 0,.cell 4 2,.cell 4 3] []
noncomputable def Yc:D prog 148 none 10:=dO [.l J5] (pick (kd prog f66) [(2,false)]) 0
noncomputable def gH66_2:((ByteArray)×(List ByteArray))→cz×(List ((GG)×Bool))×cg×aO×aO×Unit→bO (cz×(List ((GG)×Bool))×cg×aO×aO×Unit):=fun e (m5,m1,m6,m7,m8,_) =>
 .br (!(aK .str m6 e.1)) (
 .nd (jq m5 m5) <|
 .ret (m5,m1,m6,m7,m8,())) (
 .br ((aq .str ((bs []),(0:Int),(bs []),(bs []),(0:Int)) m6 e.1).2.1==(3:Int)) (
 .nd (jq m5 m5) <|
 .ret (m5,m1,m6,m7,m8,())) (
 .bd (FH98 e.2) fun y5 =>
 .bd (FH97 y5.1 y5.2.1 m6 m5 m7 m8) fun y6 =>
 .br (!(((y6.2.1:Nat):Int)==(1:Int))) (
 .nd (jq y6.2.2.2.2.1 m5) <|
 .ret (y6.2.2.2.2.1,m1,y6.2.2.2.1,y6.2.2.2.2.2.1,y6.2.2.2.2.2.2.1,())) (
 .bd (.it gH66_2b_3 (y6.1,y6.2.1,(aq .str ((bs []),(0:Int),(bs []),(bs []),(0:Int)) m6 e.1).2.1,((aq .str ((bs []),(0:Int),(bs []),(bs []),(0:Int)) m6 e.1).2.1==(3:Int)),e.2,(((e.2).length:Nat):Int),(0:Int),y6.2.2.1,y6.2.2.2.2.1,(aq .str ((bs []),(0:Int),(bs []),(bs []),(0:Int)) m6 e.1).1,(aq .str ((bs []),(0:Int),(bs []),(bs []),(0:Int)) m6 e.1).2.1,(aq .str ((bs []),(0:Int),(bs []),(bs []),(0:Int)) m6 e.1).2.2.1,(aq .str ((bs []),(0:Int),(bs []),(bs []),(0:Int)) m6 e.1).2.2.2.1,(aq .str ((bs []),(0:Int),(bs []),(bs []),(0:Int)) m6 e.1).2.2.2.2,y6.2.2.2.1,y6.2.2.2.2.2.1,y6.2.2.2.2.2.2.1,m1,())) fun z8 =>
 .nd (jq z8.2.2.1 m5) <|
 .ret (z8.2.2.1,z8.2.2.2.2.2.2.2.2.2.2.2.1,z8.2.2.2.2.2.2.2.2.1,z8.2.2.2.2.2.2.2.2.2.1,z8.2.2.2.2.2.2.2.2.2.2.1,()))))
noncomputable def Yd:qS prog 148 none 2:=Bi mixed Ig rK [0,1] rfl X9 ( [.op (some 99) none (.load false 1 (.t 3)),.op (some 100) none (.ex gj.iF [.t 99]),.op (some 101) none (.mb 1 [true,false] (.t 100)),.op (some 102) none (.load false 1 (.t 101))]) 102 103 [104,105] (some 106) ( .str)  false ( .list .str)  false 5 rfl 10 rfl (Yc) (fun e x=>ak (gH66_2 e x)) (fun e=>fun x=>by kernel_rfl)
noncomputable def Vo:D prog 148 none 2:=dO [.l X2,.l X6,.m Yd] (kd prog f66) 0
noncomputable def FH66 (m1:List ((GG)×Bool)):bO ((List ((GG)×Bool))×cg×cz×aO×aO×Unit) :=
 .bd (FH47 m1) fun y0 =>
 .bd (.it gH66_0 (y0.1,((y0.1:Nat):Int),(0:Int),y0.2.1,y0.2.2.1,[],[],[],[],())) fun z1 =>
 .bd (FH95 z1.2.1) fun y2 =>
 .bd (FH81 y2.1) fun y3 =>
 .nd (z1.2.2.1).isEmpty <|
 .bd (.it gH66_1 (y3.1,((y3.1:Nat):Int),(0:Int),y3.2.1,z1.1,y3.2.2.1,z1.2.2.1,z1.2.2.2.1,z1.2.2.2.2.1,())) fun z4 =>
 .bd (.mq gH66_2 z4.2.2.1 (z4.2.2.1,z4.1,z4.2.1,z4.2.2.2.1,z4.2.2.2.2.1,())) fun z9 =>
 .ret (z9.2.1,z9.2.2.1,z9.1,z9.2.2.2.1,z9.2.2.2.2.1,())
theorem Sj:cC prog f66=some ⟨148,1,Vo.er,[.t 2],[none]⟩:=by kernel_rfl
noncomputable def DK:Ht:=⟨66,pH66,qH66,(fun x=>ak (FH66 x.1))⟩
theorem rM:DK.Ok prog:=bE mixed rK rfl func66 Sj (enters_of func66 rfl rfl) Vo (by kernel_rfl) rfl rfl ⟨_,rfl⟩ rfl (pre:=[0,1]) rfl (fun x=>by kernel_rfl)

/- 123, lent -/
@[reducible] def aci:ay:=ay.mk [(0,.c (.hole .str)),(1,.c (.ptr 0 0))] [(0,.cells [.ptr 1 0] false),(1,.cells [.mp 2,.mp 3,.mp 4,.mp 5] false),(2,.map .str false tG true),(3,.map .str false (.list .str) false),(4,.map .str false .bool false),(5,.map .str false .bool false)] [.slot 1,.cell 0 0,.cell 1 0,.cell 1 1,.cell 1 2,.cell 1 3] []
@[reducible] def acj:ay:=ay.mk [(0,.c (.hole .bool))] [(0,.cells [.ptr 1 0] false),(1,.cells [.mp 2,.mp 3,.mp 4,.mp 5] false),(2,.map .str false tG true),(3,.map .str false (.list .str) false),(4,.map .str false .bool false),(5,.map .str false .bool false)] [] []
noncomputable def Ye:Cx:=(aL [] [])
theorem J6:Ye.Ok prog:=au trivial trivial
noncomputable def Oe:D prog 10 none 6:=dO [] (kd prog f123) 0
noncomputable def FH123 (v0:ByteArray) (m2:cg) (m3:cz) (m4:aO) (m5:aO):bO (Bool×cg×cz×aO×aO×Unit) :=
 .ret ((aq .str false m5 v0),m2,m3,m4,m5,())
theorem Of:cC prog f123=some ⟨10,2,Oe.er,[.t 3],[some .bool]⟩:=by kernel_rfl
noncomputable def Og:Ht:=⟨123,aci,acj,(fun x=>ak (FH123 x.1 x.2.1 x.2.2.1 x.2.2.2.1 x.2.2.2.2.1))⟩
theorem DL:Og.Ok prog:=bE mixed J6 rfl func123 Of (enters_of func123 rfl rfl) Oe (by kernel_rfl) rfl rfl ⟨_,rfl⟩ rfl (pre:=[0,1,2,3,4,5]) rfl (fun x=>by kernel_rfl)

/- 119, lent -/
@[reducible] def Oh:ay:=ay.mk [(0,.c (.cB 0 .str)),(1,.fn 123 [] [.ptr 1 0])] [(0,.arr .str false),(1,.cells [.ptr 2 0] false),(2,.cells [.mp 3,.mp 4,.mp 5,.mp 6] false),(3,.map .str false tG true),(4,.map .str false (.list .str) false),(5,.map .str false .bool false),(6,.map .str false .bool false)] [.slot 0,.part 1 0,.cell 1 0,.cell 2 0,.cell 2 1,.cell 2 2,.cell 2 3] []
@[reducible] def Oi:ay:=ay.mk [(0,hI)] [(1,.cells [.ptr 2 0] false),(2,.cells [.mp 3,.mp 4,.mp 5,.mp 6] false),(3,.map .str false tG true),(4,.map .str false (.list .str) false),(5,.map .str false .bool false),(6,.map .str false .bool false),(0,.arr .str false)] [] []
noncomputable def zW:Cx:=(aL [] [Og])
theorem rN:zW.Ok prog:=au trivial ⟨⟨DL,rfl⟩,trivial⟩
@[reducible] def FQ:ay:=ay.mk [(0,.c (.cB 0 .str)),(1,.fn 123 [] [.ptr 1 0]),(7,hI),(8,hI)] [(0,.arr .str false),(1,.cells [.ptr 2 0] false),(2,.cells [.mp 3,.mp 4,.mp 5,.mp 6] false),(3,.map .str false tG true),(4,.map .str false (.list .str) false),(5,.map .str false .bool false),(6,.map .str false .bool false)] [] []
@[reducible] def FR:aU:=[(.ret,ay.mk [(4,hI)] [(1,.cells [.ptr 2 0] false),(2,.cells [.mp 3,.mp 4,.mp 5,.mp 6] false),(3,.map .str false tG true),(4,.map .str false (.list .str) false),(5,.map .str false .bool false),(6,.map .str false .bool false),(0,.arr .str false)] [] []),(.exit 0,ay.mk [] [(1,.cells [.ptr 2 0] false),(2,.cells [.mp 3,.mp 4,.mp 5,.mp 6] false),(3,.map .str false tG true),(4,.map .str false (.list .str) false),(5,.map .str false .bool false),(6,.map .str false .bool false),(0,.arr .str false)] [] [])]
noncomputable def FT:D prog 19 none 7:=dO [] (pick (kd prog f119) [(0,false)]) 0
noncomputable def gH119_v1_0:Nat×Int×Int×List ByteArray×cg×cz×aO×aO×Unit→bO ((Nat×Int×Int×List ByteArray×cg×cz×aO×aO×Unit) ⊕ ((Int×cg×cz×aO×aO×List ByteArray×Unit) ⊕ ((cg×cz×aO×aO×List ByteArray×Unit)))):=fun (kJ,v7,v8,b0,m3,m4,m5,m6,_) =>
 .br (decide (v8<v7)) (
 .nb v8 ((kJ:Nat):Int) <|
 .nd (decide (((0:Nat)+(Int.toNat v8))<(b0).length)) <|
 .bd (FH123 ((b0).getD ((0:Nat)+(Int.toNat v8)) (bs [])) m3 m4 m5 m6) fun y0 =>
 .br y0.1 (
 .ret (.inr <| .inl<|(v8,y0.2.1,y0.2.2.1,y0.2.2.2.1,y0.2.2.2.2.1,b0,()))) (
 .ni (v8+(1:Int)) <|
 .ret (.inl (kJ,v7,(v8+(1:Int)),b0,y0.2.1,y0.2.2.1,y0.2.2.2.1,y0.2.2.2.2.1,())))) (
 .ret (.inr <| .inr<|(m3,m4,m5,m6,b0,())))
noncomputable def FU:cq prog 19 none 7:=bP mixed zW rN [0,1,2,3,4,5,6] rfl FQ FR rfl (FT) (fun x=>ak (gH119_v1_0 x)) (fun x=>by kernel_rfl)
noncomputable def zX:D prog 19 none 7:=dO [.l FU] (kd prog f119) 0
noncomputable def FH119_v1 (kJ:Nat) (b0:List ByteArray) (m3:cg) (m4:cz) (m5:aO) (m6:aO):bO (Int×cg×cz×aO×aO×List ByteArray×Unit) :=
 .bd (.it gH119_v1_0 (kJ,((kJ:Nat):Int),(0:Int),b0,m3,m4,m5,m6,())) fun z1 =>
 .sm z1 (fun z2 =>
 .ret (z2.1,z2.2.1,z2.2.2.1,z2.2.2.2.1,z2.2.2.2.2.1,z2.2.2.2.2.2.1,())) fun z3 =>
 .ret ((-1:Int),z3.1,z3.2.1,z3.2.2.1,z3.2.2.2.1,z3.2.2.2.2.1,())
theorem DM:cC prog f119=some ⟨19,2,zX.er,[.t 4],[some tI]⟩:=by kernel_rfl
noncomputable def DN:Ht:=⟨119,Oh,Oi,(fun x=>ak (FH119_v1 x.1 x.2.1 x.2.2.1 x.2.2.2.1 x.2.2.2.2.1 x.2.2.2.2.2.1))⟩
theorem DO:DN.Ok prog:=bE mixed rN rfl func119 DM (enters_of func119 rfl rfl) zX (by kernel_rfl) rfl rfl ⟨_,rfl⟩ rfl (pre:=[0,1,2,3,4,5,6]) rfl (fun x=>by kernel_rfl)

/- 97, lent -/
@[reducible] def Sk:ay:=ay.mk [(0,.c (.cB 0 .str)),(1,.fn 123 [] [.ptr 1 0])] [(0,.arr .str false),(1,.cells [.ptr 2 0] false),(2,.cells [.mp 3,.mp 4,.mp 5,.mp 6] false),(3,.map .str false tG true),(4,.map .str false (.list .str) false),(5,.map .str false .bool false),(6,.map .str false .bool false)] [.slot 0,.part 1 0,.cell 1 0,.cell 2 0,.cell 2 1,.cell 2 2,.cell 2 3] []
@[reducible] def Sl:ay:=ay.mk [(0,.c (.PN 0 .str))] [(0,.arr .str false),(1,.cells [.ptr 2 0] false),(2,.cells [.mp 3,.mp 4,.mp 5,.mp 6] false),(3,.map .str false tG true),(4,.map .str false (.list .str) false),(5,.map .str false .bool false),(6,.map .str false .bool false)] [] []
noncomputable def DP:Cx:=(aL [] [DN,Og])
theorem ud:DP.Ok prog:=au trivial ⟨⟨DO,rfl⟩,⟨DL,rfl⟩,trivial⟩
@[reducible] def J7:ay:=ay.mk [(0,.c (.cB 0 .str)),(1,.fn 123 [] [.ptr 1 0]),(5,hI),(6,hI)] [(0,.arr .str false),(1,.cells [.ptr 2 0] false),(2,.cells [.mp 3,.mp 4,.mp 5,.mp 6] false),(3,.map .str false tG true),(4,.map .str false (.list .str) false),(5,.map .str false .bool false),(6,.map .str false .bool false)] [] []
@[reducible] def J8:aU:=[(.exit 0,ay.mk [(0,.c (.cB 0 .str)),(5,hI)] [(0,.arr .str false),(1,.cells [.ptr 2 0] false),(2,.cells [.mp 3,.mp 4,.mp 5,.mp 6] false),(3,.map .str false tG true),(4,.map .str false (.list .str) false),(5,.map .str false .bool false),(6,.map .str false .bool false)] [] [])]
noncomputable def J9:D prog 42 none 7:=dO [] (pick (kd prog f97) [(0,false)]) 0
noncomputable def gH97_v1_0:Nat×Int×Int×List ByteArray×cg×cz×aO×aO×Unit→bO ((Nat×Int×Int×List ByteArray×cg×cz×aO×aO×Unit) ⊕ ((Nat×Int×List ByteArray×cg×cz×aO×aO×Unit))):=fun (kJ,v5,v6,b0,m3,m4,m5,m6,_) =>
 .br (decide (v6<((kJ:Nat):Int))) (
 .nb v6 ((kJ:Nat):Int) <|
 .nd (decide (((0:Nat)+(Int.toNat v6))<(b0).length)) <|
 .bd (FH123 ((b0).getD ((0:Nat)+(Int.toNat v6)) (bs [])) m3 m4 m5 m6) fun y1 =>
 .br (!y1.1) (
 .nb v5 ((kJ:Nat):Int) <|
 .nd (decide (((0:Nat)+(Int.toNat v5))<(b0).length)) <|
 .ni (v5+(1:Int)) <|
 .ni (v6+(1:Int)) <|
 .ret (.inl (kJ,(v5+(1:Int)),(v6+(1:Int)),((b0).set ((0:Nat)+(Int.toNat v5)) ((b0).getD ((0:Nat)+(Int.toNat v6)) (bs []))),y1.2.1,y1.2.2.1,y1.2.2.2.1,y1.2.2.2.2.1,()))) (
 .ni (v6+(1:Int)) <|
 .ret (.inl (kJ,v5,(v6+(1:Int)),b0,y1.2.1,y1.2.2.1,y1.2.2.2.1,y1.2.2.2.2.1,())))) (
 .ret (.inr (kJ,v5,b0,m3,m4,m5,m6,())))
noncomputable def Ka:cq prog 42 none 7:=bP mixed DP ud [0,1,2,3,4,5,6] rfl J7 J8 rfl (J9) (fun x=>ak (gH97_v1_0 x)) (fun x=>by kernel_rfl)
noncomputable def DQ:D prog 42 none 7:=dO [.l Ka] (kd prog f97) 0
noncomputable def FH97_v1 (kJ:Nat) (b0:List ByteArray) (m3:cg) (m4:cz) (m5:aO) (m6:aO):bO (Nat×Nat×List ByteArray×cg×cz×aO×aO×Unit) :=
 .bd (FH119_v1 kJ b0 m3 m4 m5 m6) fun y0 =>
 .br (y0.1==(-1:Int)) (
 .ret ((0:Nat),kJ,y0.2.2.2.2.2.1,y0.2.1,y0.2.2.1,y0.2.2.2.1,y0.2.2.2.2.1,())) (
 .ni (y0.1+(1:Int)) <|
 .bd (.it gH97_v1_0 (kJ,y0.1,(y0.1+(1:Int)),y0.2.2.2.2.2.1,y0.2.1,y0.2.2.1,y0.2.2.2.1,y0.2.2.2.2.1,())) fun z2 =>
 .nd (decide ((0:Int)≤z2.2.1)) <|
 .nd (decide (z2.2.1≤((z2.1:Nat):Int))) <|
 .nd (decide (((z2.1:Nat):Int)≤((z2.1:Nat):Int))) <|
 .nd (decide ((0:Int)≤(0:Int))) <|
 .nd (decide ((0:Int)≤z2.2.1)) <|
 .nd (decide (z2.2.1≤((z2.1:Nat):Int))) <|
 .ret (((0:Nat)+(Int.toNat (0:Int))),((Int.toNat z2.2.1) - (Int.toNat (0:Int))),(Aj (bs []) z2.2.2.1 ((0:Nat)+(Int.toNat z2.2.1)) ((Int.toNat ((z2.1:Nat):Int)) - (Int.toNat z2.2.1))),z2.2.2.2.1,z2.2.2.2.2.1,z2.2.2.2.2.2.1,z2.2.2.2.2.2.2.1,()))
theorem FV:cC prog f97=some ⟨42,2,DQ.er,[.t 4],[some (.list .str)]⟩:=by kernel_rfl
noncomputable def Ii:Ht:=⟨97,Sk,Sl,(fun x=>ak (FH97_v1 x.1 x.2.1 x.2.2.1 x.2.2.2.1 x.2.2.2.2.1 x.2.2.2.2.2.1))⟩
theorem FW:Ii.Ok prog:=bE mixed ud rfl func97 FV (enters_of func97 rfl rfl) DQ (by kernel_rfl) rfl rfl ⟨_,rfl⟩ rfl (pre:=[0,1,2,3,4,5,6]) rfl (fun x=>by kernel_rfl)

/- 104, lent -/
@[reducible] def ack:ay:=ay.mk [(0,.c (.ptr 0 0)),(1,.c (.hole .str))] [(0,.cells [.mp 1,.mp 2,.mp 3,.mp 4] false),(1,.map .str false tG true),(2,.map .str false (.list .str) false),(3,.map .str false .bool false),(4,.map .str false .bool false)] [.slot 0,.cell 0 0,.cell 0 1,.cell 0 2,.cell 0 3] []
@[reducible] def acm:ay:=ay.mk [(0,.c (.PN 5 .str))] [(5,.arr .str false),(0,.cells [.mp 1,.mp 2,.mp 3,.mp 4] false),(1,.map .str false tG true),(2,.map .str false (.list .str) false),(3,.map .str false .bool false),(4,.map .str false .bool false)] [.slot 0] []
noncomputable def Yf:Cx:=(aL [] [XQ,Ii])
theorem Kb:Yf.Ok prog:=au trivial ⟨⟨Ic,rfl⟩,⟨FW,rfl⟩,trivial⟩
noncomputable def Oj:D prog 14 none 5:=dO [] (kd prog f104) 0
noncomputable def FH104 (v1:ByteArray) (m1:cg) (m2:cz) (m3:aO) (m4:aO):bO (Nat×Nat×List ByteArray×cg×cz×aO×aO×Unit) :=
 .bd (FH98 (aq .str [] m2 v1)) fun y0 =>
 .bd (FH97_v1 y0.1 y0.2.1 m1 m2 m3 m4) fun y1 =>
 .ret (y1.1,y1.2.1,y1.2.2.1,y1.2.2.2.1,y1.2.2.2.2.1,y1.2.2.2.2.2.1,y1.2.2.2.2.2.2.1,())
theorem Ol:cC prog f104=some ⟨14,2,Oj.er,[.t 4],[some (.list .str)]⟩:=by kernel_rfl
noncomputable def Vp:Ht:=⟨104,ack,acm,(fun x=>ak (FH104 x.1 x.2.1 x.2.2.1 x.2.2.2.1 x.2.2.2.2.1))⟩
theorem Om:Vp.Ok prog:=bE mixed Kb rfl func104 Ol (enters_of func104 rfl rfl) Oj (by kernel_rfl) rfl rfl ⟨_,rfl⟩ rfl (pre:=[0,1,2,3,4]) rfl (fun x=>by kernel_rfl)

/- 76, lent -/
@[reducible] def kj:ay:=ay.mk [(0,.c (.ptr 0 0)),(1,.c (.hole .str))] [(0,.cells [.mp 1,.mp 2,.mp 3,.mp 4] false),(1,.map .str false tG true),(2,.map .str false (.list .str) false),(3,.map .str false .bool false),(4,.map .str false .bool false)] [.slot 0,.cell 0 0,.cell 0 1,.cell 0 2,.cell 0 3] []
@[reducible] def kn:ay:=ay.mk [(0,.c (.cB 5 .str))] [(5,.arr .str false),(0,.cells [.mp 1,.mp 2,.mp 3,.mp 4] false),(1,.map .str false tG true),(2,.map .str false (.list .str) false),(3,.map .str false .bool false),(4,.map .str false .bool false)] [.slot 0] []
noncomputable def On (rec:kj.T→Option kn.T):Cx:=(aL [] [Vp,⟨76,kj,kn,rec⟩,zU])
theorem DS (rec:kj.T→Option kn.T) (h:Ht.Ok prog ⟨76,kj,kn,rec⟩):(On rec).Ok prog:=au trivial ⟨⟨Om,rfl⟩,⟨h,rfl⟩,⟨xu,rfl⟩,trivial⟩
@[reducible] def FX:ay:=ay.mk [(0,.c (.ptr 0 0)),(6,.c (.cB 5 .str)),(17,.c (.PN 6 .str)),(18,hI),(19,hI)] [(0,.cells [.mp 1,.mp 2,.mp 3,.mp 4] false),(5,.arr .str false),(6,.arr .str false),(1,.map .str false tG true),(2,.map .str false (.list .str) false),(3,.map .str false .bool false),(4,.map .str false .bool false)] [.slot 6,.slot 17] []
@[reducible] def FY:aU:=[(.exit 0,ay.mk [(6,.c (.cB 5 .str))] [(5,.arr .str false),(0,.cells [.mp 1,.mp 2,.mp 3,.mp 4] false),(1,.map .str false tG true),(2,.map .str false (.list .str) false),(3,.map .str false .bool false),(4,.map .str false .bool false)] [.slot 6] [])]
noncomputable def Oo (rec:kj.T→Option kn.T) (h:Ht.Ok prog ⟨76,kj,kn,rec⟩):D prog 32 none 5:=dO [] (pick (kd prog f76) [(0,false)]) 0
noncomputable def gH76_0:Nat×Nat×Nat×Int×Int×List ByteArray×List ByteArray×cg×cz×aO×aO×Unit→Tr kj.T kn.T ((Nat×Nat×Nat×Int×Int×List ByteArray×List ByteArray×cg×cz×aO×aO×Unit) ⊕ ((Nat×List ByteArray×cg×cz×aO×aO×Unit))):=fun (nv6,Yg,nv17,v18,Sm,b5,b6,m1,m2,m3,m4,_) =>
 .br (decide (Sm<v18)) (
 .nb Sm ((nv17:Nat):Int) <|
 .nd (decide ((Yg+(Int.toNat Sm))<(b6).length)) <|
 .bd (.rc (((b6).getD (Yg+(Int.toNat Sm)) (bs [])),m1,m2,m3,m4,())) fun y1 =>
 .nd (decide ((nv6+((((y1.2.1).drop (0:Nat)).take y1.1)).length)<cn)) <|
 .ni (Sm+(1:Int)) <|
 .ret (.inl ((nv6+((((y1.2.1).drop (0:Nat)).take y1.1)).length),Yg,nv17,v18,(Sm+(1:Int)),((((b5).drop (0:Nat)).take nv6)++(((y1.2.1).drop (0:Nat)).take y1.1)),b6,y1.2.2.1,y1.2.2.2.1,y1.2.2.2.2.1,y1.2.2.2.2.2.1,()))) (
 .ret (.inr (nv6,b5,m1,m2,m3,m4,())))
theorem Yh (rec:kj.T→Option kn.T) (h:Ht.Ok prog ⟨76,kj,kn,rec⟩):∀x,wO (iO (FX.T ⊕ FY.T)) (On rec) dU [0,1,2,3,4] FX FY (Oo rec h) (fun y=>some (.inl y)) (fun b=>some (.inr b)) x=run rec (gH76_0 x):=fun x=>by kernel_rfl
noncomputable def Yi (rec:kj.T→Option kn.T) (h:Ht.Ok prog ⟨76,kj,kn,rec⟩):cq prog 32 none 5:=bP mixed (On rec) (DS rec h) [0,1,2,3,4] rfl FX FY rfl (Oo rec h) (fun x=>run rec (gH76_0 x)) (Yh rec h)
noncomputable def Vq (rec:kj.T→Option kn.T) (h:Ht.Ok prog ⟨76,kj,kn,rec⟩):D prog 32 none 5:=dO [.l (Yi rec h)] (kd prog f76) 0
noncomputable def FH76 (v1:ByteArray) (m1:cg) (m2:cz) (m3:aO) (m4:aO):Tr kj.T kn.T (Nat×List ByteArray×cg×cz×aO×aO×Unit) :=
 .bd (.up (FH104 v1 m1 m2 m3 m4)) fun y0 =>
 .br (((y0.2.1:Nat):Int)==(0:Int)) (
 .ret ((1:Nat),(v1::[]),y0.2.2.2.1,y0.2.2.2.2.1,y0.2.2.2.2.2.1,y0.2.2.2.2.2.2.1,())) (
 .bd (.it gH76_0 ((0:Nat),y0.1,y0.2.1,((y0.2.1:Nat):Int),(0:Int),[],y0.2.2.1,y0.2.2.2.1,y0.2.2.2.2.1,y0.2.2.2.2.2.1,y0.2.2.2.2.2.2.1,())) fun z2 =>
 .bd (.up (FH105 z2.1 z2.2.1)) fun y3 =>
 .ret (z2.1,y3.1,z2.2.2.1,z2.2.2.2.1,z2.2.2.2.2.1,z2.2.2.2.2.2.1,()))
theorem Sn (rec:kj.T→Option kn.T) (h:Ht.Ok prog ⟨76,kj,kn,rec⟩):cC prog f76=some ⟨32,2,(Vq rec h).er,[.t 4],[some (.list .str)]⟩:=by kernel_rfl
theorem Ke (rec:kj.T→Option kn.T) (h:Ht.Ok prog ⟨76,kj,kn,rec⟩):Ht.Ok prog ⟨76,kj,kn,(fun x=>run rec (FH76 x.1 x.2.1 x.2.2.1 x.2.2.2.1 x.2.2.2.2.1))⟩:=bE mixed (DS rec h) rfl func76 (Sn rec h) (enters_of func76 rfl rfl) (Vq rec h) (by kernel_rfl) rfl rfl ⟨_,rfl⟩ rfl (pre:=[0,1,2,3,4]) rfl (fun x=>by kernel_rfl)
noncomputable def FH76fix (v1:ByteArray) (m1:cg) (m2:cz) (m3:aO) (m4:aO):bO (Nat×List ByteArray×cg×cz×aO×aO×Unit):=.fx (A1:=kj.T) (B1:=kn.T) (fun x=>FH76 x.1 x.2.1 x.2.2.1 x.2.2.2.1 x.2.2.2.2.1) (v1,m1,m2,m3,m4,())
noncomputable def FZ:Ht:=⟨76,kj,kn,fun x=>ak (FH76fix x.1 x.2.1 x.2.2.1 x.2.2.2.1 x.2.2.2.2.1)⟩
theorem rO:FZ.Ok prog:=M3 (F:=fun rec x=>run rec (FH76 x.1 x.2.1 x.2.2.1 x.2.2.2.1 x.2.2.2.2.1)) (fun rec h=>Ke rec h)

/- 74, lent -/
@[reducible] def pH74:ay:=ay.mk [(0,.c (.ptr 0 0)),(1,.c (.hole .str))] [(0,.cells [.mp 1,.mp 2,.mp 3,.mp 4] false),(1,.map .str false tG true),(2,.map .str false (.list .str) false),(3,.map .str false .bool false),(4,.map .str false .bool false)] [.slot 0,.cell 0 0,.cell 0 1,.cell 0 2,.cell 0 3] []
@[reducible] def qH74:ay:=ay.mk [(0,.cw [.cB 5 .str,.hole .bool])] [(5,.arr .str false),(0,.cells [.mp 1,.mp 2,.mp 3,.mp 4] false),(1,.map .str false tG true),(2,.map .str false (.list .str) false),(3,.map .str false .bool false),(4,.map .str false .bool false)] [.part 0 0] []
noncomputable def Vr:Cx:=(aL [] [FZ])
theorem DT:Vr.Ok prog:=au trivial ⟨⟨rO,rfl⟩,trivial⟩
@[reducible] def Yj:ay:=ay.mk [(0,.c (.ptr 0 0)),(1,.c (.hole .str)),(11,.c (.mp 1))] [(0,.cells [.mp 1,.mp 2,.mp 3,.mp 4] false),(1,.map .str false tG true),(2,.map .str false (.list .str) false),(3,.map .str false .bool false),(4,.map .str false .bool false)] [] []
@[reducible] def Yk:aU:=[(.ret,ay.mk [(4,.c (.cB 5 .str)),(5,.c (.hole .bool))] [(5,.arr .str false),(0,.cells [.mp 1,.mp 2,.mp 3,.mp 4] false),(1,.map .str false tG true),(2,.map .str false (.list .str) false),(3,.map .str false .bool false),(4,.map .str false .bool false)] [.slot 4] [])]
noncomputable def Yl:D prog 50 none 6:=dO [] (pick (kd prog f74) [(0,false)]) 0
noncomputable def gH74_0:((ByteArray)×(GG))→ByteArray×cg×cz×aO×aO×Unit→bO ((ByteArray×cg×cz×aO×aO×Unit) ⊕ ((Nat×Bool×List ByteArray×cg×cz×aO×aO×Unit))):=fun e (v1,m1,m2,m3,m4,_) =>
 .br (!(aK .str m1 v1)) (
 .ret (.inr ((0:Nat),false,[],m1,m2,m3,m4,()))) (
 .br ((aq .str ((bs []),(0:Int),(bs []),(bs []),(0:Int)) m1 v1).2.1==(3:Int)) (
 .ret (.inr ((0:Nat),false,[],m1,m2,m3,m4,()))) (
 .br (aq .str false m4 v1) (
 .ret (.inr ((0:Nat),false,[],m1,m2,m3,m4,()))) (
 .br ((aq .str ((bs []),(0:Int),(bs []),(bs []),(0:Int)) m1 v1).2.1==(1:Int)) (
 .bd (FH76fix v1 m1 m2 m3 m4) fun y0 =>
 .ret (.inr (y0.1,true,y0.2.1,y0.2.2.1,y0.2.2.2.1,y0.2.2.2.2.1,y0.2.2.2.2.2.1,()))) (
 .nd (jq m1 m1) <|
 .ret (.inl ((aq .str ((bs []),(0:Int),(bs []),(bs []),(0:Int)) m1 v1).2.2.1,m1,m2,m3,m4,()))))))
noncomputable def Ym:qS prog 50 none 5:=W6 mixed Vr DT [0,1,2,3,4] rfl Yj Yk rfl ( [.op (some 8) none (.mv (.t 0)),.op (some 9) none (.ex gj.iF [.t 8]),.op (some 10) none (.mb 0 [false] (.t 9)),.op (some 11) none (.load false 1 (.t 10))]) 11 12 [13,14] (none) ( .str)  false ( .prod .str (.prod tI (.prod .str (.prod .str tI))))  true 0 rfl 6 rfl (Yl) (fun e x=>ak (gH74_0 e x)) (fun e=>fun x=>by kernel_rfl)
noncomputable def Vs:D prog 50 none 5:=dO [.m Ym] (kd prog f74) 0
noncomputable def FH74 (v1:ByteArray) (m1:cg) (m2:cz) (m3:aO) (m4:aO):bO (Nat×Bool×List ByteArray×cg×cz×aO×aO×Unit) :=
 .bd (.mp gH74_0 m1 (v1,m1,m2,m3,m4,())) fun z1 =>
 .sm z1 (fun z2 =>
 .ret ((0:Nat),false,[],z2.2.1,z2.2.2.1,z2.2.2.2.1,z2.2.2.2.2.1,())) fun z3 =>
 .ret (z3.1,z3.2.1,z3.2.2.1,z3.2.2.2.1,z3.2.2.2.2.1,z3.2.2.2.2.2.1,z3.2.2.2.2.2.2.1,())
theorem Sq:cC prog f74=some ⟨50,2,Vs.er,[.t 4,.t 5],[some (.list .str),some .bool]⟩:=by kernel_rfl
noncomputable def Yn:Ht:=⟨74,pH74,qH74,(fun x=>ak (FH74 x.1 x.2.1 x.2.2.1 x.2.2.2.1 x.2.2.2.2.1))⟩
theorem Sr:Yn.Ok prog:=bE mixed DT rfl func74 Sq (enters_of func74 rfl rfl) Vs (by kernel_rfl) rfl rfl ⟨_,rfl⟩ rfl (pre:=[0,1,2,3,4]) rfl (fun x=>by kernel_rfl)

/- 103 -/
noncomputable def Vt:Cx:=(aL [] [])
theorem DU:Vt.Ok prog:=au trivial trivial
@[reducible] def Yo:ay:=ay.mk [(0,.c (.hole (.list .str))),(1,.c (.hole .str)),(7,hI),(8,hI)] [] [] []
@[reducible] def Yp:aU:=[(.ret,ay.mk [(4,hI)] [] [] []),(.exit 0,ay.mk [] [] [] [])]
noncomputable def Yq:D prog 19 none 0:=dO [] (pick (kd prog f103) [(0,false)]) 0
noncomputable def g103_0:List ByteArray×ByteArray×Int×Int×Unit→bO ((List ByteArray×ByteArray×Int×Int×Unit) ⊕ ((Int×Unit) ⊕ ((Unit)))):=fun (v0,v1,v7,v8,_) =>
 .br (decide (v8<v7)) (
 .nb v8 (((v0).length:Nat):Int) <|
 .br (seq v1 ((v0).getD (Int.toNat v8) (bs []))) (
 .ret (.inr <| .inl<|(v8,()))) (
 .ni (v8+(1:Int)) <|
 .ret (.inl (v0,v1,v7,(v8+(1:Int)),())))) (
 .ret (.inr <| .inr<|()))
noncomputable def Yr:cq prog 19 none 0:=bP mixed Vt DU [] rfl Yo Yp rfl (Yq) (fun x=>ak (g103_0 x)) (fun x=>by kernel_rfl)
noncomputable def Vu:D prog 19 none 0:=dO [.l Yr] (kd prog f103) 0
noncomputable def F103 (a0:List ByteArray) (a1:ByteArray):bO (Int×Unit) :=
 .bd (.it g103_0 (a0,a1,(((a0).length:Nat):Int),(0:Int),())) fun z0 =>
 .sm z0 (fun z1 =>
 .ret (z1.1,())) fun z2 =>
 .ret ((-1:Int),())
theorem Su:cC prog f103=some ⟨19,2,Vu.er,[.t 4],[some tI]⟩:=by kernel_rfl
noncomputable def Vv:Ct:=⟨103,[.c (.hole (.list .str)),.c (.hole .str)],hI,fun x=>ak (F103 x.1 x.2.1)⟩
theorem Oq:Vv.Ok prog:=cZ mixed DU func103 Su (enters_of func103 rfl rfl) Vu (by kernel_rfl) rfl (fun x=>by kernel_rfl)

/- 75 -/
noncomputable def cx75:Cx:=(aL [Vv] [])
theorem Sv:cx75.Ok prog:=au ⟨Oq,trivial⟩ trivial
noncomputable def dd75:D prog 9 none 0:=dO [] (kd prog f75) 0
noncomputable def F75 (a0:List ByteArray) (a1:ByteArray):bO (Bool×Unit) :=
 .bd (F103 a0 a1) fun y0 =>
 .ret ((decide ((0:Int)≤y0.1)),())
theorem Ys:cC prog f75=some ⟨9,2,dd75.er,[.t 4],[some .bool]⟩:=by kernel_rfl
noncomputable def Yt:Ct:=⟨75,[.c (.hole (.list .str)),.c (.hole .str)],.c (.hole .bool),fun x=>ak (F75 x.1 x.2.1)⟩
theorem Sw:Yt.Ok prog:=cZ mixed Sv func75 Ys (enters_of func75 rfl rfl) dd75 (by kernel_rfl) rfl (fun x=>by kernel_rfl)

/- 32, lent -/
@[reducible] def pH32:ay:=ay.mk [(0,.c (.ptr 0 0)),(1,.c (.hole .str))] [(0,.cells [.mp 1] false),(1,.map tG true .bool false)] [.slot 0,.cell 0 0] []
@[reducible] def qH32:ay:=ay.mk [(0,.cw [.hole tI,.hole tI])] [(0,.cells [.mp 1] false),(1,.map tG true .bool false)] [] []
noncomputable def Ij:Cx:=(aL [Yt] [yG,DK,Yn])
theorem Ga:Ij.Ok prog:=au (uS:=[Yt]) (hts:=[yG,DK,Yn]) ⟨Sw,trivial⟩ ⟨⟨mN,rfl⟩,⟨rM,rfl⟩,⟨Sr,rfl⟩,trivial⟩
@[reducible] noncomputable def Sx:Go.AM.Fn:=⟨29,2,(dO [] (kd prog f73) 0:D prog 29 none 0).er,[.t 4,.cell 5 true 5,.t 6],[none,some tG,some tI]⟩
noncomputable def Ik:Cx:=Dr prog Ij 73 Sx (fun _=>dO [] (kd prog f73) 0)
theorem Gb:Ik.Ok prog:=oR mixed Ga func73 (by kernel_rfl) (enters_of func73 rfl rfl) (fun _=>by kernel_rfl)
noncomputable def acp:Cx:=Ik
theorem Ot:acp.Ok prog:=Gb
noncomputable def Vw:D prog 51 none 2:=dO [] (kd prog f32) 0
noncomputable def FH32 (v1:ByteArray) (m1:List ((GG)×Bool)):bO (Int×Int×(List ((GG)×Bool))×Unit) :=
 .bd (FH54 m1) fun y0 =>
 .br y0.1 (
 .br (!((9:Int)==(0:Int))) (
 .ret ((0:Int),(9:Int),y0.2.1,())) (
 .br ((0:Int)==(3:Int)) (
 .ret ((0:Int),(18:Int),y0.2.1,())) (
 .no))) (
 .bd (FH66 y0.2.1) fun y1 =>
 .br (!(aK .str y1.2.1 v1)) (
 .br (!((5:Int)==(0:Int))) (
 .ret ((0:Int),(5:Int),y1.1,())) (
 .br ((0:Int)==(3:Int)) (
 .ret ((0:Int),(18:Int),y1.1,())) (
 .no))) (
 .br (!((0:Int)==(0:Int))) (
 .ret ((0:Int),(0:Int),y1.1,())) (
 .br ((aq .str ((bs []),(0:Int),(bs []),(bs []),(0:Int)) y1.2.1 v1).2.1==(3:Int)) (
 .ret ((0:Int),(18:Int),y1.1,())) (
 .br (aq .str false y1.2.2.2.2.1 v1) (
 .ret ((2:Int),(0:Int),y1.1,())) (
 .bd (FH74 v1 y1.2.1 y1.2.2.1 y1.2.2.2.1 y1.2.2.2.2.1) fun y2 =>
 .br (!y2.2.1) (
 .ret ((1:Int),(0:Int),y1.1,())) (
 .bd (F75 (((y2.2.2.1).drop (0:Nat)).take y2.1) v1) fun y3 =>
 .br (!y3.1) (
 .ret ((3:Int),(0:Int),y1.1,())) (
 .br (decide ((1:Int)<((y2.1:Nat):Int))) (
 .ret ((5:Int),(0:Int),y1.1,())) (
 .ret ((4:Int),(0:Int),y1.1,())))))))))
theorem Sy:cC prog f32=some ⟨51,2,Vw.er,[.t 4,.t 5],[some tI,some tI]⟩:=by kernel_rfl
noncomputable def Yu:Ht:=⟨32,pH32,qH32,(fun x=>ak (FH32 x.1 x.2.1))⟩
theorem Il:Yu.Ok prog:=bE mixed Ot rfl func32 Sy (enters_of func32 rfl rfl) Vw (by kernel_rfl) rfl rfl ⟨_,rfl⟩ rfl (pre:=[0,1]) rfl (fun x=>by kernel_rfl)

/- 104, lent -/
@[reducible] def Ou:ay:=ay.mk [(0,.c .dY),(1,.c (.hole .str))] [] [] []
@[reducible] def Ov:ay:=ay.mk [(0,.c .any)] [] [] []
noncomputable def Kf:Cx:=(aL [] [])
theorem Bp:Kf.Ok prog:=au trivial trivial
noncomputable def zY:D prog 14 none 0:=dO [] (kd prog f104) 0
noncomputable def FH104_v1 (v1:ByteArray):bO (Unit) :=
 .no
theorem DV:cC prog f104=some ⟨14,2,zY.er,[.t 4],[some (.list .str)]⟩:=by kernel_rfl
noncomputable def DW:Ht:=⟨104,Ou,Ov,(fun x=>ak (FH104_v1 x.1))⟩
theorem DX:DW.Ok prog:=bE mixed Bp rfl func104 DV (enters_of func104 rfl rfl) zY (by kernel_rfl) rfl rfl ⟨_,rfl⟩ rfl (pre:=[]) rfl (fun x=>by kernel_rfl)

/- 76, lent -/
@[reducible] def Sz:ay:=ay.mk [(0,.c .dY),(1,.c (.hole .str))] [] [] []
@[reducible] def SA:ay:=ay.mk [(0,.c .any)] [] [] []
noncomputable def Ow:Cx:=(aL [] [DW])
theorem DY:Ow.Ok prog:=au trivial ⟨⟨DX,rfl⟩,trivial⟩
noncomputable def DZ:D prog 32 none 0:=dO [.x] (kd prog f76) 0
noncomputable def FH76_v1 (v1:ByteArray):bO (Unit) :=
 .bd (FH104_v1 v1) fun y0 =>
 .no
theorem Gc:cC prog f76=some ⟨32,2,DZ.er,[.t 4],[some (.list .str)]⟩:=by kernel_rfl
noncomputable def Bq:Ht:=⟨76,Sz,SA,(fun x=>ak (FH76_v1 x.1))⟩
theorem Ge:Bq.Ok prog:=bE mixed DY rfl func76 Gc (enters_of func76 rfl rfl) DZ (by kernel_rfl) rfl rfl ⟨_,rfl⟩ rfl (pre:=[]) rfl (fun x=>by kernel_rfl)

/- 33, lent -/
@[reducible] def pH33:ay:=ay.mk [(0,.c (.ptr 0 0)),(1,.c (.hole .str))] [(0,.cells [.mp 1] false),(1,.map tG true .bool false)] [.slot 0,.cell 0 0] []
@[reducible] def qH33:ay:=ay.mk [(0,.cw [.cB 2 .str,.hole tI])] [(2,.arr .str false),(0,.cells [.mp 1] false),(1,.map tG true .bool false)] [.part 0 0] []
noncomputable def Im:Cx:=(aL [] [yG,Bq,DK,FZ])
theorem Gf:Im.Ok prog:=au (uS:=[]) (hts:=[yG,Bq,DK,FZ]) trivial ⟨⟨mN,rfl⟩,⟨Ge,rfl⟩,⟨rM,rfl⟩,⟨rO,rfl⟩,trivial⟩
@[reducible] noncomputable def SB:Go.AM.Fn:=⟨29,2,(dO [] (kd prog f73) 0:D prog 29 none 0).er,[.t 4,.cell 5 true 5,.t 6],[none,some tG,some tI]⟩
noncomputable def Io:Cx:=Dr prog Im 73 SB (fun _=>dO [] (kd prog f73) 0)
theorem Gg:Io.Ok prog:=oR mixed Gf func73 (by kernel_rfl) (enters_of func73 rfl rfl) (fun _=>by kernel_rfl)
noncomputable def acq:Cx:=Io
theorem Ox:acq.Ok prog:=Gg
noncomputable def Vx:D prog 27 none 2:=dO [] (kd prog f33) 0
noncomputable def FH33 (v1:ByteArray) (m1:List ((GG)×Bool)):bO (Nat×Int×List ByteArray×(List ((GG)×Bool))×Unit) :=
 .bd (FH54 m1) fun y0 =>
 .br y0.1 (
 .br (!((9:Int)==(0:Int))) (
 .ret ((0:Nat),(9:Int),[],y0.2.1,())) (
 .br (!((0:Int)==(1:Int))) (
 .ret ((0:Nat),(18:Int),[],y0.2.1,())) (
 .bd (FH76_v1 v1) fun y1 =>
 .no))) (
 .bd (FH66 y0.2.1) fun y2 =>
 .br (!(aK .str y2.2.1 v1)) (
 .br (!((5:Int)==(0:Int))) (
 .ret ((0:Nat),(5:Int),[],y2.1,())) (
 .br (!((0:Int)==(1:Int))) (
 .ret ((0:Nat),(18:Int),[],y2.1,())) (
 .bd (FH76_v1 v1) fun y3 =>
 .no))) (
 .br (!((0:Int)==(0:Int))) (
 .ret ((0:Nat),(0:Int),[],y2.1,())) (
 .br (!((aq .str ((bs []),(0:Int),(bs []),(bs []),(0:Int)) y2.2.1 v1).2.1==(1:Int))) (
 .ret ((0:Nat),(18:Int),[],y2.1,())) (
 .bd (FH76fix v1 y2.2.1 y2.2.2.1 y2.2.2.2.1 y2.2.2.2.2.1) fun y4 =>
 .ret (y4.1,(0:Int),y4.2.1,y2.1,())))))
theorem SC:cC prog f33=some ⟨27,2,Vx.er,[.t 4,.t 5],[some (.list .str),some tI]⟩:=by kernel_rfl
noncomputable def Yv:Ht:=⟨33,pH33,qH33,(fun x=>ak (FH33 x.1 x.2.1))⟩
theorem Ip:Yv.Ok prog:=bE mixed Ox rfl func33 SC (enters_of func33 rfl rfl) Vx (by kernel_rfl) rfl rfl ⟨_,rfl⟩ rfl (pre:=[0,1]) rfl (fun x=>by kernel_rfl)

/- 40, lent -/
@[reducible] def pH40:ay:=ay.mk [(0,.c (.ptr 0 0)),(1,.c (.hole .str)),(2,hI)] [(0,.cells [.mp 1] false),(1,.map tG true .bool false)] [.slot 0,.cell 0 0] []
@[reducible] def qH40:ay:=ay.mk [(0,.c (.hole .bool))] [(0,.cells [.mp 1] false),(1,.map tG true .bool false)] [] []
noncomputable def acr:Cx:=(aL [] [Yu])
theorem Oy:acr.Ok prog:=au trivial ⟨⟨Il,rfl⟩,trivial⟩
noncomputable def Vy:D prog 22 none 2:=dO [] (kd prog f40) 0
noncomputable def FH40 (v1:ByteArray) (v2:Int) (m1:List ((GG)×Bool)):bO (Bool×(List ((GG)×Bool))×Unit) :=
 .bd (FH32 v1 m1) fun y0 =>
 .br (y0.2.1==(0:Int)) (
 .ret ((y0.1==v2),y0.2.2.1,())) (
 .ret (false,y0.2.2.1,()))
theorem SD:cC prog f40=some ⟨22,3,Vy.er,[.t 6],[some .bool]⟩:=by kernel_rfl
noncomputable def ht40:Ht:=⟨40,pH40,qH40,(fun x=>ak (FH40 x.1 x.2.1 x.2.2.1))⟩
theorem SE:ht40.Ok prog:=bE mixed Oy rfl func40 SD (enters_of func40 rfl rfl) Vy (by kernel_rfl) rfl rfl ⟨_,rfl⟩ rfl (pre:=[0,1]) rfl (fun x=>by kernel_rfl)

/- 100, lent -/
@[reducible] def acu:ay:=ay.mk [(0,.c (.mp 0)),(1,hI)] [(0,.map tI false .unit true)] [.slot 0] []
@[reducible] def acv:ay:=ay.mk [(0,.c .any)] [(0,.map tI false .unit true)] [] []
noncomputable def Yw:Cx:=(aL [] [])
theorem Kg:Yw.Ok prog:=au trivial trivial
noncomputable def Oz:D prog 7 none 1:=dO [] (kd prog f100) 0
noncomputable def FH100 (v1:Int) (m0:List (Int×Unit)):bO ((List (Int×Unit))×Unit) :=
 .ret ((aQ (.int .i64) m0 v1 ()),())
theorem OA:cC prog f100=some ⟨7,2,Oz.er,[],[]⟩:=by kernel_rfl
noncomputable def OB:Ht:=⟨100,acu,acv,(fun x=>ak (FH100 x.1 x.2.1))⟩
theorem D0:OB.Ok prog:=bE mixed Kg rfl func100 OA (enters_of func100 rfl rfl) Oz (by kernel_rfl) rfl rfl ⟨_,rfl⟩ rfl (pre:=[0]) rfl (fun x=>by kernel_rfl)

/- 79, lent -/
@[reducible] def pH79:ay:=ay.mk [(0,.c (.ptr 0 0))] [(0,.cells [.mp 1,.mp 2,.mp 3,.mp 4] false),(1,.map .str false tG true),(2,.map .str false (.list .str) false),(3,.map .str false .bool false),(4,.map .str false .bool false)] [.slot 0,.cell 0 0,.cell 0 1,.cell 0 2,.cell 0 3] []
@[reducible] def qH79:ay:=ay.mk [(0,.fn 106 [] [.ptr 5 0])] [(5,.cells [.ptr 0 0] false),(0,.cells [.mp 1,.mp 2,.mp 3,.mp 4] false),(1,.map .str false tG true),(2,.map .str false (.list .str) false),(3,.map .str false .bool false),(4,.map .str false .bool false)] [.part 0 0] []
noncomputable def acw:Cx:=(aL [] [])
theorem OC:acw.Ok prog:=au trivial trivial
noncomputable def Vz:D prog 4 none 5:=dO [] (kd prog f79) 0
noncomputable def FH79 (m1:cg) (m2:cz) (m3:aO) (m4:aO):bO (cg×cz×aO×aO×Unit) :=
 .ret (m1,m2,m3,m4,())
theorem SF:cC prog f79=some ⟨4,1,Vz.er,[.t 2],[none]⟩:=by kernel_rfl
noncomputable def SG:Ht:=⟨79,pH79,qH79,(fun x=>ak (FH79 x.1 x.2.1 x.2.2.1 x.2.2.2.1))⟩
theorem Bs:SG.Ok prog:=bE mixed OC rfl func79 SF (enters_of func79 rfl rfl) Vz (by kernel_rfl) rfl rfl ⟨_,rfl⟩ rfl (pre:=[0,1,2,3,4]) rfl (fun x=>by kernel_rfl)

/- 68 -/
noncomputable def cx68:Cx:=(aL [] [])
theorem SH:cx68.Ok prog:=au trivial trivial
noncomputable def dd68:D prog 10 none 0:=dO [] (kd prog f68) 0
noncomputable def F68 (a0:GG) (a1:ByteArray):bO (Int×Unit) :=
 .br (!(seq a0.2.2.2.1 a1)) (
 .ret ((0:Int),())) (
 .ret (a0.2.2.2.2,()))
theorem Yx:cC prog f68=some ⟨10,2,dd68.er,[.t 3],[some tI]⟩:=by kernel_rfl
noncomputable def ct68:Ct:=⟨68,[.c (.hole tG),.c (.eW .str)],hI,fun x=>ak (F68 x.1 x.2.1)⟩
theorem SJ:ct68.Ok prog:=cZ mixed SH func68 Yx (enters_of func68 rfl rfl) dd68 (by kernel_rfl) rfl (fun x=>by kernel_rfl)

/- 120, lent -/
@[reducible] def acA:ay:=ay.mk [(0,.c (.mp 0))] [(0,.map tI false .unit true)] [.slot 0] []
@[reducible] def acB:ay:=ay.mk [(0,.fn 132 [] [.ptr 1 0])] [(1,.cells [.mp 0] false),(0,.map tI false .unit true)] [.part 0 0] []
noncomputable def Yy:Cx:=(aL [] [])
theorem Kh:Yy.Ok prog:=au trivial trivial
noncomputable def OD:D prog 4 none 1:=dO [] (kd prog f120) 0
noncomputable def FH120 (m0:List (Int×Unit)):bO ((List (Int×Unit))×Unit) :=
 .ret (m0,())
theorem OE:cC prog f120=some ⟨4,1,OD.er,[.t 2],[none]⟩:=by kernel_rfl
noncomputable def VA:Ht:=⟨120,acA,acB,(fun x=>ak (FH120 x.1))⟩
theorem OG:VA.Ok prog:=bE mixed Kh rfl func120 OE (enters_of func120 rfl rfl) OD (by kernel_rfl) rfl rfl ⟨_,rfl⟩ rfl (pre:=[0]) rfl (fun x=>by kernel_rfl)

/- 101, lent -/
@[reducible] def acC:ay:=ay.mk [(0,.c (.mp 0))] [(0,.map tI false .unit true)] [.slot 0] []
@[reducible] def acD:ay:=ay.mk [(0,.fn 132 [] [.ptr 1 0])] [(1,.cells [.mp 0] false),(0,.map tI false .unit true)] [.part 0 0] []
noncomputable def Yz:Cx:=(aL [] [VA])
theorem Ki:Yz.Ok prog:=au trivial ⟨⟨OG,rfl⟩,trivial⟩
noncomputable def OH:D prog 5 none 1:=dO [] (kd prog f101) 0
noncomputable def FH101 (m0:List (Int×Unit)):bO ((List (Int×Unit))×Unit) :=
 .bd (FH120 m0) fun y0 =>
 .ret (y0.1,())
theorem OI:cC prog f101=some ⟨5,1,OH.er,[.t 2],[none]⟩:=by kernel_rfl
noncomputable def OJ:Ht:=⟨101,acC,acD,(fun x=>ak (FH101 x.1))⟩
theorem D1:OJ.Ok prog:=bE mixed Ki rfl func101 OI (enters_of func101 rfl rfl) OH (by kernel_rfl) rfl rfl ⟨_,rfl⟩ rfl (pre:=[0]) rfl (fun x=>by kernel_rfl)

/- 122, by hand -/
@[reducible] def acE:ay:=ay.mk [(0,.c (.cB 0 tI))] [(0,.arr tI false)] [.slot 0] []
@[reducible] def acF:ay:=ay.mk [(0,.c .any)] [(0,.arr tI false)] [] []
noncomputable def FH122 (kJ:Nat) (b0:List Int):bO (List Int×Unit) :=
 .of (ux (.int .i64) b0 kJ)
noncomputable def OK:Ht:=⟨122,acE,acF,(fun x=>ak (FH122 x.1 x.2.1))⟩
theorem OL:OK.Ok prog:=fun x y h=>Na (ρ:=xd) Xl (enters_of func122 rfl rfl) (xs:=x.2.1) (n:=x.1) (y:=y) h

/- 102, lent -/
@[reducible] def acG:ay:=ay.mk [(0,.fn 132 [] [.ptr 0 0])] [(0,.cells [.mp 1] false),(1,.map tI false .unit true)] [.part 0 0,.cell 0 0] []
@[reducible] def acH:ay:=ay.mk [(0,.c (.cB 2 tI))] [(2,.arr tI false),(0,.cells [.mp 1] false),(1,.map tI false .unit true)] [.slot 0] []
noncomputable def rP:Cx:=(aL [] [OK])
theorem oa:rP.Ok prog:=au (uS:=[]) (hts:=[OK]) trivial ⟨⟨OL,rfl⟩,trivial⟩
noncomputable def lW:D prog 13 (some 4) 7:=dO [] (pick (kd prog f133) [(0,false)]) 0
noncomputable def lX:D prog 13 (some 4) 7:=dO [] (pick (kd prog f133) [(0,true)]) 0
noncomputable def gL:Cx:=yE rP (fun kz=>MW kz rP dU 4 7 [7] (lW) (lX))
theorem iR:(gL).Ok prog:=jC oa (fun h=>mJ mixed oa h)
@[reducible] def qm:ay:=ay.mk [(0,.c (.yl 4)),(4,.c (.mp 1))] [(4,.loop .ready none 3 [(2,.c (.ptr 2 0)),(4,.c .bL),(6,.fn 132 [] [.ptr 0 0])] [7] (.aN [.op (some 5) none (.mv (.t 7))]) (.block 1 (.aN [.op (some 8) none (.load false 1 (.t 2)),.op (some 9) none (.mv (.t 5)),.op (some 10) none (.dH tI [.t 9]),.op (some 11) none (.append 1 (.t 8) (.t 10)),.op none none (.store 1 (.t 2) (.t 11))])) 13),(1,.map tI false .unit true),(3,.gQ),(2,.cells [.cB 5 tI] false),(0,.cells [.mp 1] false),(5,.arr tI false)] [.cell 2 0] []
noncomputable def qn:D prog 14 none 7:=dO [] (pick (kd prog f132) [(0,false)]) 0
noncomputable def gH102f121f133_0i_0:((Int)×(Unit))→(List (Int×Unit))×Nat×List Int×Unit→bO ((List (Int×Unit))×Nat×List Int×Unit):=fun e (m1,j8,b5,_) =>
 .nd (decide ((j8+(((((e.1::[])).drop (0:Nat)).take (1:Nat))).length)<cn)) <|
 .nd (jq m1 m1) <|
 .ret (m1,(j8+(((((e.1::[])).drop (0:Nat)).take (1:Nat))).length),((((b5).drop (0:Nat)).take j8)++((((e.1::[])).drop (0:Nat)).take (1:Nat))),())
noncomputable def qo:qS prog 14 none 5:=uV mixed gL iR [0,1,2,3,4] rfl qm ( [.op (some 4) none (.load false 1 (.t 1))]) 4 5 [6,7] (some 8) ( .int .i64)  false ( .unit)  true 0 rfl 7 rfl (qn) (fun e x=>ak (gH102f121f133_0i_0 e x)) (fun e=>fun x=>by kernel_rfl)
@[reducible] def uA:ay:=ay.mk [(2,.c (.ptr 2 0)),(4,.c .bL),(6,.fn 132 [] [.ptr 0 0])] [(2,.cells [.bL] false),(0,.cells [.mp 1] false),(1,.map tI false .unit true)] [.slot 2] []
@[reducible] def uB:aU:=[(.normal,ay.mk [(2,.c (.ptr 2 0))] [(2,.cells [.cB 3 tI] false),(0,.cells [.mp 1] false),(1,.map tI false .unit true),(3,.arr tI false)] [.slot 2,.cell 2 0] [])]
noncomputable def lY:D prog 14 none 5:=dO [.m qo] (kd prog f132) 0
theorem tj:cC prog f132=some ⟨14,2,(lY).er,[],[]⟩:=by kernel_rfl
noncomputable def nj:fW prog 13 none 2:=rA mixed gL iR [0,1] rfl uA uB ( .t 6) [7] rfl (lW).er (lX).er 132 func132 (tj) (enters_of func132 rfl rfl) 5 rfl (lY) rfl
@[reducible] noncomputable def OM:Go.AM.Fn:=⟨13,2,(dO [.r nj] (kd prog f133) 0:D prog 13 none 2).er,[.t 4],[some tL]⟩
noncomputable def D2:Cx:=zP prog rP 133 OM 2 (dO [.r nj] (kd prog f133) 0)
theorem D3:D2.Ok prog:=rz mixed oa func133 (by kernel_rfl) (enters_of func133 rfl rfl) rfl
@[reducible] noncomputable def ON:Go.AM.Fn:=⟨5,1,(dO [] (kd prog f121) 0:D prog 5 none 0).er,[.t 2],[some tL]⟩
noncomputable def D4:Cx:=Dr prog D2 121 ON (fun _=>dO [] (kd prog f121) 0)
theorem D5:D4.Ok prog:=oR mixed D3 func121 (by kernel_rfl) (enters_of func121 rfl rfl) (fun _=>by kernel_rfl)
noncomputable def YA:Cx:=D4
theorem Kj:YA.Ok prog:=D5
noncomputable def OO:D prog 9 none 2:=dO [] (kd prog f102) 0
noncomputable def FH102 (m1:List (Int×Unit)):bO (Nat×List Int×(List (Int×Unit))×Unit) :=
 .an m1 fun l0 =>
 .bd (.fm gH102f121f133_0i_0 l0 (m1,(0:Nat),[],())) fun z1 =>
 .bd (FH122 z1.2.1 z1.2.2.1) fun y2 =>
 .ret (z1.2.1,y2.1,z1.1,())
theorem OP:cC prog f102=some ⟨9,1,OO.er,[.t 2],[some tL]⟩:=by kernel_rfl
noncomputable def OQ:Ht:=⟨102,acG,acH,(fun x=>ak (FH102 x.1))⟩
theorem D6:OQ.Ok prog:=bE mixed Kj rfl func102 OP (enters_of func102 rfl rfl) OO (by kernel_rfl) rfl rfl ⟨_,rfl⟩ rfl (pre:=[0,1]) rfl (fun x=>by kernel_rfl)

/- 67, lent -/
@[reducible] def pH67:ay:=ay.mk [(0,.c (.ptr 0 0)),(1,.fn 68 [] [.ptr 1 0])] [(0,.cells [.mp 2,.mp 3,.mp 4,.mp 5] false),(1,.cells [.hole .str] false),(2,.map .str false tG true),(3,.map .str false (.list .str) false),(4,.map .str false .bool false),(5,.map .str false .bool false)] [.slot 0,.part 1 0,.cell 0 0,.cell 0 1,.cell 0 2,.cell 0 3] []
@[reducible] def qH67:ay:=ay.mk [(0,.c (.cB 6 tI))] [(6,.arr tI false),(0,.cells [.mp 2,.mp 3,.mp 4,.mp 5] false),(2,.map .str false tG true),(3,.map .str false (.list .str) false),(4,.map .str false .bool false),(5,.map .str false .bool false),(1,.cells [.hole .str] false)] [.slot 0] []
noncomputable def zZ:Cx:=(aL [ct68] [OB,SG,NS,NU,FZ,OJ,OQ])
theorem lZ:zZ.Ok prog:=au ⟨SJ,trivial⟩ ⟨⟨D0,rfl⟩,⟨Bs,rfl⟩,⟨u9,rfl⟩,⟨ve,rfl⟩,⟨rO,rfl⟩,⟨D1,rfl⟩,⟨D6,rfl⟩,trivial⟩
noncomputable def xB:D prog 48 (some 26) 29:=dO [] (pick (kd prog f67) [(0,true),(0,false),(0,false)]) 0
noncomputable def xC:D prog 48 (some 26) 29:=dO [] (pick (kd prog f67) [(0,true),(0,false),(0,true)]) 0
noncomputable def oc:Cx:=yE zZ (fun kz=>MW kz zZ dU 26 29 [37] (xB) (xC))
theorem od:(oc).Ok prog:=jC lZ (fun h=>mJ mixed lZ h)
@[reducible] def Bt:ay:=ay.mk [(0,.c (.yl 26)),(4,.c (.mp 24))] [(26,.loop .ready none 11 [(2,.c (.ptr 6 0)),(3,.c (.ptr 7 0)),(5,.c (.ptr 8 0)),(8,.c (.ptr 21 0)),(11,.c (.ptr 22 0)),(21,.c (.cB 20 .str)),(22,hI),(23,hI),(36,.fn 132 [] [.ptr 23 0])] [37] (.aN [.op (some 12) none (.mv (.t 37))]) (.block 5 (.aN [.op (some 38) none (.load false 1 (.t 8)),.op (some 39) none (.mv (.t 12)),.op (some 40) none (.load false 1 (.t 11)),.op (some 41) none (.bin .add (.t 39) (.t 40)),.call (some 42) none (.c (.fn 100 [] [])) [.t 38,.t 41] [none,some tI]])) 48),(24,.map tI false .unit true),(11,.gQ),(6,.cells [.ptr 0 0] false),(0,.cells [.mp 2,.mp 3,.mp 4,.mp 5] false),(2,.map .str false tG true),(3,.map .str false (.list .str) false),(4,.map .str false .bool false),(5,.map .str false .bool false),(7,.cells [.fn 68 .nil (.cons (.ptr 1 0) .nil)] false),(1,.cells [.hole .str] false),(8,.cells [.mp 24] false),(21,.cells [.mp 27] false),(22,.cells [.hole tI] false),(20,.arr .str false),(23,.cells [.mp 24] false),(9,.cells [.ptr 0 0] false),(12,.loop .busy none 11 [(2,.c (.ptr 6 0)),(3,.c (.ptr 7 0)),(4,.c .bL),(5,.c (.ptr 8 0)),(17,.fn 106 [] [.ptr 9 0])] [18,19] (.aN [.op (some 7) none (.mv (.t 19))]) (.block 1 (.seq (.aN [.op (some 20) none (.ex (gj.iG tI false .unit true) []),.op (some 8) none (.alloc [.bX]),.op none none (.store 1 (.t 8) (.t 20))]) (.seq (.seq (.aN [.op (some 21) none (.mv (.t 7)),.op (some 22) none (.len (.t 21)),.op (some 23) none (.mv (.c (.int .i64 (Int.ofNat 0))))]) (.block 2 (.loop (.seq (.aN [.op (some 24) none (.bin .lss (.t 23) (.t 22))]) (.seq (.cond (.t 24) .skip (.exit 2)) (.seq (.block 3 (.seq (.aN [.op (some 25) none (.idx 1 (.t 21) (.t 23)),.op (some 26) none (.load false 1 (.t 25)),.op (some 10) none (.mv (.t 26))]) (.seq (.draw [[],[],[1],[1,2],[1,2,3],[],[1,2,3,4,5],[0,1,2,3,4,5,6],[],[0,1,2,3,4,5,6,7,8]] [.op (some 27) none (.load false 1 (.t 3)),.op (some 28) none (.load false 1 (.t 2)),.op (some 29) none (.ex gj.iF [.t 28]),.op (some 30) none (.mb 0 [false] (.t 29)),.op (some 31) none (.load false 1 (.t 30)),.op (some 32) none (.mv (.t 10)),.op (some 33) none (.ex (gj.fP .str false tG true false) [.t 31,.t 32]),.call (some 34) none (.t 27) [.t 33] [some tG],.op (some 11) none (.alloc [.int .i64 (Int.ofNat 0)]),.op none none (.store 1 (.t 11) (.t 34))]) (.seq (.aN [.op (some 35) none (.load false 1 (.t 5)),.call (some 36) none (.c (.fn 101 [] [])) [.t 35] [none]]) (.block 4 (.bq (.t 36) [37] (.aN [.op (some 12) none (.mv (.t 37))]) (.block 5 (.aN [.op (some 38) none (.load false 1 (.t 8)),.op (some 39) none (.mv (.t 12)),.op (some 40) none (.load false 1 (.t 11)),.op (some 41) none (.bin .add (.t 39) (.t 40)),.call (some 42) none (.c (.fn 100 [] [])) [.t 38,.t 41] [none,some tI]])))))))) (.aN [.op (some 43) none (.bin .add (.t 23) (.c (.int .i64 (Int.ofNat 1)))),.op (some 23) none (.mv (.t 43))]))))))) (.aN [.op (some 44) none (.load false 1 (.t 8)),.op none none (.store 1 (.t 5) (.t 44))])))) 48),(13,.arr .str false),(27,.map tI false .unit true)] [.cell 21 0] []
noncomputable def Bu:D prog 14 none 29:=dO [] (pick (kd prog f132) [(0,false)]) 0
noncomputable def gH67_0b_2i_0:((Int)×(Unit))→Nat×Int×Int×(List (Int×Unit))×cg×cz×aO×aO×ByteArray×Int×List ByteArray×List ByteArray×(List (Int×Unit))×Unit→bO (Nat×Int×Int×(List (Int×Unit))×cg×cz×aO×aO×ByteArray×Int×List ByteArray×List ByteArray×(List (Int×Unit))×Unit):=fun e (YB,w22,w23,m24,m2,m3,m4,m5,qp,D7,o9,iW,m27,_) =>
 .ni (e.1+D7) <|
 .bd (FH100 (e.1+D7) m27) fun y7 =>
 .nd (jq m24 m24) <|
 .ret (YB,w22,w23,m24,m2,m3,m4,m5,qp,D7,o9,iW,y7.1,())
noncomputable def Bv:qS prog 14 none 27:=Bi mixed oc od [0,1,2,3,4,5,6,7,8,9,10,11,12,13,14,15,16,17,18,19,20,21,22,23,24,25,26] rfl Bt ( [.op (some 4) none (.load false 1 (.t 1))]) 4 5 [6,7] (some 8) ( .int .i64)  false ( .unit)  true 0 rfl 29 rfl (Bu) (fun e x=>ak (gH67_0b_2i_0 e x)) (fun e=>fun x=>by kernel_rfl)
@[reducible] def Kk:ay:=ay.mk [(2,.c (.ptr 6 0)),(3,.c (.ptr 7 0)),(5,.c (.ptr 8 0)),(8,.c (.ptr 21 0)),(11,.c (.ptr 22 0)),(21,.c (.cB 20 .str)),(22,hI),(23,hI),(36,.fn 132 [] [.ptr 23 0])] [(6,.cells [.ptr 0 0] false),(7,.cells [.fn 68 .nil (.cons (.ptr 1 0) .nil)] false),(8,.cells [.mp 24] false),(21,.cells [.mp 25] false),(22,.cells [.hole tI] false),(20,.arr .str false),(23,.cells [.mp 24] false),(0,.cells [.mp 2,.mp 3,.mp 4,.mp 5] false),(2,.map .str false tG true),(3,.map .str false (.list .str) false),(4,.map .str false .bool false),(5,.map .str false .bool false),(1,.cells [.hole .str] false),(9,.cells [.ptr 0 0] false),(11,.gQ),(12,.loop .busy none 11 [(2,.c (.ptr 6 0)),(3,.c (.ptr 7 0)),(4,.c .bL),(5,.c (.ptr 8 0)),(17,.fn 106 [] [.ptr 9 0])] [18,19] (.aN [.op (some 7) none (.mv (.t 19))]) (.block 1 (.seq (.aN [.op (some 20) none (.ex (gj.iG tI false .unit true) []),.op (some 8) none (.alloc [.bX]),.op none none (.store 1 (.t 8) (.t 20))]) (.seq (.seq (.aN [.op (some 21) none (.mv (.t 7)),.op (some 22) none (.len (.t 21)),.op (some 23) none (.mv (.c (.int .i64 (Int.ofNat 0))))]) (.block 2 (.loop (.seq (.aN [.op (some 24) none (.bin .lss (.t 23) (.t 22))]) (.seq (.cond (.t 24) .skip (.exit 2)) (.seq (.block 3 (.seq (.aN [.op (some 25) none (.idx 1 (.t 21) (.t 23)),.op (some 26) none (.load false 1 (.t 25)),.op (some 10) none (.mv (.t 26))]) (.seq (.draw [[],[],[1],[1,2],[1,2,3],[],[1,2,3,4,5],[0,1,2,3,4,5,6],[],[0,1,2,3,4,5,6,7,8]] [.op (some 27) none (.load false 1 (.t 3)),.op (some 28) none (.load false 1 (.t 2)),.op (some 29) none (.ex gj.iF [.t 28]),.op (some 30) none (.mb 0 [false] (.t 29)),.op (some 31) none (.load false 1 (.t 30)),.op (some 32) none (.mv (.t 10)),.op (some 33) none (.ex (gj.fP .str false tG true false) [.t 31,.t 32]),.call (some 34) none (.t 27) [.t 33] [some tG],.op (some 11) none (.alloc [.int .i64 (Int.ofNat 0)]),.op none none (.store 1 (.t 11) (.t 34))]) (.seq (.aN [.op (some 35) none (.load false 1 (.t 5)),.call (some 36) none (.c (.fn 101 [] [])) [.t 35] [none]]) (.block 4 (.bq (.t 36) [37] (.aN [.op (some 12) none (.mv (.t 37))]) (.block 5 (.aN [.op (some 38) none (.load false 1 (.t 8)),.op (some 39) none (.mv (.t 12)),.op (some 40) none (.load false 1 (.t 11)),.op (some 41) none (.bin .add (.t 39) (.t 40)),.call (some 42) none (.c (.fn 100 [] [])) [.t 38,.t 41] [none,some tI]])))))))) (.aN [.op (some 43) none (.bin .add (.t 23) (.c (.int .i64 (Int.ofNat 1)))),.op (some 23) none (.mv (.t 43))]))))))) (.aN [.op (some 44) none (.load false 1 (.t 8)),.op none none (.store 1 (.t 5) (.t 44))])))) 48),(13,.arr .str false),(24,.map tI false .unit true),(25,.map tI false .unit true)] [.slot 8,.slot 11,.part 36 0,.cell 8 0,.cell 21 0] []
@[reducible] def Kl:aU:=[(.normal,ay.mk [(2,.c (.ptr 6 0)),(3,.c (.ptr 7 0)),(5,.c (.ptr 8 0)),(8,.c (.ptr 21 0)),(21,.c (.cB 20 .str)),(22,hI),(23,hI)] [(6,.cells [.ptr 0 0] false),(7,.cells [.fn 68 .nil (.cons (.ptr 1 0) .nil)] false),(8,.cells [.mp 22] false),(21,.cells [.mp 23] false),(20,.arr .str false),(0,.cells [.mp 2,.mp 3,.mp 4,.mp 5] false),(2,.map .str false tG true),(3,.map .str false (.list .str) false),(4,.map .str false .bool false),(5,.map .str false .bool false),(1,.cells [.hole .str] false),(9,.cells [.ptr 0 0] false),(11,.gQ),(12,.loop .busy none 11 [(2,.c (.ptr 6 0)),(3,.c (.ptr 7 0)),(4,.c .bL),(5,.c (.ptr 8 0)),(17,.fn 106 [] [.ptr 9 0])] [18,19] (.aN [.op (some 7) none (.mv (.t 19))]) (.block 1 (.seq (.aN [.op (some 20) none (.ex (gj.iG tI false .unit true) []),.op (some 8) none (.alloc [.bX]),.op none none (.store 1 (.t 8) (.t 20))]) (.seq (.seq (.aN [.op (some 21) none (.mv (.t 7)),.op (some 22) none (.len (.t 21)),.op (some 23) none (.mv (.c (.int .i64 (Int.ofNat 0))))]) (.block 2 (.loop (.seq (.aN [.op (some 24) none (.bin .lss (.t 23) (.t 22))]) (.seq (.cond (.t 24) .skip (.exit 2)) (.seq (.block 3 (.seq (.aN [.op (some 25) none (.idx 1 (.t 21) (.t 23)),.op (some 26) none (.load false 1 (.t 25)),.op (some 10) none (.mv (.t 26))]) (.seq (.draw [[],[],[1],[1,2],[1,2,3],[],[1,2,3,4,5],[0,1,2,3,4,5,6],[],[0,1,2,3,4,5,6,7,8]] [.op (some 27) none (.load false 1 (.t 3)),.op (some 28) none (.load false 1 (.t 2)),.op (some 29) none (.ex gj.iF [.t 28]),.op (some 30) none (.mb 0 [false] (.t 29)),.op (some 31) none (.load false 1 (.t 30)),.op (some 32) none (.mv (.t 10)),.op (some 33) none (.ex (gj.fP .str false tG true false) [.t 31,.t 32]),.call (some 34) none (.t 27) [.t 33] [some tG],.op (some 11) none (.alloc [.int .i64 (Int.ofNat 0)]),.op none none (.store 1 (.t 11) (.t 34))]) (.seq (.aN [.op (some 35) none (.load false 1 (.t 5)),.call (some 36) none (.c (.fn 101 [] [])) [.t 35] [none]]) (.block 4 (.bq (.t 36) [37] (.aN [.op (some 12) none (.mv (.t 37))]) (.block 5 (.aN [.op (some 38) none (.load false 1 (.t 8)),.op (some 39) none (.mv (.t 12)),.op (some 40) none (.load false 1 (.t 11)),.op (some 41) none (.bin .add (.t 39) (.t 40)),.call (some 42) none (.c (.fn 100 [] [])) [.t 38,.t 41] [none,some tI]])))))))) (.aN [.op (some 43) none (.bin .add (.t 23) (.c (.int .i64 (Int.ofNat 1)))),.op (some 23) none (.mv (.t 43))]))))))) (.aN [.op (some 44) none (.load false 1 (.t 8)),.op none none (.store 1 (.t 5) (.t 44))])))) 48),(13,.arr .str false),(22,.map tI false .unit true),(23,.map tI false .unit true)] [.slot 8,.cell 8 0,.cell 21 0] [])]
noncomputable def xD:D prog 14 none 27:=dO [.m Bv] (kd prog f132) 0
theorem Gi:cC prog f132=some ⟨14,2,(xD).er,[],[]⟩:=by kernel_rfl
noncomputable def gH67_0b_2:Nat×Int×Int×Int×List ByteArray×cg×cz×aO×aO×ByteArray×List ByteArray×(List (Int×Unit))×(List (Int×Unit))×Unit→bO ((Nat×Int×Int×List ByteArray×cg×cz×aO×aO×ByteArray×List ByteArray×(List (Int×Unit))×(List (Int×Unit))×Unit)):=fun (xE,v22,v23,D7,o9,m2,m3,m4,m5,qp,iW,m24,m25,_) =>
 .bd (.mq gH67_0b_2i_0 m24 (xE,v22,v23,m24,m2,m3,m4,m5,qp,D7,o9,iW,m25,())) fun z8 =>
 .ret ((xE,v22,v23,z8.2.2.2.2.2.2.2.2.2.2.1,z8.2.2.2.2.1,z8.2.2.2.2.2.1,z8.2.2.2.2.2.2.1,z8.2.2.2.2.2.2.2.1,z8.2.2.2.2.2.2.2.2.1,z8.2.2.2.2.2.2.2.2.2.2.2.1,z8.2.2.2.1,z8.2.2.2.2.2.2.2.2.2.2.2.2.1,()))
noncomputable def Km:fW prog 48 (some 12) 21:=rq mixed oc od [0,1,2,3,4,5,6,7,8,9,10,11,12,13,14,15,16,17,18,19,20] rfl Kk Kl ( .t 36) [37] rfl (xB).er (xC).er 132 func132 (Gi) (enters_of func132 rfl rfl) 27 rfl (xD) rfl (fun x=>ak (gH67_0b_2 x)) (fun x=>by kernel_rfl)
@[reducible] def Kn:ay:=ay.mk [(2,.c (.ptr 6 0)),(3,.c (.ptr 7 0)),(5,.c (.ptr 8 0)),(8,.c (.ptr 21 0)),(21,.c (.cB 20 .str)),(22,hI),(23,hI)] [(6,.cells [.ptr 0 0] false),(7,.cells [.fn 68 .nil (.cons (.ptr 1 0) .nil)] false),(8,.cells [.mp 22] false),(21,.cells [.mp 23] false),(20,.arr .str false),(0,.cells [.mp 2,.mp 3,.mp 4,.mp 5] false),(2,.map .str false tG true),(3,.map .str false (.list .str) false),(4,.map .str false .bool false),(5,.map .str false .bool false),(1,.cells [.hole .str] false),(9,.cells [.ptr 0 0] false),(11,.gQ),(12,.loop .busy none 11 [(2,.c (.ptr 6 0)),(3,.c (.ptr 7 0)),(4,.c .bL),(5,.c (.ptr 8 0)),(17,.fn 106 [] [.ptr 9 0])] [18,19] (.aN [.op (some 7) none (.mv (.t 19))]) (.block 1 (.seq (.aN [.op (some 20) none (.ex (gj.iG tI false .unit true) []),.op (some 8) none (.alloc [.bX]),.op none none (.store 1 (.t 8) (.t 20))]) (.seq (.seq (.aN [.op (some 21) none (.mv (.t 7)),.op (some 22) none (.len (.t 21)),.op (some 23) none (.mv (.c (.int .i64 (Int.ofNat 0))))]) (.block 2 (.loop (.seq (.aN [.op (some 24) none (.bin .lss (.t 23) (.t 22))]) (.seq (.cond (.t 24) .skip (.exit 2)) (.seq (.block 3 (.seq (.aN [.op (some 25) none (.idx 1 (.t 21) (.t 23)),.op (some 26) none (.load false 1 (.t 25)),.op (some 10) none (.mv (.t 26))]) (.seq (.draw [[],[],[1],[1,2],[1,2,3],[],[1,2,3,4,5],[0,1,2,3,4,5,6],[],[0,1,2,3,4,5,6,7,8]] [.op (some 27) none (.load false 1 (.t 3)),.op (some 28) none (.load false 1 (.t 2)),.op (some 29) none (.ex gj.iF [.t 28]),.op (some 30) none (.mb 0 [false] (.t 29)),.op (some 31) none (.load false 1 (.t 30)),.op (some 32) none (.mv (.t 10)),.op (some 33) none (.ex (gj.fP .str false tG true false) [.t 31,.t 32]),.call (some 34) none (.t 27) [.t 33] [some tG],.op (some 11) none (.alloc [.int .i64 (Int.ofNat 0)]),.op none none (.store 1 (.t 11) (.t 34))]) (.seq (.aN [.op (some 35) none (.load false 1 (.t 5)),.call (some 36) none (.c (.fn 101 [] [])) [.t 35] [none]]) (.block 4 (.bq (.t 36) [37] (.aN [.op (some 12) none (.mv (.t 37))]) (.block 5 (.aN [.op (some 38) none (.load false 1 (.t 8)),.op (some 39) none (.mv (.t 12)),.op (some 40) none (.load false 1 (.t 11)),.op (some 41) none (.bin .add (.t 39) (.t 40)),.call (some 42) none (.c (.fn 100 [] [])) [.t 38,.t 41] [none,some tI]])))))))) (.aN [.op (some 43) none (.bin .add (.t 23) (.c (.int .i64 (Int.ofNat 1)))),.op (some 23) none (.mv (.t 43))]))))))) (.aN [.op (some 44) none (.load false 1 (.t 8)),.op none none (.store 1 (.t 5) (.t 44))])))) 48),(13,.arr .str false),(22,.map tI false .unit true),(23,.map tI false .unit true)] [.slot 8,.cell 8 0,.cell 21 0] []
@[reducible] def Ko:aU:=[(.exit 2,ay.mk [(5,.c (.ptr 8 0)),(8,.c (.ptr 21 0))] [(8,.cells [.mp 22] false),(21,.cells [.mp 23] false),(0,.cells [.mp 2,.mp 3,.mp 4,.mp 5] false),(2,.map .str false tG true),(3,.map .str false (.list .str) false),(4,.map .str false .bool false),(5,.map .str false .bool false),(1,.cells [.hole .str] false),(6,.cells [.ptr 0 0] false),(7,.cells [.fn 68 .nil (.cons (.ptr 1 0) .nil)] false),(9,.cells [.ptr 0 0] false),(11,.gQ),(12,.loop .busy none 11 [(2,.c (.ptr 6 0)),(3,.c (.ptr 7 0)),(4,.c .bL),(5,.c (.ptr 8 0)),(17,.fn 106 [] [.ptr 9 0])] [18,19] (.aN [.op (some 7) none (.mv (.t 19))]) (.block 1 (.seq (.aN [.op (some 20) none (.ex (gj.iG tI false .unit true) []),.op (some 8) none (.alloc [.bX]),.op none none (.store 1 (.t 8) (.t 20))]) (.seq (.seq (.aN [.op (some 21) none (.mv (.t 7)),.op (some 22) none (.len (.t 21)),.op (some 23) none (.mv (.c (.int .i64 (Int.ofNat 0))))]) (.block 2 (.loop (.seq (.aN [.op (some 24) none (.bin .lss (.t 23) (.t 22))]) (.seq (.cond (.t 24) .skip (.exit 2)) (.seq (.block 3 (.seq (.aN [.op (some 25) none (.idx 1 (.t 21) (.t 23)),.op (some 26) none (.load false 1 (.t 25)),.op (some 10) none (.mv (.t 26))]) (.seq (.draw [[],[],[1],[1,2],[1,2,3],[],[1,2,3,4,5],[0,1,2,3,4,5,6],[],[0,1,2,3,4,5,6,7,8]] [.op (some 27) none (.load false 1 (.t 3)),.op (some 28) none (.load false 1 (.t 2)),.op (some 29) none (.ex gj.iF [.t 28]),.op (some 30) none (.mb 0 [false] (.t 29)),.op (some 31) none (.load false 1 (.t 30)),.op (some 32) none (.mv (.t 10)),.op (some 33) none (.ex (gj.fP .str false tG true false) [.t 31,.t 32]),.call (some 34) none (.t 27) [.t 33] [some tG],.op (some 11) none (.alloc [.int .i64 (Int.ofNat 0)]),.op none none (.store 1 (.t 11) (.t 34))]) (.seq (.aN [.op (some 35) none (.load false 1 (.t 5)),.call (some 36) none (.c (.fn 101 [] [])) [.t 35] [none]]) (.block 4 (.bq (.t 36) [37] (.aN [.op (some 12) none (.mv (.t 37))]) (.block 5 (.aN [.op (some 38) none (.load false 1 (.t 8)),.op (some 39) none (.mv (.t 12)),.op (some 40) none (.load false 1 (.t 11)),.op (some 41) none (.bin .add (.t 39) (.t 40)),.call (some 42) none (.c (.fn 100 [] [])) [.t 38,.t 41] [none,some tI]])))))))) (.aN [.op (some 43) none (.bin .add (.t 23) (.c (.int .i64 (Int.ofNat 1)))),.op (some 23) none (.mv (.t 43))]))))))) (.aN [.op (some 44) none (.load false 1 (.t 8)),.op none none (.store 1 (.t 5) (.t 44))])))) 48),(13,.arr .str false),(20,.arr .str false),(22,.map tI false .unit true),(23,.map tI false .unit true)] [.slot 8,.cell 8 0,.cell 21 0] [])]
noncomputable def Kq:D prog 48 (some 12) 21:=dO [.r Km] (pick (kd prog f67) [(0,true),(0,false)]) 0
noncomputable def gH67_0b_1:Nat×Int×Int×List ByteArray×cg×cz×aO×aO×ByteArray×List ByteArray×(List (Int×Unit))×(List (Int×Unit))×Unit→bO ((Nat×Int×Int×List ByteArray×cg×cz×aO×aO×ByteArray×List ByteArray×(List (Int×Unit))×(List (Int×Unit))×Unit) ⊕ ((cg×cz×aO×aO×ByteArray×List ByteArray×List ByteArray×(List (Int×Unit))×(List (Int×Unit))×Unit))):=fun (xE,v22,v23,o9,m2,m3,m4,m5,qp,iW,m22,m23,_) =>
 .br (decide (v23<v22)) (
 .nb v23 ((xE:Nat):Int) <|
 .nd (decide (((0:Nat)+(Int.toNat v23))<(o9).length)) <|
 .bd (F68 ((aq .str ((bs []),(0:Int),(bs []),(bs []),(0:Int)) m2 ((o9).getD ((0:Nat)+(Int.toNat v23)) (bs []))).1,(aq .str ((bs []),(0:Int),(bs []),(bs []),(0:Int)) m2 ((o9).getD ((0:Nat)+(Int.toNat v23)) (bs []))).2.1,(aq .str ((bs []),(0:Int),(bs []),(bs []),(0:Int)) m2 ((o9).getD ((0:Nat)+(Int.toNat v23)) (bs []))).2.2.1,(aq .str ((bs []),(0:Int),(bs []),(bs []),(0:Int)) m2 ((o9).getD ((0:Nat)+(Int.toNat v23)) (bs []))).2.2.2.1,(aq .str ((bs []),(0:Int),(bs []),(bs []),(0:Int)) m2 ((o9).getD ((0:Nat)+(Int.toNat v23)) (bs []))).2.2.2.2) qp) fun y5 =>
 .bd (FH101 m22) fun y6 =>
 .bd (gH67_0b_2 (xE,v22,v23,y5.1,o9,m2,m3,m4,m5,qp,iW,y6.1,m23,())) fun z9 =>
 .ni (z9.2.2.1+(1:Int)) <|
 .ret (.inl (z9.1,z9.2.1,(z9.2.2.1+(1:Int)),z9.2.2.2.1,z9.2.2.2.2.1,z9.2.2.2.2.2.1,z9.2.2.2.2.2.2.1,z9.2.2.2.2.2.2.2.1,z9.2.2.2.2.2.2.2.2.1,z9.2.2.2.2.2.2.2.2.2.1,z9.2.2.2.2.2.2.2.2.2.2.1,z9.2.2.2.2.2.2.2.2.2.2.2.1,()))) (
 .ret (.inr (m2,m3,m4,m5,qp,iW,o9,m22,m23,())))
noncomputable def Kr:cq prog 48 (some 12) 21:=bP mixed zZ lZ [0,1,2,3,4,5,6,7,8,9,10,11,12,13,14,15,16,17,18,19,20] rfl Kn Ko rfl (Kq) (fun x=>ak (gH67_0b_1 x)) (fun x=>by kernel_rfl)
noncomputable def Iq:D prog 48 (some 12) 21:=dO [] (pick (kd prog f67) [(0,false)]) 0
noncomputable def Ir:D prog 48 (some 12) 21:=dO [.l Kr] (pick (kd prog f67) [(0,true)]) 0
noncomputable def xF:Cx:=yE zZ (fun kz=>MW kz zZ dU 12 21 [18,19] (Iq) (Ir))
theorem ue:(xF).Ok prog:=jC lZ (fun h=>mJ mixed lZ h)
@[reducible] def Ks:ay:=ay.mk [(0,.c (.yl 12)),(1,.c (.ptr 9 0)),(10,.c (.cB 13 .str)),(11,hI),(12,hI)] [(12,.loop .ready none 11 [(2,.c (.ptr 6 0)),(3,.c (.ptr 7 0)),(4,.c .bL),(5,.c (.ptr 8 0)),(17,.fn 106 [] [.ptr 9 0])] [18,19] (.aN [.op (some 7) none (.mv (.t 19))]) (.block 1 (.seq (.aN [.op (some 20) none (.ex (gj.iG tI false .unit true) []),.op (some 8) none (.alloc [.bX]),.op none none (.store 1 (.t 8) (.t 20))]) (.seq (.seq (.aN [.op (some 21) none (.mv (.t 7)),.op (some 22) none (.len (.t 21)),.op (some 23) none (.mv (.c (.int .i64 (Int.ofNat 0))))]) (.block 2 (.loop (.seq (.aN [.op (some 24) none (.bin .lss (.t 23) (.t 22))]) (.seq (.cond (.t 24) .skip (.exit 2)) (.seq (.block 3 (.seq (.aN [.op (some 25) none (.idx 1 (.t 21) (.t 23)),.op (some 26) none (.load false 1 (.t 25)),.op (some 10) none (.mv (.t 26))]) (.seq (.draw [[],[],[1],[1,2],[1,2,3],[],[1,2,3,4,5],[0,1,2,3,4,5,6],[],[0,1,2,3,4,5,6,7,8]] [.op (some 27) none (.load false 1 (.t 3)),.op (some 28) none (.load false 1 (.t 2)),.op (some 29) none (.ex gj.iF [.t 28]),.op (some 30) none (.mb 0 [false] (.t 29)),.op (some 31) none (.load false 1 (.t 30)),.op (some 32) none (.mv (.t 10)),.op (some 33) none (.ex (gj.fP .str false tG true false) [.t 31,.t 32]),.call (some 34) none (.t 27) [.t 33] [some tG],.op (some 11) none (.alloc [.int .i64 (Int.ofNat 0)]),.op none none (.store 1 (.t 11) (.t 34))]) (.seq (.aN [.op (some 35) none (.load false 1 (.t 5)),.call (some 36) none (.c (.fn 101 [] [])) [.t 35] [none]]) (.block 4 (.bq (.t 36) [37] (.aN [.op (some 12) none (.mv (.t 37))]) (.block 5 (.aN [.op (some 38) none (.load false 1 (.t 8)),.op (some 39) none (.mv (.t 12)),.op (some 40) none (.load false 1 (.t 11)),.op (some 41) none (.bin .add (.t 39) (.t 40)),.call (some 42) none (.c (.fn 100 [] [])) [.t 38,.t 41] [none,some tI]])))))))) (.aN [.op (some 43) none (.bin .add (.t 23) (.c (.int .i64 (Int.ofNat 1)))),.op (some 23) none (.mv (.t 43))]))))))) (.aN [.op (some 44) none (.load false 1 (.t 8)),.op none none (.store 1 (.t 5) (.t 44))])))) 48),(9,.cells [.ptr 0 0] false),(13,.arr .str false),(11,.gQ),(6,.cells [.ptr 0 0] false),(0,.cells [.mp 2,.mp 3,.mp 4,.mp 5] false),(2,.map .str false tG true),(3,.map .str false (.list .str) false),(4,.map .str false .bool false),(5,.map .str false .bool false),(7,.cells [.fn 68 .nil (.cons (.ptr 1 0) .nil)] false),(1,.cells [.hole .str] false),(8,.cells [.mp 14] false),(14,.map tI false .unit true)] [.slot 10,.cell 8 0] []
@[reducible] def Kt:aU:=[(.exit 0,ay.mk [] [(0,.cells [.mp 2,.mp 3,.mp 4,.mp 5] false),(2,.map .str false tG true),(3,.map .str false (.list .str) false),(4,.map .str false .bool false),(5,.map .str false .bool false),(1,.cells [.hole .str] false),(6,.cells [.ptr 0 0] false),(7,.cells [.fn 68 .nil (.cons (.ptr 1 0) .nil)] false),(8,.cells [.mp 13] false),(9,.cells [.ptr 0 0] false),(11,.gQ),(12,.loop .ready none 11 [(2,.c (.ptr 6 0)),(3,.c (.ptr 7 0)),(4,.c .bL),(5,.c (.ptr 8 0)),(17,.fn 106 [] [.ptr 9 0])] [18,19] (.aN [.op (some 7) none (.mv (.t 19))]) (.block 1 (.seq (.aN [.op (some 20) none (.ex (gj.iG tI false .unit true) []),.op (some 8) none (.alloc [.bX]),.op none none (.store 1 (.t 8) (.t 20))]) (.seq (.seq (.aN [.op (some 21) none (.mv (.t 7)),.op (some 22) none (.len (.t 21)),.op (some 23) none (.mv (.c (.int .i64 (Int.ofNat 0))))]) (.block 2 (.loop (.seq (.aN [.op (some 24) none (.bin .lss (.t 23) (.t 22))]) (.seq (.cond (.t 24) .skip (.exit 2)) (.seq (.block 3 (.seq (.aN [.op (some 25) none (.idx 1 (.t 21) (.t 23)),.op (some 26) none (.load false 1 (.t 25)),.op (some 10) none (.mv (.t 26))]) (.seq (.draw [[],[],[1],[1,2],[1,2,3],[],[1,2,3,4,5],[0,1,2,3,4,5,6],[],[0,1,2,3,4,5,6,7,8]] [.op (some 27) none (.load false 1 (.t 3)),.op (some 28) none (.load false 1 (.t 2)),.op (some 29) none (.ex gj.iF [.t 28]),.op (some 30) none (.mb 0 [false] (.t 29)),.op (some 31) none (.load false 1 (.t 30)),.op (some 32) none (.mv (.t 10)),.op (some 33) none (.ex (gj.fP .str false tG true false) [.t 31,.t 32]),.call (some 34) none (.t 27) [.t 33] [some tG],.op (some 11) none (.alloc [.int .i64 (Int.ofNat 0)]),.op none none (.store 1 (.t 11) (.t 34))]) (.seq (.aN [.op (some 35) none (.load false 1 (.t 5)),.call (some 36) none (.c (.fn 101 [] [])) [.t 35] [none]]) (.block 4 (.bq (.t 36) [37] (.aN [.op (some 12) none (.mv (.t 37))]) (.block 5 (.aN [.op (some 38) none (.load false 1 (.t 8)),.op (some 39) none (.mv (.t 12)),.op (some 40) none (.load false 1 (.t 11)),.op (some 41) none (.bin .add (.t 39) (.t 40)),.call (some 42) none (.c (.fn 100 [] [])) [.t 38,.t 41] [none,some tI]])))))))) (.aN [.op (some 43) none (.bin .add (.t 23) (.c (.int .i64 (Int.ofNat 1)))),.op (some 23) none (.mv (.t 43))]))))))) (.aN [.op (some 44) none (.load false 1 (.t 8)),.op none none (.store 1 (.t 5) (.t 44))])))) 48),(13,.map tI false .unit true)] [.cell 8 0] [])]
noncomputable def Ku:D prog 34 none 13:=dO [] (pick (kd prog f106) [(0,false)]) 0
noncomputable def gH67_0i_0:Nat×Int×Int×List ByteArray×cg×cz×aO×aO×ByteArray×(List (Int×Unit))×Unit→bO ((Nat×Int×Int×List ByteArray×cg×cz×aO×aO×ByteArray×(List (Int×Unit))×Unit) ⊕ ((cg×cz×aO×aO×ByteArray×(List (Int×Unit))×Unit))):=fun (xG,v11,v12,iW,m2,m3,m4,m5,qp,m14,_) =>
 .br (decide (v12<v11)) (
 .nb v12 ((xG:Nat):Int) <|
 .nd (decide (((0:Nat)+(Int.toNat v12))<(iW).length)) <|
 .br ((aq .str ((bs []),(0:Int),(bs []),(bs []),(0:Int)) m2 ((iW).getD ((0:Nat)+(Int.toNat v12)) (bs []))).2.1==(1:Int)) (
 .bd (FH76fix ((iW).getD ((0:Nat)+(Int.toNat v12)) (bs [])) m2 m3 m4 m5) fun y4 =>
 .bd (.it gH67_0b_1 (y4.1,((y4.1:Nat):Int),(0:Int),y4.2.1,y4.2.2.1,y4.2.2.2.1,y4.2.2.2.2.1,y4.2.2.2.2.2.1,qp,iW,m14,[],())) fun Is =>
 .ni (v12+(1:Int)) <|
 .ret (.inl (xG,v11,(v12+(1:Int)),Is.2.2.2.2.2.1,Is.1,Is.2.1,Is.2.2.1,Is.2.2.2.1,Is.2.2.2.2.1,Is.2.2.2.2.2.2.2.2.1,()))) (
 .ni (v12+(1:Int)) <|
 .ret (.inl (xG,v11,(v12+(1:Int)),iW,m2,m3,m4,m5,qp,m14,())))) (
 .ret (.inr (m2,m3,m4,m5,qp,m14,())))
noncomputable def Kv:cq prog 34 none 13:=bP mixed xF ue [0,1,2,3,4,5,6,7,8,9,10,11,12] rfl Ks Kt rfl (Ku) (fun x=>ak (gH67_0i_0 x)) (fun x=>by kernel_rfl)
@[reducible] def YC:ay:=ay.mk [(2,.c (.ptr 6 0)),(3,.c (.ptr 7 0)),(4,.c .bL),(5,.c (.ptr 8 0)),(17,.fn 106 [] [.ptr 9 0])] [(6,.cells [.ptr 0 0] false),(7,.cells [.fn 68 .nil (.cons (.ptr 1 0) .nil)] false),(8,.cells [.mp 10] false),(9,.cells [.ptr 0 0] false),(0,.cells [.mp 2,.mp 3,.mp 4,.mp 5] false),(2,.map .str false tG true),(3,.map .str false (.list .str) false),(4,.map .str false .bool false),(5,.map .str false .bool false),(1,.cells [.hole .str] false),(10,.map tI false .unit true)] [.slot 2,.slot 3,.slot 5,.part 17 0,.cell 8 0] []
@[reducible] def YD:aU:=[(.normal,ay.mk [(5,.c (.ptr 6 0))] [(6,.cells [.mp 7] false),(0,.cells [.mp 2,.mp 3,.mp 4,.mp 5] false),(2,.map .str false tG true),(3,.map .str false (.list .str) false),(4,.map .str false .bool false),(5,.map .str false .bool false),(1,.cells [.hole .str] false),(7,.map tI false .unit true)] [.slot 5,.cell 6 0] [])]
noncomputable def It:D prog 34 none 13:=dO [.l Kv] (kd prog f106) 0
theorem SK:cC prog f106=some ⟨34,2,(It).er,[],[]⟩:=by kernel_rfl
noncomputable def gH67_0:cg×cz×aO×aO×ByteArray×(List (Int×Unit))×Unit→bO ((cg×cz×aO×aO×ByteArray×(List (Int×Unit))×Unit)):=fun (m2,m3,m4,m5,qp,m10,_) =>
 .bd (FH95 m2) fun y2 =>
 .bd (FH81 y2.1) fun y3 =>
 .bd (.it gH67_0i_0 (y3.1,((y3.1:Nat):Int),(0:Int),y3.2.1,y3.2.2.1,m3,m4,m5,qp,m10,())) fun K5 =>
 .ret ((K5.1,K5.2.1,K5.2.2.1,K5.2.2.2.1,K5.2.2.2.2.1,K5.2.2.2.2.2.1,()))
noncomputable def YE:fW prog 48 none 6:=rq mixed xF ue [0,1,2,3,4,5] rfl YC YD ( .t 17) [18,19] rfl (Iq).er (Ir).er 106 func106 (SK) (enters_of func106 rfl rfl) 13 rfl (It) rfl (fun x=>ak (gH67_0 x)) (fun x=>by kernel_rfl)
noncomputable def VB:D prog 48 none 6:=dO [.r YE] (kd prog f67) 0
noncomputable def FH67 (qp:ByteArray) (m2:cg) (m3:cz) (m4:aO) (m5:aO):bO (Nat×List Int×cg×cz×aO×aO×ByteArray×Unit) :=
 .bd (FH100 (0:Int) []) fun y0 =>
 .bd (FH79 m2 m3 m4 m5) fun y1 =>
 .bd (gH67_0 (y1.1,y1.2.1,y1.2.2.1,y1.2.2.2.1,qp,y0.1,())) fun z12 =>
 .bd (FH101 z12.2.2.2.2.2.1) fun y13 =>
 .bd (FH102 y13.1) fun SM =>
 .ret (SM.1,SM.2.1,z12.1,z12.2.1,z12.2.2.1,z12.2.2.2.1,z12.2.2.2.2.1,())
theorem SN:cC prog f67=some ⟨48,2,VB.er,[.t 4],[some tL]⟩:=by kernel_rfl
noncomputable def ht67:Ht:=⟨67,pH67,qH67,(fun x=>ak (FH67 x.1 x.2.1 x.2.2.1 x.2.2.2.1 x.2.2.2.2.1))⟩
theorem SO:ht67.Ok prog:=bE mixed lZ rfl func67 SN (enters_of func67 rfl rfl) VB (by kernel_rfl) rfl rfl ⟨_,rfl⟩ rfl (pre:=[0,1,2,3,4,5]) rfl (fun x=>by kernel_rfl)

/- 23, lent -/
@[reducible] def pH23:ay:=ay.mk [(0,.c (.ptr 0 0)),(1,.c (.hole .str))] [(0,.cells [.mp 1] false),(1,.map tG true .bool false)] [.slot 0,.cell 0 0] []
@[reducible] def qH23:ay:=ay.mk [(0,.cw [.cB 2 tI,.hole tI])] [(2,.arr tI false),(0,.cells [.mp 1] false),(1,.map tG true .bool false)] [.part 0 0] []
noncomputable def acK:Cx:=(aL [NF] [yG,DK,ht67])
theorem OR:acK.Ok prog:=au ⟨uY,trivial⟩ ⟨⟨mN,rfl⟩,⟨rM,rfl⟩,⟨SO,rfl⟩,trivial⟩
noncomputable def VC:D prog 15 none 2:=dO [] (kd prog f23) 0
noncomputable def FH23 (v1:ByteArray) (m1:List ((GG)×Bool)):bO (Nat×Int×List Int×(List ((GG)×Bool))×Unit) :=
 .bd (FH54 m1) fun y0 =>
 .br y0.1 (
 .ret ((0:Nat),(9:Int),[],y0.2.1,())) (
 .bd (F65 v1) fun y1 =>
 .br (!y1.1) (
 .ret ((0:Nat),(8:Int),[],y0.2.1,())) (
 .bd (FH66 y0.2.1) fun y2 =>
 .bd (FH67 v1 y2.2.1 y2.2.2.1 y2.2.2.2.1 y2.2.2.2.2.1) fun y3 =>
 .ret (y3.1,(0:Int),y3.2.1,y2.1,())))
theorem SQ:cC prog f23=some ⟨15,2,VC.er,[.t 4,.t 5],[some tL,some tI]⟩:=by kernel_rfl
noncomputable def SR:Ht:=⟨23,pH23,qH23,(fun x=>ak (FH23 x.1 x.2.1))⟩
theorem Bw:SR.Ok prog:=bE mixed OR rfl func23 SQ (enters_of func23 rfl rfl) VC (by kernel_rfl) rfl rfl ⟨_,rfl⟩ rfl (pre:=[0,1]) rfl (fun x=>by kernel_rfl)

/- 78 -/
noncomputable def cx78:Cx:=(aL [] [])
theorem SS:cx78.Ok prog:=au trivial trivial
noncomputable def dd78:D prog 5 none 0:=dO [] (kd prog f78) 0
noncomputable def F78 (a0:GG):bO (Int×Unit) :=
 .ret (a0.2.2.2.2,())
theorem YF:cC prog f78=some ⟨5,1,dd78.er,[.t 2],[some tI]⟩:=by kernel_rfl
noncomputable def ct78:Ct:=⟨78,[.c (.hole tG)],hI,fun x=>ak (F78 x.1)⟩
theorem SU:ct78.Ok prog:=cZ mixed SS func78 YF (enters_of func78 rfl rfl) dd78 (by kernel_rfl) rfl (fun x=>by kernel_rfl)

/- 67, lent -/
@[reducible] def SV:ay:=ay.mk [(0,.c (.ptr 0 0)),(1,.c (.fn0 78))] [(0,.cells [.mp 1,.mp 2,.mp 3,.mp 4] false),(1,.map .str false tG true),(2,.map .str false (.list .str) false),(3,.map .str false .bool false),(4,.map .str false .bool false)] [.slot 0,.cell 0 0,.cell 0 1,.cell 0 2,.cell 0 3] []
@[reducible] def SX:ay:=ay.mk [(0,.c (.cB 5 tI))] [(5,.arr tI false),(0,.cells [.mp 1,.mp 2,.mp 3,.mp 4] false),(1,.map .str false tG true),(2,.map .str false (.list .str) false),(3,.map .str false .bool false),(4,.map .str false .bool false)] [.slot 0] []
noncomputable def l5:Cx:=(aL [ct78] [OB,SG,NS,NU,FZ,OJ,OQ])
theorem gw:l5.Ok prog:=au ⟨SU,trivial⟩ ⟨⟨D0,rfl⟩,⟨Bs,rfl⟩,⟨u9,rfl⟩,⟨ve,rfl⟩,⟨rO,rfl⟩,⟨D1,rfl⟩,⟨D6,rfl⟩,trivial⟩
noncomputable def pM:D prog 48 (some 25) 28:=dO [] (pick (kd prog f67) [(0,true),(0,false),(0,false)]) 0
noncomputable def pN:D prog 48 (some 25) 28:=dO [] (pick (kd prog f67) [(0,true),(0,false),(0,true)]) 0
noncomputable def ko:Cx:=yE l5 (fun kz=>MW kz l5 dU 25 28 [37] (pM) (pN))
theorem k4:(ko).Ok prog:=jC gw (fun h=>mJ mixed gw h)
@[reducible] def uC:ay:=ay.mk [(0,.c (.yl 25)),(4,.c (.mp 23))] [(25,.loop .ready none 10 [(2,.c (.ptr 5 0)),(3,.c (.ptr 6 0)),(5,.c (.ptr 7 0)),(8,.c (.ptr 20 0)),(11,.c (.ptr 21 0)),(21,.c (.cB 19 .str)),(22,hI),(23,hI),(36,.fn 132 [] [.ptr 22 0])] [37] (.aN [.op (some 12) none (.mv (.t 37))]) (.block 5 (.aN [.op (some 38) none (.load false 1 (.t 8)),.op (some 39) none (.mv (.t 12)),.op (some 40) none (.load false 1 (.t 11)),.op (some 41) none (.bin .add (.t 39) (.t 40)),.call (some 42) none (.c (.fn 100 [] [])) [.t 38,.t 41] [none,some tI]])) 48),(23,.map tI false .unit true),(10,.gQ),(5,.cells [.ptr 0 0] false),(0,.cells [.mp 1,.mp 2,.mp 3,.mp 4] false),(1,.map .str false tG true),(2,.map .str false (.list .str) false),(3,.map .str false .bool false),(4,.map .str false .bool false),(6,.cells [.fn0 78] false),(7,.cells [.mp 23] false),(20,.cells [.mp 26] false),(21,.cells [.hole tI] false),(19,.arr .str false),(22,.cells [.mp 23] false),(8,.cells [.ptr 0 0] false),(11,.loop .busy none 10 [(2,.c (.ptr 5 0)),(3,.c (.ptr 6 0)),(4,.c .bL),(5,.c (.ptr 7 0)),(17,.fn 106 [] [.ptr 8 0])] [18,19] (.aN [.op (some 7) none (.mv (.t 19))]) (.block 1 (.seq (.aN [.op (some 20) none (.ex (gj.iG tI false .unit true) []),.op (some 8) none (.alloc [.bX]),.op none none (.store 1 (.t 8) (.t 20))]) (.seq (.seq (.aN [.op (some 21) none (.mv (.t 7)),.op (some 22) none (.len (.t 21)),.op (some 23) none (.mv (.c (.int .i64 (Int.ofNat 0))))]) (.block 2 (.loop (.seq (.aN [.op (some 24) none (.bin .lss (.t 23) (.t 22))]) (.seq (.cond (.t 24) .skip (.exit 2)) (.seq (.block 3 (.seq (.aN [.op (some 25) none (.idx 1 (.t 21) (.t 23)),.op (some 26) none (.load false 1 (.t 25)),.op (some 10) none (.mv (.t 26))]) (.seq (.draw [[],[],[1],[1,2],[1,2,3],[],[1,2,3,4,5],[0,1,2,3,4,5,6],[],[0,1,2,3,4,5,6,7,8]] [.op (some 27) none (.load false 1 (.t 3)),.op (some 28) none (.load false 1 (.t 2)),.op (some 29) none (.ex gj.iF [.t 28]),.op (some 30) none (.mb 0 [false] (.t 29)),.op (some 31) none (.load false 1 (.t 30)),.op (some 32) none (.mv (.t 10)),.op (some 33) none (.ex (gj.fP .str false tG true false) [.t 31,.t 32]),.call (some 34) none (.t 27) [.t 33] [some tG],.op (some 11) none (.alloc [.int .i64 (Int.ofNat 0)]),.op none none (.store 1 (.t 11) (.t 34))]) (.seq (.aN [.op (some 35) none (.load false 1 (.t 5)),.call (some 36) none (.c (.fn 101 [] [])) [.t 35] [none]]) (.block 4 (.bq (.t 36) [37] (.aN [.op (some 12) none (.mv (.t 37))]) (.block 5 (.aN [.op (some 38) none (.load false 1 (.t 8)),.op (some 39) none (.mv (.t 12)),.op (some 40) none (.load false 1 (.t 11)),.op (some 41) none (.bin .add (.t 39) (.t 40)),.call (some 42) none (.c (.fn 100 [] [])) [.t 38,.t 41] [none,some tI]])))))))) (.aN [.op (some 43) none (.bin .add (.t 23) (.c (.int .i64 (Int.ofNat 1)))),.op (some 23) none (.mv (.t 43))]))))))) (.aN [.op (some 44) none (.load false 1 (.t 8)),.op none none (.store 1 (.t 5) (.t 44))])))) 48),(12,.arr .str false),(26,.map tI false .unit true)] [.cell 20 0] []
noncomputable def uD:D prog 14 none 28:=dO [] (pick (kd prog f132) [(0,false)]) 0
noncomputable def gH67_v1_0b_2i_0:((Int)×(Unit))→Nat×Int×Int×(List (Int×Unit))×cg×cz×aO×aO×Int×List ByteArray×List ByteArray×(List (Int×Unit))×Unit→bO (Nat×Int×Int×(List (Int×Unit))×cg×cz×aO×aO×Int×List ByteArray×List ByteArray×(List (Int×Unit))×Unit):=fun e (YB,w22,w23,m23,m1,m2,m3,m4,D8,K6,K7,m26,_) =>
 .ni (e.1+D8) <|
 .bd (FH100 (e.1+D8) m26) fun y7 =>
 .nd (jq m23 m23) <|
 .ret (YB,w22,w23,m23,m1,m2,m3,m4,D8,K6,K7,y7.1,())
noncomputable def uE:qS prog 14 none 26:=Bi mixed ko k4 [0,1,2,3,4,5,6,7,8,9,10,11,12,13,14,15,16,17,18,19,20,21,22,23,24,25] rfl uC ( [.op (some 4) none (.load false 1 (.t 1))]) 4 5 [6,7] (some 8) ( .int .i64)  false ( .unit)  true 0 rfl 28 rfl (uD) (fun e x=>ak (gH67_v1_0b_2i_0 e x)) (fun e=>fun x=>by kernel_rfl)
@[reducible] def Bx:ay:=ay.mk [(2,.c (.ptr 5 0)),(3,.c (.ptr 6 0)),(5,.c (.ptr 7 0)),(8,.c (.ptr 20 0)),(11,.c (.ptr 21 0)),(21,.c (.cB 19 .str)),(22,hI),(23,hI),(36,.fn 132 [] [.ptr 22 0])] [(5,.cells [.ptr 0 0] false),(6,.cells [.fn0 78] false),(7,.cells [.mp 23] false),(20,.cells [.mp 24] false),(21,.cells [.hole tI] false),(19,.arr .str false),(22,.cells [.mp 23] false),(0,.cells [.mp 1,.mp 2,.mp 3,.mp 4] false),(1,.map .str false tG true),(2,.map .str false (.list .str) false),(3,.map .str false .bool false),(4,.map .str false .bool false),(8,.cells [.ptr 0 0] false),(10,.gQ),(11,.loop .busy none 10 [(2,.c (.ptr 5 0)),(3,.c (.ptr 6 0)),(4,.c .bL),(5,.c (.ptr 7 0)),(17,.fn 106 [] [.ptr 8 0])] [18,19] (.aN [.op (some 7) none (.mv (.t 19))]) (.block 1 (.seq (.aN [.op (some 20) none (.ex (gj.iG tI false .unit true) []),.op (some 8) none (.alloc [.bX]),.op none none (.store 1 (.t 8) (.t 20))]) (.seq (.seq (.aN [.op (some 21) none (.mv (.t 7)),.op (some 22) none (.len (.t 21)),.op (some 23) none (.mv (.c (.int .i64 (Int.ofNat 0))))]) (.block 2 (.loop (.seq (.aN [.op (some 24) none (.bin .lss (.t 23) (.t 22))]) (.seq (.cond (.t 24) .skip (.exit 2)) (.seq (.block 3 (.seq (.aN [.op (some 25) none (.idx 1 (.t 21) (.t 23)),.op (some 26) none (.load false 1 (.t 25)),.op (some 10) none (.mv (.t 26))]) (.seq (.draw [[],[],[1],[1,2],[1,2,3],[],[1,2,3,4,5],[0,1,2,3,4,5,6],[],[0,1,2,3,4,5,6,7,8]] [.op (some 27) none (.load false 1 (.t 3)),.op (some 28) none (.load false 1 (.t 2)),.op (some 29) none (.ex gj.iF [.t 28]),.op (some 30) none (.mb 0 [false] (.t 29)),.op (some 31) none (.load false 1 (.t 30)),.op (some 32) none (.mv (.t 10)),.op (some 33) none (.ex (gj.fP .str false tG true false) [.t 31,.t 32]),.call (some 34) none (.t 27) [.t 33] [some tG],.op (some 11) none (.alloc [.int .i64 (Int.ofNat 0)]),.op none none (.store 1 (.t 11) (.t 34))]) (.seq (.aN [.op (some 35) none (.load false 1 (.t 5)),.call (some 36) none (.c (.fn 101 [] [])) [.t 35] [none]]) (.block 4 (.bq (.t 36) [37] (.aN [.op (some 12) none (.mv (.t 37))]) (.block 5 (.aN [.op (some 38) none (.load false 1 (.t 8)),.op (some 39) none (.mv (.t 12)),.op (some 40) none (.load false 1 (.t 11)),.op (some 41) none (.bin .add (.t 39) (.t 40)),.call (some 42) none (.c (.fn 100 [] [])) [.t 38,.t 41] [none,some tI]])))))))) (.aN [.op (some 43) none (.bin .add (.t 23) (.c (.int .i64 (Int.ofNat 1)))),.op (some 23) none (.mv (.t 43))]))))))) (.aN [.op (some 44) none (.load false 1 (.t 8)),.op none none (.store 1 (.t 5) (.t 44))])))) 48),(12,.arr .str false),(23,.map tI false .unit true),(24,.map tI false .unit true)] [.slot 8,.slot 11,.part 36 0,.cell 7 0,.cell 20 0] []
@[reducible] def Bz:aU:=[(.normal,ay.mk [(2,.c (.ptr 5 0)),(3,.c (.ptr 6 0)),(5,.c (.ptr 7 0)),(8,.c (.ptr 20 0)),(21,.c (.cB 19 .str)),(22,hI),(23,hI)] [(5,.cells [.ptr 0 0] false),(6,.cells [.fn0 78] false),(7,.cells [.mp 21] false),(20,.cells [.mp 22] false),(19,.arr .str false),(0,.cells [.mp 1,.mp 2,.mp 3,.mp 4] false),(1,.map .str false tG true),(2,.map .str false (.list .str) false),(3,.map .str false .bool false),(4,.map .str false .bool false),(8,.cells [.ptr 0 0] false),(10,.gQ),(11,.loop .busy none 10 [(2,.c (.ptr 5 0)),(3,.c (.ptr 6 0)),(4,.c .bL),(5,.c (.ptr 7 0)),(17,.fn 106 [] [.ptr 8 0])] [18,19] (.aN [.op (some 7) none (.mv (.t 19))]) (.block 1 (.seq (.aN [.op (some 20) none (.ex (gj.iG tI false .unit true) []),.op (some 8) none (.alloc [.bX]),.op none none (.store 1 (.t 8) (.t 20))]) (.seq (.seq (.aN [.op (some 21) none (.mv (.t 7)),.op (some 22) none (.len (.t 21)),.op (some 23) none (.mv (.c (.int .i64 (Int.ofNat 0))))]) (.block 2 (.loop (.seq (.aN [.op (some 24) none (.bin .lss (.t 23) (.t 22))]) (.seq (.cond (.t 24) .skip (.exit 2)) (.seq (.block 3 (.seq (.aN [.op (some 25) none (.idx 1 (.t 21) (.t 23)),.op (some 26) none (.load false 1 (.t 25)),.op (some 10) none (.mv (.t 26))]) (.seq (.draw [[],[],[1],[1,2],[1,2,3],[],[1,2,3,4,5],[0,1,2,3,4,5,6],[],[0,1,2,3,4,5,6,7,8]] [.op (some 27) none (.load false 1 (.t 3)),.op (some 28) none (.load false 1 (.t 2)),.op (some 29) none (.ex gj.iF [.t 28]),.op (some 30) none (.mb 0 [false] (.t 29)),.op (some 31) none (.load false 1 (.t 30)),.op (some 32) none (.mv (.t 10)),.op (some 33) none (.ex (gj.fP .str false tG true false) [.t 31,.t 32]),.call (some 34) none (.t 27) [.t 33] [some tG],.op (some 11) none (.alloc [.int .i64 (Int.ofNat 0)]),.op none none (.store 1 (.t 11) (.t 34))]) (.seq (.aN [.op (some 35) none (.load false 1 (.t 5)),.call (some 36) none (.c (.fn 101 [] [])) [.t 35] [none]]) (.block 4 (.bq (.t 36) [37] (.aN [.op (some 12) none (.mv (.t 37))]) (.block 5 (.aN [.op (some 38) none (.load false 1 (.t 8)),.op (some 39) none (.mv (.t 12)),.op (some 40) none (.load false 1 (.t 11)),.op (some 41) none (.bin .add (.t 39) (.t 40)),.call (some 42) none (.c (.fn 100 [] [])) [.t 38,.t 41] [none,some tI]])))))))) (.aN [.op (some 43) none (.bin .add (.t 23) (.c (.int .i64 (Int.ofNat 1)))),.op (some 23) none (.mv (.t 43))]))))))) (.aN [.op (some 44) none (.load false 1 (.t 8)),.op none none (.store 1 (.t 5) (.t 44))])))) 48),(12,.arr .str false),(21,.map tI false .unit true),(22,.map tI false .unit true)] [.slot 8,.cell 7 0,.cell 20 0] [])]
noncomputable def pO:D prog 14 none 26:=dO [.m uE] (kd prog f132) 0
theorem yH:cC prog f132=some ⟨14,2,(pO).er,[],[]⟩:=by kernel_rfl
noncomputable def gH67_v1_0b_2:Nat×Int×Int×Int×List ByteArray×cg×cz×aO×aO×List ByteArray×(List (Int×Unit))×(List (Int×Unit))×Unit→bO ((Nat×Int×Int×List ByteArray×cg×cz×aO×aO×List ByteArray×(List (Int×Unit))×(List (Int×Unit))×Unit)):=fun (xE,v22,v23,D8,K6,m1,m2,m3,m4,K7,m23,m24,_) =>
 .bd (.mq gH67_v1_0b_2i_0 m23 (xE,v22,v23,m23,m1,m2,m3,m4,D8,K6,K7,m24,())) fun z8 =>
 .ret ((xE,v22,v23,z8.2.2.2.2.2.2.2.2.2.1,z8.2.2.2.2.1,z8.2.2.2.2.2.1,z8.2.2.2.2.2.2.1,z8.2.2.2.2.2.2.2.1,z8.2.2.2.2.2.2.2.2.2.2.1,z8.2.2.2.1,z8.2.2.2.2.2.2.2.2.2.2.2.1,()))
noncomputable def BA:fW prog 48 (some 11) 20:=rq mixed ko k4 [0,1,2,3,4,5,6,7,8,9,10,11,12,13,14,15,16,17,18,19] rfl Bx Bz ( .t 36) [37] rfl (pM).er (pN).er 132 func132 (yH) (enters_of func132 rfl rfl) 26 rfl (pO) rfl (fun x=>ak (gH67_v1_0b_2 x)) (fun x=>by kernel_rfl)
@[reducible] def BC:ay:=ay.mk [(2,.c (.ptr 5 0)),(3,.c (.ptr 6 0)),(5,.c (.ptr 7 0)),(8,.c (.ptr 20 0)),(21,.c (.cB 19 .str)),(22,hI),(23,hI)] [(5,.cells [.ptr 0 0] false),(6,.cells [.fn0 78] false),(7,.cells [.mp 21] false),(20,.cells [.mp 22] false),(19,.arr .str false),(0,.cells [.mp 1,.mp 2,.mp 3,.mp 4] false),(1,.map .str false tG true),(2,.map .str false (.list .str) false),(3,.map .str false .bool false),(4,.map .str false .bool false),(8,.cells [.ptr 0 0] false),(10,.gQ),(11,.loop .busy none 10 [(2,.c (.ptr 5 0)),(3,.c (.ptr 6 0)),(4,.c .bL),(5,.c (.ptr 7 0)),(17,.fn 106 [] [.ptr 8 0])] [18,19] (.aN [.op (some 7) none (.mv (.t 19))]) (.block 1 (.seq (.aN [.op (some 20) none (.ex (gj.iG tI false .unit true) []),.op (some 8) none (.alloc [.bX]),.op none none (.store 1 (.t 8) (.t 20))]) (.seq (.seq (.aN [.op (some 21) none (.mv (.t 7)),.op (some 22) none (.len (.t 21)),.op (some 23) none (.mv (.c (.int .i64 (Int.ofNat 0))))]) (.block 2 (.loop (.seq (.aN [.op (some 24) none (.bin .lss (.t 23) (.t 22))]) (.seq (.cond (.t 24) .skip (.exit 2)) (.seq (.block 3 (.seq (.aN [.op (some 25) none (.idx 1 (.t 21) (.t 23)),.op (some 26) none (.load false 1 (.t 25)),.op (some 10) none (.mv (.t 26))]) (.seq (.draw [[],[],[1],[1,2],[1,2,3],[],[1,2,3,4,5],[0,1,2,3,4,5,6],[],[0,1,2,3,4,5,6,7,8]] [.op (some 27) none (.load false 1 (.t 3)),.op (some 28) none (.load false 1 (.t 2)),.op (some 29) none (.ex gj.iF [.t 28]),.op (some 30) none (.mb 0 [false] (.t 29)),.op (some 31) none (.load false 1 (.t 30)),.op (some 32) none (.mv (.t 10)),.op (some 33) none (.ex (gj.fP .str false tG true false) [.t 31,.t 32]),.call (some 34) none (.t 27) [.t 33] [some tG],.op (some 11) none (.alloc [.int .i64 (Int.ofNat 0)]),.op none none (.store 1 (.t 11) (.t 34))]) (.seq (.aN [.op (some 35) none (.load false 1 (.t 5)),.call (some 36) none (.c (.fn 101 [] [])) [.t 35] [none]]) (.block 4 (.bq (.t 36) [37] (.aN [.op (some 12) none (.mv (.t 37))]) (.block 5 (.aN [.op (some 38) none (.load false 1 (.t 8)),.op (some 39) none (.mv (.t 12)),.op (some 40) none (.load false 1 (.t 11)),.op (some 41) none (.bin .add (.t 39) (.t 40)),.call (some 42) none (.c (.fn 100 [] [])) [.t 38,.t 41] [none,some tI]])))))))) (.aN [.op (some 43) none (.bin .add (.t 23) (.c (.int .i64 (Int.ofNat 1)))),.op (some 23) none (.mv (.t 43))]))))))) (.aN [.op (some 44) none (.load false 1 (.t 8)),.op none none (.store 1 (.t 5) (.t 44))])))) 48),(12,.arr .str false),(21,.map tI false .unit true),(22,.map tI false .unit true)] [.slot 8,.cell 7 0,.cell 20 0] []
@[reducible] def BD:aU:=[(.exit 2,ay.mk [(5,.c (.ptr 7 0)),(8,.c (.ptr 20 0))] [(7,.cells [.mp 21] false),(20,.cells [.mp 22] false),(0,.cells [.mp 1,.mp 2,.mp 3,.mp 4] false),(1,.map .str false tG true),(2,.map .str false (.list .str) false),(3,.map .str false .bool false),(4,.map .str false .bool false),(5,.cells [.ptr 0 0] false),(6,.cells [.fn0 78] false),(8,.cells [.ptr 0 0] false),(10,.gQ),(11,.loop .busy none 10 [(2,.c (.ptr 5 0)),(3,.c (.ptr 6 0)),(4,.c .bL),(5,.c (.ptr 7 0)),(17,.fn 106 [] [.ptr 8 0])] [18,19] (.aN [.op (some 7) none (.mv (.t 19))]) (.block 1 (.seq (.aN [.op (some 20) none (.ex (gj.iG tI false .unit true) []),.op (some 8) none (.alloc [.bX]),.op none none (.store 1 (.t 8) (.t 20))]) (.seq (.seq (.aN [.op (some 21) none (.mv (.t 7)),.op (some 22) none (.len (.t 21)),.op (some 23) none (.mv (.c (.int .i64 (Int.ofNat 0))))]) (.block 2 (.loop (.seq (.aN [.op (some 24) none (.bin .lss (.t 23) (.t 22))]) (.seq (.cond (.t 24) .skip (.exit 2)) (.seq (.block 3 (.seq (.aN [.op (some 25) none (.idx 1 (.t 21) (.t 23)),.op (some 26) none (.load false 1 (.t 25)),.op (some 10) none (.mv (.t 26))]) (.seq (.draw [[],[],[1],[1,2],[1,2,3],[],[1,2,3,4,5],[0,1,2,3,4,5,6],[],[0,1,2,3,4,5,6,7,8]] [.op (some 27) none (.load false 1 (.t 3)),.op (some 28) none (.load false 1 (.t 2)),.op (some 29) none (.ex gj.iF [.t 28]),.op (some 30) none (.mb 0 [false] (.t 29)),.op (some 31) none (.load false 1 (.t 30)),.op (some 32) none (.mv (.t 10)),.op (some 33) none (.ex (gj.fP .str false tG true false) [.t 31,.t 32]),.call (some 34) none (.t 27) [.t 33] [some tG],.op (some 11) none (.alloc [.int .i64 (Int.ofNat 0)]),.op none none (.store 1 (.t 11) (.t 34))]) (.seq (.aN [.op (some 35) none (.load false 1 (.t 5)),.call (some 36) none (.c (.fn 101 [] [])) [.t 35] [none]]) (.block 4 (.bq (.t 36) [37] (.aN [.op (some 12) none (.mv (.t 37))]) (.block 5 (.aN [.op (some 38) none (.load false 1 (.t 8)),.op (some 39) none (.mv (.t 12)),.op (some 40) none (.load false 1 (.t 11)),.op (some 41) none (.bin .add (.t 39) (.t 40)),.call (some 42) none (.c (.fn 100 [] [])) [.t 38,.t 41] [none,some tI]])))))))) (.aN [.op (some 43) none (.bin .add (.t 23) (.c (.int .i64 (Int.ofNat 1)))),.op (some 23) none (.mv (.t 43))]))))))) (.aN [.op (some 44) none (.load false 1 (.t 8)),.op none none (.store 1 (.t 5) (.t 44))])))) 48),(12,.arr .str false),(19,.arr .str false),(21,.map tI false .unit true),(22,.map tI false .unit true)] [.slot 8,.cell 7 0,.cell 20 0] [])]
noncomputable def BE:D prog 48 (some 11) 20:=dO [.r BA] (pick (kd prog f67) [(0,true),(0,false)]) 0
noncomputable def gH67_v1_0b_1:Nat×Int×Int×List ByteArray×cg×cz×aO×aO×List ByteArray×(List (Int×Unit))×(List (Int×Unit))×Unit→bO ((Nat×Int×Int×List ByteArray×cg×cz×aO×aO×List ByteArray×(List (Int×Unit))×(List (Int×Unit))×Unit) ⊕ ((cg×cz×aO×aO×List ByteArray×List ByteArray×(List (Int×Unit))×(List (Int×Unit))×Unit))):=fun (xE,v22,v23,K6,m1,m2,m3,m4,K7,m21,m22,_) =>
 .br (decide (v23<v22)) (
 .nb v23 ((xE:Nat):Int) <|
 .nd (decide (((0:Nat)+(Int.toNat v23))<(K6).length)) <|
 .bd (F78 ((aq .str ((bs []),(0:Int),(bs []),(bs []),(0:Int)) m1 ((K6).getD ((0:Nat)+(Int.toNat v23)) (bs []))).1,(aq .str ((bs []),(0:Int),(bs []),(bs []),(0:Int)) m1 ((K6).getD ((0:Nat)+(Int.toNat v23)) (bs []))).2.1,(aq .str ((bs []),(0:Int),(bs []),(bs []),(0:Int)) m1 ((K6).getD ((0:Nat)+(Int.toNat v23)) (bs []))).2.2.1,(aq .str ((bs []),(0:Int),(bs []),(bs []),(0:Int)) m1 ((K6).getD ((0:Nat)+(Int.toNat v23)) (bs []))).2.2.2.1,(aq .str ((bs []),(0:Int),(bs []),(bs []),(0:Int)) m1 ((K6).getD ((0:Nat)+(Int.toNat v23)) (bs []))).2.2.2.2)) fun y5 =>
 .bd (FH101 m21) fun y6 =>
 .bd (gH67_v1_0b_2 (xE,v22,v23,y5.1,K6,m1,m2,m3,m4,K7,y6.1,m22,())) fun z9 =>
 .ni (z9.2.2.1+(1:Int)) <|
 .ret (.inl (z9.1,z9.2.1,(z9.2.2.1+(1:Int)),z9.2.2.2.1,z9.2.2.2.2.1,z9.2.2.2.2.2.1,z9.2.2.2.2.2.2.1,z9.2.2.2.2.2.2.2.1,z9.2.2.2.2.2.2.2.2.1,z9.2.2.2.2.2.2.2.2.2.1,z9.2.2.2.2.2.2.2.2.2.2.1,()))) (
 .ret (.inr (m1,m2,m3,m4,K7,K6,m21,m22,())))
noncomputable def BF:cq prog 48 (some 11) 20:=bP mixed l5 gw [0,1,2,3,4,5,6,7,8,9,10,11,12,13,14,15,16,17,18,19] rfl BC BD rfl (BE) (fun x=>ak (gH67_v1_0b_1 x)) (fun x=>by kernel_rfl)
noncomputable def xH:D prog 48 (some 11) 20:=dO [] (pick (kd prog f67) [(0,false)]) 0
noncomputable def xI:D prog 48 (some 11) 20:=dO [.l BF] (pick (kd prog f67) [(0,true)]) 0
noncomputable def oe:Cx:=yE l5 (fun kz=>MW kz l5 dU 11 20 [18,19] (xH) (xI))
theorem oh:(oe).Ok prog:=jC gw (fun h=>mJ mixed gw h)
@[reducible] def BG:ay:=ay.mk [(0,.c (.yl 11)),(1,.c (.ptr 8 0)),(10,.c (.cB 12 .str)),(11,hI),(12,hI)] [(11,.loop .ready none 10 [(2,.c (.ptr 5 0)),(3,.c (.ptr 6 0)),(4,.c .bL),(5,.c (.ptr 7 0)),(17,.fn 106 [] [.ptr 8 0])] [18,19] (.aN [.op (some 7) none (.mv (.t 19))]) (.block 1 (.seq (.aN [.op (some 20) none (.ex (gj.iG tI false .unit true) []),.op (some 8) none (.alloc [.bX]),.op none none (.store 1 (.t 8) (.t 20))]) (.seq (.seq (.aN [.op (some 21) none (.mv (.t 7)),.op (some 22) none (.len (.t 21)),.op (some 23) none (.mv (.c (.int .i64 (Int.ofNat 0))))]) (.block 2 (.loop (.seq (.aN [.op (some 24) none (.bin .lss (.t 23) (.t 22))]) (.seq (.cond (.t 24) .skip (.exit 2)) (.seq (.block 3 (.seq (.aN [.op (some 25) none (.idx 1 (.t 21) (.t 23)),.op (some 26) none (.load false 1 (.t 25)),.op (some 10) none (.mv (.t 26))]) (.seq (.draw [[],[],[1],[1,2],[1,2,3],[],[1,2,3,4,5],[0,1,2,3,4,5,6],[],[0,1,2,3,4,5,6,7,8]] [.op (some 27) none (.load false 1 (.t 3)),.op (some 28) none (.load false 1 (.t 2)),.op (some 29) none (.ex gj.iF [.t 28]),.op (some 30) none (.mb 0 [false] (.t 29)),.op (some 31) none (.load false 1 (.t 30)),.op (some 32) none (.mv (.t 10)),.op (some 33) none (.ex (gj.fP .str false tG true false) [.t 31,.t 32]),.call (some 34) none (.t 27) [.t 33] [some tG],.op (some 11) none (.alloc [.int .i64 (Int.ofNat 0)]),.op none none (.store 1 (.t 11) (.t 34))]) (.seq (.aN [.op (some 35) none (.load false 1 (.t 5)),.call (some 36) none (.c (.fn 101 [] [])) [.t 35] [none]]) (.block 4 (.bq (.t 36) [37] (.aN [.op (some 12) none (.mv (.t 37))]) (.block 5 (.aN [.op (some 38) none (.load false 1 (.t 8)),.op (some 39) none (.mv (.t 12)),.op (some 40) none (.load false 1 (.t 11)),.op (some 41) none (.bin .add (.t 39) (.t 40)),.call (some 42) none (.c (.fn 100 [] [])) [.t 38,.t 41] [none,some tI]])))))))) (.aN [.op (some 43) none (.bin .add (.t 23) (.c (.int .i64 (Int.ofNat 1)))),.op (some 23) none (.mv (.t 43))]))))))) (.aN [.op (some 44) none (.load false 1 (.t 8)),.op none none (.store 1 (.t 5) (.t 44))])))) 48),(8,.cells [.ptr 0 0] false),(12,.arr .str false),(10,.gQ),(5,.cells [.ptr 0 0] false),(0,.cells [.mp 1,.mp 2,.mp 3,.mp 4] false),(1,.map .str false tG true),(2,.map .str false (.list .str) false),(3,.map .str false .bool false),(4,.map .str false .bool false),(6,.cells [.fn0 78] false),(7,.cells [.mp 13] false),(13,.map tI false .unit true)] [.slot 10,.cell 7 0] []
@[reducible] def BH:aU:=[(.exit 0,ay.mk [] [(0,.cells [.mp 1,.mp 2,.mp 3,.mp 4] false),(1,.map .str false tG true),(2,.map .str false (.list .str) false),(3,.map .str false .bool false),(4,.map .str false .bool false),(5,.cells [.ptr 0 0] false),(6,.cells [.fn0 78] false),(7,.cells [.mp 12] false),(8,.cells [.ptr 0 0] false),(10,.gQ),(11,.loop .ready none 10 [(2,.c (.ptr 5 0)),(3,.c (.ptr 6 0)),(4,.c .bL),(5,.c (.ptr 7 0)),(17,.fn 106 [] [.ptr 8 0])] [18,19] (.aN [.op (some 7) none (.mv (.t 19))]) (.block 1 (.seq (.aN [.op (some 20) none (.ex (gj.iG tI false .unit true) []),.op (some 8) none (.alloc [.bX]),.op none none (.store 1 (.t 8) (.t 20))]) (.seq (.seq (.aN [.op (some 21) none (.mv (.t 7)),.op (some 22) none (.len (.t 21)),.op (some 23) none (.mv (.c (.int .i64 (Int.ofNat 0))))]) (.block 2 (.loop (.seq (.aN [.op (some 24) none (.bin .lss (.t 23) (.t 22))]) (.seq (.cond (.t 24) .skip (.exit 2)) (.seq (.block 3 (.seq (.aN [.op (some 25) none (.idx 1 (.t 21) (.t 23)),.op (some 26) none (.load false 1 (.t 25)),.op (some 10) none (.mv (.t 26))]) (.seq (.draw [[],[],[1],[1,2],[1,2,3],[],[1,2,3,4,5],[0,1,2,3,4,5,6],[],[0,1,2,3,4,5,6,7,8]] [.op (some 27) none (.load false 1 (.t 3)),.op (some 28) none (.load false 1 (.t 2)),.op (some 29) none (.ex gj.iF [.t 28]),.op (some 30) none (.mb 0 [false] (.t 29)),.op (some 31) none (.load false 1 (.t 30)),.op (some 32) none (.mv (.t 10)),.op (some 33) none (.ex (gj.fP .str false tG true false) [.t 31,.t 32]),.call (some 34) none (.t 27) [.t 33] [some tG],.op (some 11) none (.alloc [.int .i64 (Int.ofNat 0)]),.op none none (.store 1 (.t 11) (.t 34))]) (.seq (.aN [.op (some 35) none (.load false 1 (.t 5)),.call (some 36) none (.c (.fn 101 [] [])) [.t 35] [none]]) (.block 4 (.bq (.t 36) [37] (.aN [.op (some 12) none (.mv (.t 37))]) (.block 5 (.aN [.op (some 38) none (.load false 1 (.t 8)),.op (some 39) none (.mv (.t 12)),.op (some 40) none (.load false 1 (.t 11)),.op (some 41) none (.bin .add (.t 39) (.t 40)),.call (some 42) none (.c (.fn 100 [] [])) [.t 38,.t 41] [none,some tI]])))))))) (.aN [.op (some 43) none (.bin .add (.t 23) (.c (.int .i64 (Int.ofNat 1)))),.op (some 23) none (.mv (.t 43))]))))))) (.aN [.op (some 44) none (.load false 1 (.t 8)),.op none none (.store 1 (.t 5) (.t 44))])))) 48),(12,.map tI false .unit true)] [.cell 7 0] [])]
noncomputable def BI:D prog 34 none 12:=dO [] (pick (kd prog f106) [(0,false)]) 0
noncomputable def gH67_v1_0i_0:Nat×Int×Int×List ByteArray×cg×cz×aO×aO×(List (Int×Unit))×Unit→bO ((Nat×Int×Int×List ByteArray×cg×cz×aO×aO×(List (Int×Unit))×Unit) ⊕ ((cg×cz×aO×aO×(List (Int×Unit))×Unit))):=fun (xG,v11,v12,K7,m1,m2,m3,m4,m13,_) =>
 .br (decide (v12<v11)) (
 .nb v12 ((xG:Nat):Int) <|
 .nd (decide (((0:Nat)+(Int.toNat v12))<(K7).length)) <|
 .br ((aq .str ((bs []),(0:Int),(bs []),(bs []),(0:Int)) m1 ((K7).getD ((0:Nat)+(Int.toNat v12)) (bs []))).2.1==(1:Int)) (
 .bd (FH76fix ((K7).getD ((0:Nat)+(Int.toNat v12)) (bs [])) m1 m2 m3 m4) fun y4 =>
 .bd (.it gH67_v1_0b_1 (y4.1,((y4.1:Nat):Int),(0:Int),y4.2.1,y4.2.2.1,y4.2.2.2.1,y4.2.2.2.2.1,y4.2.2.2.2.2.1,K7,m13,[],())) fun Is =>
 .ni (v12+(1:Int)) <|
 .ret (.inl (xG,v11,(v12+(1:Int)),Is.2.2.2.2.1,Is.1,Is.2.1,Is.2.2.1,Is.2.2.2.1,Is.2.2.2.2.2.2.2.1,()))) (
 .ni (v12+(1:Int)) <|
 .ret (.inl (xG,v11,(v12+(1:Int)),K7,m1,m2,m3,m4,m13,())))) (
 .ret (.inr (m1,m2,m3,m4,m13,())))
noncomputable def BJ:cq prog 34 none 12:=bP mixed oe oh [0,1,2,3,4,5,6,7,8,9,10,11] rfl BG BH rfl (BI) (fun x=>ak (gH67_v1_0i_0 x)) (fun x=>by kernel_rfl)
@[reducible] def Kw:ay:=ay.mk [(2,.c (.ptr 5 0)),(3,.c (.ptr 6 0)),(4,.c .bL),(5,.c (.ptr 7 0)),(17,.fn 106 [] [.ptr 8 0])] [(5,.cells [.ptr 0 0] false),(6,.cells [.fn0 78] false),(7,.cells [.mp 9] false),(8,.cells [.ptr 0 0] false),(0,.cells [.mp 1,.mp 2,.mp 3,.mp 4] false),(1,.map .str false tG true),(2,.map .str false (.list .str) false),(3,.map .str false .bool false),(4,.map .str false .bool false),(9,.map tI false .unit true)] [.slot 2,.slot 3,.slot 5,.part 17 0,.cell 7 0] []
@[reducible] def Kx:aU:=[(.normal,ay.mk [(5,.c (.ptr 5 0))] [(5,.cells [.mp 6] false),(0,.cells [.mp 1,.mp 2,.mp 3,.mp 4] false),(1,.map .str false tG true),(2,.map .str false (.list .str) false),(3,.map .str false .bool false),(4,.map .str false .bool false),(6,.map tI false .unit true)] [.slot 5,.cell 5 0] [])]
noncomputable def xJ:D prog 34 none 12:=dO [.l BJ] (kd prog f106) 0
theorem Gj:cC prog f106=some ⟨34,2,(xJ).er,[],[]⟩:=by kernel_rfl
noncomputable def gH67_v1_0:cg×cz×aO×aO×(List (Int×Unit))×Unit→bO ((cg×cz×aO×aO×(List (Int×Unit))×Unit)):=fun (m1,m2,m3,m4,m9,_) =>
 .bd (FH95 m1) fun y2 =>
 .bd (FH81 y2.1) fun y3 =>
 .bd (.it gH67_v1_0i_0 (y3.1,((y3.1:Nat):Int),(0:Int),y3.2.1,y3.2.2.1,m2,m3,m4,m9,())) fun K5 =>
 .ret ((K5.1,K5.2.1,K5.2.2.1,K5.2.2.2.1,K5.2.2.2.2.1,()))
noncomputable def Ky:fW prog 48 none 5:=rq mixed oe oh [0,1,2,3,4] rfl Kw Kx ( .t 17) [18,19] rfl (xH).er (xI).er 106 func106 (Gj) (enters_of func106 rfl rfl) 12 rfl (xJ) rfl (fun x=>ak (gH67_v1_0 x)) (fun x=>by kernel_rfl)
noncomputable def D9:D prog 48 none 5:=dO [.r Ky] (kd prog f67) 0
noncomputable def FH67_v1 (m1:cg) (m2:cz) (m3:aO) (m4:aO):bO (Nat×List Int×cg×cz×aO×aO×Unit) :=
 .bd (FH100 (0:Int) []) fun y0 =>
 .bd (FH79 m1 m2 m3 m4) fun y1 =>
 .bd (gH67_v1_0 (y1.1,y1.2.1,y1.2.2.1,y1.2.2.2.1,y0.1,())) fun z12 =>
 .bd (FH101 z12.2.2.2.2.1) fun y13 =>
 .bd (FH102 y13.1) fun SM =>
 .ret (SM.1,SM.2.1,z12.1,z12.2.1,z12.2.2.1,z12.2.2.2.1,())
theorem Gk:cC prog f67=some ⟨48,2,D9.er,[.t 4],[some tL]⟩:=by kernel_rfl
noncomputable def Iu:Ht:=⟨67,SV,SX,(fun x=>ak (FH67_v1 x.1 x.2.1 x.2.2.1 x.2.2.2.1))⟩
theorem Gl:Iu.Ok prog:=bE mixed gw rfl func67 Gk (enters_of func67 rfl rfl) D9 (by kernel_rfl) rfl rfl ⟨_,rfl⟩ rfl (pre:=[0,1,2,3,4]) rfl (fun x=>by kernel_rfl)

/- 72 -/
noncomputable def cx72:Cx:=(aL [] [])
theorem SY:cx72.Ok prog:=au trivial trivial
noncomputable def dd72:D prog 13 none 0:=dO [] (kd prog f72) 0
noncomputable def F72 (a0:List Int):bO ((Int×Int)×Unit) :=
 .nb (0:Int) (((a0).length:Nat):Int) <|
 .ni ((((a0).length:Nat):Int) - (1:Int)) <|
 .nb ((((a0).length:Nat):Int) - (1:Int)) (((a0).length:Nat):Int) <|
 .ret ((((a0).getD (Int.toNat (0:Int)) (0:Int)),((a0).getD (Int.toNat ((((a0).length:Nat):Int) - (1:Int))) (0:Int))),())
theorem YG:cC prog f72=some ⟨13,1,dd72.er,[.cell 2 true 2],[some (.prod tI tI)]⟩:=by kernel_rfl
noncomputable def YH:Ct:=⟨72,[hL],.c (.hole (.prod tI tI)),fun x=>ak (F72 x.1)⟩
theorem Iv:YH.Ok prog:=cZ mixed SY func72 YG (enters_of func72 rfl rfl) dd72 (by kernel_rfl) rfl (fun x=>by kernel_rfl)

/- 37, lent -/
@[reducible] def pH37:ay:=ay.mk [(0,.c (.ptr 0 0))] [(0,.cells [.mp 1] false),(1,.map tG true .bool false)] [.slot 0,.cell 0 0] []
@[reducible] def qH37:ay:=ay.mk [(0,.cw [.hole (.prod tI tI),.hole tI])] [(0,.cells [.mp 1] false),(1,.map tG true .bool false)] [] []
noncomputable def acO:Cx:=(aL [YH] [yG,DK,Iu])
theorem OS:acO.Ok prog:=au ⟨Iv,trivial⟩ ⟨⟨mN,rfl⟩,⟨rM,rfl⟩,⟨Gl,rfl⟩,trivial⟩
noncomputable def VD:D prog 11 none 2:=dO [] (kd prog f37) 0
noncomputable def FH37 (m1:List ((GG)×Bool)):bO ((Int×Int)×Int×(List ((GG)×Bool))×Unit) :=
 .bd (FH54 m1) fun y0 =>
 .br y0.1 (
 .ret (((0:Int),(0:Int)),(9:Int),y0.2.1,())) (
 .bd (FH66 y0.2.1) fun y1 =>
 .bd (FH67_v1 y1.2.1 y1.2.2.1 y1.2.2.2.1 y1.2.2.2.2.1) fun y2 =>
 .bd (F72 (((y2.2.1).drop (0:Nat)).take y2.1)) fun y3 =>
 .ret ((y3.1.1,y3.1.2),(0:Int),y1.1,()))
theorem SZ:cC prog f37=some ⟨11,1,VD.er,[.cell 2 true 2,.t 3],[some (.prod tI tI),some tI]⟩:=by kernel_rfl
noncomputable def ht37:Ht:=⟨37,pH37,qH37,(fun x=>ak (FH37 x.1))⟩
theorem S2:ht37.Ok prog:=bE mixed OS rfl func37 SZ (enters_of func37 rfl rfl) VD (by kernel_rfl) rfl rfl ⟨_,rfl⟩ rfl (pre:=[0,1]) rfl (fun x=>by kernel_rfl)

/- 25, lent -/
@[reducible] def pH25:ay:=ay.mk [(0,.c (.ptr 0 0)),(1,.c (.hole .str))] [(0,.cells [.mp 1] false),(1,.map tG true .bool false)] [.slot 0,.cell 0 0] []
@[reducible] def qH25:ay:=ay.mk [(0,.cw [.hole (.prod tI tI),.hole tI])] [(0,.cells [.mp 1] false),(1,.map tG true .bool false)] [] []
noncomputable def acQ:Cx:=(aL [YH] [SR])
theorem OT:acQ.Ok prog:=au ⟨Iv,trivial⟩ ⟨⟨Bw,rfl⟩,trivial⟩
noncomputable def VE:D prog 20 none 2:=dO [] (kd prog f25) 0
noncomputable def FH25 (v1:ByteArray) (m1:List ((GG)×Bool)):bO ((Int×Int)×Int×(List ((GG)×Bool))×Unit) :=
 .bd (FH23 v1 m1) fun y0 =>
 .br (!(y0.2.1==(0:Int))) (
 .ret (((0:Int),(0:Int)),y0.2.1,y0.2.2.2.1,())) (
 .bd (F72 (((y0.2.2.1).drop (0:Nat)).take y0.1)) fun y1 =>
 .ret ((y1.1.1,y1.1.2),(0:Int),y0.2.2.2.1,()))
theorem S4:cC prog f25=some ⟨20,2,VE.er,[.cell 4 true 2,.t 5],[some (.prod tI tI),some tI]⟩:=by kernel_rfl
noncomputable def ht25:Ht:=⟨25,pH25,qH25,(fun x=>ak (FH25 x.1 x.2.1))⟩
theorem S5:ht25.Ok prog:=bE mixed OT rfl func25 S4 (enters_of func25 rfl rfl) VE (by kernel_rfl) rfl rfl ⟨_,rfl⟩ rfl (pre:=[0,1]) rfl (fun x=>by kernel_rfl)

/- 36 -/
noncomputable def cx36:Cx:=(aL [] [])
theorem Iw:cx36.Ok prog:=au trivial trivial
@[reducible] def acT:ay:=ay.mk [(0,.c (.hole (.list .str))),(1,.c (.hole (.list .str))),(5,hI)] [] [] []
@[reducible] def acU:aU:=[(.ret,ay.mk [(4,.c (.tf false))] [] [] []),(.exit 0,ay.mk [] [] [] [])]
noncomputable def acV:D prog 26 none 0:=dO [] (pick (kd prog f36) [(0,false)]) 0
noncomputable def g36_0:List ByteArray×List ByteArray×Int×Unit→bO ((List ByteArray×List ByteArray×Int×Unit) ⊕ ((Unit) ⊕ ((Unit)))):=fun (v0,v1,v5,_) =>
 .br (decide (v5<(((v0).length:Nat):Int))) (
 .nb v5 (((v0).length:Nat):Int) <|
 .nb v5 (((v1).length:Nat):Int) <|
 .br (!(seq ((v0).getD (Int.toNat v5) (bs [])) ((v1).getD (Int.toNat v5) (bs [])))) (
 .ret (.inr <| .inl<|())) (
 .ni (v5+(1:Int)) <|
 .ret (.inl (v0,v1,(v5+(1:Int)),())))) (
 .ret (.inr <| .inr<|()))
noncomputable def acW:cq prog 26 none 0:=bP mixed cx36 Iw [] rfl acT acU rfl (acV) (fun x=>ak (g36_0 x)) (fun x=>by kernel_rfl)
noncomputable def dd36:D prog 26 none 0:=dO [.l acW] (kd prog f36) 0
noncomputable def F36 (a0:List ByteArray) (a1:List ByteArray):bO (Bool×Unit) :=
 .br (!((((a0).length:Nat):Int)==(((a1).length:Nat):Int))) (
 .ret (false,())) (
 .bd (.it g36_0 (a0,a1,(0:Int),())) fun z0 =>
 .sm z0 (fun z1 =>
 .ret (false,())) fun z2 =>
 .ret (true,()))
theorem YI:cC prog f36=some ⟨26,2,dd36.er,[.t 4],[some .bool]⟩:=by kernel_rfl
noncomputable def ct36:Ct:=⟨36,[.c (.hole (.list .str)),.c (.hole (.list .str))],.c (.hole .bool),fun x=>ak (F36 x.1 x.2.1)⟩
theorem S6:ct36.Ok prog:=cZ mixed Iw func36 YI (enters_of func36 rfl rfl) dd36 (by kernel_rfl) rfl (fun x=>by kernel_rfl)

/- 27 -/
noncomputable def cx27:Cx:=(aL [] [])
theorem Iy:cx27.Ok prog:=au trivial trivial
@[reducible] def ac0:ay:=ay.mk [(0,hL),(1,hL),(5,hI)] [] [] []
@[reducible] def ac1:aU:=[(.ret,ay.mk [(4,.c (.tf false))] [] [] []),(.exit 0,ay.mk [] [] [] [])]
noncomputable def ac2:D prog 26 none 0:=dO [] (pick (kd prog f27) [(0,false)]) 0
noncomputable def g27_0:List Int×List Int×Int×Unit→bO ((List Int×List Int×Int×Unit) ⊕ ((Unit) ⊕ ((Unit)))):=fun (v0,v1,v5,_) =>
 .br (decide (v5<(((v0).length:Nat):Int))) (
 .nb v5 (((v0).length:Nat):Int) <|
 .nb v5 (((v1).length:Nat):Int) <|
 .br (!(((v0).getD (Int.toNat v5) (0:Int))==((v1).getD (Int.toNat v5) (0:Int)))) (
 .ret (.inr <| .inl<|())) (
 .ni (v5+(1:Int)) <|
 .ret (.inl (v0,v1,(v5+(1:Int)),())))) (
 .ret (.inr <| .inr<|()))
noncomputable def ac3:cq prog 26 none 0:=bP mixed cx27 Iy [] rfl ac0 ac1 rfl (ac2) (fun x=>ak (g27_0 x)) (fun x=>by kernel_rfl)
noncomputable def dd27:D prog 26 none 0:=dO [.l ac3] (kd prog f27) 0
noncomputable def F27 (a0:List Int) (a1:List Int):bO (Bool×Unit) :=
 .br (!((((a0).length:Nat):Int)==(((a1).length:Nat):Int))) (
 .ret (false,())) (
 .bd (.it g27_0 (a0,a1,(0:Int),())) fun z0 =>
 .sm z0 (fun z1 =>
 .ret (false,())) fun z2 =>
 .ret (true,()))
theorem YJ:cC prog f27=some ⟨26,2,dd27.er,[.t 4],[some .bool]⟩:=by kernel_rfl
noncomputable def YK:Ct:=⟨27,[hL,hL],.c (.hole .bool),fun x=>ak (F27 x.1 x.2.1)⟩
theorem Iz:YK.Ok prog:=cZ mixed Iy func27 YJ (enters_of func27 rfl rfl) dd27 (by kernel_rfl) rfl (fun x=>by kernel_rfl)

/- 80, lent -/
@[reducible] def pH80:ay:=ay.mk [(0,.c (.mp 0)),(1,.c (.hole .str))] [(0,.map .str false .unit true)] [.slot 0] []
@[reducible] def qH80:ay:=ay.mk [(0,.c .any)] [(0,.map .str false .unit true)] [] []
noncomputable def ac5:Cx:=(aL [] [])
theorem OU:ac5.Ok prog:=au trivial trivial
noncomputable def VF:D prog 7 none 1:=dO [] (kd prog f80) 0
noncomputable def FH80 (v1:ByteArray) (m0:List (ByteArray×Unit)):bO ((List (ByteArray×Unit))×Unit) :=
 .ret ((aQ .str m0 v1 ()),())
theorem S7:cC prog f80=some ⟨7,2,VF.er,[],[]⟩:=by kernel_rfl
noncomputable def ht80:Ht:=⟨80,pH80,qH80,(fun x=>ak (FH80 x.1 x.2.1))⟩
theorem S8:ht80.Ok prog:=bE mixed OU rfl func80 S7 (enters_of func80 rfl rfl) VF (by kernel_rfl) rfl rfl ⟨_,rfl⟩ rfl (pre:=[0]) rfl (fun x=>by kernel_rfl)

/- 108, lent -/
@[reducible] def ac7:ay:=ay.mk [(0,.c (.mp 0))] [(0,.map .str false .unit true)] [.slot 0] []
@[reducible] def ac8:ay:=ay.mk [(0,.fn 127 [] [.ptr 1 0])] [(1,.cells [.mp 0] false),(0,.map .str false .unit true)] [.part 0 0] []
noncomputable def YL:Cx:=(aL [] [])
theorem KA:YL.Ok prog:=au trivial trivial
noncomputable def OV:D prog 4 none 1:=dO [] (kd prog f108) 0
noncomputable def FH108 (m0:List (ByteArray×Unit)):bO ((List (ByteArray×Unit))×Unit) :=
 .ret (m0,())
theorem OW:cC prog f108=some ⟨4,1,OV.er,[.t 2],[none]⟩:=by kernel_rfl
noncomputable def VG:Ht:=⟨108,ac7,ac8,(fun x=>ak (FH108 x.1))⟩
theorem OX:VG.Ok prog:=bE mixed KA rfl func108 OW (enters_of func108 rfl rfl) OV (by kernel_rfl) rfl rfl ⟨_,rfl⟩ rfl (pre:=[0]) rfl (fun x=>by kernel_rfl)

/- 82, lent -/
@[reducible] def pH82:ay:=ay.mk [(0,.c (.mp 0))] [(0,.map .str false .unit true)] [.slot 0] []
@[reducible] def qH82:ay:=ay.mk [(0,.fn 127 [] [.ptr 1 0])] [(1,.cells [.mp 0] false),(0,.map .str false .unit true)] [.part 0 0] []
noncomputable def ac9:Cx:=(aL [] [VG])
theorem OY:ac9.Ok prog:=au trivial ⟨⟨OX,rfl⟩,trivial⟩
noncomputable def VH:D prog 5 none 1:=dO [] (kd prog f82) 0
noncomputable def FH82 (m0:List (ByteArray×Unit)):bO ((List (ByteArray×Unit))×Unit) :=
 .bd (FH108 m0) fun y0 =>
 .ret (y0.1,())
theorem S9:cC prog f82=some ⟨5,1,VH.er,[.t 2],[none]⟩:=by kernel_rfl
noncomputable def ht82:Ht:=⟨82,pH82,qH82,(fun x=>ak (FH82 x.1))⟩
theorem Ta:ht82.Ok prog:=bE mixed OY rfl func82 S9 (enters_of func82 rfl rfl) VH (by kernel_rfl) rfl rfl ⟨_,rfl⟩ rfl (pre:=[0]) rfl (fun x=>by kernel_rfl)

/- 81, lent -/
@[reducible] def Tb:ay:=ay.mk [(0,.fn 127 [] [.ptr 0 0])] [(0,.cells [.mp 1] false),(1,.map .str false .unit true)] [.part 0 0,.cell 0 0] []
@[reducible] def Tc:ay:=ay.mk [(0,.c (.cB 2 .str))] [(2,.arr .str false),(0,.cells [.mp 1] false),(1,.map .str false .unit true)] [.slot 0] []
noncomputable def mP:Cx:=(aL [] [zU])
theorem lE:mP.Ok prog:=au (uS:=[]) (hts:=[zU]) trivial ⟨⟨xu,rfl⟩,trivial⟩
noncomputable def kq:D prog 13 (some 4) 7:=dO [] (pick (kd prog f126) [(0,false)]) 0
noncomputable def kr:D prog 13 (some 4) 7:=dO [] (pick (kd prog f126) [(0,true)]) 0
noncomputable def fk:Cx:=yE mP (fun kz=>MW kz mP dU 4 7 [7] (kq) (kr))
theorem gM:(fk).Ok prog:=jC lE (fun h=>mJ mixed lE h)
@[reducible] def oq:ay:=ay.mk [(0,.c (.yl 4)),(4,.c (.mp 1))] [(4,.loop .ready none 3 [(2,.c (.ptr 2 0)),(4,.c .bL),(6,.fn 127 [] [.ptr 0 0])] [7] (.aN [.op (some 5) none (.mv (.t 7))]) (.block 1 (.aN [.op (some 8) none (.load false 1 (.t 2)),.op (some 9) none (.mv (.t 5)),.op (some 10) none (.dH .str [.t 9]),.op (some 11) none (.append 1 (.t 8) (.t 10)),.op none none (.store 1 (.t 2) (.t 11))])) 13),(1,.map .str false .unit true),(3,.gQ),(2,.cells [.cB 5 .str] false),(0,.cells [.mp 1] false),(5,.arr .str false)] [.cell 2 0] []
noncomputable def ot:D prog 14 none 7:=dO [] (pick (kd prog f127) [(0,false)]) 0
noncomputable def gH81_v1f107f126_0i_0:((ByteArray)×(Unit))→(List (ByteArray×Unit))×Nat×List ByteArray×Unit→bO ((List (ByteArray×Unit))×Nat×List ByteArray×Unit):=fun e (m1,j8,b5,_) =>
 .nd (decide ((j8+(((((e.1::[])).drop (0:Nat)).take (1:Nat))).length)<cn)) <|
 .nd (jq m1 m1) <|
 .ret (m1,(j8+(((((e.1::[])).drop (0:Nat)).take (1:Nat))).length),((((b5).drop (0:Nat)).take j8)++((((e.1::[])).drop (0:Nat)).take (1:Nat))),())
noncomputable def ou:qS prog 14 none 5:=uV mixed fk gM [0,1,2,3,4] rfl oq ( [.op (some 4) none (.load false 1 (.t 1))]) 4 5 [6,7] (some 8) ( .str)  false ( .unit)  true 0 rfl 7 rfl (ot) (fun e x=>ak (gH81_v1f107f126_0i_0 e x)) (fun e=>fun x=>by kernel_rfl)
@[reducible] def rQ:ay:=ay.mk [(2,.c (.ptr 2 0)),(4,.c .bL),(6,.fn 127 [] [.ptr 0 0])] [(2,.cells [.bL] false),(0,.cells [.mp 1] false),(1,.map .str false .unit true)] [.slot 2] []
@[reducible] def rR:aU:=[(.normal,ay.mk [(2,.c (.ptr 2 0))] [(2,.cells [.cB 3 .str] false),(0,.cells [.mp 1] false),(1,.map .str false .unit true),(3,.arr .str false)] [.slot 2,.cell 2 0] [])]
noncomputable def ku:D prog 14 none 5:=dO [.m ou] (kd prog f127) 0
theorem qq:cC prog f127=some ⟨14,2,(ku).er,[],[]⟩:=by kernel_rfl
noncomputable def k5:fW prog 13 none 2:=rA mixed fk gM [0,1] rfl rQ rR ( .t 6) [7] rfl (kq).er (kr).er 127 func127 (qq) (enters_of func127 rfl rfl) 5 rfl (ku) rfl
@[reducible] noncomputable def Gm:Go.AM.Fn:=⟨13,2,(dO [.r k5] (kd prog f126) 0:D prog 13 none 2).er,[.t 4],[some (.list .str)]⟩
noncomputable def xK:Cx:=zP prog mP 126 Gm 2 (dO [.r k5] (kd prog f126) 0)
theorem yI:xK.Ok prog:=rz mixed lE func126 (by kernel_rfl) (enters_of func126 rfl rfl) rfl
@[reducible] noncomputable def Gn:Go.AM.Fn:=⟨5,1,(dO [] (kd prog f107) 0:D prog 5 none 0).er,[.t 2],[some (.list .str)]⟩
noncomputable def xL:Cx:=Dr prog xK 107 Gn (fun _=>dO [] (kd prog f107) 0)
theorem yJ:xL.Ok prog:=oR mixed yI func107 (by kernel_rfl) (enters_of func107 rfl rfl) (fun _=>by kernel_rfl)
noncomputable def OZ:Cx:=xL
theorem Ea:OZ.Ok prog:=yJ
noncomputable def Eb:D prog 9 none 2:=dO [] (kd prog f81) 0
noncomputable def FH81_v1 (m1:List (ByteArray×Unit)):bO (Nat×List ByteArray×(List (ByteArray×Unit))×Unit) :=
 .an m1 fun l0 =>
 .bd (.fm gH81_v1f107f126_0i_0 l0 (m1,(0:Nat),[],())) fun z1 =>
 .bd (FH105 z1.2.1 z1.2.2.1) fun y2 =>
 .ret (z1.2.1,y2.1,z1.1,())
theorem Gp:cC prog f81=some ⟨9,1,Eb.er,[.t 2],[some (.list .str)]⟩:=by kernel_rfl
noncomputable def IA:Ht:=⟨81,Tb,Tc,(fun x=>ak (FH81_v1 x.1))⟩
theorem Gq:IA.Ok prog:=bE mixed Ea rfl func81 Gp (enters_of func81 rfl rfl) Eb (by kernel_rfl) rfl rfl ⟨_,rfl⟩ rfl (pre:=[0,1]) rfl (fun x=>by kernel_rfl)

/- 45, lent -/
@[reducible] def pH45:ay:=ay.mk [(0,.c (.ptr 0 0))] [(0,.cells [.mp 1] false),(1,.map tG true .bool false)] [.slot 0,.cell 0 0] []
@[reducible] def qH45:ay:=ay.mk [(0,.c (.cB 2 .str))] [(2,.arr .str false),(0,.cells [.mp 1] false),(1,.map tG true .bool false)] [.slot 0] []
noncomputable def IB:Cx:=(aL [] [yG,DK,SG,NS,NU,FZ,ht80,ht82,IA])
theorem rS:IB.Ok prog:=au trivial ⟨⟨mN,rfl⟩,⟨rM,rfl⟩,⟨Bs,rfl⟩,⟨u9,rfl⟩,⟨ve,rfl⟩,⟨rO,rfl⟩,⟨S8,rfl⟩,⟨Ta,rfl⟩,⟨Gq,rfl⟩,trivial⟩
@[reducible] def KB:ay:=ay.mk [(3,.c (.ptr 2 0)),(4,.c (.ptr 3 0)),(18,.c (.cB 20 .str)),(19,hI),(20,hI)] [(2,.cells [.ptr 5 0] false),(3,.cells [.mp 21] false),(20,.arr .str false),(5,.cells [.mp 7,.mp 8,.mp 9,.mp 10] false),(7,.map .str false tG true),(8,.map .str false (.list .str) false),(9,.map .str false .bool false),(10,.map .str false .bool false),(0,.cells [.mp 1] false),(1,.map tG true .bool false),(4,.cells [.ptr 5 0] false),(11,.gQ),(12,.loop .busy none 11 [(2,.c .bL),(3,.c (.ptr 2 0)),(4,.c (.ptr 3 0)),(15,.fn 106 [] [.ptr 4 0])] [16,17] (.aN [.op (some 6) none (.mv (.t 17))]) (.block 1 (.seq (.aN [.op (some 18) none (.mv (.t 6)),.op (some 19) none (.len (.t 18)),.op (some 20) none (.mv (.c (.int .i64 (Int.ofNat 0))))]) (.block 2 (.loop (.seq (.aN [.op (some 21) none (.bin .lss (.t 20) (.t 19))]) (.seq (.cond (.t 21) .skip (.exit 2)) (.seq (.block 3 (.seq (.aN [.op (some 22) none (.idx 1 (.t 18) (.t 20)),.op (some 23) none (.load false 1 (.t 22)),.op (some 8) none (.mv (.t 23))]) (.seq (.draw [[],[],[1],[1,2],[1,2,3],[],[1,2,3,4,5],[1,2,3,4,5,6],[0,1,2,3,4,5,6,7]] [.op (some 24) none (.load false 1 (.t 4)),.op (some 25) none (.load false 1 (.t 3)),.op (some 26) none (.ex gj.iF [.t 25]),.op (some 27) none (.mb 0 [false] (.t 26)),.op (some 28) none (.load false 1 (.t 27)),.op (some 29) none (.mv (.t 8)),.op (some 30) none (.ex (gj.fP .str false tG true false) [.t 28,.t 29]),.op (some 31) none (.field false 3 1 (.t 30))]) (.aN [.call (some 32) none (.c (.fn 80 [] [])) [.t 24,.t 31] [none,some .str]])))) (.aN [.op (some 33) none (.bin .add (.t 20) (.c (.int .i64 (Int.ofNat 1)))),.op (some 20) none (.mv (.t 33))])))))))) 37),(13,.arr .str false),(21,.map .str false .unit true)] [.cell 3 0] []
@[reducible] def KC:aU:=[(.exit 2,ay.mk [] [(0,.cells [.mp 1] false),(1,.map tG true .bool false),(2,.cells [.ptr 5 0] false),(5,.cells [.mp 7,.mp 8,.mp 9,.mp 10] false),(7,.map .str false tG true),(8,.map .str false (.list .str) false),(9,.map .str false .bool false),(10,.map .str false .bool false),(3,.cells [.mp 21] false),(4,.cells [.ptr 5 0] false),(11,.gQ),(12,.loop .busy none 11 [(2,.c .bL),(3,.c (.ptr 2 0)),(4,.c (.ptr 3 0)),(15,.fn 106 [] [.ptr 4 0])] [16,17] (.aN [.op (some 6) none (.mv (.t 17))]) (.block 1 (.seq (.aN [.op (some 18) none (.mv (.t 6)),.op (some 19) none (.len (.t 18)),.op (some 20) none (.mv (.c (.int .i64 (Int.ofNat 0))))]) (.block 2 (.loop (.seq (.aN [.op (some 21) none (.bin .lss (.t 20) (.t 19))]) (.seq (.cond (.t 21) .skip (.exit 2)) (.seq (.block 3 (.seq (.aN [.op (some 22) none (.idx 1 (.t 18) (.t 20)),.op (some 23) none (.load false 1 (.t 22)),.op (some 8) none (.mv (.t 23))]) (.seq (.draw [[],[],[1],[1,2],[1,2,3],[],[1,2,3,4,5],[1,2,3,4,5,6],[0,1,2,3,4,5,6,7]] [.op (some 24) none (.load false 1 (.t 4)),.op (some 25) none (.load false 1 (.t 3)),.op (some 26) none (.ex gj.iF [.t 25]),.op (some 27) none (.mb 0 [false] (.t 26)),.op (some 28) none (.load false 1 (.t 27)),.op (some 29) none (.mv (.t 8)),.op (some 30) none (.ex (gj.fP .str false tG true false) [.t 28,.t 29]),.op (some 31) none (.field false 3 1 (.t 30))]) (.aN [.call (some 32) none (.c (.fn 80 [] [])) [.t 24,.t 31] [none,some .str]])))) (.aN [.op (some 33) none (.bin .add (.t 20) (.c (.int .i64 (Int.ofNat 1)))),.op (some 20) none (.mv (.t 33))])))))))) 37),(13,.arr .str false),(20,.arr .str false),(21,.map .str false .unit true)] [.cell 3 0] [])]
noncomputable def KE:D prog 37 (some 12) 21:=dO [] (pick (kd prog f45) [(0,true),(0,false)]) 0
noncomputable def gH45_0b_1:Nat×Int×Int×List ByteArray×cg×cz×aO×aO×(List ((GG)×Bool))×List ByteArray×(List (ByteArray×Unit))×Unit→bO ((Nat×Int×Int×List ByteArray×cg×cz×aO×aO×(List ((GG)×Bool))×List ByteArray×(List (ByteArray×Unit))×Unit) ⊕ (((List ((GG)×Bool))×cg×cz×aO×aO×List ByteArray×List ByteArray×(List (ByteArray×Unit))×Unit))):=fun (O0,Sm,v20,o9,m7,m8,m9,m10,m1,iW,m21,_) =>
 .br (decide (v20<Sm)) (
 .nb v20 ((O0:Nat):Int) <|
 .nd (decide (((0:Nat)+(Int.toNat v20))<(o9).length)) <|
 .bd (FH80 (aq .str ((bs []),(0:Int),(bs []),(bs []),(0:Int)) m7 ((o9).getD ((0:Nat)+(Int.toNat v20)) (bs []))).2.2.2.1 m21) fun y6 =>
 .ni (v20+(1:Int)) <|
 .ret (.inl (O0,Sm,(v20+(1:Int)),o9,m7,m8,m9,m10,m1,iW,y6.1,()))) (
 .ret (.inr (m1,m7,m8,m9,m10,iW,o9,m21,())))
noncomputable def KF:cq prog 37 (some 12) 21:=bP mixed IB rS [0,1,2,3,4,5,6,7,8,9,10,11,12,13,14,15,16,17,18,19,20] rfl KB KC rfl (KE) (fun x=>ak (gH45_0b_1 x)) (fun x=>by kernel_rfl)
noncomputable def IC:D prog 37 (some 12) 21:=dO [] (pick (kd prog f45) [(0,false)]) 0
noncomputable def ID:D prog 37 (some 12) 21:=dO [.l KF] (pick (kd prog f45) [(0,true)]) 0
noncomputable def xM:Cx:=yE IB (fun kz=>MW kz IB dU 12 21 [16,17] (IC) (ID))
theorem uf:(xM).Ok prog:=jC rS (fun h=>mJ mixed rS h)
@[reducible] def KG:ay:=ay.mk [(0,.c (.yl 12)),(1,.c (.ptr 4 0)),(10,.c (.cB 13 .str)),(11,hI),(12,hI)] [(12,.loop .ready none 11 [(2,.c .bL),(3,.c (.ptr 2 0)),(4,.c (.ptr 3 0)),(15,.fn 106 [] [.ptr 4 0])] [16,17] (.aN [.op (some 6) none (.mv (.t 17))]) (.block 1 (.seq (.aN [.op (some 18) none (.mv (.t 6)),.op (some 19) none (.len (.t 18)),.op (some 20) none (.mv (.c (.int .i64 (Int.ofNat 0))))]) (.block 2 (.loop (.seq (.aN [.op (some 21) none (.bin .lss (.t 20) (.t 19))]) (.seq (.cond (.t 21) .skip (.exit 2)) (.seq (.block 3 (.seq (.aN [.op (some 22) none (.idx 1 (.t 18) (.t 20)),.op (some 23) none (.load false 1 (.t 22)),.op (some 8) none (.mv (.t 23))]) (.seq (.draw [[],[],[1],[1,2],[1,2,3],[],[1,2,3,4,5],[1,2,3,4,5,6],[0,1,2,3,4,5,6,7]] [.op (some 24) none (.load false 1 (.t 4)),.op (some 25) none (.load false 1 (.t 3)),.op (some 26) none (.ex gj.iF [.t 25]),.op (some 27) none (.mb 0 [false] (.t 26)),.op (some 28) none (.load false 1 (.t 27)),.op (some 29) none (.mv (.t 8)),.op (some 30) none (.ex (gj.fP .str false tG true false) [.t 28,.t 29]),.op (some 31) none (.field false 3 1 (.t 30))]) (.aN [.call (some 32) none (.c (.fn 80 [] [])) [.t 24,.t 31] [none,some .str]])))) (.aN [.op (some 33) none (.bin .add (.t 20) (.c (.int .i64 (Int.ofNat 1)))),.op (some 20) none (.mv (.t 33))])))))))) 37),(4,.cells [.ptr 5 0] false),(13,.arr .str false),(11,.gQ),(2,.cells [.ptr 5 0] false),(5,.cells [.mp 7,.mp 8,.mp 9,.mp 10] false),(7,.map .str false tG true),(8,.map .str false (.list .str) false),(9,.map .str false .bool false),(10,.map .str false .bool false),(3,.cells [.mp 14] false),(0,.cells [.mp 1] false),(1,.map tG true .bool false),(14,.map .str false .unit true)] [.slot 10,.cell 3 0] []
@[reducible] def KH:aU:=[(.exit 0,ay.mk [] [(0,.cells [.mp 1] false),(1,.map tG true .bool false),(2,.cells [.ptr 5 0] false),(5,.cells [.mp 7,.mp 8,.mp 9,.mp 10] false),(7,.map .str false tG true),(8,.map .str false (.list .str) false),(9,.map .str false .bool false),(10,.map .str false .bool false),(3,.cells [.mp 13] false),(4,.cells [.ptr 5 0] false),(11,.gQ),(12,.loop .ready none 11 [(2,.c .bL),(3,.c (.ptr 2 0)),(4,.c (.ptr 3 0)),(15,.fn 106 [] [.ptr 4 0])] [16,17] (.aN [.op (some 6) none (.mv (.t 17))]) (.block 1 (.seq (.aN [.op (some 18) none (.mv (.t 6)),.op (some 19) none (.len (.t 18)),.op (some 20) none (.mv (.c (.int .i64 (Int.ofNat 0))))]) (.block 2 (.loop (.seq (.aN [.op (some 21) none (.bin .lss (.t 20) (.t 19))]) (.seq (.cond (.t 21) .skip (.exit 2)) (.seq (.block 3 (.seq (.aN [.op (some 22) none (.idx 1 (.t 18) (.t 20)),.op (some 23) none (.load false 1 (.t 22)),.op (some 8) none (.mv (.t 23))]) (.seq (.draw [[],[],[1],[1,2],[1,2,3],[],[1,2,3,4,5],[1,2,3,4,5,6],[0,1,2,3,4,5,6,7]] [.op (some 24) none (.load false 1 (.t 4)),.op (some 25) none (.load false 1 (.t 3)),.op (some 26) none (.ex gj.iF [.t 25]),.op (some 27) none (.mb 0 [false] (.t 26)),.op (some 28) none (.load false 1 (.t 27)),.op (some 29) none (.mv (.t 8)),.op (some 30) none (.ex (gj.fP .str false tG true false) [.t 28,.t 29]),.op (some 31) none (.field false 3 1 (.t 30))]) (.aN [.call (some 32) none (.c (.fn 80 [] [])) [.t 24,.t 31] [none,some .str]])))) (.aN [.op (some 33) none (.bin .add (.t 20) (.c (.int .i64 (Int.ofNat 1)))),.op (some 20) none (.mv (.t 33))])))))))) 37),(13,.map .str false .unit true)] [.cell 3 0] [])]
noncomputable def KJ:D prog 34 none 13:=dO [] (pick (kd prog f106) [(0,false)]) 0
noncomputable def gH45_0i_0:Nat×Int×Int×List ByteArray×cg×cz×aO×aO×(List ((GG)×Bool))×(List (ByteArray×Unit))×Unit→bO ((Nat×Int×Int×List ByteArray×cg×cz×aO×aO×(List ((GG)×Bool))×(List (ByteArray×Unit))×Unit) ⊕ (((List ((GG)×Bool))×cg×cz×aO×aO×(List (ByteArray×Unit))×Unit))):=fun (xG,v11,v12,iW,m7,m8,m9,m10,m1,m14,_) =>
 .br (decide (v12<v11)) (
 .nb v12 ((xG:Nat):Int) <|
 .nd (decide (((0:Nat)+(Int.toNat v12))<(iW).length)) <|
 .br ((aq .str ((bs []),(0:Int),(bs []),(bs []),(0:Int)) m7 ((iW).getD ((0:Nat)+(Int.toNat v12)) (bs []))).2.1==(1:Int)) (
 .bd (FH76fix ((iW).getD ((0:Nat)+(Int.toNat v12)) (bs [])) m7 m8 m9 m10) fun y5 =>
 .bd (.it gH45_0b_1 (y5.1,((y5.1:Nat):Int),(0:Int),y5.2.1,y5.2.2.1,y5.2.2.2.1,y5.2.2.2.2.1,y5.2.2.2.2.2.1,m1,iW,m14,())) fun z7 =>
 .ni (v12+(1:Int)) <|
 .ret (.inl (xG,v11,(v12+(1:Int)),z7.2.2.2.2.2.1,z7.2.1,z7.2.2.1,z7.2.2.2.1,z7.2.2.2.2.1,z7.1,z7.2.2.2.2.2.2.2.1,()))) (
 .ni (v12+(1:Int)) <|
 .ret (.inl (xG,v11,(v12+(1:Int)),iW,m7,m8,m9,m10,m1,m14,())))) (
 .ret (.inr (m1,m7,m8,m9,m10,m14,())))
noncomputable def KK:cq prog 34 none 13:=bP mixed xM uf [0,1,2,3,4,5,6,7,8,9,10,11,12] rfl KG KH rfl (KJ) (fun x=>ak (gH45_0i_0 x)) (fun x=>by kernel_rfl)
@[reducible] def YM:ay:=ay.mk [(2,.c .bL),(3,.c (.ptr 2 0)),(4,.c (.ptr 3 0)),(15,.fn 106 [] [.ptr 4 0])] [(2,.cells [.ptr 5 0] false),(3,.cells [.mp 6] false),(4,.cells [.ptr 5 0] false),(0,.cells [.mp 1] false),(1,.map tG true .bool false),(5,.cells [.mp 7,.mp 8,.mp 9,.mp 10] false),(6,.map .str false .unit true),(7,.map .str false tG true),(8,.map .str false (.list .str) false),(9,.map .str false .bool false),(10,.map .str false .bool false)] [.slot 3,.slot 4,.part 15 0,.cell 2 0,.cell 3 0,.cell 5 0,.cell 5 1,.cell 5 2,.cell 5 3] []
@[reducible] def YN:aU:=[(.normal,ay.mk [(4,.c (.ptr 2 0))] [(2,.cells [.mp 3] false),(0,.cells [.mp 1] false),(1,.map tG true .bool false),(3,.map .str false .unit true)] [.slot 4,.cell 2 0] [])]
noncomputable def IE:D prog 34 none 13:=dO [.l KK] (kd prog f106) 0
theorem Td:cC prog f106=some ⟨34,2,(IE).er,[],[]⟩:=by kernel_rfl
noncomputable def gH45_0:(List ((GG)×Bool))×(List (ByteArray×Unit))×cg×cz×aO×aO×Unit→bO (((List ((GG)×Bool))×(List (ByteArray×Unit))×Unit)):=fun (m1,m6,m7,m8,m9,m10,_) =>
 .bd (FH95 m7) fun y3 =>
 .bd (FH81 y3.1) fun y4 =>
 .bd (.it gH45_0i_0 (y4.1,((y4.1:Nat):Int),(0:Int),y4.2.1,y4.2.2.1,m8,m9,m10,m1,m6,())) fun z8 =>
 .ret ((z8.1,z8.2.2.2.2.2.1,()))
noncomputable def YO:fW prog 37 none 2:=rq mixed xM uf [0,1] rfl YM YN ( .t 15) [16,17] rfl (IC).er (ID).er 106 func106 (Td) (enters_of func106 rfl rfl) 13 rfl (IE) rfl (fun x=>ak (gH45_0 x)) (fun x=>by kernel_rfl)
noncomputable def VI:D prog 37 none 2:=dO [.r YO] (kd prog f45) 0
noncomputable def FH45 (m1:List ((GG)×Bool)):bO (Nat×List ByteArray×(List ((GG)×Bool))×Unit) :=
 .bd (FH54 m1) fun y0 =>
 .br y0.1 (
 .ret ((0:Nat),[],y0.2.1,())) (
 .bd (FH66 y0.2.1) fun y1 =>
 .bd (FH79 y1.2.1 y1.2.2.1 y1.2.2.2.1 y1.2.2.2.2.1) fun y2 =>
 .bd (gH45_0 (y1.1,[],y2.1,y2.2.1,y2.2.2.1,y2.2.2.2.1,())) fun z9 =>
 .bd (FH82 z9.2.1) fun Cf =>
 .bd (FH81_v1 Cf.1) fun Gr =>
 .ret (Gr.1,Gr.2.1,z9.1,()))
theorem Te:cC prog f45=some ⟨37,1,VI.er,[.t 2],[some (.list .str)]⟩:=by kernel_rfl
noncomputable def YP:Ht:=⟨45,pH45,qH45,(fun x=>ak (FH45 x.1))⟩
theorem IF:YP.Ok prog:=bE mixed rS rfl func45 Te (enters_of func45 rfl rfl) VI (by kernel_rfl) rfl rfl ⟨_,rfl⟩ rfl (pre:=[0,1]) rfl (fun x=>by kernel_rfl)

/- 17 -/
noncomputable def cx17:Cx:=(aL [ct46,ct36,YK] [XN,Yv,SR,ht37,ht25,YP,ht40,XP])
theorem Tf:cx17.Ok prog:=au ⟨RA,S6,Iz,trivial⟩ ⟨⟨H6,rfl⟩,⟨Ip,rfl⟩,⟨Bw,rfl⟩,⟨S2,rfl⟩,⟨S5,rfl⟩,⟨IF,rfl⟩,⟨SE,rfl⟩,⟨H9,rfl⟩,trivial⟩
noncomputable def dd17:D prog 130 none 0:=dO [] (kd prog f17) 0
noncomputable def F17:bO (Bool×Unit) :=
 .bd (F46) fun y0 =>
 .nd (decide ((0:Int)≤(0:Int))) <|
 .nd (decide ((0:Int)≤(6:Int))) <|
 .nd (decide ((6:Int)≤(((y0.1).length:Nat):Int))) <|
 .bd (FH29 (((y0.1).drop (Int.toNat (0:Int))).take ((Int.toNat (6:Int)) - (Int.toNat (0:Int))))) fun y1 =>
 .bd (F46) fun y2 =>
 .nd (decide ((0:Int)≤(0:Int))) <|
 .nd (decide ((0:Int)≤(7:Int))) <|
 .nd (decide ((7:Int)≤(((y2.1).length:Nat):Int))) <|
 .bd (FH29 (((y2.1).drop (Int.toNat (0:Int))).take ((Int.toNat (7:Int)) - (Int.toNat (0:Int))))) fun y3 =>
 .bd (F46) fun y4 =>
 .bd (FH29 y4.1) fun y5 =>
 .bd (FH33 (bs [116,49]) y1.1) fun y6 =>
 .bd (FH23 (bs [97,110,97]) y6.2.2.2.1) fun y7 =>
 .bd (FH23 (bs [97,110,97]) y3.1) fun y8 =>
 .bd (FH37 y7.2.2.2.1) fun y9 =>
 .bd (FH25 (bs [99,121]) y5.1) fun Cf =>
 .br (y6.2.1==(0:Int)) (
 .br (y7.2.1==(0:Int)) (
 .br (y8.2.1==(0:Int)) (
 .br (y9.2.1==(0:Int)) (
 .br (Cf.2.1==(0:Int)) (
 .bd (F36 (((y6.2.2.1).drop (0:Nat)).take y6.1) (((((bs [99,50])::((bs [99,51])::[]))).drop (0:Nat)).take (2:Nat))) fun Gr =>
 .br Gr.1 (
 .bd (F27 (((y7.2.2.1).drop (0:Nat)).take y7.1) (((((0:Int)::((41:Int)::[]))).drop (0:Nat)).take (2:Nat))) fun y12 =>
 .br y12.1 (
 .bd (F27 (((y8.2.2.1).drop (0:Nat)).take y8.1) (((((41:Int)::[])).drop (0:Nat)).take (1:Nat))) fun y13 =>
 .br y13.1 (
 .br ((y9.1.1==(65:Int))&&((y9.1.2==(66:Int))&&true)) (
 .br ((Cf.1.1==(0:Int))&&((Cf.1.2==(40:Int))&&true)) (
 .bd (FH45 y9.2.2.1) fun SM =>
 .bd (F36 (((SM.2.1).drop (0:Nat)).take SM.1) (((((bs [97,110,97])::((bs [98,101,110])::((bs [99,121])::[])))).drop (0:Nat)).take (3:Nat))) fun y15 =>
 .br y15.1 (
 .bd (FH40 (bs [116,49]) (3:Int) SM.2.2.1) fun y16 =>
 .br y16.1 (
 .bd (FH40 (bs [116,50]) (4:Int) y16.2.1) fun y17 =>
 .br y17.1 (
 .bd (FH40 (bs [99,51]) (5:Int) y17.2.1) fun y18 =>
 .br y18.1 (
 .bd (FH40 (bs [119,49]) (1:Int) y18.2.1) fun ZR =>
 .br ZR.1 (
 .bd (FH40 (bs [99,50]) (2:Int) y8.2.2.2.1) fun YQ =>
 .br YQ.1 (
 .bd (FH40 (bs [99,51]) (4:Int) YQ.2.1) fun y21 =>
 .br y21.1 (
 .bd (FH40 (bs [99,50]) (5:Int) Cf.2.2.1) fun y22 =>
 .br y22.1 (
 .bd (FH47 y22.2.1) fun y23 =>
 .ret ((((y23.1:Nat):Int)==(8:Int)),())) (
 .ret (false,()))) (
 .ret (false,()))) (
 .ret (false,()))) (
 .ret (false,()))) (
 .ret (false,()))) (
 .ret (false,()))) (
 .ret (false,()))) (
 .ret (false,()))) (
 .ret (false,()))) (
 .ret (false,()))) (
 .ret (false,()))) (
 .ret (false,()))) (
 .ret (false,()))) (
 .ret (false,()))) (
 .ret (false,()))) (
 .ret (false,()))) (
 .ret (false,()))) (
 .ret (false,()))
theorem YR:cC prog f17=some ⟨130,0,dd17.er,[.t 0],[some .bool]⟩:=by kernel_rfl
noncomputable def ct17:Ct:=⟨17,[],.c (.hole .bool),fun x=>ak (F17)⟩
theorem Tg:ct17.Ok prog:=cZ mixed Tf func17 YR (enters_of func17 rfl rfl) dd17 (by kernel_rfl) rfl (fun x=>by kernel_rfl)

/- 43 -/
noncomputable def cx43:Cx:=(aL [] [])
theorem Th:cx43.Ok prog:=au trivial trivial
noncomputable def dd43:D prog 11 none 0:=dO [] (kd prog f43) 0
noncomputable def F43 (a0:Int) (a1:Int):bO (ByteArray×Unit) :=
 .nd (gm .u8 a1) <|
 .nd (gm .u8 (a0+a1)) <|
 .ret ((gF (((((a0+a1)::[])).drop (0:Nat)).take (1:Nat))),())
theorem YS:cC prog f43=some ⟨11,2,dd43.er,[.t 4],[some .str]⟩:=by kernel_rfl
noncomputable def YT:Ct:=⟨43,[.c (.hole (.int .u8)),hI],.c (.hole .str),fun x=>ak (F43 x.1 x.2.1)⟩
theorem IG:YT.Ok prog:=cZ mixed Th func43 YS (enters_of func43 rfl rfl) dd43 (by kernel_rfl) rfl (fun x=>by kernel_rfl)

/- 44 -/
noncomputable def cx44:Cx:=(aL [YT] [])
theorem Ti:cx44.Ok prog:=au ⟨IG,trivial⟩ trivial
noncomputable def dd44:D prog 52 none 0:=dO [] (kd prog f44) 0
noncomputable def F44 (a0:Int×Int×Int×Int):bO ((GG)×Unit) :=
 .nd (decide ((0:Nat)<((a0.1::(a0.2.1::(a0.2.2.1::(a0.2.2.2::[]))))).length)) <|
 .ni (((a0.1::(a0.2.1::(a0.2.2.1::(a0.2.2.2::[]))))).getD (0:Nat) (0:Int)) <|
 .nd (!((8:Int)==(0:Int))) <|
 .nd (decide ((1:Nat)<((a0.1::(a0.2.1::(a0.2.2.1::(a0.2.2.2::[]))))).length)) <|
 .ni (((a0.1::(a0.2.1::(a0.2.2.1::(a0.2.2.2::[]))))).getD (1:Nat) (0:Int)) <|
 .nd (!((8:Int)==(0:Int))) <|
 .br ((Int.tmod (((a0.1::(a0.2.1::(a0.2.2.1::(a0.2.2.2::[]))))).getD (0:Nat) (0:Int)) (8:Int))==(Int.tmod (((a0.1::(a0.2.1::(a0.2.2.1::(a0.2.2.2::[]))))).getD (1:Nat) (0:Int)) (8:Int))) (
 .ni ((Int.tmod (((a0.1::(a0.2.1::(a0.2.2.1::(a0.2.2.2::[]))))).getD (1:Nat) (0:Int)) (8:Int))+(1:Int)) <|
 .nd (!((8:Int)==(0:Int))) <|
 .bd (F43 (97:Int) (Int.tmod (((a0.1::(a0.2.1::(a0.2.2.1::(a0.2.2.2::[]))))).getD (0:Nat) (0:Int)) (8:Int))) fun y0 =>
 .bd (F43 (97:Int) (Int.tmod ((Int.tmod (((a0.1::(a0.2.1::(a0.2.2.1::(a0.2.2.2::[]))))).getD (1:Nat) (0:Int)) (8:Int))+(1:Int)) (8:Int))) fun y1 =>
 .nd (decide ((2:Nat)<((a0.1::(a0.2.1::(a0.2.2.1::(a0.2.2.2::[]))))).length)) <|
 .ni (((a0.1::(a0.2.1::(a0.2.2.1::(a0.2.2.2::[]))))).getD (2:Nat) (0:Int)) <|
 .nd (!((3:Int)==(0:Int))) <|
 .bd (F43 (120:Int) (Int.tmod (((a0.1::(a0.2.1::(a0.2.2.1::(a0.2.2.2::[]))))).getD (2:Nat) (0:Int)) (3:Int))) fun y2 =>
 .nd (decide ((2:Nat)<((a0.1::(a0.2.1::(a0.2.2.1::(a0.2.2.2::[]))))).length)) <|
 .ni (((a0.1::(a0.2.1::(a0.2.2.1::(a0.2.2.2::[]))))).getD (2:Nat) (0:Int)) <|
 .nd (!((3:Int)==(0:Int))) <|
 .ni (Int.tdiv (((a0.1::(a0.2.1::(a0.2.2.1::(a0.2.2.2::[]))))).getD (2:Nat) (0:Int)) (3:Int)) <|
 .nd (!((12:Int)==(0:Int))) <|
 .ni ((Int.tmod (Int.tdiv (((a0.1::(a0.2.1::(a0.2.2.1::(a0.2.2.2::[]))))).getD (2:Nat) (0:Int)) (3:Int)) (12:Int)) - (3:Int)) <|
 .nd (decide ((3:Nat)<((a0.1::(a0.2.1::(a0.2.2.1::(a0.2.2.2::[]))))).length)) <|
 .ni (((a0.1::(a0.2.1::(a0.2.2.1::(a0.2.2.2::[]))))).getD (3:Nat) (0:Int)) <|
 .nd (!((8:Int)==(0:Int))) <|
 .br ((Int.tmod (((a0.1::(a0.2.1::(a0.2.2.1::(a0.2.2.2::[]))))).getD (3:Nat) (0:Int)) (8:Int))==(0:Int)) (
 .ret ((y0.1,(1:Int),(bs []),y2.1,((Int.tmod (Int.tdiv (((a0.1::(a0.2.1::(a0.2.2.1::(a0.2.2.2::[]))))).getD (2:Nat) (0:Int)) (3:Int)) (12:Int)) - (3:Int))),())) (
 .br ((Int.tmod (((a0.1::(a0.2.1::(a0.2.2.1::(a0.2.2.2::[]))))).getD (3:Nat) (0:Int)) (8:Int))==(1:Int)) (
 .ret ((y0.1,(1:Int),(bs []),y2.1,((Int.tmod (Int.tdiv (((a0.1::(a0.2.1::(a0.2.2.1::(a0.2.2.2::[]))))).getD (2:Nat) (0:Int)) (3:Int)) (12:Int)) - (3:Int))),())) (
 .br ((Int.tmod (((a0.1::(a0.2.1::(a0.2.2.1::(a0.2.2.2::[]))))).getD (3:Nat) (0:Int)) (8:Int))==(2:Int)) (
 .ret ((y0.1,(1:Int),(bs []),y2.1,((Int.tmod (Int.tdiv (((a0.1::(a0.2.1::(a0.2.2.1::(a0.2.2.2::[]))))).getD (2:Nat) (0:Int)) (3:Int)) (12:Int)) - (3:Int))),())) (
 .br ((Int.tmod (((a0.1::(a0.2.1::(a0.2.2.1::(a0.2.2.2::[]))))).getD (3:Nat) (0:Int)) (8:Int))==(3:Int)) (
 .ret ((y0.1,(3:Int),y1.1,(bs []),(0:Int)),())) (
 .ret ((y0.1,(2:Int),y1.1,y2.1,((Int.tmod (Int.tdiv (((a0.1::(a0.2.1::(a0.2.2.1::(a0.2.2.2::[]))))).getD (2:Nat) (0:Int)) (3:Int)) (12:Int)) - (3:Int))),())))))) (
 .bd (F43 (97:Int) (Int.tmod (((a0.1::(a0.2.1::(a0.2.2.1::(a0.2.2.2::[]))))).getD (0:Nat) (0:Int)) (8:Int))) fun y3 =>
 .bd (F43 (97:Int) (Int.tmod (((a0.1::(a0.2.1::(a0.2.2.1::(a0.2.2.2::[]))))).getD (1:Nat) (0:Int)) (8:Int))) fun y4 =>
 .nd (decide ((2:Nat)<((a0.1::(a0.2.1::(a0.2.2.1::(a0.2.2.2::[]))))).length)) <|
 .ni (((a0.1::(a0.2.1::(a0.2.2.1::(a0.2.2.2::[]))))).getD (2:Nat) (0:Int)) <|
 .nd (!((3:Int)==(0:Int))) <|
 .bd (F43 (120:Int) (Int.tmod (((a0.1::(a0.2.1::(a0.2.2.1::(a0.2.2.2::[]))))).getD (2:Nat) (0:Int)) (3:Int))) fun y5 =>
 .nd (decide ((2:Nat)<((a0.1::(a0.2.1::(a0.2.2.1::(a0.2.2.2::[]))))).length)) <|
 .ni (((a0.1::(a0.2.1::(a0.2.2.1::(a0.2.2.2::[]))))).getD (2:Nat) (0:Int)) <|
 .nd (!((3:Int)==(0:Int))) <|
 .ni (Int.tdiv (((a0.1::(a0.2.1::(a0.2.2.1::(a0.2.2.2::[]))))).getD (2:Nat) (0:Int)) (3:Int)) <|
 .nd (!((12:Int)==(0:Int))) <|
 .ni ((Int.tmod (Int.tdiv (((a0.1::(a0.2.1::(a0.2.2.1::(a0.2.2.2::[]))))).getD (2:Nat) (0:Int)) (3:Int)) (12:Int)) - (3:Int)) <|
 .nd (decide ((3:Nat)<((a0.1::(a0.2.1::(a0.2.2.1::(a0.2.2.2::[]))))).length)) <|
 .ni (((a0.1::(a0.2.1::(a0.2.2.1::(a0.2.2.2::[]))))).getD (3:Nat) (0:Int)) <|
 .nd (!((8:Int)==(0:Int))) <|
 .br ((Int.tmod (((a0.1::(a0.2.1::(a0.2.2.1::(a0.2.2.2::[]))))).getD (3:Nat) (0:Int)) (8:Int))==(0:Int)) (
 .ret ((y3.1,(1:Int),(bs []),y5.1,((Int.tmod (Int.tdiv (((a0.1::(a0.2.1::(a0.2.2.1::(a0.2.2.2::[]))))).getD (2:Nat) (0:Int)) (3:Int)) (12:Int)) - (3:Int))),())) (
 .br ((Int.tmod (((a0.1::(a0.2.1::(a0.2.2.1::(a0.2.2.2::[]))))).getD (3:Nat) (0:Int)) (8:Int))==(1:Int)) (
 .ret ((y3.1,(1:Int),(bs []),y5.1,((Int.tmod (Int.tdiv (((a0.1::(a0.2.1::(a0.2.2.1::(a0.2.2.2::[]))))).getD (2:Nat) (0:Int)) (3:Int)) (12:Int)) - (3:Int))),())) (
 .br ((Int.tmod (((a0.1::(a0.2.1::(a0.2.2.1::(a0.2.2.2::[]))))).getD (3:Nat) (0:Int)) (8:Int))==(2:Int)) (
 .ret ((y3.1,(1:Int),(bs []),y5.1,((Int.tmod (Int.tdiv (((a0.1::(a0.2.1::(a0.2.2.1::(a0.2.2.2::[]))))).getD (2:Nat) (0:Int)) (3:Int)) (12:Int)) - (3:Int))),())) (
 .br ((Int.tmod (((a0.1::(a0.2.1::(a0.2.2.1::(a0.2.2.2::[]))))).getD (3:Nat) (0:Int)) (8:Int))==(3:Int)) (
 .ret ((y3.1,(3:Int),y4.1,(bs []),(0:Int)),())) (
 .ret ((y3.1,(2:Int),y4.1,y5.1,((Int.tmod (Int.tdiv (((a0.1::(a0.2.1::(a0.2.2.1::(a0.2.2.2::[]))))).getD (2:Nat) (0:Int)) (3:Int)) (12:Int)) - (3:Int))),()))))))
theorem YU:cC prog f44=some ⟨52,1,dd44.er,[.cell 2 true 5],[some tG]⟩:=by kernel_rfl
noncomputable def ct44:Ct:=⟨44,[.c (.hole (.prod (.int .u8) (.prod (.int .u8) (.prod (.int .u8) (.int .u8)))))],.c (.hole tG),fun x=>ak (F44 x.1)⟩
theorem Tj:ct44.Ok prog:=cZ mixed Ti func44 YU (enters_of func44 rfl rfl) dd44 (by kernel_rfl) rfl (fun x=>by kernel_rfl)

/- 28 -/
noncomputable def cx28:Cx:=(aL [ct44] [])
theorem II:cx28.Ok prog:=au ⟨Tj,trivial⟩ trivial
@[reducible] def adk:ay:=ay.mk [(0,.c (.hole (.list (.prod (.int .u8) (.prod (.int .u8) (.prod (.int .u8) (.int .u8))))))),(3,.c (.cB 0 tG)),(4,hI)] [(0,.arr tG false)] [.slot 3] []
@[reducible] def adl:aU:=[(.exit 0,ay.mk [(3,.c (.cB 0 tG))] [(0,.arr tG false)] [.slot 3] [])]
noncomputable def adm:D prog 24 none 0:=dO [] (pick (kd prog f28) [(0,false)]) 0
noncomputable def g28_0:(List (Int×Int×Int×Int))×Nat×Int×(List (GG))×Unit→bO (((List (Int×Int×Int×Int))×Nat×Int×(List (GG))×Unit) ⊕ ((Nat×(List (GG))×Unit))):=fun (v0,nv3,v4,b0,_) =>
 .br (decide (v4<(((v0).length:Nat):Int))) (
 .br (decide (v4<(10:Int))) (
 .nb v4 (((v0).length:Nat):Int) <|
 .bd (F44 (((v0).getD (Int.toNat v4) ((0:Int),(0:Int),(0:Int),(0:Int))).1,((v0).getD (Int.toNat v4) ((0:Int),(0:Int),(0:Int),(0:Int))).2.1,((v0).getD (Int.toNat v4) ((0:Int),(0:Int),(0:Int),(0:Int))).2.2.1,((v0).getD (Int.toNat v4) ((0:Int),(0:Int),(0:Int),(0:Int))).2.2.2)) fun y0 =>
 .nd (decide ((nv3+((((((y0.1.1,y0.1.2.1,y0.1.2.2.1,y0.1.2.2.2.1,y0.1.2.2.2.2)::[])).drop (0:Nat)).take (1:Nat))).length)<cn)) <|
 .ni (v4+(1:Int)) <|
 .ret (.inl (v0,(nv3+((((((y0.1.1,y0.1.2.1,y0.1.2.2.1,y0.1.2.2.2.1,y0.1.2.2.2.2)::[])).drop (0:Nat)).take (1:Nat))).length),(v4+(1:Int)),((((b0).drop (0:Nat)).take nv3)++(((((y0.1.1,y0.1.2.1,y0.1.2.2.1,y0.1.2.2.2.1,y0.1.2.2.2.2)::[])).drop (0:Nat)).take (1:Nat))),()))) (
 .ret (.inr (nv3,b0,())))) (
 .ret (.inr (nv3,b0,())))
noncomputable def ado:cq prog 24 none 0:=bP mixed cx28 II [] rfl adk adl rfl (adm) (fun x=>ak (g28_0 x)) (fun x=>by kernel_rfl)
noncomputable def dd28:D prog 24 none 0:=dO [.l ado] (kd prog f28) 0
noncomputable def F28 (a0:List (Int×Int×Int×Int)):bO ((List (GG))×Unit) :=
 .bd (.it g28_0 (a0,(0:Nat),(0:Int),[],())) fun z1 =>
 .ret ((((z1.2.1).drop (0:Nat)).take z1.1),())
theorem YV:cC prog f28=some ⟨24,1,dd28.er,[.t 2],[some (.list tG)]⟩:=by kernel_rfl
noncomputable def ct28:Ct:=⟨28,[.c (.hole (.list (.prod (.int .u8) (.prod (.int .u8) (.prod (.int .u8) (.int .u8))))))],.c (.hole (.list tG)),fun x=>ak (F28 x.1)⟩
theorem Tl:ct28.Ok prog:=cZ mixed II func28 YV (enters_of func28 rfl rfl) dd28 (by kernel_rfl) rfl (fun x=>by kernel_rfl)

/- 31 -/
noncomputable def cx31:Cx:=(aL [] [])
theorem Tm:cx31.Ok prog:=au trivial trivial
noncomputable def dd31:D prog 2 none 0:=dO [] (kd prog f31) 0
noncomputable def F31:bO (List ByteArray×Unit) :=
 .ret ((((((bs [97])::((bs [98])::((bs [99])::((bs [100])::((bs [101])::((bs [102])::((bs [103])::((bs [104])::[]))))))))).drop (0:Nat)).take (8:Nat)),())
theorem YW:cC prog f31=some ⟨2,0,dd31.er,[.t 0],[some (.list .str)]⟩:=by kernel_rfl
noncomputable def ct31:Ct:=⟨31,[],.c (.hole (.list .str)),fun x=>ak (F31)⟩
theorem Tn:ct31.Ok prog:=cZ mixed Tm func31 YW (enters_of func31 rfl rfl) dd31 (by kernel_rfl) rfl (fun x=>by kernel_rfl)

/- 38 -/
noncomputable def cx38:Cx:=(aL [] [])
theorem To:cx38.Ok prog:=au trivial trivial
noncomputable def dd38:D prog 2 none 0:=dO [] (kd prog f38) 0
noncomputable def F38:bO (List ByteArray×Unit) :=
 .ret ((((((bs [120])::((bs [121])::((bs [122])::[])))).drop (0:Nat)).take (3:Nat)),())
theorem YX:cC prog f38=some ⟨2,0,dd38.er,[.t 0],[some (.list .str)]⟩:=by kernel_rfl
noncomputable def ct38:Ct:=⟨38,[],.c (.hole (.list .str)),fun x=>ak (F38)⟩
theorem Tp:ct38.Ok prog:=cZ mixed To func38 YX (enters_of func38 rfl rfl) dd38 (by kernel_rfl) rfl (fun x=>by kernel_rfl)

/- 29, lent -/
@[reducible] def Tq:ay:=ay.mk [(0,.c (.cB 0 tG))] [(0,.arr tG false)] [.slot 0] []
@[reducible] def Ts:ay:=ay.mk [(0,.c (.ptr 1 0))] [(1,.cells [.mp 2] false),(0,.arr tG false),(2,.map tG true .bool false)] [.slot 0,.cell 1 0] []
noncomputable def Ec:Cx:=(aL [] [Xw,XH])
theorem ug:Ec.Ok prog:=au trivial ⟨⟨HW,rfl⟩,⟨HZ,rfl⟩,trivial⟩
@[reducible] def KL:ay:=ay.mk [(0,.c (.cB 0 tG)),(3,.c (.ptr 1 0)),(4,hI)] [(0,.arr tG false),(1,.cells [.mp 2] false),(2,.map tG true .bool false)] [.slot 3,.cell 1 0] []
@[reducible] def KM:aU:=[(.exit 0,ay.mk [(3,.c (.ptr 1 0))] [(1,.cells [.mp 2] false),(0,.arr tG false),(2,.map tG true .bool false)] [.slot 3,.cell 1 0] [])]
noncomputable def KN:D prog 19 none 1:=dO [] (pick (kd prog f29) [(0,false)]) 0
noncomputable def gH29_v1_0:Nat×Int×(List (GG))×(List ((GG)×Bool))×Unit→bO ((Nat×Int×(List (GG))×(List ((GG)×Bool))×Unit) ⊕ (((List (GG))×(List ((GG)×Bool))×Unit))):=fun (kJ,v4,b0,m2,_) =>
 .br (decide (v4<((kJ:Nat):Int))) (
 .nb v4 ((kJ:Nat):Int) <|
 .nd (decide (((0:Nat)+(Int.toNat v4))<(b0).length)) <|
 .bd (FH20 (((b0).getD ((0:Nat)+(Int.toNat v4)) ((bs []),(0:Int),(bs []),(bs []),(0:Int))).1,((b0).getD ((0:Nat)+(Int.toNat v4)) ((bs []),(0:Int),(bs []),(bs []),(0:Int))).2.1,((b0).getD ((0:Nat)+(Int.toNat v4)) ((bs []),(0:Int),(bs []),(bs []),(0:Int))).2.2.1,((b0).getD ((0:Nat)+(Int.toNat v4)) ((bs []),(0:Int),(bs []),(bs []),(0:Int))).2.2.2.1,((b0).getD ((0:Nat)+(Int.toNat v4)) ((bs []),(0:Int),(bs []),(bs []),(0:Int))).2.2.2.2) m2) fun y1 =>
 .ni (v4+(1:Int)) <|
 .ret (.inl (kJ,(v4+(1:Int)),b0,y1.2.1,()))) (
 .ret (.inr (b0,m2,())))
noncomputable def KO:cq prog 19 none 1:=bP mixed Ec ug [0] rfl KL KM rfl (KN) (fun x=>ak (gH29_v1_0 x)) (fun x=>by kernel_rfl)
noncomputable def Ed:D prog 19 none 1:=dO [.l KO] (kd prog f29) 0
noncomputable def FH29_v1 (kJ:Nat) (b0:List (GG)):bO ((List (GG))×(List ((GG)×Bool))×Unit) :=
 .bd (FH18) fun y0 =>
 .bd (.it gH29_v1_0 (kJ,(0:Int),b0,y0.1,())) fun z2 =>
 .ret (z2.1,z2.2.1,())
theorem Gs:cC prog f29=some ⟨19,1,Ed.er,[.t 2],[none]⟩:=by kernel_rfl
noncomputable def IJ:Ht:=⟨29,Tq,Ts,(fun x=>ak (FH29_v1 x.1 x.2.1))⟩
theorem Gt:IJ.Ok prog:=bE mixed ug rfl func29 Gs (enters_of func29 rfl rfl) Ed (by kernel_rfl) rfl rfl ⟨_,rfl⟩ rfl (pre:=[0]) rfl (fun x=>by kernel_rfl)

/- 11 -/
noncomputable def KP:Cx:=(aL [ct28,YT,ct31,ct38,YK,ct17] [XN,IJ,Yu,Yv,SR,YP])
theorem rT:KP.Ok prog:=au ⟨Tl,IG,Tn,Tp,Iz,Tg,trivial⟩ ⟨⟨H6,rfl⟩,⟨Gt,rfl⟩,⟨Il,rfl⟩,⟨Ip,rfl⟩,⟨Bw,rfl⟩,⟨IF,rfl⟩,trivial⟩
@[reducible] def O1:ay:=ay.mk [(5,.c (.hole (.list tG))),(6,.c (.hole .str)),(7,.c (.cB 0 tG)),(36,.c (.hole (.list tG))),(37,hI),(38,hI)] [(0,.arr tG false)] [.slot 7] []
@[reducible] def O2:aU:=[(.exit 0,ay.mk [(5,.c (.hole (.list tG))),(6,.c (.hole .str)),(7,.c (.cB 0 tG))] [(0,.arr tG false)] [.slot 7] [])]
noncomputable def VJ:D prog 182 none 0:=dO [] (pick (kd prog f11) [(0,false)]) 0
noncomputable def g11_0:(List (GG))×ByteArray×Nat×(List (GG))×Int×Int×(List (GG))×Unit→bO (((List (GG))×ByteArray×Nat×(List (GG))×Int×Int×(List (GG))×Unit) ⊕ (((List (GG))×ByteArray×Nat×(List (GG))×Unit))):=fun (v5,v6,nv7,EJ,v37,Ee,b0,_) =>
 .br (decide (Ee<v37)) (
 .nb Ee (((EJ).length:Nat):Int) <|
 .ni (((((EJ).getD (Int.toNat Ee) ((bs []),(0:Int),(bs []),(bs []),(0:Int))).1.size:Nat):Int)+((v6.size:Nat):Int)) <|
 .jx (
 .br (!(seq ((EJ).getD (Int.toNat Ee) ((bs []),(0:Int),(bs []),(bs []),(0:Int))).2.2.1 (bs []))) (
 .ni (((((EJ).getD (Int.toNat Ee) ((bs []),(0:Int),(bs []),(bs []),(0:Int))).2.2.1.size:Nat):Int)+((v6.size:Nat):Int)) <|
 .ret (.inl (v5,v6,nv7,EJ,v37,Ee,b0,(gF ((bA ((EJ).getD (Int.toNat Ee) ((bs []),(0:Int),(bs []),(bs []),(0:Int))).1)++(bA v6))),((EJ).getD (Int.toNat Ee) ((bs []),(0:Int),(bs []),(bs []),(0:Int))).2.1,(gF ((bA ((EJ).getD (Int.toNat Ee) ((bs []),(0:Int),(bs []),(bs []),(0:Int))).2.2.1)++(bA v6))),((EJ).getD (Int.toNat Ee) ((bs []),(0:Int),(bs []),(bs []),(0:Int))).2.2.2.1,((EJ).getD (Int.toNat Ee) ((bs []),(0:Int),(bs []),(bs []),(0:Int))).2.2.2.2,()))) (
 .ret (.inl (v5,v6,nv7,EJ,v37,Ee,b0,(gF ((bA ((EJ).getD (Int.toNat Ee) ((bs []),(0:Int),(bs []),(bs []),(0:Int))).1)++(bA v6))),((EJ).getD (Int.toNat Ee) ((bs []),(0:Int),(bs []),(bs []),(0:Int))).2.1,((EJ).getD (Int.toNat Ee) ((bs []),(0:Int),(bs []),(bs []),(0:Int))).2.2.1,((EJ).getD (Int.toNat Ee) ((bs []),(0:Int),(bs []),(bs []),(0:Int))).2.2.2.1,((EJ).getD (Int.toNat Ee) ((bs []),(0:Int),(bs []),(bs []),(0:Int))).2.2.2.2,())))) fun j2 =>
 .jx (
 .br (!(seq j2.2.2.2.2.2.2.2.2.2.2.1 (bs []))) (
 .ni ((((bs [113]).size:Nat):Int)+((j2.2.2.2.2.2.2.2.2.2.2.1.size:Nat):Int)) <|
 .ret (.inl (j2.1,j2.2.1,j2.2.2.1,j2.2.2.2.1,j2.2.2.2.2.1,j2.2.2.2.2.2.1,j2.2.2.2.2.2.2.1,j2.2.2.2.2.2.2.2.1,j2.2.2.2.2.2.2.2.2.1,j2.2.2.2.2.2.2.2.2.2.1,(gF ((bA (bs [113]))++(bA j2.2.2.2.2.2.2.2.2.2.2.1))),j2.2.2.2.2.2.2.2.2.2.2.2.1,()))) (
 .ret (.inl (j2.1,j2.2.1,j2.2.2.1,j2.2.2.2.1,j2.2.2.2.2.1,j2.2.2.2.2.2.1,j2.2.2.2.2.2.2.1,j2.2.2.2.2.2.2.2.1,j2.2.2.2.2.2.2.2.2.1,j2.2.2.2.2.2.2.2.2.2.1,j2.2.2.2.2.2.2.2.2.2.2.1,j2.2.2.2.2.2.2.2.2.2.2.2.1,())))) fun j3 =>
 .nd (decide ((j3.2.2.1+((((((j3.2.2.2.2.2.2.2.1,j3.2.2.2.2.2.2.2.2.1,j3.2.2.2.2.2.2.2.2.2.1,j3.2.2.2.2.2.2.2.2.2.2.1,j3.2.2.2.2.2.2.2.2.2.2.2.1)::[])).drop (0:Nat)).take (1:Nat))).length)<cn)) <|
 .ni (j3.2.2.2.2.2.1+(1:Int)) <|
 .ret (.inl (j3.1,j3.2.1,(j3.2.2.1+((((((j3.2.2.2.2.2.2.2.1,j3.2.2.2.2.2.2.2.2.1,j3.2.2.2.2.2.2.2.2.2.1,j3.2.2.2.2.2.2.2.2.2.2.1,j3.2.2.2.2.2.2.2.2.2.2.2.1)::[])).drop (0:Nat)).take (1:Nat))).length),j3.2.2.2.1,j3.2.2.2.2.1,(j3.2.2.2.2.2.1+(1:Int)),((((j3.2.2.2.2.2.2.1).drop (0:Nat)).take j3.2.2.1)++(((((j3.2.2.2.2.2.2.2.1,j3.2.2.2.2.2.2.2.2.1,j3.2.2.2.2.2.2.2.2.2.1,j3.2.2.2.2.2.2.2.2.2.2.1,j3.2.2.2.2.2.2.2.2.2.2.2.1)::[])).drop (0:Nat)).take (1:Nat))),()))) (
 .ret (.inr (v5,v6,nv7,b0,())))
theorem adv:∀x,wO (iO (O1.T ⊕ O2.T)) KP dU [] O1 O2 (VJ) (fun y=>some (.inl y)) (fun b=>some (.inr b)) x=ak (g11_0 x):=fun x=>Eq.trans (b:=ak (flat (g11_0 x))) (by kernel_rfl) M7
noncomputable def adw:cq prog 182 none 0:=bP mixed KP rT [] rfl O1 O2 rfl (VJ) (fun x=>ak (g11_0 x)) (adv)
@[reducible] def adx:ay:=ay.mk [(6,.c (.hole .str)),(10,.c (.ptr 0 0)),(11,.c (.ptr 1 0)),(18,.c (.cB 2 .str)),(20,.c (.cB 3 .str)),(71,.c (.hole (.list .str))),(72,hI),(73,hI),(109,hI),(110,hI),(111,.c (.hole .bool)),(114,hI),(115,hI),(116,.c (.hole .bool)),(119,.c (.cB 2 .str)),(120,hI),(121,.c (.cB 3 .str)),(122,hI),(123,.c (.hole .bool)),(126,hI),(127,hI)] [(0,.cells [.mp 4] false),(1,.cells [.mp 5] false),(2,.arr .str false),(3,.arr .str false),(4,.map tG true .bool false),(5,.map tG true .bool false)] [.slot 10,.slot 11,.slot 18,.slot 20,.cell 0 0,.cell 1 0] []
@[reducible] def ady:aU:=[(.ret,ay.mk [(4,.c (.tf false))] [] [] []),(.exit 4,ay.mk [(6,.c (.hole .str)),(10,.c (.ptr 0 0)),(11,.c (.ptr 1 0)),(71,.c (.hole (.list .str))),(72,hI),(73,hI),(109,hI),(110,hI),(111,.c (.hole .bool)),(114,hI),(115,hI),(116,.c (.hole .bool)),(119,.c (.cB 2 .str)),(120,hI),(121,.c (.cB 3 .str)),(122,hI),(123,.c (.hole .bool))] [(0,.cells [.mp 4] false),(1,.cells [.mp 5] false),(2,.arr .str false),(3,.arr .str false),(4,.map tG true .bool false),(5,.map tG true .bool false)] [.slot 10,.slot 11,.slot 119,.slot 121,.cell 0 0,.cell 1 0] [])]
noncomputable def adz:D prog 182 none 0:=dO [] (pick (kd prog f11) [(1,false),(0,false)]) 0
noncomputable def g11_2:ByteArray×Nat×Nat×List ByteArray×Int×Int×Int×Int×Bool×Int×Int×Bool×Nat×Int×Nat×Int×Bool×Int×Int×List ByteArray×List ByteArray×(List ((GG)×Bool))×(List ((GG)×Bool))×Unit→bO ((ByteArray×Nat×Nat×List ByteArray×Int×Int×Int×Int×Bool×Int×Int×Bool×Nat×Int×Nat×Int×Bool×Int×Int×List ByteArray×List ByteArray×(List ((GG)×Bool))×(List ((GG)×Bool))×Unit) ⊕ ((Unit) ⊕ ((ByteArray×List ByteArray×Int×Int×Int×Int×Bool×Int×Int×Bool×Nat×Int×Nat×Int×Bool×List ByteArray×List ByteArray×(List ((GG)×Bool))×(List ((GG)×Bool))×Unit)))):=fun (v6,O0,nv20,EK,v72,BK,v109,BL,BM,BN,BO,BQ,VK,BR,VL,nw,ny,v126,v127,b2,b3,m4,m5,_) =>
 .br (decide (v127<v126)) (
 .nb v127 ((O0:Nat):Int) <|
 .nd (decide (((0:Nat)+(Int.toNat v127))<(b2).length)) <|
 .ni (((((b2).getD ((0:Nat)+(Int.toNat v127)) (bs [])).size:Nat):Int)+((v6.size:Nat):Int)) <|
 .nb v127 ((nv20:Nat):Int) <|
 .nd (decide (((0:Nat)+(Int.toNat v127))<(b3).length)) <|
 .br (!(seq (gF ((bA ((b2).getD ((0:Nat)+(Int.toNat v127)) (bs [])))++(bA v6))) ((b3).getD ((0:Nat)+(Int.toNat v127)) (bs [])))) (
 .ret (.inr <| .inl<|())) (
 .ni (v127+(1:Int)) <|
 .ret (.inl (v6,O0,nv20,EK,v72,BK,v109,BL,BM,BN,BO,BQ,VK,BR,VL,nw,ny,v126,(v127+(1:Int)),b2,b3,m4,m5,())))) (
 .ret (.inr <| .inr<|(v6,EK,v72,BK,v109,BL,BM,BN,BO,BQ,VK,BR,VL,nw,ny,b2,b3,m4,m5,())))
noncomputable def adC:cq prog 182 none 0:=bP mixed KP rT [] rfl adx ady rfl (adz) (fun x=>ak (g11_2 x)) (fun x=>by kernel_rfl)
@[reducible] def adD:ay:=ay.mk [(6,.c (.hole .str)),(10,.c (.ptr 0 0)),(11,.c (.ptr 1 0)),(71,.c (.hole (.list .str))),(72,hI),(73,hI)] [(0,.cells [.mp 2] false),(1,.cells [.mp 3] false),(2,.map tG true .bool false),(3,.map tG true .bool false)] [.slot 10,.slot 11,.cell 0 0,.cell 1 0] []
@[reducible] def adE:aU:=[(.ret,ay.mk [(4,.c (.tf false))] [] [] []),(.exit 2,ay.mk [(10,.c (.ptr 0 0)),(11,.c (.ptr 1 0))] [(0,.cells [.mp 2] false),(1,.cells [.mp 3] false),(2,.map tG true .bool false),(3,.map tG true .bool false)] [.slot 10,.slot 11,.cell 0 0,.cell 1 0] [])]
noncomputable def adF:D prog 182 none 0:=dO [.l adC] (pick (kd prog f11) [(1,false)]) 0
noncomputable def g11_1:ByteArray×List ByteArray×Int×Int×(List ((GG)×Bool))×(List ((GG)×Bool))×Unit→bO ((ByteArray×List ByteArray×Int×Int×(List ((GG)×Bool))×(List ((GG)×Bool))×Unit) ⊕ ((Unit) ⊕ (((List ((GG)×Bool))×(List ((GG)×Bool))×Unit)))):=fun (v6,EK,v72,BK,m2,m3,_) =>
 .br (decide (BK<v72)) (
 .nb BK (((EK).length:Nat):Int) <|
 .bd (FH32 ((EK).getD (Int.toNat BK) (bs [])) m2) fun y8 =>
 .ni (((((EK).getD (Int.toNat BK) (bs [])).size:Nat):Int)+((v6.size:Nat):Int)) <|
 .bd (FH32 (gF ((bA ((EK).getD (Int.toNat BK) (bs [])))++(bA v6))) m3) fun y9 =>
 .bd (FH33 ((EK).getD (Int.toNat BK) (bs [])) y8.2.2.1) fun Cf =>
 .ni (((((EK).getD (Int.toNat BK) (bs [])).size:Nat):Int)+((v6.size:Nat):Int)) <|
 .bd (FH33 (gF ((bA ((EK).getD (Int.toNat BK) (bs [])))++(bA v6))) y9.2.2.1) fun Gr =>
 .br (!(y8.1==y9.1)) (
 .ret (.inr <| .inl<|())) (
 .br (!(y8.2.1==y9.2.1)) (
 .ret (.inr <| .inl<|())) (
 .br (!(Cf.2.1==Gr.2.1)) (
 .ret (.inr <| .inl<|())) (
 .br (!(((Cf.1:Nat):Int)==((Gr.1:Nat):Int))) (
 .ret (.inr <| .inl<|())) (
 .bd (.it g11_2 (v6,Cf.1,Gr.1,EK,v72,BK,y8.2.1,y9.2.1,(!(y8.2.1==y9.2.1)),Cf.2.1,Gr.2.1,(!(Cf.2.1==Gr.2.1)),Cf.1,((Cf.1:Nat):Int),Gr.1,((Gr.1:Nat):Int),(!(((Cf.1:Nat):Int)==((Gr.1:Nat):Int))),((Cf.1:Nat):Int),(0:Int),Cf.2.2.1,Gr.2.2.1,Cf.2.2.2.1,Gr.2.2.2.1,())) fun z12 =>
 .sm z12 (fun z13 =>
 .ret (.inr <| .inl<|())) fun YY =>
 .ni (YY.2.2.2.1+(1:Int)) <|
 .ret (.inl (YY.1,YY.2.1,YY.2.2.1,(YY.2.2.2.1+(1:Int)),YY.2.2.2.2.2.2.2.2.2.2.2.2.2.2.2.2.2.1,YY.2.2.2.2.2.2.2.2.2.2.2.2.2.2.2.2.2.2.1,()))))))) (
 .ret (.inr <| .inr<|(m2,m3,())))
noncomputable def adG:cq prog 182 none 0:=bP mixed KP rT [] rfl adD adE rfl (adF) (fun x=>ak (g11_1 x)) (fun x=>by kernel_rfl)
@[reducible] def adH:ay:=ay.mk [(10,.c (.ptr 0 0)),(11,.c (.ptr 1 0)),(143,.c (.hole (.list .str))),(144,hI),(145,hI)] [(0,.cells [.mp 2] false),(1,.cells [.mp 3] false),(2,.map tG true .bool false),(3,.map tG true .bool false)] [.slot 10,.slot 11,.cell 0 0,.cell 1 0] []
@[reducible] def adI:aU:=[(.ret,ay.mk [(4,.c (.tf false))] [] [] []),(.exit 6,ay.mk [(10,.c (.ptr 0 0)),(11,.c (.ptr 1 0))] [(0,.cells [.mp 2] false),(1,.cells [.mp 3] false),(2,.map tG true .bool false),(3,.map tG true .bool false)] [.slot 10,.slot 11,.cell 0 0,.cell 1 0] [])]
noncomputable def adJ:D prog 182 none 0:=dO [] (pick (kd prog f11) [(2,false)]) 0
noncomputable def g11_3:List ByteArray×Int×Int×(List ((GG)×Bool))×(List ((GG)×Bool))×Unit→bO ((List ByteArray×Int×Int×(List ((GG)×Bool))×(List ((GG)×Bool))×Unit) ⊕ ((Unit) ⊕ (((List ((GG)×Bool))×(List ((GG)×Bool))×Unit)))):=fun (v143,v144,v145,m2,m3,_) =>
 .br (decide (v145<v144)) (
 .nb v145 (((v143).length:Nat):Int) <|
 .bd (FH23 ((v143).getD (Int.toNat v145) (bs [])) m2) fun ZR =>
 .ni ((((bs [113]).size:Nat):Int)+((((v143).getD (Int.toNat v145) (bs [])).size:Nat):Int)) <|
 .bd (FH23 (gF ((bA (bs [113]))++(bA ((v143).getD (Int.toNat v145) (bs []))))) m3) fun YQ =>
 .bd (F27 (((ZR.2.2.1).drop (0:Nat)).take ZR.1) (((YQ.2.2.1).drop (0:Nat)).take YQ.1)) fun y21 =>
 .br (!y21.1) (
 .ret (.inr <| .inl<|())) (
 .br (!(ZR.2.1==YQ.2.1)) (
 .ret (.inr <| .inl<|())) (
 .ni (v145+(1:Int)) <|
 .ret (.inl (v143,v144,(v145+(1:Int)),ZR.2.2.2.1,YQ.2.2.2.1,()))))) (
 .ret (.inr <| .inr<|(m2,m3,())))
noncomputable def adL:cq prog 182 none 0:=bP mixed KP rT [] rfl adH adI rfl (adJ) (fun x=>ak (g11_3 x)) (fun x=>by kernel_rfl)
noncomputable def dd11:D prog 182 none 0:=dO [.l adw,.l adG,.l adL] (kd prog f11) 0
noncomputable def F11 (a0:List (Int×Int×Int×Int)) (a1:Int):bO (Bool×Unit) :=
 .bd (F28 a0) fun y0 =>
 .ni a1 <|
 .nd (!((26:Int)==(0:Int))) <|
 .bd (F43 (97:Int) (Int.tmod a1 (26:Int))) fun y1 =>
 .ni (((y1.1.size:Nat):Int)+(((bs [48]).size:Nat):Int)) <|
 .bd (.it g11_0 (y0.1,(gF ((bA y1.1)++(bA (bs [48])))),(0:Nat),y0.1,(((y0.1).length:Nat):Int),(0:Int),[],())) fun z4 =>
 .bd (FH29 z4.1) fun y5 =>
 .bd (FH29_v1 z4.2.2.1 z4.2.2.2.1) fun y6 =>
 .bd (F31) fun y7 =>
 .bd (.it g11_1 (z4.2.1,y7.1,(((y7.1).length:Nat):Int),(0:Int),y5.1,y6.2.1,())) fun z15 =>
 .sm z15 (fun z16 =>
 .ret (false,())) fun z17 =>
 .bd (F38) fun y18 =>
 .bd (.it g11_3 (y18.1,(((y18.1).length:Nat):Int),(0:Int),z17.1,z17.2.1,())) fun z22 =>
 .sm z22 (fun z23 =>
 .ret (false,())) fun z24 =>
 .bd (FH45 z24.1) fun y25 =>
 .bd (FH45 z24.2.1) fun y26 =>
 .br (((y25.1:Nat):Int)==((y26.1:Nat):Int)) (
 .bd (F17) fun y27 =>
 .ret (y27.1,())) (
 .ret (false,()))
theorem YZ:cC prog f11=some ⟨182,2,dd11.er,[.t 4],[some .bool]⟩:=by kernel_rfl
noncomputable def ct11:Ct:=⟨11,[.c (.hole (.list (.prod (.int .u8) (.prod (.int .u8) (.prod (.int .u8) (.int .u8)))))),.c (.hole (.int .u8))],.c (.hole .bool),fun x=>ak (F11 x.1 x.2.1)⟩
theorem Tt:ct11.Ok prog:=cZ mixed rT func11 YZ (enters_of func11 rfl rfl) dd11 (by kernel_rfl) rfl (fun x=>by kernel_rfl)

end Go.Proofs.Tryz

