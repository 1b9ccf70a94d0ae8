/- Functions of the program as functions of data, part 1; printed by a program of mine. -/
import Derived.Test.YthemjfloiapaaaaGreatP10
import Derived.Test.YthemjfloiapaaaaGreatProg
set_option linter.unusedSectionVars false
set_option linter.unusedVariables false
set_option linter.unusedSimpArgs false
open Go.AM
namespace Go.Proofs.Tryz
set_option maxRecDepth 100000
set_option synthInstance.maxSize 4000
set_option synthInstance.maxHeartbeats 400000
set_option synthInstance.maxSize 4000
set_option synthInstance.maxHeartbeats 400000
theorem mixed : prog.follows .mixedOrders = true := by kernel_rfl
@[reducible] def tG : Ty := .prod .str (.prod tI (.prod .str (.prod .str tI)))
abbrev GG := ByteArray × Int × ByteArray × ByteArray × Int
abbrev Tbk := List (GG × Bool)
abbrev aP := List (ByteArray × Bool)
abbrev cN := List (ByteArray × List ByteArray)
abbrev cI := List (ByteArray × GG)
abbrev Tlg := List GG
@[reducible] def oo (n : Nat) (i : I) : eN := .op (some n) none i
@[reducible] def om (n k : Nat) : eN := .op (some n) none (.mv (.t k))
@[reducible] def ol (n k : Nat) : eN := .op (some n) none (.load false 1 (.t k))
@[reducible] def og (n k : Nat) (b : Bool) (i : I) : eN := .op (some n) (some (k, b)) i
@[reducible] def ki (n : Nat) : O := .c (.int .i64 (Int.ofNat n))
@[reducible] def hzI : SP := .c (.hole (.int .i64))
@[reducible] def hzL : SP := .c (.hole (.list (.int .i64)))
@[reducible] def hzM : SP := .c (.hole (.list (.list (.int .i64))))

/- 130 -/
noncomputable def abX:Cx:=(aK [] [])
theorem N6:abX.Ok prog:=av trivial trivial
noncomputable def Vf:D prog 6 none 0:=dO [] (kd prog f130) 0
noncomputable def F130 (a0:ByteArray):bU (Bool×Unit) :=
 .ret ((!(seq a0 a0)),())
theorem R2:cM prog f130=some ⟨6,1,Vf.er,[.t 2],[some .bool]⟩:=by kernel_rfl
noncomputable def Vg:Ct:=⟨130,[.c (.hole .str)],.c (.hole .bool),fun x=>ak (F130 x.1)⟩
theorem N7:Vg.Ok prog:=cT mixed N6 func130 R2 (enters_of func130 rfl rfl) Vf (by kernel_rfl) rfl (fun x=>by kernel_rfl)

/- 113 -/
noncomputable def abY:Cx:=(aK [Vg] [])
theorem N8:abY.Ok prog:=av ⟨N7,trivial⟩ trivial
noncomputable def Vh:D prog 20 none 0:=dO [] (kd prog f113) 0
noncomputable def F113 (a0:ByteArray) (a1:ByteArray):bU (Int×Unit) :=
 .bd (F130 a0) fun y0 =>
 .bd (F130 a1) fun y1 =>
 .br y0.1 (
 .br y1.1 (
 .ret ((0:Int),())) (
 .ret ((-1:Int),()))) (
 .br y1.1 (
 .ret ((1:Int),())) (
 .br (slt a0 a1) (
 .ret ((-1:Int),())) (
 .br (!(Fq (slt a0 a1) true (seq a0 a1))) (
 .ret ((1:Int),())) (
 .ret ((0:Int),())))))
theorem R3:cM prog f113=some ⟨20,2,Vh.er,[.t 4],[some tI]⟩:=by kernel_rfl
noncomputable def Vi:Ct:=⟨113,[.c (.hole .str),.c (.hole .str)],hI,fun x=>ak (F113 x.1 x.2.1)⟩
theorem N9:Vi.Ok prog:=cT mixed N8 func113 R3 (enters_of func113 rfl rfl) Vh (by kernel_rfl) rfl (fun x=>by kernel_rfl)

/- 131 -/
noncomputable def abZ:Cx:=(aK [] [])
theorem Oa:abZ.Ok prog:=av trivial trivial
noncomputable def Vj:D prog 6 none 0:=dO [] (kd prog f131) 0
noncomputable def F131 (a0:Int):bU (Bool×Unit) :=
 .ret ((!(a0==a0)),())
theorem R4:cM prog f131=some ⟨6,1,Vj.er,[.t 2],[some .bool]⟩:=by kernel_rfl
noncomputable def Vk:Ct:=⟨131,[hI],.c (.hole .bool),fun x=>ak (F131 x.1)⟩
theorem Ob:Vk.Ok prog:=cT mixed Oa func131 R4 (enters_of func131 rfl rfl) Vj (by kernel_rfl) rfl (fun x=>by kernel_rfl)

/- 114 -/
noncomputable def ab0:Cx:=(aK [Vk] [])
theorem Oc:ab0.Ok prog:=av ⟨Ob,trivial⟩ trivial
noncomputable def Vl:D prog 20 none 0:=dO [] (kd prog f114) 0
noncomputable def F114 (a0:Int) (a1:Int):bU (Int×Unit) :=
 .bd (F131 a0) fun y0 =>
 .bd (F131 a1) fun y1 =>
 .br y0.1 (
 .br y1.1 (
 .ret ((0:Int),())) (
 .ret ((-1:Int),()))) (
 .br y1.1 (
 .ret ((1:Int),())) (
 .br (decide (a0<a1)) (
 .ret ((-1:Int),())) (
 .br (decide (a1<a0)) (
 .ret ((1:Int),())) (
 .ret ((0:Int),())))))
theorem R5:cM prog f114=some ⟨20,2,Vl.er,[.t 4],[some tI]⟩:=by kernel_rfl
noncomputable def Vm:Ct:=⟨114,[hI,hI],hI,fun x=>ak (F114 x.1 x.2.1)⟩
theorem Od:Vm.Ok prog:=cT mixed Oc func114 R5 (enters_of func114 rfl rfl) Vl (by kernel_rfl) rfl (fun x=>by kernel_rfl)

/- 112 -/
noncomputable def Vn:Cx:=(aK [] [])
theorem Eb:Vn.Ok prog:=av trivial trivial
@[reducible] def XP:az:=az.mk [(3,hI),(6,hL),(7,hI),(8,hI)] [] [] []
@[reducible] def XQ:aX:=[(.ret,az.mk [(2,hI)] [] [] []),(.exit 0,az.mk [(3,hI)] [] [] [])]
noncomputable def XR:D prog 18 none 0:=dO [] (pick (kd prog f112) [(0,false)]) 0
noncomputable def g112_0:Int×List Int×Int×Int×Unit→bU ((Int×List Int×Int×Int×Unit) ⊕ ((Int×Unit) ⊕ ((Int×Unit)))):=fun (v3,v6,v7,v8,_) =>
 .br (decide (v8<v7)) (
 .nb v8 (((v6).length:Nat):Int) <|
 .br (!(((v6).getD (Int.toNat v8) (0:Int))==v3)) (
 .ret (.inr <| .inl<|(((v6).getD (Int.toNat v8) (0:Int)),()))) (
 .ni (v8+(1:Int)) <|
 .ret (.inl (v3,v6,v7,(v8+(1:Int)),())))) (
 .ret (.inr <| .inr<|(v3,())))
noncomputable def XS:cn prog 18 none 0:=bR mixed Vn Eb [] rfl XP XQ rfl (XR) (fun x=>ak (g112_0 x)) (fun x=>by kernel_rfl)
noncomputable def Vo:D prog 18 none 0:=dO [.l XS] (kd prog f112) 0
noncomputable def F112 (a0:List Int):bU (Int×Unit) :=
 .bd (.it g112_0 ((0:Int),a0,(((a0).length:Nat):Int),(0:Int),())) fun z0 =>
 .sm z0 (fun z1 =>
 .ret (z1.1,())) fun z2 =>
 .ret (z2.1,())
theorem R6:cM prog f112=some ⟨18,1,Vo.er,[.t 2],[some tI]⟩:=by kernel_rfl
noncomputable def Vp:Ct:=⟨112,[hL],hI,fun x=>ak (F112 x.1)⟩
theorem Oe:Vp.Ok prog:=cT mixed Eb func112 R6 (enters_of func112 rfl rfl) Vo (by kernel_rfl) rfl (fun x=>by kernel_rfl)

/- 85 -/
noncomputable def cx85:Cx:=(aK [Vi,Vm,Vp] [])
theorem R7:cx85.Ok prog:=av ⟨N9,Od,Oe,trivial⟩ trivial
noncomputable def dd85:D prog 35 none 0:=dO [] (kd prog f85) 0
noncomputable def F85 (a0:GG) (a1:GG):bU (Int×Unit) :=
 .br ((seq a0.1 a1.1)&&((a0.2.1==a1.2.1)&&((seq a0.2.2.1 a1.2.2.1)&&((seq a0.2.2.2.1 a1.2.2.2.1)&&((a0.2.2.2.2==a1.2.2.2.2)&&true))))) (
 .ret ((0:Int),())) (
 .bd (F113 a0.1 a1.1) fun y0 =>
 .bd (F114 a0.2.1 a1.2.1) fun y1 =>
 .bd (F113 a0.2.2.1 a1.2.2.1) fun y2 =>
 .bd (F113 a0.2.2.2.1 a1.2.2.2.1) fun y3 =>
 .bd (F114 a0.2.2.2.2 a1.2.2.2.2) fun y4 =>
 .bd (F112 ((((y0.1::(y1.1::(y2.1::(y3.1::(y4.1::[])))))).drop (0:Nat)).take (5:Nat))) fun y5 =>
 .ret (y5.1,()))
theorem XT:cM prog f85=some ⟨35,2,dd85.er,[.t 4],[some tI]⟩:=by kernel_rfl
noncomputable def ct85:Ct:=⟨85,[.c (.hole tG),.c (.hole tG)],hI,fun x=>ak (F85 x.1 x.2.1)⟩
theorem R8:ct85.Ok prog:=cT mixed R7 func85 XT (enters_of func85 rfl rfl) dd85 (by kernel_rfl) rfl (fun x=>by kernel_rfl)

/- 50 -/
noncomputable def cx50:Cx:=(aK [] [])
theorem R9:cx50.Ok prog:=av trivial trivial
noncomputable def dd50:D prog 11 none 0:=dO [] (kd prog f50) 0
noncomputable def F50 (a0:ByteArray) (a1:ByteArray) (a2:Int):bU ((GG)×Unit) :=
 .ret ((a0,(1:Int),(bs []),a1,a2),())
theorem XU:cM prog f50=some ⟨11,3,dd50.er,[.cell 6 true 5],[some tG]⟩:=by kernel_rfl
noncomputable def ct50:Ct:=⟨50,[.c (.hole .str),.c (.hole .str),hI],.c (.hole tG),fun x=>ak (F50 x.1 x.2.1 x.2.2.1)⟩
theorem Sa:ct50.Ok prog:=cT mixed R9 func50 XU (enters_of func50 rfl rfl) dd50 (by kernel_rfl) rfl (fun x=>by kernel_rfl)

/- 42 -/
noncomputable def cx42:Cx:=(aK [] [])
theorem Sb:cx42.Ok prog:=av trivial trivial
noncomputable def dd42:D prog 14 none 0:=dO [] (kd prog f42) 0
noncomputable def F42 (a0:ByteArray) (a1:ByteArray) (a2:ByteArray) (a3:Int):bU ((GG)×Unit) :=
 .ret ((a0,(2:Int),a1,a2,a3),())
theorem XV:cM prog f42=some ⟨14,4,dd42.er,[.cell 8 true 5],[some tG]⟩:=by kernel_rfl
noncomputable def ct42:Ct:=⟨42,[.c (.hole .str),.c (.hole .str),.c (.hole .str),hI],.c (.hole tG),fun x=>ak (F42 x.1 x.2.1 x.2.2.1 x.2.2.2.1)⟩
theorem Sc:ct42.Ok prog:=cT mixed Sb func42 XV (enters_of func42 rfl rfl) dd42 (by kernel_rfl) rfl (fun x=>by kernel_rfl)

/- 39 -/
noncomputable def cx39:Cx:=(aK [] [])
theorem Sd:cx39.Ok prog:=av trivial trivial
noncomputable def dd39:D prog 8 none 0:=dO [] (kd prog f39) 0
noncomputable def F39 (a0:ByteArray) (a1:ByteArray):bU ((GG)×Unit) :=
 .ret ((a0,(3:Int),a1,(bs []),(0:Int)),())
theorem XW:cM prog f39=some ⟨8,2,dd39.er,[.cell 4 true 5],[some tG]⟩:=by kernel_rfl
noncomputable def XX:Ct:=⟨39,[.c (.hole .str),.c (.hole .str)],.c (.hole tG),fun x=>ak (F39 x.1 x.2.1)⟩
theorem Iv:XX.Ok prog:=cT mixed Sd func39 XW (enters_of func39 rfl rfl) dd39 (by kernel_rfl) rfl (fun x=>by kernel_rfl)

/- 46 -/
noncomputable def cx46:Cx:=(aK [ct50,ct42,XX] [])
theorem Se:cx46.Ok prog:=av ⟨Sa,Sc,Iv,trivial⟩ trivial
noncomputable def dd46:D prog 10 none 0:=dO [] (kd prog f46) 0
noncomputable def F46:bU ((List (GG))×Unit) :=
 .bd (F50 (bs [116,49]) (bs [97,110,97]) (40:Int)) fun y0 =>
 .bd (F50 (bs [116,50]) (bs [98,101,110]) (25:Int)) fun y1 =>
 .bd (F42 (bs [99,49]) (bs [116,49]) (bs [97,110,97]) (42:Int)) fun y2 =>
 .bd (F42 (bs [99,50]) (bs [116,49]) (bs [99,121]) (40:Int)) fun y3 =>
 .bd (F42 (bs [99,51]) (bs [99,49]) (bs [97,110,97]) (41:Int)) fun y4 =>
 .bd (F42 (bs [119,49]) (bs [120,57]) (bs [98,101,110]) (5:Int)) fun y5 =>
 .bd (F39 (bs [114,49]) (bs [99,49])) fun y6 =>
 .bd (F39 (bs [114,50]) (bs [99,50])) fun y7 =>
 .ret ((((((y0.1.1,y0.1.2.1,y0.1.2.2.1,y0.1.2.2.2.1,y0.1.2.2.2.2)::((y1.1.1,y1.1.2.1,y1.1.2.2.1,y1.1.2.2.2.1,y1.1.2.2.2.2)::((y2.1.1,y2.1.2.1,y2.1.2.2.1,y2.1.2.2.2.1,y2.1.2.2.2.2)::((y3.1.1,y3.1.2.1,y3.1.2.2.1,y3.1.2.2.2.1,y3.1.2.2.2.2)::((y4.1.1,y4.1.2.1,y4.1.2.2.1,y4.1.2.2.2.1,y4.1.2.2.2.2)::((y5.1.1,y5.1.2.1,y5.1.2.2.1,y5.1.2.2.2.1,y5.1.2.2.2.2)::((y6.1.1,y6.1.2.1,y6.1.2.2.1,y6.1.2.2.2.1,y6.1.2.2.2.2)::((y7.1.1,y7.1.2.1,y7.1.2.2.1,y7.1.2.2.2.1,y7.1.2.2.2.2)::[]))))))))).drop (0:Nat)).take (8:Nat)),())
theorem XY:cM prog f46=some ⟨10,0,dd46.er,[.t 0],[some (.list tG)]⟩:=by kernel_rfl
noncomputable def ct46:Ct:=⟨46,[],.c (.hole (.list tG)),fun x=>ak (F46)⟩
theorem Sf:ct46.Ok prog:=cT mixed Se func46 XY (enters_of func46 rfl rfl) dd46 (by kernel_rfl) rfl (fun x=>by kernel_rfl)

/- 18, lent -/
@[reducible] def pH18:az:=az.mk [] [] [] []
@[reducible] def qH18:az:=az.mk [(0,.c (.ptr 0 0))] [(0,.cells [.mp 1] false),(1,.map tG true .bool false)] [.slot 0,.cell 0 0] []
noncomputable def ab9:Cx:=(aK [] [])
theorem Of:ab9.Ok prog:=av trivial trivial
noncomputable def Vq:D prog 4 none 0:=dO [] (kd prog f18) 0
noncomputable def FH18:bU ((List ((GG)×Bool))×Unit) :=
 .ret ([],())
theorem Sg:cM prog f18=some ⟨4,0,Vq.er,[.t 0],[none]⟩:=by kernel_rfl
noncomputable def ht18:Ht:=⟨18,pH18,qH18,(fun x=>ak (FH18))⟩
theorem Si:ht18.Ok prog:=bL mixed Of rfl func18 Sg (enters_of func18 rfl rfl) Vq (by kernel_rfl) rfl rfl ⟨_,rfl⟩ rfl (pre:=[]) rfl (fun x=>by kernel_rfl)

/- 54, lent -/
@[reducible] def pH54:az:=az.mk [(0,.c (.ptr 0 0))] [(0,.cells [.mp 1] false),(1,.map tG true .bool false)] [.slot 0,.cell 0 0] []
@[reducible] def qH54:az:=az.mk [(0,.c (.hole .bool))] [(0,.cells [.mp 1] false),(1,.map tG true .bool false)] [] []
noncomputable def ace:Cx:=(aK [] [])
theorem Og:ace.Ok prog:=av trivial trivial
noncomputable def Vr:D prog 12 none 2:=dO [] (kd prog f54) 0
noncomputable def FH54 (m1:List ((GG)×Bool)):bU (Bool×(List ((GG)×Bool))×Unit) :=
 .ret (false,m1,())
theorem Sj:cM prog f54=some ⟨12,1,Vr.er,[.t 2],[some .bool]⟩:=by kernel_rfl
noncomputable def zj:Ht:=⟨54,pH54,qH54,(fun x=>ak (FH54 x.1))⟩
theorem ny:zj.Ok prog:=bL mixed Og rfl func54 Sj (enters_of func54 rfl rfl) Vr (by kernel_rfl) rfl rfl ⟨_,rfl⟩ rfl (pre:=[0,1]) rfl (fun x=>by kernel_rfl)

/- 65 -/
noncomputable def cx65:Cx:=(aK [] [])
theorem Iw:cx65.Ok prog:=av trivial trivial
@[reducible] def acg:az:=az.mk [(0,.c (.hole .str)),(6,.c (.hole (.list (.int .u8)))),(7,hI),(8,hI)] [] [] []
@[reducible] def ach:aX:=[(.ret,az.mk [(2,.c (.tf false))] [] [] []),(.exit 0,az.mk [(0,.c (.hole .str))] [] [] [])]
noncomputable def aci:D prog 40 none 0:=dO [] (pick (kd prog f65) [(0,false)]) 0
noncomputable def g65_0:ByteArray×List Int×Int×Int×Unit→bU ((ByteArray×List Int×Int×Int×Unit) ⊕ ((Unit) ⊕ ((ByteArray×Unit)))):=fun (v0,v6,v7,v8,_) =>
 .br (decide (v8<v7)) (
 .nb v8 (((v6).length:Nat):Int) <|
 .br (decide (((v6).getD (Int.toNat v8) (0:Int))<(97:Int))) (
 .br (v8==(0:Int)) (
 .ret (.inr <| .inl<|())) (
 .br (decide (((v6).getD (Int.toNat v8) (0:Int))<(48:Int))) (
 .ret (.inr <| .inl<|())) (
 .br (decide ((57:Int)<((v6).getD (Int.toNat v8) (0:Int)))) (
 .ret (.inr <| .inl<|())) (
 .ni (v8+(1:Int)) <|
 .ret (.inl (v0,v6,v7,(v8+(1:Int)),())))))) (
 .br (decide ((122:Int)<((v6).getD (Int.toNat v8) (0:Int)))) (
 .br (v8==(0:Int)) (
 .ret (.inr <| .inl<|())) (
 .br (decide (((v6).getD (Int.toNat v8) (0:Int))<(48:Int))) (
 .ret (.inr <| .inl<|())) (
 .br (decide ((57:Int)<((v6).getD (Int.toNat v8) (0:Int)))) (
 .ret (.inr <| .inl<|())) (
 .ni (v8+(1:Int)) <|
 .ret (.inl (v0,v6,v7,(v8+(1:Int)),())))))) (
 .ni (v8+(1:Int)) <|
 .ret (.inl (v0,v6,v7,(v8+(1:Int)),()))))) (
 .ret (.inr <| .inr<|(v0,())))
noncomputable def acj:cn prog 40 none 0:=bR mixed cx65 Iw [] rfl acg ach rfl (aci) (fun x=>ak (g65_0 x)) (fun x=>by kernel_rfl)
noncomputable def dd65:D prog 40 none 0:=dO [.l acj] (kd prog f65) 0
noncomputable def F65 (a0:ByteArray):bU (Bool×Unit) :=
 .bd (.it g65_0 (a0,(eY a0),((((eY a0)).length:Nat):Int),(0:Int),())) fun z0 =>
 .sm z0 (fun z1 =>
 .ret (false,())) fun z2 =>
 .br (decide ((0:Int)<((z2.1.size:Nat):Int))) (
 .ret ((decide (((z2.1.size:Nat):Int)≤(10:Int))),())) (
 .ret (false,()))
theorem XZ:cM prog f65=some ⟨40,1,dd65.er,[.t 2],[some .bool]⟩:=by kernel_rfl
noncomputable def Oh:Ct:=⟨65,[.c (.hole .str)],.c (.hole .bool),fun x=>ak (F65 x.1)⟩
theorem vm:Oh.Ok prog:=cT mixed Iw func65 XZ (enters_of func65 rfl rfl) dd65 (by kernel_rfl) rfl (fun x=>by kernel_rfl)

/- 87 -/
noncomputable def cx87:Cx:=(aK [Oh] [])
theorem Sk:cx87.Ok prog:=av ⟨vm,trivial⟩ trivial
noncomputable def dd87:D prog 27 none 0:=dO [] (kd prog f87) 0
noncomputable def F87 (a0:GG):bU (Int×Unit) :=
 .br (a0.2.1==(1:Int)) (
 .br (!(seq a0.2.2.1 (bs []))) (
 .ret ((22:Int),())) (
 .br (a0.2.1==(1:Int)) (
 .ret ((0:Int),())) (
 .bd (F65 a0.2.2.1) fun y0 =>
 .br (!y0.1) (
 .ret ((8:Int),())) (
 .br (seq a0.2.2.1 a0.1) (
 .ret ((22:Int),())) (
 .ret ((0:Int),())))))) (
 .br (a0.2.1==(1:Int)) (
 .ret ((0:Int),())) (
 .bd (F65 a0.2.2.1) fun y1 =>
 .br (!y1.1) (
 .ret ((8:Int),())) (
 .br (seq a0.2.2.1 a0.1) (
 .ret ((22:Int),())) (
 .ret ((0:Int),())))))
theorem X0:cM prog f87=some ⟨27,1,dd87.er,[.t 2],[some tI]⟩:=by kernel_rfl
noncomputable def ct87:Ct:=⟨87,[.c (.hole tG)],hI,fun x=>ak (F87 x.1)⟩
theorem Sl:ct87.Ok prog:=cT mixed Sk func87 X0 (enters_of func87 rfl rfl) dd87 (by kernel_rfl) rfl (fun x=>by kernel_rfl)

/- 88 -/
noncomputable def cx88:Cx:=(aK [Oh] [])
theorem Sm:cx88.Ok prog:=av ⟨vm,trivial⟩ trivial
noncomputable def dd88:D prog 35 none 0:=dO [] (kd prog f88) 0
noncomputable def F88 (a0:GG):bU (Int×Unit) :=
 .br (a0.2.1==(3:Int)) (
 .br (!(seq a0.2.2.2.1 (bs []))) (
 .ret ((22:Int),())) (
 .br (!(a0.2.2.2.2==(0:Int))) (
 .ret ((22:Int),())) (
 .br (a0.2.1==(3:Int)) (
 .ret ((0:Int),())) (
 .bd (F65 a0.2.2.2.1) fun y0 =>
 .br (!y0.1) (
 .ret ((8:Int),())) (
 .br (decide (a0.2.2.2.2<(-1000:Int))) (
 .ret ((2:Int),())) (
 .br (decide ((1000:Int)<a0.2.2.2.2)) (
 .ret ((2:Int),())) (
 .ret ((0:Int),())))))))) (
 .br (a0.2.1==(3:Int)) (
 .ret ((0:Int),())) (
 .bd (F65 a0.2.2.2.1) fun y1 =>
 .br (!y1.1) (
 .ret ((8:Int),())) (
 .br (decide (a0.2.2.2.2<(-1000:Int))) (
 .ret ((2:Int),())) (
 .br (decide ((1000:Int)<a0.2.2.2.2)) (
 .ret ((2:Int),())) (
 .ret ((0:Int),()))))))
theorem X1:cM prog f88=some ⟨35,1,dd88.er,[.t 2],[some tI]⟩:=by kernel_rfl
noncomputable def ct88:Ct:=⟨88,[.c (.hole tG)],hI,fun x=>ak (F88 x.1)⟩
theorem Sn:ct88.Ok prog:=cT mixed Sm func88 X1 (enters_of func88 rfl rfl) dd88 (by kernel_rfl) rfl (fun x=>by kernel_rfl)

/- 86 -/
noncomputable def cx86:Cx:=(aK [] [])
theorem Iy:cx86.Ok prog:=av trivial trivial
@[reducible] def acr:az:=az.mk [(3,hI),(6,hL),(7,hI),(8,hI)] [] [] []
@[reducible] def acs:aX:=[(.ret,az.mk [(2,hI)] [] [] []),(.exit 0,az.mk [(3,hI)] [] [] [])]
noncomputable def acu:D prog 18 none 0:=dO [] (pick (kd prog f86) [(0,false)]) 0
noncomputable def g86_0:Int×List Int×Int×Int×Unit→bU ((Int×List Int×Int×Int×Unit) ⊕ ((Int×Unit) ⊕ ((Int×Unit)))):=fun (v3,v6,v7,v8,_) =>
 .br (decide (v8<v7)) (
 .nb v8 (((v6).length:Nat):Int) <|
 .br (!(((v6).getD (Int.toNat v8) (0:Int))==v3)) (
 .ret (.inr <| .inl<|(((v6).getD (Int.toNat v8) (0:Int)),()))) (
 .ni (v8+(1:Int)) <|
 .ret (.inl (v3,v6,v7,(v8+(1:Int)),())))) (
 .ret (.inr <| .inr<|(v3,())))
noncomputable def acv:cn prog 18 none 0:=bR mixed cx86 Iy [] rfl acr acs rfl (acu) (fun x=>ak (g86_0 x)) (fun x=>by kernel_rfl)
noncomputable def dd86:D prog 18 none 0:=dO [.l acv] (kd prog f86) 0
noncomputable def F86 (a0:List Int):bU (Int×Unit) :=
 .bd (.it g86_0 ((0:Int),a0,(((a0).length:Nat):Int),(0:Int),())) fun z0 =>
 .sm z0 (fun z1 =>
 .ret (z1.1,())) fun z2 =>
 .ret (z2.1,())
theorem X2:cM prog f86=some ⟨18,1,dd86.er,[.t 2],[some tI]⟩:=by kernel_rfl
noncomputable def ct86:Ct:=⟨86,[hL],hI,fun x=>ak (F86 x.1)⟩
theorem Sq:ct86.Ok prog:=cT mixed Iy func86 X2 (enters_of func86 rfl rfl) dd86 (by kernel_rfl) rfl (fun x=>by kernel_rfl)

/- 55 -/
noncomputable def cx55:Cx:=(aK [Oh,ct87,ct88,ct86] [])
theorem Sr:cx55.Ok prog:=av ⟨vm,Sl,Sn,Sq,trivial⟩ trivial
noncomputable def dd55:D prog 23 none 0:=dO [] (kd prog f55) 0
noncomputable def F55 (a0:GG):bU (Int×Unit) :=
 .br (decide (a0.2.1<(1:Int))) (
 .ret ((18:Int),())) (
 .br (decide ((3:Int)<a0.2.1)) (
 .ret ((18:Int),())) (
 .bd (F65 a0.1) fun y0 =>
 .br (!y0.1) (
 .ret ((8:Int),())) (
 .bd (F87 (a0.1,a0.2.1,a0.2.2.1,a0.2.2.2.1,a0.2.2.2.2)) fun y1 =>
 .bd (F88 (a0.1,a0.2.1,a0.2.2.1,a0.2.2.2.1,a0.2.2.2.2)) fun y2 =>
 .bd (F86 ((((y1.1::(y2.1::[]))).drop (0:Nat)).take (2:Nat))) fun y3 =>
 .ret (y3.1,()))))
theorem X3:cM prog f55=some ⟨23,1,dd55.er,[.t 2],[some tI]⟩:=by kernel_rfl
noncomputable def ct55:Ct:=⟨55,[.c (.hole tG)],hI,fun x=>ak (F55 x.1)⟩
theorem Su:ct55.Ok prog:=cT mixed Sr func55 X3 (enters_of func55 rfl rfl) dd55 (by kernel_rfl) rfl (fun x=>by kernel_rfl)

/- 89, by hand -/
@[reducible] def pH89:az:=az.mk [(0,.c (.mp 0))] [(0,.map tG true .bool false)] [.slot 0] []
@[reducible] def qH89:az:=az.mk [(0,.c (.mp 1))] [(1,.map tG true .bool false),(0,.map tG true .bool false)] [.slot 0] []
noncomputable def FH89 (m0:List ((GG)×Bool)):bU ((List ((GG)×Bool))×(List ((GG)×Bool))×Unit) :=
 .ret (m0,m0,())
noncomputable def ht89:Ht:=⟨89,pH89,qH89,(fun x=>ak (FH89 x.1))⟩
theorem Sv:ht89.Ok prog:=fun x y h=>by
  have h':some (x.1,x.1,())=some y:=h
  cases h'
  exact D3 (ρ:=Av) abW (enters_of func89 rfl rfl)

/- 193, lent -/
@[reducible] def acC:az:=az.mk [(0,.c (.hole tG))] [] [] []
@[reducible] def acD:az:=az.mk [(0,.c (.cQ 0 tG))] [(0,.arr tG false)] [.slot 0] []
noncomputable def X4:Cx:=(aK [] [])
theorem Kw:X4.Ok prog:=av trivial trivial
noncomputable def Oi:D prog 5 none 0:=dO [] (kd prog f193) 0
noncomputable def FH193 (v0:GG):bU (Nat×(List (GG))×Unit) :=
 .ret ((1:Nat),((v0.1,v0.2.1,v0.2.2.1,v0.2.2.2.1,v0.2.2.2.2)::[]),())
theorem Oj:cM prog f193=some ⟨5,1,Oi.er,[.t 2],[some (.list tG)]⟩:=by kernel_rfl
noncomputable def Vs:Ht:=⟨193,acC,acD,(fun x=>ak (FH193 x.1))⟩
theorem Ol:Vs.Ok prog:=bL mixed Kw rfl func193 Oj (enters_of func193 rfl rfl) Oi (by kernel_rfl) rfl rfl ⟨_,rfl⟩ rfl (pre:=[]) rfl (fun x=>by kernel_rfl)

/- 56, lent -/
@[reducible] def pH56:az:=az.mk [(0,.c (.ptr 0 0)),(1,.c (.Gf 33 true (.cons (.hole .str) (.cons (.hole tI) (.cons (.hole .str) (.cons (.hole .str) (.cons (.hole tI) .nil)))))))] [(0,.cells [.mp 1] false),(1,.map tG true .bool false)] [.slot 0,.cell 0 0] []
@[reducible] def qH56:az:=az.mk [(0,hI)] [(0,.cells [.mp 2] false),(2,.map tG true .bool false)] [.cell 0 0] []
noncomputable def Vt:Cx:=(aK [] [ht89,Vs])
theorem Ec:Vt.Ok prog:=av trivial ⟨⟨Sv,rfl⟩,⟨Ol,rfl⟩,trivial⟩
@[reducible] def X5:az:=az.mk [(0,.c (.ptr 0 0)),(5,.c (.mp 2)),(14,.c (.cQ 3 tG)),(15,hI),(16,hI)] [(0,.cells [.mp 1] false),(2,.map tG true .bool false),(3,.arr tG false),(1,.map tG true .bool false)] [.slot 5,.slot 14] []
@[reducible] def X6:aX:=[(.exit 0,az.mk [(0,.c (.ptr 0 0)),(5,.c (.mp 2))] [(0,.cells [.mp 1] false),(2,.map tG true .bool false),(1,.map tG true .bool false)] [.slot 5] [])]
noncomputable def X7:D prog 30 none 2:=dO [] (pick (kd prog f56) [(0,false)]) 0
noncomputable def gH56_0:Nat×Int×Int×(List ((GG)×Bool))×(List (GG))×(List ((GG)×Bool))×Unit→bU ((Nat×Int×Int×(List ((GG)×Bool))×(List (GG))×(List ((GG)×Bool))×Unit) ⊕ (((List ((GG)×Bool))×(List ((GG)×Bool))×Unit))):=fun (nv14,aI,uK,m2,b3,m1,_) =>
 .br (decide (uK<aI)) (
 .nb uK ((nv14:Nat):Int) <|
 .nd (decide (((0:Nat)+(Int.toNat uK))<(b3).length)) <|
 .ni (uK+(1:Int)) <|
 .ret (.inl (nv14,aI,(uK+(1:Int)),(aU (.prod .str (.prod (.int .i64) (.prod .str (.prod .str (.int .i64))))) m2 (((b3).getD ((0:Nat)+(Int.toNat uK)) ((bs []),(0:Int),(bs []),(bs []),(0:Int))).1,((b3).getD ((0:Nat)+(Int.toNat uK)) ((bs []),(0:Int),(bs []),(bs []),(0:Int))).2.1,((b3).getD ((0:Nat)+(Int.toNat uK)) ((bs []),(0:Int),(bs []),(bs []),(0:Int))).2.2.1,((b3).getD ((0:Nat)+(Int.toNat uK)) ((bs []),(0:Int),(bs []),(bs []),(0:Int))).2.2.2.1,((b3).getD ((0:Nat)+(Int.toNat uK)) ((bs []),(0:Int),(bs []),(bs []),(0:Int))).2.2.2.2) true),b3,m1,()))) (
 .ret (.inr (m2,m1,())))
noncomputable def X8:cn prog 30 none 2:=bR mixed Vt Ec [0,1] rfl X5 X6 rfl (X7) (fun x=>ak (gH56_0 x)) (fun x=>by kernel_rfl)
noncomputable def Vu:D prog 30 none 2:=dO [.l X8] (kd prog f56) 0
noncomputable def FH56 (v1c0:ByteArray) (v1c1:Int) (v1c2:ByteArray) (v1c3:ByteArray) (v1c4:Int) (m1:List ((GG)×Bool)):bU (Int×(List ((GG)×Bool))×Unit) :=
 .bd (FH89 m1) fun y0 =>
 .bd (FH193 (v1c0,v1c1,v1c2,v1c3,v1c4)) fun y1 =>
 .bd (.it gH56_0 (y1.1,((y1.1:Nat):Int),(0:Int),y0.1,y1.2.1,y0.2.1,())) fun z2 =>
 .br (decide ((60:Int)<(((z2.1).length:Nat):Int))) (
 .ret ((15:Int),z2.2.1,())) (
 .ret ((0:Int),z2.1,()))
theorem Sw:cM prog f56=some ⟨30,2,Vu.er,[.t 4],[some tI]⟩:=by kernel_rfl
noncomputable def ht56:Ht:=⟨56,pH56,qH56,(fun x=>ak (FH56 x.1 x.2.1 x.2.2.1 x.2.2.2.1 x.2.2.2.2.1 x.2.2.2.2.2.1))⟩
theorem Sx:ht56.Ok prog:=bL mixed Ec rfl func56 Sw (enters_of func56 rfl rfl) Vu (by kernel_rfl) rfl rfl ⟨_,rfl⟩ rfl (pre:=[0,1]) rfl (fun x=>by kernel_rfl)

/- 20, lent -/
@[reducible] def pH20:az:=az.mk [(0,.c (.ptr 0 0)),(1,.c (.hole tG))] [(0,.cells [.mp 1] false),(1,.map tG true .bool false)] [.slot 0,.cell 0 0] []
@[reducible] def qH20:az:=az.mk [(0,hI)] [(0,.cells [.mp 2] false),(2,.map tG true .bool false)] [.cell 0 0] []
noncomputable def acG:Cx:=(aK [ct55] [zj,ht56])
theorem Om:acG.Ok prog:=av ⟨Su,trivial⟩ ⟨⟨ny,rfl⟩,⟨Sx,rfl⟩,trivial⟩
noncomputable def Vv:D prog 17 none 2:=dO [] (kd prog f20) 0
noncomputable def FH20 (v1:GG) (m1:List ((GG)×Bool)):bU (Int×(List ((GG)×Bool))×Unit) :=
 .bd (FH54 m1) fun y0 =>
 .br y0.1 (
 .ret ((9:Int),y0.2.1,())) (
 .bd (F55 (v1.1,v1.2.1,v1.2.2.1,v1.2.2.2.1,v1.2.2.2.2)) fun y1 =>
 .br (!(y1.1==(0:Int))) (
 .ret (y1.1,y0.2.1,())) (
 .bd (FH56 v1.1 v1.2.1 v1.2.2.1 v1.2.2.2.1 v1.2.2.2.2 y0.2.1) fun y2 =>
 .ret (y2.1,y2.2.1,())))
theorem Sy:cM prog f20=some ⟨17,2,Vv.er,[.t 4],[some tI]⟩:=by kernel_rfl
noncomputable def X9:Ht:=⟨20,pH20,qH20,(fun x=>ak (FH20 x.1 x.2.1))⟩
theorem Iz:X9.Ok prog:=bL mixed Om rfl func20 Sy (enters_of func20 rfl rfl) Vv (by kernel_rfl) rfl rfl ⟨_,rfl⟩ rfl (pre:=[0,1]) rfl (fun x=>by kernel_rfl)

/- 29, lent -/
@[reducible] def pH29:az:=az.mk [(0,.c (.hole (.list tG)))] [] [] []
@[reducible] def qH29:az:=az.mk [(0,.c (.ptr 0 0))] [(0,.cells [.mp 1] false),(1,.map tG true .bool false)] [.slot 0,.cell 0 0] []
noncomputable def Vw:Cx:=(aK [] [ht18,X9])
theorem Ed:Vw.Ok prog:=av trivial ⟨⟨Si,rfl⟩,⟨Iz,rfl⟩,trivial⟩
@[reducible] def Yc:az:=az.mk [(0,.c (.hole (.list tG))),(3,.c (.ptr 0 0)),(4,hI)] [(0,.cells [.mp 1] false),(1,.map tG true .bool false)] [.slot 3,.cell 0 0] []
@[reducible] def Yd:aX:=[(.exit 0,az.mk [(3,.c (.ptr 0 0))] [(0,.cells [.mp 1] false),(1,.map tG true .bool false)] [.slot 3,.cell 0 0] [])]
noncomputable def Ye:D prog 19 none 0:=dO [] (pick (kd prog f29) [(0,false)]) 0
noncomputable def gH29_0:(List (GG))×Int×(List ((GG)×Bool))×Unit→bU (((List (GG))×Int×(List ((GG)×Bool))×Unit) ⊕ (((List ((GG)×Bool))×Unit))):=fun (v0,v4,m1,_) =>
 .br (decide (v4<(((v0).length:Nat):Int))) (
 .nb v4 (((v0).length:Nat):Int) <|
 .bd (FH20 (((v0).getD (Int.toNat v4) ((bs []),(0:Int),(bs []),(bs []),(0:Int))).1,((v0).getD (Int.toNat v4) ((bs []),(0:Int),(bs []),(bs []),(0:Int))).2.1,((v0).getD (Int.toNat v4) ((bs []),(0:Int),(bs []),(bs []),(0:Int))).2.2.1,((v0).getD (Int.toNat v4) ((bs []),(0:Int),(bs []),(bs []),(0:Int))).2.2.2.1,((v0).getD (Int.toNat v4) ((bs []),(0:Int),(bs []),(bs []),(0:Int))).2.2.2.2) m1) fun y1 =>
 .ni (v4+(1:Int)) <|
 .ret (.inl (v0,(v4+(1:Int)),y1.2.1,()))) (
 .ret (.inr (m1,())))
noncomputable def Yf:cn prog 19 none 0:=bR mixed Vw Ed [] rfl Yc Yd rfl (Ye) (fun x=>ak (gH29_0 x)) (fun x=>by kernel_rfl)
noncomputable def Vx:D prog 19 none 0:=dO [.l Yf] (kd prog f29) 0
noncomputable def FH29 (v0:List (GG)):bU ((List ((GG)×Bool))×Unit) :=
 .bd (FH18) fun y0 =>
 .bd (.it gH29_0 (v0,(0:Int),y0.1,())) fun z2 =>
 .ret (z2.1,())
theorem Sz:cM prog f29=some ⟨19,1,Vx.er,[.t 2],[none]⟩:=by kernel_rfl
noncomputable def Yg:Ht:=⟨29,pH29,qH29,(fun x=>ak (FH29 x.1))⟩
theorem IA:Yg.Ok prog:=bL mixed Ed rfl func29 Sz (enters_of func29 rfl rfl) Vx (by kernel_rfl) rfl rfl ⟨_,rfl⟩ rfl (pre:=[]) rfl (fun x=>by kernel_rfl)

/- 84, lent -/
@[reducible] def pH84:az:=az.mk [(0,.c (.mp 0))] [(0,.map tG true .bool false)] [.slot 0] []
@[reducible] def qH84:az:=az.mk [(0,.fn 111 [] [.ptr 1 0])] [(1,.cells [.mp 0] false),(0,.map tG true .bool false)] [.part 0 0] []
noncomputable def acH:Cx:=(aK [] [])
theorem On:acH.Ok prog:=av trivial trivial
noncomputable def Vy:D prog 4 none 1:=dO [] (kd prog f84) 0
noncomputable def FH84 (m0:List ((GG)×Bool)):bU ((List ((GG)×Bool))×Unit) :=
 .ret (m0,())
theorem SA:cM prog f84=some ⟨4,1,Vy.er,[.t 2],[none]⟩:=by kernel_rfl
noncomputable def ht84:Ht:=⟨84,pH84,qH84,(fun x=>ak (FH84 x.1))⟩
theorem SB:ht84.Ok prog:=bL mixed On rfl func84 SA (enters_of func84 rfl rfl) Vy (by kernel_rfl) rfl rfl ⟨_,rfl⟩ rfl (pre:=[0]) rfl (fun x=>by kernel_rfl)

/- 110, by hand -/
@[reducible] def acJ:az:=az.mk [(0,.c (.cQ 0 tG)),(1,.c (.fn0 85))] [(0,.arr tG false)] [.slot 0] []
@[reducible] def acK:az:=az.mk [(0,.c .any)] [(0,.arr tG false)] [] []
noncomputable def FH110 (nA:Nat) (b0:List (GG)):bU ((List (GG))×Unit) :=
 .of (uJ (.prod .str (.prod (.int .i64) (.prod .str (.prod .str (.int .i64))))) b0 nA)
noncomputable def Oo:Ht:=⟨110,acJ,acK,(fun x=>ak (FH110 x.1 x.2.1))⟩
theorem vn (a b:ByteArray):(seq a b=true)↔a=b:=by
  unfold seq
  rw [beq_iff_eq,Go.ByteArray.toList_eq,Go.ByteArray.toList_eq]
  obtain ⟨a⟩:=a;obtain ⟨b⟩:=b
  simp
def nF (a b:ByteArray):Int:=if slt a b=true then -1 else if a=b then 0 else 1
def pX (a b:Int):Int:=if a<b then -1 else if b<a then 1 else 0
def pK : List Int → Int
 |[]=>0
 |a::r=>if a=0 then pK r else a
theorem acL (a:ByteArray):ak (F130 a)=some (false,()):=by
  have:seq a a=true:=(vn a a).2 rfl
  simp [F130,aa,this]
theorem acM (a:Int):ak (F131 a)=some (false,()):=by simp [F131,aa]
theorem acN (a b:ByteArray):ak (F113 a b)=some (nF a b,()):=by
  simp only [F113,aA,ay,aa,acL,aJ,Ea,kG,nF]
  cases h:slt a b
  · by_cases he : a = b
    · subst he;simp [(vn a a).2 rfl]
    · have : seq a b = false := by rw [← Bool.not_eq_true]; exact fun h => he ((vn a b).1 h)
      simp [this,he]
  · simp
theorem acO (a b:Int):ak (F114 a b)=some (pX a b,()):=by
  simp only [F114,aA,ay,aa,acM,aJ,Ea,bx,pX]
  repeat' split
  all_goals rfl
theorem acP (l:List Int) (hl:l.length≤1000):ak (F112 l)=some (pK l,()):=by
  simp only [F112,aA,bM,aa]
  refine bind_eq (aQ l (fun k (_:Unit)=>((0:Int),l,((l.length:Nat):Int),(k:Int),())) (fun _ r=>if pK r=0 then .inr (0,()) else .inl (pK r,())) (fun _ _=>True) ?_ ?_ (s:=()) trivial) ?_
  · rintro pre x post _ hx -
    have hlen:l.length=pre.length+(post.length+1):=by rw [hx];simp
    have hd:l.getD pre.length 0=x:=by rw [hx];exact bt rfl
    have i1:fu (pre.length:Int) ((l.length:Nat):Int)=true:=bY (by omega) (by omega)
    have r1:gG .i64 ((pre.length:Int)+1)=true:=aL (by omega) (by omega)
    simp only [g112_0,ay,bB,aS,aZ,aa,Int.toNat_natCast,hd,i1,r1,au,bx,cA,bV]
    rw [if_pos (by omega)]
    by_cases h:x=0
    · left
      refine ⟨(),?_,trivial,by simp [pK,h]⟩
      rw [if_pos h];rfl
    · right
      rw [if_neg h]
      have:pK (x::post)=x:=by simp [pK,h]
      rw [this,if_neg h]
  · rintro _ _
    simp only [g112_0,ay,bx,aa]
    rw [if_neg (by omega)]
    simp [pK]
  · by_cases h : pK l = 0
    · rw [if_pos h,h];rfl
    · rw [if_neg h];rfl
@[reducible] def Oq:Ty:=.prod .str (.prod tI (.prod .str (.prod .str tI)))
def xK (a b:Oq.den):Int:=pK [nF a.1 b.1,pX a.2.1 b.2.1,nF a.2.2.1 b.2.2.1,nF a.2.2.2.1 b.2.2.2.1,pX a.2.2.2.2 b.2.2.2.2]
theorem vo {a b:ByteArray}:nF a b=0↔a=b:=by
  unfold nF
  split
  · rename_i h
    constructor
    · intro h';omega
    · rintro rfl
      have:fW .str a a=true:=h
      rw [Iq (t:=.str) rfl] at this;cases this
  · split<;>simp_all
theorem B3 {a b:Int}:pX a b=0↔a=b:=by
  unfold pX
  repeat' split
  all_goals omega
theorem SC {a b:ByteArray}:nF a b<0↔fW .str a b=true:=by
  unfold nF
  split
  · rename_i h;simp only [fW];exact ⟨fun _=>h,fun _=>by omega⟩
  · rename_i h
    constructor
    · intro h';split at h'<;>omega
    · intro h';exact absurd h' h
theorem SD {a b:Int}:pX a b<0↔fW tI a b=true:=by
  have e:fW tI a b=decide (a<b):=rfl
  rw [e,decide_eq_true_eq]
  unfold pX
  repeat' split
  all_goals omega
theorem Yh {c:Int} {r:List Int}:pK (c::r)<0↔c<0∨(c=0∧pK r<0):=by
  simp only [pK]
  split<;>omega
theorem SE (a b:Oq.den):decide (xK a b<0)=fW Oq a b:=by
  have hS:∀x y:ByteArray,dJ .str x y=true↔x=y:=fun x y=>⟨fun h=>bI h,fun h=>by subst h;exact kC (t:=.str) x rfl⟩
  have hI:∀x y:Int,dJ tI x y=true↔x=y:=fun x y=>⟨fun h=>bI (t:=tI) h,fun h=>by subst h;exact kC (t:=tI) x rfl⟩
  rw [Bool.eq_iff_iff,decide_eq_true_eq]
  show _↔(fW .str a.1 b.1||(dJ .str a.1 b.1&&(fW tI a.2.1 b.2.1||(dJ tI a.2.1 b.2.1&&(fW .str a.2.2.1 b.2.2.1||(dJ .str a.2.2.1 b.2.2.1&&(fW .str a.2.2.2.1 b.2.2.2.1||(dJ .str a.2.2.2.1 b.2.2.2.1&&fW tI a.2.2.2.2 b.2.2.2.2))))))))=true
  have e:pK []<0↔False:=by simp [pK]
  unfold xK
  simp only [Yh,e,and_false,or_false,vo,B3,SC,SD,Bool.or_eq_true,Bool.and_eq_true,hS,hI]
theorem wq85 (a b:Oq.den):ak (F85 a b)=some (xK a b,()):=by
  have hq:∀x y:ByteArray,(x.toList=y.toList)↔x=y:=fun x y=>by rw [←vn];unfold seq;rw [beq_iff_eq]
  simp only [F85,ay,aA,aa,acN,acO,aJ,kG]
  split
  · rename_i h
    simp only [Bool.and_eq_true,beq_iff_eq,and_true,hq] at h
    obtain ⟨h1,h2,h3,h4,h5⟩:=h
    have:xK a b=0:=by
      unfold xK
      simp only [pK,vo.2 h1,B3.2 h2,vo.2 h3,vo.2 h4,B3.2 h5,if_true]
    rw [this]
  · exact bind_eq (acP [nF a.1 b.1,pX a.2.1 b.2.1,nF a.2.2.1 b.2.2.1,nF a.2.2.2.1 b.2.2.2.1,pX a.2.2.2.2 b.2.2.2.2] (by simp)) rfl
theorem Ot:Oo.Ok prog:=fun x y h =>
  RX (ρ := xJ) XO (enters_of func110 rfl rfl) (g := 85) (t := Oq) (ks := [.s, .i, .s, .s, .i]) rfl (by decide) (fun w => isAgg33 w) (fun w => sizeOf33 w) xK
    (fun a b=>R8 (a,b,()) (xK a b,()) (wq85 a b)) SE (xs:=x.2.1) (n:=x.1) (y:=y) h

/- 83, lent -/
@[reducible] def pH83:az:=az.mk [(0,.fn 111 [] [.ptr 0 0]),(1,.c (.fn0 85))] [(0,.cells [.mp 1] false),(1,.map tG true .bool false)] [.part 0 0,.cell 0 0] []
@[reducible] def qH83:az:=az.mk [(0,.c (.cQ 2 tG))] [(2,.arr tG false),(0,.cells [.mp 1] false),(1,.map tG true .bool false)] [.slot 0] []
noncomputable def vp:Cx:=(aK [] [Oo])
theorem qy:vp.Ok prog:=av (ve:=[]) (hts:=[Oo]) trivial ⟨⟨Ot,rfl⟩,trivial⟩
noncomputable def nG:D prog 13 (some 4) 8:=dO [] (pick (kd prog f128) [(0,false)]) 0
noncomputable def nH:D prog 13 (some 4) 8:=dO [] (pick (kd prog f128) [(0,true)]) 0
noncomputable def iI:Cx:=zg vp (fun kz=>Ny kz vp ez 4 8 [7] (nG) (nH))
theorem jH:(iI).Ok prog:=jN qy (fun h=>nq mixed qy h)
@[reducible] def rS:az:=az.mk [(0,.c (.yl 4)),(4,.c (.mp 1))] [(4,.loop .ready none 3 [(2,.c (.ptr 2 0)),(4,.c .bW),(6,.fn 111 [] [.ptr 0 0])] [7] (.aO [.op (some 5) none (.alloc [.str (ByteArray.mk (Array.mk [])),.int .i64 (Int.ofNat 0),.str (ByteArray.mk (Array.mk [])),.str (ByteArray.mk (Array.mk [])),.int .i64 (Int.ofNat 0)]),.op none none (.store 5 (.t 5) (.t 7))]) (.block 1 (.aO [.op (some 8) none (.load false 1 (.t 2)),.op (some 9) none (.load true 5 (.t 5)),.op (some 10) none (.dU tG [.t 9]),.op (some 11) none (.append 5 (.t 8) (.t 10)),.op none none (.store 1 (.t 2) (.t 11))])) 13),(1,.map tG true .bool false),(3,.ig),(2,.cells [.cQ 5 tG] false),(0,.cells [.mp 1] false),(5,.arr tG false)] [.cell 2 0] []
noncomputable def rT:D prog 14 none 7:=dO [] (pick (kd prog f111) [(0,false)]) 0
noncomputable def gH83f109f128_0i_0:(((GG))×(Bool))→(List ((GG)×Bool))×Nat×(List (GG))×Unit→bU ((List ((GG)×Bool))×Nat×(List (GG))×Unit):=fun e (m1,kH,b5,_) =>
 .nd (decide ((kH+((((((e.1.1,e.1.2.1,e.1.2.2.1,e.1.2.2.2.1,e.1.2.2.2.2)::[])).drop (0:Nat)).take (1:Nat))).length)<cu)) <|
 .nd (jG m1 m1) <|
 .ret (m1,(kH+((((((e.1.1,e.1.2.1,e.1.2.2.1,e.1.2.2.2.1,e.1.2.2.2.2)::[])).drop (0:Nat)).take (1:Nat))).length),((((b5).drop (0:Nat)).take kH)++(((((e.1.1,e.1.2.1,e.1.2.2.1,e.1.2.2.2.1,e.1.2.2.2.2)::[])).drop (0:Nat)).take (1:Nat))),())
noncomputable def rU:rB prog 14 none 5:=vj mixed iI jH [0,1,2,3,4] rfl rS ( [.op (some 4) none (.load false 1 (.t 1))]) 4 5 [6,7] (some 8) ( .prod .str (.prod tI (.prod .str (.prod .str tI))))  true ( .bool)  false 0 rfl 7 rfl (rT) (fun e x=>ak (gH83f109f128_0i_0 e x)) (fun e=>fun x=>by kernel_rfl)
@[reducible] def xL:az:=az.mk [(2,.c (.ptr 2 0)),(4,.c .bW),(6,.fn 111 [] [.ptr 0 0])] [(2,.cells [.bW] false),(0,.cells [.mp 1] false),(1,.map tG true .bool false)] [.slot 2] []
@[reducible] def xM:aX:=[(.normal,az.mk [(2,.c (.ptr 2 0))] [(2,.cells [.cQ 3 tG] false),(0,.cells [.mp 1] false),(1,.map tG true .bool false),(3,.arr tG false)] [.slot 2,.cell 2 0] [])]
noncomputable def nI:D prog 14 none 5:=dO [.m rU] (kd prog f111) 0
theorem uL:cM prog f111=some ⟨14,2,(nI).er,[],[]⟩:=by kernel_rfl
noncomputable def oB:gn prog 13 none 2:=rO mixed iI jH [0,1] rfl xL xM ( .t 6) [7] rfl (nG).er (nH).er 111 func111 (uL) (enters_of func111 rfl rfl) 5 rfl (nI) rfl
@[reducible] noncomputable def SF:Go.AM.Fn:=⟨13,2,(dO [.r oB] (kd prog f128) 0:D prog 13 none 2).er,[.t 4],[some (.list tG)]⟩
noncomputable def IB:Cx:=Ap prog vp 128 SF 2 (dO [.r oB] (kd prog f128) 0)
theorem Gs:IB.Ok prog:=rN mixed qy func128 (by kernel_rfl) (enters_of func128 rfl rfl) rfl
@[reducible] noncomputable def SG:Go.AM.Fn:=⟨5,1,(dO [] (kd prog f109) 0:D prog 5 none 0).er,[.t 2],[some (.list tG)]⟩
noncomputable def IC:Cx:=DZ prog IB 109 SG (fun _=>dO [] (kd prog f109) 0)
theorem Gt:IC.Ok prog:=pq mixed Gs func109 (by kernel_rfl) (enters_of func109 rfl rfl) (fun _=>by kernel_rfl)
noncomputable def acQ:Cx:=IC
theorem Ou:acQ.Ok prog:=Gt
noncomputable def Vz:D prog 12 none 2:=dO [] (kd prog f83) 0
noncomputable def FH83 (m1:List ((GG)×Bool)):bU (Nat×(List (GG))×(List ((GG)×Bool))×Unit) :=
 .an m1 fun l0 =>
 .bd (.fm gH83f109f128_0i_0 l0 (m1,(0:Nat),[],())) fun z1 =>
 .bd (FH110 z1.2.1 z1.2.2.1) fun y2 =>
 .ret (z1.2.1,y2.1,z1.1,())
theorem SH:cM prog f83=some ⟨12,2,Vz.er,[.t 4],[some (.list tG)]⟩:=by kernel_rfl
noncomputable def ht83:Ht:=⟨83,pH83,qH83,(fun x=>ak (FH83 x.1))⟩
theorem SJ:ht83.Ok prog:=bL mixed Ou rfl func83 SH (enters_of func83 rfl rfl) Vz (by kernel_rfl) rfl rfl ⟨_,rfl⟩ rfl (pre:=[0,1]) rfl (fun x=>by kernel_rfl)

/- 47, lent -/
@[reducible] def pH47:az:=az.mk [(0,.c (.ptr 0 0))] [(0,.cells [.mp 1] false),(1,.map tG true .bool false)] [.slot 0,.cell 0 0] []
@[reducible] def qH47:az:=az.mk [(0,.c (.cQ 2 tG))] [(2,.arr tG false),(0,.cells [.mp 1] false),(1,.map tG true .bool false)] [.slot 0] []
noncomputable def acS:Cx:=(aK [] [zj,ht84,ht83])
theorem Ov:acS.Ok prog:=av trivial ⟨⟨ny,rfl⟩,⟨SB,rfl⟩,⟨SJ,rfl⟩,trivial⟩
noncomputable def VA:D prog 11 none 2:=dO [] (kd prog f47) 0
noncomputable def FH47 (m1:List ((GG)×Bool)):bU (Nat×(List (GG))×(List ((GG)×Bool))×Unit) :=
 .bd (FH54 m1) fun y0 =>
 .br y0.1 (
 .ret ((0:Nat),[],y0.2.1,())) (
 .bd (FH84 y0.2.1) fun y1 =>
 .bd (FH83 y1.1) fun y2 =>
 .ret (y2.1,y2.2.1,y2.2.2.1,()))
theorem SK:cM prog f47=some ⟨11,1,VA.er,[.t 2],[some (.list tG)]⟩:=by kernel_rfl
noncomputable def Yi:Ht:=⟨47,pH47,qH47,(fun x=>ak (FH47 x.1))⟩
theorem ID:Yi.Ok prog:=bL mixed Ov rfl func47 SK (enters_of func47 rfl rfl) VA (by kernel_rfl) rfl rfl ⟨_,rfl⟩ rfl (pre:=[0,1]) rfl (fun x=>by kernel_rfl)

/- 95, lent -/
@[reducible] def pH95:az:=az.mk [(0,.c (.mp 0))] [(0,.map .str false tG true)] [.slot 0] []
@[reducible] def qH95:az:=az.mk [(0,.fn 118 [] [.ptr 1 0])] [(1,.cells [.mp 0] false),(0,.map .str false tG true)] [.part 0 0] []
noncomputable def acT:Cx:=(aK [] [])
theorem Ow:acT.Ok prog:=av trivial trivial
noncomputable def VB:D prog 4 none 1:=dO [] (kd prog f95) 0
noncomputable def FH95 (m0:cI):bU (cI×Unit) :=
 .ret (m0,())
theorem SM:cM prog f95=some ⟨4,1,VB.er,[.t 2],[none]⟩:=by kernel_rfl
noncomputable def Ox:Ht:=⟨95,pH95,qH95,(fun x=>ak (FH95 x.1))⟩
theorem vq:Ox.Ok prog:=bL mixed Ow rfl func95 SM (enters_of func95 rfl rfl) VB (by kernel_rfl) rfl rfl ⟨_,rfl⟩ rfl (pre:=[0]) rfl (fun x=>by kernel_rfl)

/- 105, by hand -/
@[reducible] def acU:az:=az.mk [(0,.c (.cQ 0 .str))] [(0,.arr .str false)] [.slot 0] []
@[reducible] def acV:az:=az.mk [(0,.c .any)] [(0,.arr .str false)] [] []
noncomputable def FH105 (nA:Nat) (b0:List ByteArray):bU (List ByteArray×Unit) :=
 .of (uJ .str b0 nA)
noncomputable def Aw:Ht:=⟨105,acU,acV,(fun x=>ak (FH105 x.1 x.2.1))⟩
theorem xN:Aw.Ok prog:=fun x y h=>NN (ρ:=xH) XM (enters_of func105 rfl rfl) (xs:=x.2.1) (n:=x.1) (y:=y) h

/- 81, lent -/
@[reducible] def pH81:az:=az.mk [(0,.fn 118 [] [.ptr 0 0])] [(0,.cells [.mp 1] false),(1,.map .str false tG true)] [.part 0 0,.cell 0 0] []
@[reducible] def qH81:az:=az.mk [(0,.c (.cQ 2 .str))] [(2,.arr .str false),(0,.cells [.mp 1] false),(1,.map .str false tG true)] [.slot 0] []
noncomputable def vr:Cx:=(aK [] [Aw])
theorem qz:vr.Ok prog:=av (ve:=[]) (hts:=[Aw]) trivial ⟨⟨xN,rfl⟩,trivial⟩
noncomputable def nJ:D prog 13 (some 4) 7:=dO [] (pick (kd prog f126) [(0,false)]) 0
noncomputable def nK:D prog 13 (some 4) 7:=dO [] (pick (kd prog f126) [(0,true)]) 0
noncomputable def iJ:Cx:=zg vr (fun kz=>Ny kz vr ez 4 7 [7] (nJ) (nK))
theorem jI:(iJ).Ok prog:=jN qz (fun h=>nq mixed qz h)
@[reducible] def rV:az:=az.mk [(0,.c (.yl 4)),(4,.c (.mp 1))] [(4,.loop .ready none 3 [(2,.c (.ptr 2 0)),(4,.c .bW),(6,.fn 118 [] [.ptr 0 0])] [7] (.aO [.op (some 5) none (.mv (.t 7))]) (.block 1 (.aO [.op (some 8) none (.load false 1 (.t 2)),.op (some 9) none (.mv (.t 5)),.op (some 10) none (.dU .str [.t 9]),.op (some 11) none (.append 1 (.t 8) (.t 10)),.op none none (.store 1 (.t 2) (.t 11))])) 13),(1,.map .str false tG true),(3,.ig),(2,.cells [.cQ 5 .str] false),(0,.cells [.mp 1] false),(5,.arr .str false)] [.cell 2 0] []
noncomputable def rW:D prog 14 none 7:=dO [] (pick (kd prog f118) [(0,false)]) 0
noncomputable def gH81f107f126_0i_0:((ByteArray)×(GG))→cI×Nat×List ByteArray×Unit→bU (cI×Nat×List ByteArray×Unit):=fun e (m1,kH,b5,_) =>
 .nd (decide ((kH+(((((e.1::[])).drop (0:Nat)).take (1:Nat))).length)<cu)) <|
 .nd (jG m1 m1) <|
 .ret (m1,(kH+(((((e.1::[])).drop (0:Nat)).take (1:Nat))).length),((((b5).drop (0:Nat)).take kH)++((((e.1::[])).drop (0:Nat)).take (1:Nat))),())
noncomputable def rX:rB prog 14 none 5:=vj mixed iJ jI [0,1,2,3,4] rfl rV ( [.op (some 4) none (.load false 1 (.t 1))]) 4 5 [6,7] (some 8) ( .str)  false ( .prod .str (.prod tI (.prod .str (.prod .str tI))))  true 0 rfl 7 rfl (rW) (fun e x=>ak (gH81f107f126_0i_0 e x)) (fun e=>fun x=>by kernel_rfl)
@[reducible] def xP:az:=az.mk [(2,.c (.ptr 2 0)),(4,.c .bW),(6,.fn 118 [] [.ptr 0 0])] [(2,.cells [.bW] false),(0,.cells [.mp 1] false),(1,.map .str false tG true)] [.slot 2] []
@[reducible] def xQ:aX:=[(.normal,az.mk [(2,.c (.ptr 2 0))] [(2,.cells [.cQ 3 .str] false),(0,.cells [.mp 1] false),(1,.map .str false tG true),(3,.arr .str false)] [.slot 2,.cell 2 0] [])]
noncomputable def nL:D prog 14 none 5:=dO [.m rX] (kd prog f118) 0
theorem uM:cM prog f118=some ⟨14,2,(nL).er,[],[]⟩:=by kernel_rfl
noncomputable def oC:gn prog 13 none 2:=rO mixed iJ jI [0,1] rfl xP xQ ( .t 6) [7] rfl (nJ).er (nK).er 118 func118 (uM) (enters_of func118 rfl rfl) 5 rfl (nL) rfl
@[reducible] noncomputable def SN:Go.AM.Fn:=⟨13,2,(dO [.r oC] (kd prog f126) 0:D prog 13 none 2).er,[.t 4],[some (.list .str)]⟩
noncomputable def IE:Cx:=Ap prog vr 126 SN 2 (dO [.r oC] (kd prog f126) 0)
theorem Gu:IE.Ok prog:=rN mixed qz func126 (by kernel_rfl) (enters_of func126 rfl rfl) rfl
@[reducible] noncomputable def SO:Go.AM.Fn:=⟨5,1,(dO [] (kd prog f107) 0:D prog 5 none 0).er,[.t 2],[some (.list .str)]⟩
noncomputable def IF:Cx:=DZ prog IE 107 SO (fun _=>dO [] (kd prog f107) 0)
theorem Gv:IF.Ok prog:=pq mixed Gu func107 (by kernel_rfl) (enters_of func107 rfl rfl) (fun _=>by kernel_rfl)
noncomputable def acW:Cx:=IF
theorem Oy:acW.Ok prog:=Gv
noncomputable def VC:D prog 9 none 2:=dO [] (kd prog f81) 0
noncomputable def FH81 (m1:cI):bU (Nat×List ByteArray×cI×Unit) :=
 .an m1 fun l0 =>
 .bd (.fm gH81f107f126_0i_0 l0 (m1,(0:Nat),[],())) fun z1 =>
 .bd (FH105 z1.2.1 z1.2.2.1) fun y2 =>
 .ret (z1.2.1,y2.1,z1.1,())
theorem SQ:cM prog f81=some ⟨9,1,VC.er,[.t 2],[some (.list .str)]⟩:=by kernel_rfl
noncomputable def Oz:Ht:=⟨81,pH81,qH81,(fun x=>ak (FH81 x.1))⟩
theorem vu:Oz.Ok prog:=bL mixed Oy rfl func81 SQ (enters_of func81 rfl rfl) VC (by kernel_rfl) rfl rfl ⟨_,rfl⟩ rfl (pre:=[0,1]) rfl (fun x=>by kernel_rfl)

/- 98, lent -/
@[reducible] def pH98:az:=az.mk [(0,.c (.hole (.list .str)))] [] [] []
@[reducible] def qH98:az:=az.mk [(0,.c (.cQ 0 .str))] [(0,.arr .str false)] [.slot 0] []
noncomputable def acX:Cx:=(aK [] [])
theorem OA:acX.Ok prog:=av trivial trivial
noncomputable def VD:D prog 8 none 0:=dO [] (kd prog f98) 0
noncomputable def FH98 (v0:List ByteArray):bU (Nat×List ByteArray×Unit) :=
 .br ((((v0).length:Nat):Int)==(0:Int)) (
 .am inferInstance (
 .ret ((0:Nat),[],())) (
 .nd (decide (((0:Nat)+(v0).length)<cu)) <|
 .ret (((0:Nat)+(v0).length),(((([]).drop (0:Nat)).take (0:Nat))++v0),()))) (
 .nd (decide (((0:Nat)+(v0).length)<cu)) <|
 .ret (((0:Nat)+(v0).length),(((([]).drop (0:Nat)).take (0:Nat))++v0),()))
theorem SR:cM prog f98=some ⟨8,1,VD.er,[.t 2],[some (.list .str)]⟩:=by kernel_rfl
noncomputable def Yj:Ht:=⟨98,pH98,qH98,(fun x=>ak (FH98 x.1))⟩
theorem IG:Yj.Ok prog:=bL mixed OA rfl func98 SR (enters_of func98 rfl rfl) VD (by kernel_rfl) rfl rfl ⟨_,rfl⟩ rfl (pre:=[]) rfl (fun x=>by kernel_rfl)

/- 99, lent -/
@[reducible] def pH99:az:=az.mk [(0,.c (.hole .str)),(1,.c (.ptr 0 0))] [(0,.cells [.ptr 1 0] false),(1,.cells [.mp 2,.mp 3,.mp 4,.mp 5] false),(2,.map .str false tG true),(3,.map .str false (.list .str) false),(4,.map .str false .bool false),(5,.map .str false .bool false)] [.slot 1,.cell 0 0,.cell 1 0,.cell 1 1,.cell 1 2,.cell 1 3] []
@[reducible] def qH99:az:=az.mk [(0,.c (.hole .bool))] [(0,.cells [.ptr 1 0] false),(1,.cells [.mp 2,.mp 3,.mp 4,.mp 5] false),(2,.map .str false tG true),(3,.map .str false (.list .str) false),(4,.map .str false .bool false),(5,.map .str false .bool false)] [] []
noncomputable def acY:Cx:=(aK [] [])
theorem OB:acY.Ok prog:=av trivial trivial
noncomputable def VE:D prog 11 none 6:=dO [] (kd prog f99) 0
noncomputable def FH99 (v0:ByteArray) (m2:cI) (m3:cN) (m4:aP) (m5:aP):bU (Bool×cI×cN×aP×aP×Unit) :=
 .ret ((!(ax .str false m4 v0)),m2,m3,m4,m5,())
theorem SS:cM prog f99=some ⟨11,2,VE.er,[.t 3],[some .bool]⟩:=by kernel_rfl
noncomputable def Yk:Ht:=⟨99,pH99,qH99,(fun x=>ak (FH99 x.1 x.2.1 x.2.2.1 x.2.2.2.1 x.2.2.2.2.1))⟩
theorem II:Yk.Ok prog:=bL mixed OB rfl func99 SS (enters_of func99 rfl rfl) VE (by kernel_rfl) rfl rfl ⟨_,rfl⟩ rfl (pre:=[0,1,2,3,4,5]) rfl (fun x=>by kernel_rfl)

/- 119, lent -/
@[reducible] def acZ:az:=az.mk [(0,.c (.cQ 0 .str)),(1,.fn 99 [] [.ptr 1 0])] [(0,.arr .str false),(1,.cells [.ptr 2 0] false),(2,.cells [.mp 3,.mp 4,.mp 5,.mp 6] false),(3,.map .str false tG true),(4,.map .str false (.list .str) false),(5,.map .str false .bool false),(6,.map .str false .bool false)] [.slot 0,.part 1 0,.cell 1 0,.cell 2 0,.cell 2 1,.cell 2 2,.cell 2 3] []
@[reducible] def ac0:az:=az.mk [(0,hI)] [(1,.cells [.ptr 2 0] false),(2,.cells [.mp 3,.mp 4,.mp 5,.mp 6] false),(3,.map .str false tG true),(4,.map .str false (.list .str) false),(5,.map .str false .bool false),(6,.map .str false .bool false),(0,.arr .str false)] [] []
noncomputable def OC:Cx:=(aK [] [Yk])
theorem Ay:OC.Ok prog:=av trivial ⟨⟨II,rfl⟩,trivial⟩
@[reducible] def SU:az:=az.mk [(0,.c (.cQ 0 .str)),(1,.fn 99 [] [.ptr 1 0]),(7,hI),(8,hI)] [(0,.arr .str false),(1,.cells [.ptr 2 0] false),(2,.cells [.mp 3,.mp 4,.mp 5,.mp 6] false),(3,.map .str false tG true),(4,.map .str false (.list .str) false),(5,.map .str false .bool false),(6,.map .str false .bool false)] [] []
@[reducible] def SV:aX:=[(.ret,az.mk [(4,hI)] [(1,.cells [.ptr 2 0] false),(2,.cells [.mp 3,.mp 4,.mp 5,.mp 6] false),(3,.map .str false tG true),(4,.map .str false (.list .str) false),(5,.map .str false .bool false),(6,.map .str false .bool false),(0,.arr .str false)] [] []),(.exit 0,az.mk [] [(1,.cells [.ptr 2 0] false),(2,.cells [.mp 3,.mp 4,.mp 5,.mp 6] false),(3,.map .str false tG true),(4,.map .str false (.list .str) false),(5,.map .str false .bool false),(6,.map .str false .bool false),(0,.arr .str false)] [] [])]
noncomputable def SX:D prog 19 none 7:=dO [] (pick (kd prog f119) [(0,false)]) 0
noncomputable def gH119_0:Nat×Int×Int×List ByteArray×cI×cN×aP×aP×Unit→bU ((Nat×Int×Int×List ByteArray×cI×cN×aP×aP×Unit) ⊕ ((Int×cI×cN×aP×aP×List ByteArray×Unit) ⊕ ((cI×cN×aP×aP×List ByteArray×Unit)))):=fun (nA,v7,v8,b0,m3,m4,m5,m6,_) =>
 .br (decide (v8<v7)) (
 .nb v8 ((nA:Nat):Int) <|
 .nd (decide (((0:Nat)+(Int.toNat v8))<(b0).length)) <|
 .bd (FH99 ((b0).getD ((0:Nat)+(Int.toNat v8)) (bs [])) m3 m4 m5 m6) fun y0 =>
 .br y0.1 (
 .ret (.inr <| .inl<|(v8,y0.2.1,y0.2.2.1,y0.2.2.2.1,y0.2.2.2.2.1,b0,()))) (
 .ni (v8+(1:Int)) <|
 .ret (.inl (nA,v7,(v8+(1:Int)),b0,y0.2.1,y0.2.2.1,y0.2.2.2.1,y0.2.2.2.2.1,())))) (
 .ret (.inr <| .inr<|(m3,m4,m5,m6,b0,())))
noncomputable def SY:cn prog 19 none 7:=bR mixed OC Ay [0,1,2,3,4,5,6] rfl SU SV rfl (SX) (fun x=>ak (gH119_0 x)) (fun x=>by kernel_rfl)
noncomputable def OD:D prog 19 none 7:=dO [.l SY] (kd prog f119) 0
noncomputable def FH119 (nA:Nat) (b0:List ByteArray) (m3:cI) (m4:cN) (m5:aP) (m6:aP):bU (Int×cI×cN×aP×aP×List ByteArray×Unit) :=
 .bd (.it gH119_0 (nA,((nA:Nat):Int),(0:Int),b0,m3,m4,m5,m6,())) fun z1 =>
 .sm z1 (fun z2 =>
 .ret (z2.1,z2.2.1,z2.2.2.1,z2.2.2.2.1,z2.2.2.2.2.1,z2.2.2.2.2.2.1,())) fun z3 =>
 .ret ((-1:Int),z3.1,z3.2.1,z3.2.2.1,z3.2.2.2.1,z3.2.2.2.2.1,())
theorem OE:cM prog f119=some ⟨19,2,OD.er,[.t 4],[some tI]⟩:=by kernel_rfl
noncomputable def VF:Ht:=⟨119,acZ,ac0,(fun x=>ak (FH119 x.1 x.2.1 x.2.2.1 x.2.2.2.1 x.2.2.2.2.1 x.2.2.2.2.2.1))⟩
theorem OG:VF.Ok prog:=bL mixed Ay rfl func119 OE (enters_of func119 rfl rfl) OD (by kernel_rfl) rfl rfl ⟨_,rfl⟩ rfl (pre:=[0,1,2,3,4,5,6]) rfl (fun x=>by kernel_rfl)

/- 97, lent -/
@[reducible] def pH97:az:=az.mk [(0,.c (.cQ 0 .str)),(1,.fn 99 [] [.ptr 1 0])] [(0,.arr .str false),(1,.cells [.ptr 2 0] false),(2,.cells [.mp 3,.mp 4,.mp 5,.mp 6] false),(3,.map .str false tG true),(4,.map .str false (.list .str) false),(5,.map .str false .bool false),(6,.map .str false .bool false)] [.slot 0,.part 1 0,.cell 1 0,.cell 2 0,.cell 2 1,.cell 2 2,.cell 2 3] []
@[reducible] def qH97:az:=az.mk [(0,.c (.Qt 0 .str))] [(0,.arr .str false),(1,.cells [.ptr 2 0] false),(2,.cells [.mp 3,.mp 4,.mp 5,.mp 6] false),(3,.map .str false tG true),(4,.map .str false (.list .str) false),(5,.map .str false .bool false),(6,.map .str false .bool false)] [] []
noncomputable def VG:Cx:=(aK [] [VF,Yk])
theorem Ee:VG.Ok prog:=av trivial ⟨⟨OG,rfl⟩,⟨II,rfl⟩,trivial⟩
@[reducible] def Yl:az:=az.mk [(0,.c (.cQ 0 .str)),(1,.fn 99 [] [.ptr 1 0]),(5,hI),(6,hI)] [(0,.arr .str false),(1,.cells [.ptr 2 0] false),(2,.cells [.mp 3,.mp 4,.mp 5,.mp 6] false),(3,.map .str false tG true),(4,.map .str false (.list .str) false),(5,.map .str false .bool false),(6,.map .str false .bool false)] [] []
@[reducible] def Ym:aX:=[(.exit 0,az.mk [(0,.c (.cQ 0 .str)),(5,hI)] [(0,.arr .str false),(1,.cells [.ptr 2 0] false),(2,.cells [.mp 3,.mp 4,.mp 5,.mp 6] false),(3,.map .str false tG true),(4,.map .str false (.list .str) false),(5,.map .str false .bool false),(6,.map .str false .bool false)] [] [])]
noncomputable def Yn:D prog 42 none 7:=dO [] (pick (kd prog f97) [(0,false)]) 0
noncomputable def gH97_0:Nat×Int×Int×List ByteArray×cI×cN×aP×aP×Unit→bU ((Nat×Int×Int×List ByteArray×cI×cN×aP×aP×Unit) ⊕ ((Nat×Int×List ByteArray×cI×cN×aP×aP×Unit))):=fun (nA,v5,v6,b0,m3,m4,m5,m6,_) =>
 .br (decide (v6<((nA:Nat):Int))) (
 .nb v6 ((nA:Nat):Int) <|
 .nd (decide (((0:Nat)+(Int.toNat v6))<(b0).length)) <|
 .bd (FH99 ((b0).getD ((0:Nat)+(Int.toNat v6)) (bs [])) m3 m4 m5 m6) fun y1 =>
 .br (!y1.1) (
 .nb v5 ((nA:Nat):Int) <|
 .nd (decide (((0:Nat)+(Int.toNat v5))<(b0).length)) <|
 .ni (v5+(1:Int)) <|
 .ni (v6+(1:Int)) <|
 .ret (.inl (nA,(v5+(1:Int)),(v6+(1:Int)),((b0).set ((0:Nat)+(Int.toNat v5)) ((b0).getD ((0:Nat)+(Int.toNat v6)) (bs []))),y1.2.1,y1.2.2.1,y1.2.2.2.1,y1.2.2.2.2.1,()))) (
 .ni (v6+(1:Int)) <|
 .ret (.inl (nA,v5,(v6+(1:Int)),b0,y1.2.1,y1.2.2.1,y1.2.2.2.1,y1.2.2.2.2.1,())))) (
 .ret (.inr (nA,v5,b0,m3,m4,m5,m6,())))
noncomputable def Yo:cn prog 42 none 7:=bR mixed VG Ee [0,1,2,3,4,5,6] rfl Yl Ym rfl (Yn) (fun x=>ak (gH97_0 x)) (fun x=>by kernel_rfl)
noncomputable def VH:D prog 42 none 7:=dO [.l Yo] (kd prog f97) 0
noncomputable def FH97 (nA:Nat) (b0:List ByteArray) (m3:cI) (m4:cN) (m5:aP) (m6:aP):bU (Nat×Nat×List ByteArray×cI×cN×aP×aP×Unit) :=
 .bd (FH119 nA b0 m3 m4 m5 m6) fun y0 =>
 .br (y0.1==(-1:Int)) (
 .ret ((0:Nat),nA,y0.2.2.2.2.2.1,y0.2.1,y0.2.2.1,y0.2.2.2.1,y0.2.2.2.2.1,())) (
 .ni (y0.1+(1:Int)) <|
 .bd (.it gH97_0 (nA,y0.1,(y0.1+(1:Int)),y0.2.2.2.2.2.1,y0.2.1,y0.2.2.1,y0.2.2.2.1,y0.2.2.2.2.1,())) fun z2 =>
 .nd (decide ((0:Int)≤z2.2.1)) <|
 .nd (decide (z2.2.1≤((z2.1:Nat):Int))) <|
 .nd (decide (((z2.1:Nat):Int)≤((z2.1:Nat):Int))) <|
 .nd (decide ((0:Int)≤(0:Int))) <|
 .nd (decide ((0:Int)≤z2.2.1)) <|
 .nd (decide (z2.2.1≤((z2.1:Nat):Int))) <|
 .ret (((0:Nat)+(Int.toNat (0:Int))),((Int.toNat z2.2.1) - (Int.toNat (0:Int))),(AU (bs []) z2.2.2.1 ((0:Nat)+(Int.toNat z2.2.1)) ((Int.toNat ((z2.1:Nat):Int)) - (Int.toNat z2.2.1))),z2.2.2.2.1,z2.2.2.2.2.1,z2.2.2.2.2.2.1,z2.2.2.2.2.2.2.1,()))
theorem SZ:cM prog f97=some ⟨42,2,VH.er,[.t 4],[some (.list .str)]⟩:=by kernel_rfl
noncomputable def ht97:Ht:=⟨97,pH97,qH97,(fun x=>ak (FH97 x.1 x.2.1 x.2.2.1 x.2.2.2.1 x.2.2.2.2.1 x.2.2.2.2.2.1))⟩
theorem S2:ht97.Ok prog:=bL mixed Ee rfl func97 SZ (enters_of func97 rfl rfl) VH (by kernel_rfl) rfl rfl ⟨_,rfl⟩ rfl (pre:=[0,1,2,3,4,5,6]) rfl (fun x=>by kernel_rfl)

/- 96, lent -/
@[reducible] def kJ:az:=az.mk [(0,.c (.hole .str)),(1,.c (.ptr 0 0)),(2,.c (.ptr 1 0))] [(0,.cells [.ptr 2 0] false),(1,.cells [.fn 96 .nil (.cons (.ptr 0 0) (.cons (.ptr 1 0) .nil))] false),(2,.cells [.mp 3,.mp 4,.mp 5,.mp 6] false),(3,.map .str false tG true),(4,.map .str false (.list .str) false),(5,.map .str false .bool false),(6,.map .str false .bool false)] [.slot 1,.slot 2,.cell 0 0,.cell 2 0,.cell 2 1,.cell 2 2,.cell 2 3] []
@[reducible] def kK:az:=az.mk [(0,.c .any)] [(0,.cells [.ptr 2 0] false),(2,.cells [.mp 3,.mp 4,.mp 5,.mp 6] false),(3,.map .str false tG true),(4,.map .str false (.list .str) false),(5,.map .str false .bool false),(6,.map .str false .bool false),(1,.cells [.fn 96 .nil (.cons (.ptr 0 0) (.cons (.ptr 1 0) .nil))] false)] [] []
noncomputable def OH (rec:kJ.T→Option kK.T):Cx:=(aK [] [⟨96,kJ,kK,rec⟩])
theorem Ef (rec:kJ.T→Option kK.T) (h:Ht.Ok prog ⟨96,kJ,kK,rec⟩):(OH rec).Ok prog:=av trivial ⟨⟨h,rfl⟩,trivial⟩
@[reducible] def Gw:az:=az.mk [(2,.c (.ptr 1 0)),(22,.c (.hole (.list .str))),(23,hI),(24,hI)] [(1,.cells [.fn 96 .nil (.cons (.ptr 0 0) (.cons (.ptr 1 0) .nil))] false),(0,.cells [.ptr 2 0] false),(2,.cells [.mp 3,.mp 4,.mp 5,.mp 6] false),(3,.map .str false tG true),(4,.map .str false (.list .str) false),(5,.map .str false .bool false),(6,.map .str false .bool false)] [] []
@[reducible] def Gx:aX:=[(.exit 0,az.mk [] [(0,.cells [.ptr 2 0] false),(2,.cells [.mp 3,.mp 4,.mp 5,.mp 6] false),(3,.map .str false tG true),(4,.map .str false (.list .str) false),(5,.map .str false .bool false),(6,.map .str false .bool false),(1,.cells [.fn 96 .nil (.cons (.ptr 0 0) (.cons (.ptr 1 0) .nil))] false)] [] [])]
noncomputable def OI (rec:kJ.T→Option kK.T) (h:Ht.Ok prog ⟨96,kJ,kK,rec⟩):D prog 32 none 7:=dO [] (pick (kd prog f96) [(0,false)]) 0
noncomputable def gH96_0:List ByteArray×Int×Int×cI×cN×aP×aP×Unit→Tr kJ.T kK.T ((List ByteArray×Int×Int×cI×cN×aP×aP×Unit) ⊕ ((cI×cN×aP×aP×Unit))):=fun (v22,v23,v24,m3,m4,m5,m6,_) =>
 .br (decide (v24<v23)) (
 .nb v24 (((v22).length:Nat):Int) <|
 .bd (.rc (((v22).getD (Int.toNat v24) (bs [])),m3,m4,m5,m6,())) fun y0 =>
 .ni (v24+(1:Int)) <|
 .ret (.inl (v22,v23,(v24+(1:Int)),y0.1,y0.2.1,y0.2.2.1,y0.2.2.2.1,()))) (
 .ret (.inr (m3,m4,m5,m6,())))
theorem Yp (rec:kJ.T→Option kK.T) (h:Ht.Ok prog ⟨96,kJ,kK,rec⟩):∀x,BJ (jg (Gw.T ⊕ Gx.T)) (OH rec) ez [0,1,2,3,4,5,6] Gw Gx (OI rec h) (fun y=>some (.inl y)) (fun b=>some (.inr b)) x=run rec (gH96_0 x):=fun x=>by kernel_rfl
noncomputable def Yq (rec:kJ.T→Option kK.T) (h:Ht.Ok prog ⟨96,kJ,kK,rec⟩):cn prog 32 none 7:=bR mixed (OH rec) (Ef rec h) [0,1,2,3,4,5,6] rfl Gw Gx rfl (OI rec h) (fun x=>run rec (gH96_0 x)) (Yp rec h)
noncomputable def VI (rec:kJ.T→Option kK.T) (h:Ht.Ok prog ⟨96,kJ,kK,rec⟩):D prog 32 none 7:=dO [.l (Yq rec h)] (kd prog f96) 0
noncomputable def FH96 (v0:ByteArray) (m3:cI) (m4:cN) (m5:aP) (m6:aP):Tr kJ.T kK.T (cI×cN×aP×aP×Unit) :=
 .br (ax .str false m6 v0) (
 .ret (m3,m4,m5,m6,())) (
 .bd (.it gH96_0 ((ax .str [] m4 v0),((((ax .str [] m4 v0)).length:Nat):Int),(0:Int),m3,m4,m5,(aU .str m6 v0 true),())) fun z1 =>
 .ret (z1.1,z1.2.1,z1.2.2.1,z1.2.2.2.1,()))
theorem S4 (rec:kJ.T→Option kK.T) (h:Ht.Ok prog ⟨96,kJ,kK,rec⟩):cM prog f96=some ⟨32,3,(VI rec h).er,[],[]⟩:=by kernel_rfl
theorem Kx (rec:kJ.T→Option kK.T) (h:Ht.Ok prog ⟨96,kJ,kK,rec⟩):Ht.Ok prog ⟨96,kJ,kK,(fun x=>run rec (FH96 x.1 x.2.1 x.2.2.1 x.2.2.2.1 x.2.2.2.2.1))⟩:=bL mixed (Ef rec h) rfl func96 (S4 rec h) (enters_of func96 rfl rfl) (VI rec h) (by kernel_rfl) rfl rfl ⟨_,rfl⟩ rfl (pre:=[0,1,2,3,4,5,6]) rfl (fun x=>by kernel_rfl)
noncomputable def FH96fix (v0:ByteArray) (m3:cI) (m4:cN) (m5:aP) (m6:aP):bU (cI×cN×aP×aP×Unit):=.fx (A1:=kJ.T) (B1:=kK.T) (fun x=>FH96 x.1 x.2.1 x.2.2.1 x.2.2.2.1 x.2.2.2.2.1) (v0,m3,m4,m5,m6,())
noncomputable def ht96:Ht:=⟨96,kJ,kK,fun x=>ak (FH96fix x.1 x.2.1 x.2.2.1 x.2.2.2.1 x.2.2.2.2.1)⟩
theorem S5:ht96.Ok prog:=NF (F:=fun rec x=>run rec (FH96 x.1 x.2.1 x.2.2.1 x.2.2.2.1 x.2.2.2.2.1)) (fun rec h=>Kx rec h)

/- 66, lent -/
@[reducible] def pH66:az:=az.mk [(0,.c (.ptr 0 0))] [(0,.cells [.mp 1] false),(1,.map tG true .bool false)] [.slot 0,.cell 0 0] []
@[reducible] def qH66:az:=az.mk [(0,.c (.ptr 2 0))] [(2,.cells [.mp 3,.mp 4,.mp 5,.mp 6] false),(0,.cells [.mp 1] false),(1,.map tG true .bool false),(3,.map .str false tG true),(4,.map .str false (.list .str) false),(5,.map .str false .bool false),(6,.map .str false .bool false)] [.slot 0,.cell 2 0,.cell 2 1,.cell 2 2,.cell 2 3] []
noncomputable def IJ:Cx:=(aK [] [Yi,Ox,Oz,Yj,ht97,ht96])
theorem rY:IJ.Ok prog:=av trivial ⟨⟨ID,rfl⟩,⟨vq,rfl⟩,⟨vu,rfl⟩,⟨IG,rfl⟩,⟨S2,rfl⟩,⟨S5,rfl⟩,trivial⟩
@[reducible] def Yr:az:=az.mk [(3,.c (.ptr 2 0)),(26,.c (.cQ 3 tG)),(27,hI),(28,hI)] [(2,.cells [.ptr 4 0] false),(3,.arr tG false),(0,.cells [.mp 1] false),(1,.map tG true .bool false),(4,.cells [.mp 5,.mp 6,.mp 7,.mp 8] false),(5,.map .str false tG true),(6,.map .str false (.list .str) false),(7,.map .str false .bool false),(8,.map .str false .bool false)] [.slot 3,.slot 26,.cell 2 0,.cell 4 0,.cell 4 1,.cell 4 2,.cell 4 3] []
@[reducible] def Ys:aX:=[(.exit 0,az.mk [(3,.c (.ptr 2 0))] [(2,.cells [.ptr 3 0] false),(0,.cells [.mp 1] false),(1,.map tG true .bool false),(3,.cells [.mp 4,.mp 5,.mp 6,.mp 7] false),(4,.map .str false tG true),(5,.map .str false (.list .str) false),(6,.map .str false .bool false),(7,.map .str false .bool false)] [.slot 3,.cell 2 0,.cell 3 0,.cell 3 1,.cell 3 2,.cell 3 3] [])]
noncomputable def Yt:D prog 148 none 2:=dO [] (pick (kd prog f66) [(0,false)]) 0
noncomputable def gH66_0:Nat×Int×Int×(List (GG))×(List ((GG)×Bool))×cI×cN×aP×aP×Unit→bU ((Nat×Int×Int×(List (GG))×(List ((GG)×Bool))×cI×cN×aP×aP×Unit) ⊕ (((List ((GG)×Bool))×cI×cN×aP×aP×Unit))):=fun (Yu,v27,v28,b3,m1,m5,m6,m7,m8,_) =>
 .br (decide (v28<v27)) (
 .nb v28 ((Yu:Nat):Int) <|
 .nd (decide (((0:Nat)+(Int.toNat v28))<(b3).length)) <|
 .br (!(aM .str m5 ((b3).getD ((0:Nat)+(Int.toNat v28)) ((bs []),(0:Int),(bs []),(bs []),(0:Int))).1)) (
 .ni (v28+(1:Int)) <|
 .ret (.inl (Yu,v27,(v28+(1:Int)),b3,m1,(aU .str m5 ((b3).getD ((0:Nat)+(Int.toNat v28)) ((bs []),(0:Int),(bs []),(bs []),(0:Int))).1 (((b3).getD ((0:Nat)+(Int.toNat v28)) ((bs []),(0:Int),(bs []),(bs []),(0:Int))).1,((b3).getD ((0:Nat)+(Int.toNat v28)) ((bs []),(0:Int),(bs []),(bs []),(0:Int))).2.1,((b3).getD ((0:Nat)+(Int.toNat v28)) ((bs []),(0:Int),(bs []),(bs []),(0:Int))).2.2.1,((b3).getD ((0:Nat)+(Int.toNat v28)) ((bs []),(0:Int),(bs []),(bs []),(0:Int))).2.2.2.1,((b3).getD ((0:Nat)+(Int.toNat v28)) ((bs []),(0:Int),(bs []),(bs []),(0:Int))).2.2.2.2)),m6,m7,m8,()))) (
 .ni (v28+(1:Int)) <|
 .ret (.inl (Yu,v27,(v28+(1:Int)),b3,m1,m5,m6,m7,m8,())))) (
 .ret (.inr (m1,m5,m6,m7,m8,())))
noncomputable def Yv:cn prog 148 none 2:=bR mixed IJ rY [0,1] rfl Yr Ys rfl (Yt) (fun x=>ak (gH66_0 x)) (fun x=>by kernel_rfl)
@[reducible] def qA:az:=az.mk [(3,.c (.ptr 2 0)),(57,.c (.cQ 3 .str)),(58,hI),(59,hI)] [(2,.cells [.ptr 4 0] false),(3,.arr .str false),(0,.cells [.mp 1] false),(1,.map tG true .bool false),(4,.cells [.mp 5,.mp 6,.mp 7,.mp 8] false),(5,.map .str false tG true),(6,.map .str false (.list .str) false),(7,.map .str false .bool false),(8,.map .str false .bool false)] [.slot 3,.slot 57,.cell 2 0,.cell 4 0,.cell 4 1,.cell 4 2,.cell 4 3] []
@[reducible] def tC:aX:=[(.exit 2,az.mk [(3,.c (.ptr 2 0))] [(2,.cells [.ptr 3 0] false),(0,.cells [.mp 1] false),(1,.map tG true .bool false),(3,.cells [.mp 4,.mp 5,.mp 6,.mp 7] false),(4,.map .str false tG true),(5,.map .str false (.list .str) false),(6,.map .str false .bool false),(7,.map .str false .bool false)] [.slot 3,.cell 2 0,.cell 3 0,.cell 3 1,.cell 3 2,.cell 3 3] [])]
noncomputable def Yw:D prog 148 none 2:=dO [] (pick (kd prog f66) [(1,false)]) 0
noncomputable def gH66_1:Nat×Int×Int×List ByteArray×(List ((GG)×Bool))×cI×cN×aP×aP×Unit→bU ((Nat×Int×Int×List ByteArray×(List ((GG)×Bool))×cI×cN×aP×aP×Unit) ⊕ (((List ((GG)×Bool))×cI×cN×aP×aP×Unit))):=fun (dM,v58,v59,b3,m1,m5,m6,m7,m8,_) =>
 .br (decide (v59<v58)) (
 .nb v59 ((dM:Nat):Int) <|
 .nd (decide (((0:Nat)+(Int.toNat v59))<(b3).length)) <|
 .br ((ax .str ((bs []),(0:Int),(bs []),(bs []),(0:Int)) m5 ((b3).getD ((0:Nat)+(Int.toNat v59)) (bs []))).2.1==(3:Int)) (
 .ni (v59+(1:Int)) <|
 .ret (.inl (dM,v58,(v59+(1:Int)),b3,m1,m5,m6,(aU .str m7 (ax .str ((bs []),(0:Int),(bs []),(bs []),(0:Int)) m5 ((b3).getD ((0:Nat)+(Int.toNat v59)) (bs []))).2.2.1 true),m8,()))) (
 .br ((ax .str ((bs []),(0:Int),(bs []),(bs []),(0:Int)) m5 ((b3).getD ((0:Nat)+(Int.toNat v59)) (bs []))).2.1==(2:Int)) (
 .nd (decide (((ax .str [] m6 (ax .str ((bs []),(0:Int),(bs []),(bs []),(0:Int)) m5 ((b3).getD ((0:Nat)+(Int.toNat v59)) (bs []))).2.2.1)).length+1<cu)) <|
 .ni (v59+(1:Int)) <|
 .ret (.inl (dM,v58,(v59+(1:Int)),b3,m1,m5,(aU .str m6 (ax .str ((bs []),(0:Int),(bs []),(bs []),(0:Int)) m5 ((b3).getD ((0:Nat)+(Int.toNat v59)) (bs []))).2.2.1 ((ax .str [] m6 (ax .str ((bs []),(0:Int),(bs []),(bs []),(0:Int)) m5 ((b3).getD ((0:Nat)+(Int.toNat v59)) (bs []))).2.2.1)++(((b3).getD ((0:Nat)+(Int.toNat v59)) (bs []))::[]))),m7,m8,()))) (
 .ni (v59+(1:Int)) <|
 .ret (.inl (dM,v58,(v59+(1:Int)),b3,m1,m5,m6,m7,m8,()))))) (
 .ret (.inr (m1,m5,m6,m7,m8,())))
/-! The loop in which lists grow that lie in a map, by hand. -/
@[reducible] def tD:Ty:=.prod .str (.prod tI (.prod .str (.prod .str tI)))
def gr (b3:List ByteArray) (m1:List (tD.den×Bool)) (m5:List (ByteArray×tD.den)) (m7 m8:aP):ai :=
 [(2,.cells [.ptr 4 0] false),(3,.arr .str b3 false),(0,.cells [.mp 1] false),(1,.map tD true .bool false m1),(4,.cells [.mp 5,.mp 6,.mp 7,.mp 8] false),(5,.map .str false tD true m5),(7,.map .str false .bool false m7),(8,.map .str false .bool false m8)]
def xR (dM:Nat) (v58 v59:Int):Env:=[(3,.ptr 2 0),(57,.sl 3 .str 0 dM),(58,.int .i64 v58),(59,.int .i64 v59)]
def I66 (x:qA.T):St:=⟨xR x.1 x.2.1 x.2.2.1,⟨9,gr x.2.2.2.1 x.2.2.2.2.1 x.2.2.2.2.2.1 x.2.2.2.2.2.2.2.1 x.2.2.2.2.2.2.2.2.1⟩,[]⟩
def Gy:C:=.aO [.op (some 97) none (.bin .add (.t 59) (.c (.int .i64 (Int.ofNat 1)))),.op (some 59) none (.mv (.t 97))]
def Yx : C := .draw [[], [0], [0, 1], [0, 1, 2], [], [4], [0, 1, 2, 3, 4, 5]]
 [.op (some 73) none (.load false 1 (.t 3)),.op (some 74) none (.ex .iQ [.t 73]),.op (some 75) none (.mL 2 [true,true,false] (.t 74)),.op (some 76) none (.load false 1 (.t 75)),.op (some 77) none (.mL 2 [true,true,false] (.t 10)),.op (some 78) none (.load false 1 (.t 77)),
 .op none none (.ex (.iy .str false .bool false) [.t 76,.t 78,.c (.tf true)])]
def in66 : C := .block 4 (.seq (.aO [.op (some 72) none (.bin .eql (.t 70) (.c (.int .i64 (Int.ofNat 3)))), .op (some 71) none (.mv (.t 72))])
 (.cond (.t 71) Yx (.seq (.aO [.op (some 80) none (.bin .eql (.t 70) (.c (.int .i64 (Int.ofNat 2)))),.op (some 79) none (.mv (.t 80))]) (.cond (.t 79) (.draw nw D6) .skip))))
def VJ : C := .seq (.block 3 (.seq (.aO [.op (some 61) none (.idx 1 (.t 57) (.t 59)), .op (some 62) none (.load false 1 (.t 61)), .op (some 9) none (.mv (.t 62))])
 (.seq (.aO [.op (some 63) none (.load false 1 (.t 3)),.op (some 64) none (.ex .iQ [.t 63]),.op (some 65) none (.mL 0 [false] (.t 64)),.op (some 66) none (.load false 1 (.t 65)),.op (some 67) none (.mv (.t 9)),
 .op (some 68) none (.ex (.gb .str false tD true false) [.t 66,.t 67]),.op (some 10) none (.alloc [.str ⟨⟨[]⟩⟩,.int .i64 (Int.ofNat 0),.str ⟨⟨[]⟩⟩,.str ⟨⟨[]⟩⟩,.int .i64 (Int.ofNat 0)]),.op none none (.store 5 (.t 10) (.t 68))])
 (.seq (.aO [.op (some 69) none (.mL 1 [true,false] (.t 10)),.op (some 70) none (.load false 1 (.t 69))]) in66)))) Gy
def c66:C:=.seq (.aO [.op (some 60) none (.bin .lss (.t 59) (.t 58))]) (.seq (.cond (.t 60) .skip (.exit 2)) VJ)
theorem ac4 {dM : Nat} {v58 v59 : Int} {b3 : List ByteArray} {m1 : List (tD.den × Bool)} {m5 : List (ByteArray × tD.den)} {m7 m8 : aP} {env : Env} {nx : Nat} {bl : ai}
    (h3:get 3 env = .ptr 2 0) (h57:get 57 env = .sl 3 .str 0 dM) (h58:get 58 env = .int .i64 v58) (h59:get 59 env = .int .i64 v59) (hb:∀p∈gr b3 m1 m5 m7 m8,aq p.1 bl=some p.2) :
    jm 2 (List.range 9) ⟨env,⟨nx,bl⟩,[]⟩ ⟨xR dM v58 v59,⟨9,gr b3 m1 m5 m7 m8⟩,[]⟩:=by
  refine Kv (by omega) rfl rfl rfl (fun p hp=>?_) (fun p hp=>?_)
  · simp only [xR, List.mem_cons, List.not_mem_nil, or_false] at hp
    rcases hp with rfl|rfl|rfl|rfl
    · rw [h3];exact .ptr 2 2 0 rfl
    · rw [h57];exact .sl 3 3 .str 0 dM rfl
    · rw [h58];exact .int _ _
    · rw [h59];exact .int _ _
  · have hg := hb p hp
    simp only [gr,List.mem_cons,List.not_mem_nil,or_false] at hp
    rcases hp with rfl|rfl|rfl|rfl|rfl|rfl|rfl|rfl
    · exact ⟨by omega,2,rfl,_,hg,.cons (.ptr 4 4 0 rfl) .nil⟩
    · exact ⟨by omega,3,rfl,.inl hg⟩
    · exact ⟨by omega,0,rfl,_,hg,.cons (.mp 1 1 rfl) .nil⟩
    · exact ⟨by omega,1,rfl,hg⟩
    · exact ⟨by omega,4,rfl,_,hg,.cons (.mp 5 5 rfl) (.cons (.mp 6 6 rfl) (.cons (.mp 7 7 rfl) (.cons (.mp 8 8 rfl) .nil)))⟩
    · exact ⟨by omega,5,rfl,hg⟩
    · exact ⟨by omega,7,rfl,hg⟩
    · exact ⟨by omega,8,rfl,hg⟩
def P66:qA.T ⊕ tC.T→Ex→St→cN→Prop:=GRnd 6 2 I66 (fun x=>x.2.2.2.2.2.2.1) (tC.st 2) (fun b=>b.2.2.1)
theorem OJ {dM : Nat} {v58 v59 : Int} {b3 : List ByteArray} {m1 : List (tD.den × Bool)} {m5 : List (ByteArray × tD.den)} {m6 : cN} {m7 m8 : aP} {env : Env} {nx : Nat} {bl : ai} (u : Unit) (hi : gG .i64 (v59 + 1) = true)
    (h3:get 3 env = .ptr 2 0) (h57:get 57 env = .sl 3 .str 0 dM) (h58:get 58 env = .int .i64 v58) (h59:get 59 env = .int .i64 v59) (hb:∀p∈gr b3 m1 m5 m7 m8,aq p.1 bl=some p.2) :
    gC prog 148 none 6 Gy ⟨env,⟨nx,bl⟩,[]⟩ m6 (P66 (.inl (dM,v58,v59+1,b3,m1,m5,m6,m7,m8,u))):=by
  refine D8 (env':=(59,.int .i64 (v59+1))::(97,.int .i64 (v59+1))::env) (Fj:=nx) (bJ:=bl) (ms':=[]) mixed (fun _=>rfl) (fun base=>?_) ⟨rfl,rfl,List.range 9,rfl,ac4 h3 h57 h58 rfl hb⟩
  refine Eq.trans (b:=need (gG .i64 (v59+1)) (some (Ex.normal,(59,.int .i64 (v59+1))::(97,.int .i64 (v59+1))::env,nx,bl,[]))) ?_ (by rw [gQ hi])
  have h1:UQ ez (.bin .add (.t 59) (.c (.int .i64 (Int.ofNat 1)))) env bl nx=some ([gG .i64 (v59+1)],.int .i64 (v59+1),[]):=by
    show (match (O.t 59).ev env,(O.c (V.int .i64 (Int.ofNat 1))).ev env with
      | .int k a,.int k' b=>_
      | .str a,.str b=>_
      |_,_=>_)=_
    rw [show (O.t 59).ev env = .int .i64 v59 from h59]
    rfl
  show (match UQ ez (.bin .add (.t 59) (.c (.int .i64 (Int.ofNat 1)))) env bl nx with
    |some (ob,v,u)=>_
    |none=>_)=_
  rw [h1]
  rfl
def IK (dM:Nat) (v58 v59:Int):Env:=(60,.tf true)::(60,.bool (decide (v59<v58)))::xR dM v58 v59
def rZ (dM:Nat) (v58 v59:Int) (id:ByteArray) (m:tD.den):Env :=
 (70,.int .i64 m.2.1)::(69,.ptr 9 1)::(10,.ptr 9 0)::(68,.agg [.str m.1,.int .i64 m.2.1,.str m.2.2.1,.str m.2.2.2.1,.int .i64 m.2.2.2.2])::(67,.str id)::(66,.mp 5)::(65,.ptr 4 0)::(64,.ptr 4 0)::(63,.ptr 4 0) ::
 (9,.str id)::(62,.str id)::(61,.ep 3 .str (0+Int.toNat v59) [])::IK dM v58 v59
/-- Up to the switch. -/
theorem xS {dM : Nat} {v58 v59 : Int} {b3 : List ByteArray} {m1 : List (tD.den × Bool)} {m5 : List (ByteArray × tD.den)} {m6 : cN} {m7 m8 : aP} {Q R : Ex → St → cN → Prop}
    (iX:fu v59 (dM:Int)=true) (eM:decide (0+Int.toNat v59<b3.length)=true) {id:ByteArray} {m:tD.den} (hid:id=b3.getD (0+Int.toNat v59) (bs [])) (hm:m=ax .str (bs [],(0:Int),bs [],bs [],(0:Int)) m5 id)
    (hin:gC prog 148 none 6 in66 ⟨rZ dM v58 v59 id m,⟨10,(9,.cells [.str m.1,.int .i64 m.2.1,.str m.2.2.1,.str m.2.2.2.1,.int .i64 m.2.2.2.2] false)::gr b3 m1 m5 m7 m8⟩,[]⟩ m6 fun e S' es'=>e = .normal∧R .normal S' es')
    (h18:∀S' es',R .normal S' es'→gC prog 148 none 6 Gy S' es' Q):gC prog 148 none 6 VJ ⟨IK dM v58 v59,⟨9,gr b3 m1 m5 m7 m8⟩,[]⟩ m6 Q:=by
  subst hm;subst hid
  refine Is (Q1:=fun e S' es'=>e = .normal∧R .normal S' es') (fun _ _ h=>by cases h) (vl (Q1:=fun e S' es'=>e = .normal∧R .normal S' es') ?_ (fun _ _ h=>h) (fun i _ _ h=>by cases h.1) (fun _ _ h=>by cases h.1)) (fun S' es' hq=>h18 _ _ hq.2) (fun i S' es' hq=>by cases hq.1) (fun S' es' hq=>by cases hq.1)
  generalize hE3:((9,V.str (b3.getD (0+Int.toNat v59) (bs [])))::(62,V.str (b3.getD (0+Int.toNat v59) (bs [])))::(61,V.ep 3 .str (0+Int.toNat v59) [])::IK dM v58 v59:Env)=e3
  refine fQ (env':=e3) (Fj:=9) (bJ:=gr b3 m1 m5 m7 m8) (ms':=[]) mixed (fun base=>Eq.trans (b:=need (fu v59 (dM:Int)) (need (decide (0+Int.toNat v59<b3.length)) (some (Ex.normal,e3,9,gr b3 m1 m5 m7 m8,[])))) (by subst hE3;kernel_rfl) (by rw [gQ iX,gQ eM])) ?_
  subst hE3
  refine fQ (Fj := 10) (ms' := []) (bJ := (9, .cells [.str (ax .str (bs [], (0 : Int), bs [], bs [], (0 : Int)) m5 (b3.getD (0 + Int.toNat v59) (bs []))).1, .int .i64 (ax .str (bs [], (0 : Int), bs [], bs [], (0 : Int)) m5 (b3.getD (0 + Int.toNat v59) (bs []))).2.1, .str (ax .str (bs [], (0 : Int), bs [], bs [], (0 : Int)) m5 (b3.getD (0 + Int.toNat v59) (bs []))).2.2.1, .str (ax .str (bs [], (0 : Int), bs [], bs [], (0 : Int)) m5 (b3.getD (0 + Int.toNat v59) (bs []))).2.2.2.1, .int .i64 (ax .str (bs [], (0 : Int), bs [], bs [], (0 : Int)) m5 (b3.getD (0 + Int.toNat v59) (bs []))).2.2.2.2] false) :: gr b3 m1 m5 m7 m8)
    (env':=(rZ dM v58 v59 (b3.getD (0+Int.toNat v59) (bs [])) (ax .str (bs [],(0:Int),bs [],bs [],(0:Int)) m5 (b3.getD (0+Int.toNat v59) (bs [])))).drop 2) mixed (fun base=>by kernel_rfl) ?_
  exact fQ (Fj:=10) (ms':=[]) mixed (fun base=>by kernel_rfl) hin
theorem Yy:∀(x:qA.T) (r:qA.T ⊕ tC.T),ak (gH66_1 x)=some r→gC prog 148 none 6 c66 (I66 x) x.2.2.2.2.2.2.1 (P66 r):=by
  rintro ⟨dM,v58,v59,b3,m1,m5,m6,m7,m8,u⟩ r hr
  have hr:um (decide (v59<v58)) _ _=some r:=hr
  rcases iG hr with ⟨hlt,hr⟩|⟨hlt,hr⟩
  · obtain ⟨iX, hr⟩ := cR hr
    obtain ⟨eM,hr⟩:=cR hr
    refine fQ (env':=(60,.bool (decide (v59<v58)))::xR dM v58 v59) (Fj:=9) (bJ:=gr b3 m1 m5 m7 m8) (ms':=[]) mixed (fun base=>by kernel_rfl) ?_
    refine Is (Q1:=fun e S' es'=>e = .normal∧S'=⟨IK dM v58 v59,⟨9,gr b3 m1 m5 m7 m8⟩,[]⟩∧es'=m6) (fun _ _ h=>by cases h) (qx (t:=true) (by show V.bool _=_;rw [hlt]) (D8 mixed (fun _=>rfl) (fun base=>by kernel_rfl) ⟨rfl,rfl,rfl⟩)) (fun S' es' hq=>?_) (fun i S' es' hq=>by cases hq.1) (fun S' es' hq=>by cases hq.1)
    obtain ⟨-,rfl,rfl⟩:=hq
    obtain ⟨id,hid⟩:∃id,id=b3.getD (0+Int.toNat v59) (bs []):=⟨_,rfl⟩
    obtain ⟨m,hm⟩:∃m,m=ax .str (bs [],(0:Int),bs [],bs [],(0:Int)) m5 id:=⟨_,rfl⟩
    rw [←hid,←hm] at hr
    have hr:um (m.2.1==3) _ _=some r:=hr
    rcases iG hr with ⟨h3,hr⟩|⟨h3,hr⟩
    · obtain ⟨hi, hr⟩ := cR hr
      cases hr
      refine xS (R:=fun _ S' Fg=>Fg=es'∧S'=⟨(78,.str m.2.2.1)::(77,.ptr 9 2)::(76,.mp 7)::(75,.ptr 4 2)::(74,.ptr 4 0)::(73,.ptr 4 0)::(71,.tf true)::(71,.bool (m.2.1==3))::(72,.bool (m.2.1==3))::rZ dM v58 v59 id m,⟨17,(7,.map .str false .bool false (aU .str m7 m.2.2.1 true))::(9,.cells [.str m.1,.int .i64 m.2.1,.str m.2.2.1,.str m.2.2.2.1,.int .i64 m.2.2.2.2] false)::bn 7 (gr b3 m1 m5 m7 m8)⟩,[]⟩) iX eM hid hm ?_ ?_
      · refine vl (Q1 := fun e S' Fg => e = .normal ∧ (Fg = es' ∧ S' = _)) ?_ (fun _ _ h => h) (fun i _ _ h => by cases h.1) (fun _ _ h => by cases h.1)
        refine fQ (env':=(71,.bool (m.2.1==3))::(72,.bool (m.2.1==3))::rZ dM v58 v59 id m) (Fj:=10) (ms':=[]) (bJ:=(9,.cells [.str m.1,.int .i64 m.2.1,.str m.2.2.1,.str m.2.2.2.1,.int .i64 m.2.2.2.2] false)::gr b3 m1 m5 m7 m8) mixed (fun base=>by kernel_rfl) ?_
        refine qx (t:=true) (by show V.bool _=_;rw [h3]) ?_
        exact D8 mixed (fun _=>rfl) (fun base=>by kernel_rfl) ⟨rfl,rfl,rfl⟩
      · rintro S' Fg ⟨rfl, rfl⟩
        refine OJ u hi rfl rfl rfl rfl fun p hp=>?_
        simp only [gr,List.mem_cons,List.not_mem_nil,or_false] at hp
        rcases hp with rfl|rfl|rfl|rfl|rfl|rfl|rfl|rfl<;>rfl
    · have hr : um (m.2.1 == 2) _ _ = some r := hr
      rcases iG hr with ⟨h2,hr⟩|⟨h2,hr⟩
      · obtain ⟨lV, hr⟩ := cR hr
        obtain ⟨hi,hr⟩:=cR hr
        cases hr
        refine xS (R:=fun _ S' Fg=>Fg=aU .str es' m.2.2.1 (ax .str [] es' m.2.2.1++[id])∧S'=⟨xR dM v58 v59,⟨28,gr b3 m1 m5 m7 m8⟩,[]⟩) iX eM hid hm ?_ ?_
        · refine vl (Q1 := fun e S' Fg => e = .normal ∧ (Fg = _ ∧ S' = _)) ?_ (fun _ _ h => h) (fun i _ _ h => by cases h.1) (fun _ _ h => by cases h.1)
          refine fQ (env':=(71,.bool (m.2.1==3))::(72,.bool (m.2.1==3))::rZ dM v58 v59 id m) (Fj:=10) (ms':=[]) (bJ:=(9,.cells [.str m.1,.int .i64 m.2.1,.str m.2.2.1,.str m.2.2.2.1,.int .i64 m.2.2.2.2] false)::gr b3 m1 m5 m7 m8) mixed (fun base=>by kernel_rfl) ?_
          refine qx (t:=false) (by show V.bool _=_;rw [h3]) ?_
          refine fQ (env':=(79,.bool (m.2.1==2))::(80,.bool (m.2.1==2))::(71,.tf false)::(71,.bool (m.2.1==3))::(72,.bool (m.2.1==3))::rZ dM v58 v59 id m) (Fj:=10) (ms':=[]) (bJ:=(9,.cells [.str m.1,.int .i64 m.2.1,.str m.2.2.1,.str m.2.2.2.1,.int .i64 m.2.2.2.2] false)::gr b3 m1 m5 m7 m8) mixed (fun base=>by kernel_rfl) ?_
          refine qx (t:=true) (by show V.bool _=_;rw [h2]) ?_
          refine NU (NZ (c2:=2) (c4:=4) (c9:=9) (k:=m.2.2.1) (x:=id) (env':=xR dM v58 v59) (bJ:=gr b3 m1 m5 m7 m8) mixed rfl rfl rfl rfl rfl rfl (of_decide_eq_true lV) (fun i B hB=>?_) (fun t=>?_)) fun e S' Fg hq=>⟨hq.1,hq.2.2,hq.2.1⟩
          · have hm := dw hB
            simp only [gr,List.mem_cons,List.not_mem_nil,or_false,Prod.mk.injEq] at hm
            rcases hm with ⟨rfl,rfl⟩|⟨rfl,rfl⟩|⟨rfl,rfl⟩|⟨rfl,rfl⟩|⟨rfl,rfl⟩|⟨rfl,rfl⟩|⟨rfl,rfl⟩|⟨rfl,rfl⟩<;>rfl
          · by_cases ht : t = 3 ∨ t = 57 ∨ t = 58 ∨ t = 59
            · rcases ht with rfl|rfl|rfl|rfl<;>exact .inr ⟨rfl,by omega⟩
            · refine .inl (get_none ?_)
              simp only [xR,List.map_cons,List.map_nil,List.mem_cons,List.not_mem_nil,or_false]
              omega
        · rintro S' Fg ⟨rfl, rfl⟩
          refine OJ u hi rfl rfl rfl rfl fun p hp=>?_
          simp only [gr,List.mem_cons,List.not_mem_nil,or_false] at hp
          rcases hp with rfl|rfl|rfl|rfl|rfl|rfl|rfl|rfl<;>rfl
      · obtain ⟨hi, hr⟩ := cR hr
        cases hr
        refine xS (R:=fun _ S' Fg=>Fg=es'∧S'=⟨(79,.tf false)::(79,.bool (m.2.1==2))::(80,.bool (m.2.1==2))::(71,.tf false)::(71,.bool (m.2.1==3))::(72,.bool (m.2.1==3))::rZ dM v58 v59 id m,⟨10,(9,.cells [.str m.1,.int .i64 m.2.1,.str m.2.2.1,.str m.2.2.2.1,.int .i64 m.2.2.2.2] false)::gr b3 m1 m5 m7 m8⟩,[]⟩) iX eM hid hm ?_ ?_
        · refine vl (Q1 := fun e S' Fg => e = .normal ∧ (Fg = es' ∧ S' = _)) ?_ (fun _ _ h => h) (fun i _ _ h => by cases h.1) (fun _ _ h => by cases h.1)
          refine fQ (env':=(71,.bool (m.2.1==3))::(72,.bool (m.2.1==3))::rZ dM v58 v59 id m) (Fj:=10) (ms':=[]) (bJ:=(9,.cells [.str m.1,.int .i64 m.2.1,.str m.2.2.1,.str m.2.2.2.1,.int .i64 m.2.2.2.2] false)::gr b3 m1 m5 m7 m8) mixed (fun base=>by kernel_rfl) ?_
          refine qx (t:=false) (by show V.bool _=_;rw [h3]) ?_
          refine fQ (env':=(79,.bool (m.2.1==2))::(80,.bool (m.2.1==2))::(71,.tf false)::(71,.bool (m.2.1==3))::(72,.bool (m.2.1==3))::rZ dM v58 v59 id m) (Fj:=10) (ms':=[]) (bJ:=(9,.cells [.str m.1,.int .i64 m.2.1,.str m.2.2.1,.str m.2.2.2.1,.int .i64 m.2.2.2.2] false)::gr b3 m1 m5 m7 m8) mixed (fun base=>by kernel_rfl) ?_
          refine qx (t:=false) (by show V.bool _=_;rw [h2]) ?_
          exact D8 mixed (fun _=>rfl) (fun base=>by kernel_rfl) ⟨rfl,rfl,rfl⟩
        · rintro S' Fg ⟨rfl, rfl⟩
          refine OJ u hi rfl rfl rfl rfl fun p hp=>?_
          simp only [gr,List.mem_cons,List.not_mem_nil,or_false] at hp
          rcases hp with rfl|rfl|rfl|rfl|rfl|rfl|rfl|rfl<;>rfl
  · cases hr
    refine fQ (env':=(60,.bool (decide (v59<v58)))::xR dM v58 v59) (Fj:=9) (bJ:=gr b3 m1 m5 m7 m8) (ms':=[]) mixed (fun base=>by kernel_rfl) ?_
    refine Is (Q1:=fun e S' es'=>e = .exit 2∧S'=⟨(60,.tf false)::(60,.bool (decide (v59<v58)))::xR dM v58 v59,⟨9,gr b3 m1 m5 m7 m8⟩,[]⟩∧es'=m6) (fun _ _ h=>by cases h) (qx (t:=false) (by show V.bool _=_;rw [hlt]) ?_) (fun S' es' hq=>by cases hq.1) (fun i S' es' hq=>?_) (fun S' es' hq=>by cases hq.1)
    · exact D8 mixed (fun _=>rfl) (fun base=>by kernel_rfl) ⟨rfl,rfl,rfl⟩
    · obtain ⟨h1, rfl, rfl⟩ := hq
      cases h1
      refine ⟨by simp,rfl,by show 6<9;omega,rfl,?_⟩
      obtain ⟨b',π,h1,h2,h3⟩:=aX.dH (base:=2) (xs:=tC) (e:=.exit 2) (k:=fun x=>some x) (r:=(m1,m5,es',m7,m8,u)) (env:=(60,.tf false)::(60,.bool (decide (v59<v58)))::xR dM v58 v59) (nx:=9) (bl:=(6,.map .str false (.list .str) false es')::bn 6 (gr b3 m1 m5 m7 m8)) (ms:=[]) (by kernel_rfl)
      cases h1
      exact ⟨π,h3⟩
noncomputable def Yz:cn prog 148 none 2 where
  c:=(Yw).er
  run kz env nx bl ms K:=qA.rd kz.no [0,1] 2 env nx bl ms fun x=>kz.nd x.2.2.2.2.2.2.1.isEmpty (kz.bd (iter (fun x=>ak (gH66_1 x)) x) fun b=>tC.go kz 2 b K)
  ok:=by
    intro X env nx bl ms K r h Q hQ
    obtain ⟨x,π,h1,h2⟩:=az.dH (base:=2) (show az.rd none (List.range 2) 2 qA _ _ _ _ _=some r from h)
    obtain ⟨hemp,h1⟩:=cR h1
    obtain ⟨b,h3,h4⟩:=o9 h1
    have h5:=aX.Af h4
    intro body hbody Y ι μ a w ho hb hR
    have qI:=h2.rep hb hR
    obtain ⟨dM,v58,v59,b3,m1,m5,m6,m7,m8,u⟩:=x
    have hm:m6=[]:=List.isEmpty_iff.1 hemp
    subst hm
    have qH:∀id B,aq id (gr b3 m1 m5 m7 m8)=some B→aq id (qA.st 2 (dM,v58,v59,b3,m1,m5,[],m7,m8,u)).H.bl=some B∧id≠6:=by
      intro id B hB
      have hm:=dw hB
      simp only [gr,List.mem_cons,List.not_mem_nil,or_false,Prod.mk.injEq] at hm
      rcases hm with ⟨rfl,rfl⟩|⟨rfl,rfl⟩|⟨rfl,rfl⟩|⟨rfl,rfl⟩|⟨rfl,rfl⟩|⟨rfl,rfl⟩|⟨rfl,rfl⟩|⟨rfl,rfl⟩<;>exact ⟨rfl,by omega⟩
    obtain ⟨hI,hG⟩:=R1 (gi:=6) (bJ:=gr b3 m1 m5 m7 m8) qI.inv rfl qH
    exact XK (I:=I66) (ES:=fun x=>x.2.2.2.2.2.2.1) (X:=tC.st 2) (nb:=fun b=>b.2.2.1) (c:=c66) Yy h3 (hQ _ _ _ _ _ h5) (by rw [hbody];kernel_rfl) ho hb ⟨qI.env,qI.sz,hI,qI.ms⟩ hG
@[reducible] def Ky:az:=az.mk [(3,.c (.ptr 2 0)),(11,.c (.ptr 3 0)),(16,.c (.Qt 10 .str)),(102,.c (.mp 5)),(103,.c (.ptr 9 0)),(121,.c (.ptr 11 1)),(122,hI),(123,.c (.hole .bool)),(132,.c (.hole (.list .str))),(133,hI),(134,hI)] [(2,.cells [.ptr 4 0] false),(3,.cells [.fn 96 .nil (.cons (.ptr 2 0) (.cons (.ptr 3 0) .nil))] false),(10,.arr .str false),(5,.map .str false (.list .str) false),(11,.cells [.hole .str,.hole tI,.hole .str,.hole .str,.hole tI] false),(4,.cells [.mp 6,.mp 5,.mp 7,.mp 8] false),(6,.map .str false tG true),(7,.map .str false .bool false),(8,.map .str false .bool false),(0,.cells [.mp 1] false),(1,.map tG true .bool false)] [.slot 16,.slot 121] []
@[reducible] def KA:aX:=[(.exit 7,az.mk [(3,.c (.ptr 2 0)),(11,.c (.ptr 3 0)),(102,.c (.mp 5)),(103,.c (.ptr 9 0)),(121,.c (.ptr 10 1)),(122,hI),(123,.c (.hole .bool))] [(2,.cells [.ptr 4 0] false),(3,.cells [.fn 96 .nil (.cons (.ptr 2 0) (.cons (.ptr 3 0) .nil))] false),(5,.map .str false (.list .str) false),(10,.cells [.hole .str,.hole tI,.hole .str,.hole .str,.hole tI] false),(4,.cells [.mp 6,.mp 5,.mp 7,.mp 8] false),(6,.map .str false tG true),(7,.map .str false .bool false),(8,.map .str false .bool false),(0,.cells [.mp 1] false),(1,.map tG true .bool false)] [.slot 121] [])]
noncomputable def KB:D prog 148 none 10:=dO [] (pick (kd prog f66) [(2,false),(0,false)]) 0
noncomputable def gH66_2b_3:Nat×Nat×Int×Bool×List ByteArray×Int×Int×List ByteArray×cN×ByteArray×Int×ByteArray×ByteArray×Int×cI×aP×aP×(List ((GG)×Bool))×Unit→bU ((Nat×Nat×Int×Bool×List ByteArray×Int×Int×List ByteArray×cN×ByteArray×Int×ByteArray×ByteArray×Int×cI×aP×aP×(List ((GG)×Bool))×Unit) ⊕ ((Int×Bool×cN×ByteArray×Int×ByteArray×ByteArray×Int×cI×aP×aP×(List ((GG)×Bool))×Unit))):=fun (S6,YA,Eg,Eh,OK,YB,Ei,Qx,m5,OL,OM,ON,OO,OP,m6,m7,m8,m1,_) =>
 .br (decide (Ei<YB)) (
 .nb Ei (((OK).length:Nat):Int) <|
 .nb (0:Int) ((YA:Nat):Int) <|
 .nd (decide ((S6+(Int.toNat (0:Int)))<(Qx).length)) <|
 .br (!(seq ((OK).getD (Int.toNat Ei) (bs [])) ((Qx).getD (S6+(Int.toNat (0:Int))) (bs [])))) (
 .bd (FH96fix ((OK).getD (Int.toNat Ei) (bs [])) m6 m5 m7 m8) fun y7 =>
 .ni (Ei+(1:Int)) <|
 .ret (.inl (S6,YA,Eg,Eh,OK,YB,(Ei+(1:Int)),Qx,y7.2.1,OL,OM,ON,OO,OP,y7.1,y7.2.2.1,y7.2.2.2.1,m1,()))) (
 .ni (Ei+(1:Int)) <|
 .ret (.inl (S6,YA,Eg,Eh,OK,YB,(Ei+(1:Int)),Qx,m5,OL,OM,ON,OO,OP,m6,m7,m8,m1,())))) (
 .ret (.inr (Eg,Eh,m5,OL,OM,ON,OO,OP,m6,m7,m8,m1,())))
noncomputable def KC:cn prog 148 none 10:=bR mixed IJ rY [0,1,2,3,4,5,6,7,8,9] rfl Ky KA rfl (KB) (fun x=>ak (gH66_2b_3 x)) (fun x=>by kernel_rfl)
@[reducible] def YC:az:=az.mk [(3,.c (.ptr 2 0)),(11,.c (.ptr 3 0)),(102,.c (.mp 5))] [(2,.cells [.ptr 4 0] false),(3,.cells [.fn 96 .nil (.cons (.ptr 2 0) (.cons (.ptr 3 0) .nil))] false),(4,.cells [.mp 6,.mp 5,.mp 7,.mp 8] false),(5,.map .str false (.list .str) false),(0,.cells [.mp 1] false),(1,.map tG true .bool false),(6,.map .str false tG true),(7,.map .str false .bool false),(8,.map .str false .bool false)] [.slot 3,.slot 11,.cell 2 0,.cell 4 1,.cell 4 0,.cell 4 2,.cell 4 3] []
noncomputable def YD:D prog 148 none 10:=dO [.l KC] (pick (kd prog f66) [(2,false)]) 0
noncomputable def gH66_2:((ByteArray)×(List ByteArray))→cN×(List ((GG)×Bool))×cI×aP×aP×Unit→bU (cN×(List ((GG)×Bool))×cI×aP×aP×Unit):=fun e (m5,m1,m6,m7,m8,_) =>
 .br (!(aM .str m6 e.1)) (
 .nd (jG m5 m5) <|
 .ret (m5,m1,m6,m7,m8,())) (
 .br ((ax .str ((bs []),(0:Int),(bs []),(bs []),(0:Int)) m6 e.1).2.1==(3:Int)) (
 .nd (jG m5 m5) <|
 .ret (m5,m1,m6,m7,m8,())) (
 .bd (FH98 e.2) fun y5 =>
 .bd (FH97 y5.1 y5.2.1 m6 m5 m7 m8) fun y6 =>
 .br (!(((y6.2.1:Nat):Int)==(1:Int))) (
 .nd (jG y6.2.2.2.2.1 m5) <|
 .ret (y6.2.2.2.2.1,m1,y6.2.2.2.1,y6.2.2.2.2.2.1,y6.2.2.2.2.2.2.1,())) (
 .bd (.it gH66_2b_3 (y6.1,y6.2.1,(ax .str ((bs []),(0:Int),(bs []),(bs []),(0:Int)) m6 e.1).2.1,((ax .str ((bs []),(0:Int),(bs []),(bs []),(0:Int)) m6 e.1).2.1==(3:Int)),e.2,(((e.2).length:Nat):Int),(0:Int),y6.2.2.1,y6.2.2.2.2.1,(ax .str ((bs []),(0:Int),(bs []),(bs []),(0:Int)) m6 e.1).1,(ax .str ((bs []),(0:Int),(bs []),(bs []),(0:Int)) m6 e.1).2.1,(ax .str ((bs []),(0:Int),(bs []),(bs []),(0:Int)) m6 e.1).2.2.1,(ax .str ((bs []),(0:Int),(bs []),(bs []),(0:Int)) m6 e.1).2.2.2.1,(ax .str ((bs []),(0:Int),(bs []),(bs []),(0:Int)) m6 e.1).2.2.2.2,y6.2.2.2.1,y6.2.2.2.2.2.1,y6.2.2.2.2.2.2.1,m1,())) fun z8 =>
 .nd (jG z8.2.2.1 m5) <|
 .ret (z8.2.2.1,z8.2.2.2.2.2.2.2.2.2.2.2.1,z8.2.2.2.2.2.2.2.2.1,z8.2.2.2.2.2.2.2.2.2.1,z8.2.2.2.2.2.2.2.2.2.2.1,()))))
noncomputable def YE:rB prog 148 none 2:=BU mixed IJ rY [0,1] rfl YC ( [.op (some 99) none (.load false 1 (.t 3)),.op (some 100) none (.ex gv.iQ [.t 99]),.op (some 101) none (.mL 1 [true,false] (.t 100)),.op (some 102) none (.load false 1 (.t 101))]) 102 103 [104,105] (some 106) ( .str)  false ( .list .str)  false 5 rfl 10 rfl (YD) (fun e x=>ak (gH66_2 e x)) (fun e=>fun x=>by kernel_rfl)
noncomputable def VK:D prog 148 none 2:=dO [.l Yv,.l Yz,.m YE] (kd prog f66) 0
noncomputable def FH66 (m1:List ((GG)×Bool)):bU ((List ((GG)×Bool))×cI×cN×aP×aP×Unit) :=
 .bd (FH47 m1) fun y0 =>
 .bd (.it gH66_0 (y0.1,((y0.1:Nat):Int),(0:Int),y0.2.1,y0.2.2.1,[],[],[],[],())) fun z1 =>
 .bd (FH95 z1.2.1) fun y2 =>
 .bd (FH81 y2.1) fun y3 =>
 .nd (z1.2.2.1).isEmpty <|
 .bd (.it gH66_1 (y3.1,((y3.1:Nat):Int),(0:Int),y3.2.1,z1.1,y3.2.2.1,z1.2.2.1,z1.2.2.2.1,z1.2.2.2.2.1,())) fun z4 =>
 .bd (.mq gH66_2 z4.2.2.1 (z4.2.2.1,z4.1,z4.2.1,z4.2.2.2.1,z4.2.2.2.2.1,())) fun z9 =>
 .ret (z9.2.1,z9.2.2.1,z9.1,z9.2.2.2.1,z9.2.2.2.2.1,())
theorem S7:cM prog f66=some ⟨148,1,VK.er,[.t 2],[none]⟩:=by kernel_rfl
noncomputable def Ej:Ht:=⟨66,pH66,qH66,(fun x=>ak (FH66 x.1))⟩
theorem r8:Ej.Ok prog:=bL mixed rY rfl func66 S7 (enters_of func66 rfl rfl) VK (by kernel_rfl) rfl rfl ⟨_,rfl⟩ rfl (pre:=[0,1]) rfl (fun x=>by kernel_rfl)

/- 123, lent -/
@[reducible] def ac5:az:=az.mk [(0,.c (.hole .str)),(1,.c (.ptr 0 0))] [(0,.cells [.ptr 1 0] false),(1,.cells [.mp 2,.mp 3,.mp 4,.mp 5] false),(2,.map .str false tG true),(3,.map .str false (.list .str) false),(4,.map .str false .bool false),(5,.map .str false .bool false)] [.slot 1,.cell 0 0,.cell 1 0,.cell 1 1,.cell 1 2,.cell 1 3] []
@[reducible] def ac6:az:=az.mk [(0,.c (.hole .bool))] [(0,.cells [.ptr 1 0] false),(1,.cells [.mp 2,.mp 3,.mp 4,.mp 5] false),(2,.map .str false tG true),(3,.map .str false (.list .str) false),(4,.map .str false .bool false),(5,.map .str false .bool false)] [] []
noncomputable def YF:Cx:=(aK [] [])
theorem KE:YF.Ok prog:=av trivial trivial
noncomputable def OQ:D prog 10 none 6:=dO [] (kd prog f123) 0
noncomputable def FH123 (v0:ByteArray) (m2:cI) (m3:cN) (m4:aP) (m5:aP):bU (Bool×cI×cN×aP×aP×Unit) :=
 .ret ((ax .str false m5 v0),m2,m3,m4,m5,())
theorem OR:cM prog f123=some ⟨10,2,OQ.er,[.t 3],[some .bool]⟩:=by kernel_rfl
noncomputable def OS:Ht:=⟨123,ac5,ac6,(fun x=>ak (FH123 x.1 x.2.1 x.2.2.1 x.2.2.2.1 x.2.2.2.2.1))⟩
theorem Ek:OS.Ok prog:=bL mixed KE rfl func123 OR (enters_of func123 rfl rfl) OQ (by kernel_rfl) rfl rfl ⟨_,rfl⟩ rfl (pre:=[0,1,2,3,4,5]) rfl (fun x=>by kernel_rfl)

/- 119, lent -/
@[reducible] def OT:az:=az.mk [(0,.c (.cQ 0 .str)),(1,.fn 123 [] [.ptr 1 0])] [(0,.arr .str false),(1,.cells [.ptr 2 0] false),(2,.cells [.mp 3,.mp 4,.mp 5,.mp 6] false),(3,.map .str false tG true),(4,.map .str false (.list .str) false),(5,.map .str false .bool false),(6,.map .str false .bool false)] [.slot 0,.part 1 0,.cell 1 0,.cell 2 0,.cell 2 1,.cell 2 2,.cell 2 3] []
@[reducible] def OU:az:=az.mk [(0,hI)] [(1,.cells [.ptr 2 0] false),(2,.cells [.mp 3,.mp 4,.mp 5,.mp 6] false),(3,.map .str false tG true),(4,.map .str false (.list .str) false),(5,.map .str false .bool false),(6,.map .str false .bool false),(0,.arr .str false)] [] []
noncomputable def Az:Cx:=(aK [] [OS])
theorem r9:Az.Ok prog:=av trivial ⟨⟨Ek,rfl⟩,trivial⟩
@[reducible] def Gz:az:=az.mk [(0,.c (.cQ 0 .str)),(1,.fn 123 [] [.ptr 1 0]),(7,hI),(8,hI)] [(0,.arr .str false),(1,.cells [.ptr 2 0] false),(2,.cells [.mp 3,.mp 4,.mp 5,.mp 6] false),(3,.map .str false tG true),(4,.map .str false (.list .str) false),(5,.map .str false .bool false),(6,.map .str false .bool false)] [] []
@[reducible] def GA:aX:=[(.ret,az.mk [(4,hI)] [(1,.cells [.ptr 2 0] false),(2,.cells [.mp 3,.mp 4,.mp 5,.mp 6] false),(3,.map .str false tG true),(4,.map .str false (.list .str) false),(5,.map .str false .bool false),(6,.map .str false .bool false),(0,.arr .str false)] [] []),(.exit 0,az.mk [] [(1,.cells [.ptr 2 0] false),(2,.cells [.mp 3,.mp 4,.mp 5,.mp 6] false),(3,.map .str false tG true),(4,.map .str false (.list .str) false),(5,.map .str false .bool false),(6,.map .str false .bool false),(0,.arr .str false)] [] [])]
noncomputable def GB:D prog 19 none 7:=dO [] (pick (kd prog f119) [(0,false)]) 0
noncomputable def gH119_v1_0:Nat×Int×Int×List ByteArray×cI×cN×aP×aP×Unit→bU ((Nat×Int×Int×List ByteArray×cI×cN×aP×aP×Unit) ⊕ ((Int×cI×cN×aP×aP×List ByteArray×Unit) ⊕ ((cI×cN×aP×aP×List ByteArray×Unit)))):=fun (nA,v7,v8,b0,m3,m4,m5,m6,_) =>
 .br (decide (v8<v7)) (
 .nb v8 ((nA:Nat):Int) <|
 .nd (decide (((0:Nat)+(Int.toNat v8))<(b0).length)) <|
 .bd (FH123 ((b0).getD ((0:Nat)+(Int.toNat v8)) (bs [])) m3 m4 m5 m6) fun y0 =>
 .br y0.1 (
 .ret (.inr <| .inl<|(v8,y0.2.1,y0.2.2.1,y0.2.2.2.1,y0.2.2.2.2.1,b0,()))) (
 .ni (v8+(1:Int)) <|
 .ret (.inl (nA,v7,(v8+(1:Int)),b0,y0.2.1,y0.2.2.1,y0.2.2.2.1,y0.2.2.2.2.1,())))) (
 .ret (.inr <| .inr<|(m3,m4,m5,m6,b0,())))
noncomputable def GC:cn prog 19 none 7:=bR mixed Az r9 [0,1,2,3,4,5,6] rfl Gz GA rfl (GB) (fun x=>ak (gH119_v1_0 x)) (fun x=>by kernel_rfl)
noncomputable def AA:D prog 19 none 7:=dO [.l GC] (kd prog f119) 0
noncomputable def FH119_v1 (nA:Nat) (b0:List ByteArray) (m3:cI) (m4:cN) (m5:aP) (m6:aP):bU (Int×cI×cN×aP×aP×List ByteArray×Unit) :=
 .bd (.it gH119_v1_0 (nA,((nA:Nat):Int),(0:Int),b0,m3,m4,m5,m6,())) fun z1 =>
 .sm z1 (fun z2 =>
 .ret (z2.1,z2.2.1,z2.2.2.1,z2.2.2.2.1,z2.2.2.2.2.1,z2.2.2.2.2.2.1,())) fun z3 =>
 .ret ((-1:Int),z3.1,z3.2.1,z3.2.2.1,z3.2.2.2.1,z3.2.2.2.2.1,())
theorem El:cM prog f119=some ⟨19,2,AA.er,[.t 4],[some tI]⟩:=by kernel_rfl
noncomputable def Em:Ht:=⟨119,OT,OU,(fun x=>ak (FH119_v1 x.1 x.2.1 x.2.2.1 x.2.2.2.1 x.2.2.2.2.1 x.2.2.2.2.2.1))⟩
theorem Eo:Em.Ok prog:=bL mixed r9 rfl func119 El (enters_of func119 rfl rfl) AA (by kernel_rfl) rfl rfl ⟨_,rfl⟩ rfl (pre:=[0,1,2,3,4,5,6]) rfl (fun x=>by kernel_rfl)

/- 97, lent -/
@[reducible] def S8:az:=az.mk [(0,.c (.cQ 0 .str)),(1,.fn 123 [] [.ptr 1 0])] [(0,.arr .str false),(1,.cells [.ptr 2 0] false),(2,.cells [.mp 3,.mp 4,.mp 5,.mp 6] false),(3,.map .str false tG true),(4,.map .str false (.list .str) false),(5,.map .str false .bool false),(6,.map .str false .bool false)] [.slot 0,.part 1 0,.cell 1 0,.cell 2 0,.cell 2 1,.cell 2 2,.cell 2 3] []
@[reducible] def S9:az:=az.mk [(0,.c (.Qt 0 .str))] [(0,.arr .str false),(1,.cells [.ptr 2 0] false),(2,.cells [.mp 3,.mp 4,.mp 5,.mp 6] false),(3,.map .str false tG true),(4,.map .str false (.list .str) false),(5,.map .str false .bool false),(6,.map .str false .bool false)] [] []
noncomputable def Ep:Cx:=(aK [] [Em,OS])
theorem uv:Ep.Ok prog:=av trivial ⟨⟨Eo,rfl⟩,⟨Ek,rfl⟩,trivial⟩
@[reducible] def KF:az:=az.mk [(0,.c (.cQ 0 .str)),(1,.fn 123 [] [.ptr 1 0]),(5,hI),(6,hI)] [(0,.arr .str false),(1,.cells [.ptr 2 0] false),(2,.cells [.mp 3,.mp 4,.mp 5,.mp 6] false),(3,.map .str false tG true),(4,.map .str false (.list .str) false),(5,.map .str false .bool false),(6,.map .str false .bool false)] [] []
@[reducible] def KG:aX:=[(.exit 0,az.mk [(0,.c (.cQ 0 .str)),(5,hI)] [(0,.arr .str false),(1,.cells [.ptr 2 0] false),(2,.cells [.mp 3,.mp 4,.mp 5,.mp 6] false),(3,.map .str false tG true),(4,.map .str false (.list .str) false),(5,.map .str false .bool false),(6,.map .str false .bool false)] [] [])]
noncomputable def KH:D prog 42 none 7:=dO [] (pick (kd prog f97) [(0,false)]) 0
noncomputable def gH97_v1_0:Nat×Int×Int×List ByteArray×cI×cN×aP×aP×Unit→bU ((Nat×Int×Int×List ByteArray×cI×cN×aP×aP×Unit) ⊕ ((Nat×Int×List ByteArray×cI×cN×aP×aP×Unit))):=fun (nA,v5,v6,b0,m3,m4,m5,m6,_) =>
 .br (decide (v6<((nA:Nat):Int))) (
 .nb v6 ((nA:Nat):Int) <|
 .nd (decide (((0:Nat)+(Int.toNat v6))<(b0).length)) <|
 .bd (FH123 ((b0).getD ((0:Nat)+(Int.toNat v6)) (bs [])) m3 m4 m5 m6) fun y1 =>
 .br (!y1.1) (
 .nb v5 ((nA:Nat):Int) <|
 .nd (decide (((0:Nat)+(Int.toNat v5))<(b0).length)) <|
 .ni (v5+(1:Int)) <|
 .ni (v6+(1:Int)) <|
 .ret (.inl (nA,(v5+(1:Int)),(v6+(1:Int)),((b0).set ((0:Nat)+(Int.toNat v5)) ((b0).getD ((0:Nat)+(Int.toNat v6)) (bs []))),y1.2.1,y1.2.2.1,y1.2.2.2.1,y1.2.2.2.2.1,()))) (
 .ni (v6+(1:Int)) <|
 .ret (.inl (nA,v5,(v6+(1:Int)),b0,y1.2.1,y1.2.2.1,y1.2.2.2.1,y1.2.2.2.2.1,())))) (
 .ret (.inr (nA,v5,b0,m3,m4,m5,m6,())))
noncomputable def KJ:cn prog 42 none 7:=bR mixed Ep uv [0,1,2,3,4,5,6] rfl KF KG rfl (KH) (fun x=>ak (gH97_v1_0 x)) (fun x=>by kernel_rfl)
noncomputable def Er:D prog 42 none 7:=dO [.l KJ] (kd prog f97) 0
noncomputable def FH97_v1 (nA:Nat) (b0:List ByteArray) (m3:cI) (m4:cN) (m5:aP) (m6:aP):bU (Nat×Nat×List ByteArray×cI×cN×aP×aP×Unit) :=
 .bd (FH119_v1 nA b0 m3 m4 m5 m6) fun y0 =>
 .br (y0.1==(-1:Int)) (
 .ret ((0:Nat),nA,y0.2.2.2.2.2.1,y0.2.1,y0.2.2.1,y0.2.2.2.1,y0.2.2.2.2.1,())) (
 .ni (y0.1+(1:Int)) <|
 .bd (.it gH97_v1_0 (nA,y0.1,(y0.1+(1:Int)),y0.2.2.2.2.2.1,y0.2.1,y0.2.2.1,y0.2.2.2.1,y0.2.2.2.2.1,())) fun z2 =>
 .nd (decide ((0:Int)≤z2.2.1)) <|
 .nd (decide (z2.2.1≤((z2.1:Nat):Int))) <|
 .nd (decide (((z2.1:Nat):Int)≤((z2.1:Nat):Int))) <|
 .nd (decide ((0:Int)≤(0:Int))) <|
 .nd (decide ((0:Int)≤z2.2.1)) <|
 .nd (decide (z2.2.1≤((z2.1:Nat):Int))) <|
 .ret (((0:Nat)+(Int.toNat (0:Int))),((Int.toNat z2.2.1) - (Int.toNat (0:Int))),(AU (bs []) z2.2.2.1 ((0:Nat)+(Int.toNat z2.2.1)) ((Int.toNat ((z2.1:Nat):Int)) - (Int.toNat z2.2.1))),z2.2.2.2.1,z2.2.2.2.2.1,z2.2.2.2.2.2.1,z2.2.2.2.2.2.2.1,()))
theorem GD:cM prog f97=some ⟨42,2,Er.er,[.t 4],[some (.list .str)]⟩:=by kernel_rfl
noncomputable def IL:Ht:=⟨97,S8,S9,(fun x=>ak (FH97_v1 x.1 x.2.1 x.2.2.1 x.2.2.2.1 x.2.2.2.2.1 x.2.2.2.2.2.1))⟩
theorem GF:IL.Ok prog:=bL mixed uv rfl func97 GD (enters_of func97 rfl rfl) Er (by kernel_rfl) rfl rfl ⟨_,rfl⟩ rfl (pre:=[0,1,2,3,4,5,6]) rfl (fun x=>by kernel_rfl)

/- 104, lent -/
@[reducible] def ac7:az:=az.mk [(0,.c (.ptr 0 0)),(1,.c (.hole .str))] [(0,.cells [.mp 1,.mp 2,.mp 3,.mp 4] false),(1,.map .str false tG true),(2,.map .str false (.list .str) false),(3,.map .str false .bool false),(4,.map .str false .bool false)] [.slot 0,.cell 0 0,.cell 0 1,.cell 0 2,.cell 0 3] []
@[reducible] def ac8:az:=az.mk [(0,.c (.Qt 5 .str))] [(5,.arr .str false),(0,.cells [.mp 1,.mp 2,.mp 3,.mp 4] false),(1,.map .str false tG true),(2,.map .str false (.list .str) false),(3,.map .str false .bool false),(4,.map .str false .bool false)] [.slot 0] []
noncomputable def YG:Cx:=(aK [] [Yj,IL])
theorem KK:YG.Ok prog:=av trivial ⟨⟨IG,rfl⟩,⟨GF,rfl⟩,trivial⟩
noncomputable def OV:D prog 14 none 5:=dO [] (kd prog f104) 0
noncomputable def FH104 (v1:ByteArray) (m1:cI) (m2:cN) (m3:aP) (m4:aP):bU (Nat×Nat×List ByteArray×cI×cN×aP×aP×Unit) :=
 .bd (FH98 (ax .str [] m2 v1)) fun y0 =>
 .bd (FH97_v1 y0.1 y0.2.1 m1 m2 m3 m4) fun y1 =>
 .ret (y1.1,y1.2.1,y1.2.2.1,y1.2.2.2.1,y1.2.2.2.2.1,y1.2.2.2.2.2.1,y1.2.2.2.2.2.2.1,())
theorem OW:cM prog f104=some ⟨14,2,OV.er,[.t 4],[some (.list .str)]⟩:=by kernel_rfl
noncomputable def VL:Ht:=⟨104,ac7,ac8,(fun x=>ak (FH104 x.1 x.2.1 x.2.2.1 x.2.2.2.1 x.2.2.2.2.1))⟩
theorem OX:VL.Ok prog:=bL mixed KK rfl func104 OW (enters_of func104 rfl rfl) OV (by kernel_rfl) rfl rfl ⟨_,rfl⟩ rfl (pre:=[0,1,2,3,4]) rfl (fun x=>by kernel_rfl)

/- 76, lent -/
@[reducible] def kL:az:=az.mk [(0,.c (.ptr 0 0)),(1,.c (.hole .str))] [(0,.cells [.mp 1,.mp 2,.mp 3,.mp 4] false),(1,.map .str false tG true),(2,.map .str false (.list .str) false),(3,.map .str false .bool false),(4,.map .str false .bool false)] [.slot 0,.cell 0 0,.cell 0 1,.cell 0 2,.cell 0 3] []
@[reducible] def kN:az:=az.mk [(0,.c (.cQ 5 .str))] [(5,.arr .str false),(0,.cells [.mp 1,.mp 2,.mp 3,.mp 4] false),(1,.map .str false tG true),(2,.map .str false (.list .str) false),(3,.map .str false .bool false),(4,.map .str false .bool false)] [.slot 0] []
noncomputable def OY (rec:kL.T→Option kN.T):Cx:=(aK [] [VL,⟨76,kL,kN,rec⟩,Aw])
theorem Es (rec:kL.T→Option kN.T) (h:Ht.Ok prog ⟨76,kL,kN,rec⟩):(OY rec).Ok prog:=av trivial ⟨⟨OX,rfl⟩,⟨h,rfl⟩,⟨xN,rfl⟩,trivial⟩
@[reducible] def GH:az:=az.mk [(0,.c (.ptr 0 0)),(6,.c (.cQ 5 .str)),(17,.c (.Qt 6 .str)),(18,hI),(19,hI)] [(0,.cells [.mp 1,.mp 2,.mp 3,.mp 4] false),(5,.arr .str false),(6,.arr .str false),(1,.map .str false tG true),(2,.map .str false (.list .str) false),(3,.map .str false .bool false),(4,.map .str false .bool false)] [.slot 6,.slot 17] []
@[reducible] def GI:aX:=[(.exit 0,az.mk [(6,.c (.cQ 5 .str))] [(5,.arr .str false),(0,.cells [.mp 1,.mp 2,.mp 3,.mp 4] false),(1,.map .str false tG true),(2,.map .str false (.list .str) false),(3,.map .str false .bool false),(4,.map .str false .bool false)] [.slot 6] [])]
noncomputable def OZ (rec:kL.T→Option kN.T) (h:Ht.Ok prog ⟨76,kL,kN,rec⟩):D prog 32 none 5:=dO [] (pick (kd prog f76) [(0,false)]) 0
noncomputable def gH76_0:Nat×Nat×Nat×Int×Int×List ByteArray×List ByteArray×cI×cN×aP×aP×Unit→Tr kL.T kN.T ((Nat×Nat×Nat×Int×Int×List ByteArray×List ByteArray×cI×cN×aP×aP×Unit) ⊕ ((Nat×List ByteArray×cI×cN×aP×aP×Unit))):=fun (nv6,YH,nv17,v18,Ta,b5,b6,m1,m2,m3,m4,_) =>
 .br (decide (Ta<v18)) (
 .nb Ta ((nv17:Nat):Int) <|
 .nd (decide ((YH+(Int.toNat Ta))<(b6).length)) <|
 .bd (.rc (((b6).getD (YH+(Int.toNat Ta)) (bs [])),m1,m2,m3,m4,())) fun y1 =>
 .nd (decide ((nv6+((((y1.2.1).drop (0:Nat)).take y1.1)).length)<cu)) <|
 .ni (Ta+(1:Int)) <|
 .ret (.inl ((nv6+((((y1.2.1).drop (0:Nat)).take y1.1)).length),YH,nv17,v18,(Ta+(1:Int)),((((b5).drop (0:Nat)).take nv6)++(((y1.2.1).drop (0:Nat)).take y1.1)),b6,y1.2.2.1,y1.2.2.2.1,y1.2.2.2.2.1,y1.2.2.2.2.2.1,()))) (
 .ret (.inr (nv6,b5,m1,m2,m3,m4,())))
theorem YI (rec:kL.T→Option kN.T) (h:Ht.Ok prog ⟨76,kL,kN,rec⟩):∀x,BJ (jg (GH.T ⊕ GI.T)) (OY rec) ez [0,1,2,3,4] GH GI (OZ rec h) (fun y=>some (.inl y)) (fun b=>some (.inr b)) x=run rec (gH76_0 x):=fun x=>by kernel_rfl
noncomputable def YJ (rec:kL.T→Option kN.T) (h:Ht.Ok prog ⟨76,kL,kN,rec⟩):cn prog 32 none 5:=bR mixed (OY rec) (Es rec h) [0,1,2,3,4] rfl GH GI rfl (OZ rec h) (fun x=>run rec (gH76_0 x)) (YI rec h)
noncomputable def VM (rec:kL.T→Option kN.T) (h:Ht.Ok prog ⟨76,kL,kN,rec⟩):D prog 32 none 5:=dO [.l (YJ rec h)] (kd prog f76) 0
noncomputable def FH76 (v1:ByteArray) (m1:cI) (m2:cN) (m3:aP) (m4:aP):Tr kL.T kN.T (Nat×List ByteArray×cI×cN×aP×aP×Unit) :=
 .bd (.up (FH104 v1 m1 m2 m3 m4)) fun y0 =>
 .br (((y0.2.1:Nat):Int)==(0:Int)) (
 .ret ((1:Nat),(v1::[]),y0.2.2.2.1,y0.2.2.2.2.1,y0.2.2.2.2.2.1,y0.2.2.2.2.2.2.1,())) (
 .bd (.it gH76_0 ((0:Nat),y0.1,y0.2.1,((y0.2.1:Nat):Int),(0:Int),[],y0.2.2.1,y0.2.2.2.1,y0.2.2.2.2.1,y0.2.2.2.2.2.1,y0.2.2.2.2.2.2.1,())) fun z2 =>
 .bd (.up (FH105 z2.1 z2.2.1)) fun y3 =>
 .ret (z2.1,y3.1,z2.2.2.1,z2.2.2.2.1,z2.2.2.2.2.1,z2.2.2.2.2.2.1,()))
theorem Tb (rec:kL.T→Option kN.T) (h:Ht.Ok prog ⟨76,kL,kN,rec⟩):cM prog f76=some ⟨32,2,(VM rec h).er,[.t 4],[some (.list .str)]⟩:=by kernel_rfl
theorem KL (rec:kL.T→Option kN.T) (h:Ht.Ok prog ⟨76,kL,kN,rec⟩):Ht.Ok prog ⟨76,kL,kN,(fun x=>run rec (FH76 x.1 x.2.1 x.2.2.1 x.2.2.2.1 x.2.2.2.2.1))⟩:=bL mixed (Es rec h) rfl func76 (Tb rec h) (enters_of func76 rfl rfl) (VM rec h) (by kernel_rfl) rfl rfl ⟨_,rfl⟩ rfl (pre:=[0,1,2,3,4]) rfl (fun x=>by kernel_rfl)
noncomputable def FH76fix (v1:ByteArray) (m1:cI) (m2:cN) (m3:aP) (m4:aP):bU (Nat×List ByteArray×cI×cN×aP×aP×Unit):=.fx (A1:=kL.T) (B1:=kN.T) (fun x=>FH76 x.1 x.2.1 x.2.2.1 x.2.2.2.1 x.2.2.2.2.1) (v1,m1,m2,m3,m4,())
noncomputable def GJ:Ht:=⟨76,kL,kN,fun x=>ak (FH76fix x.1 x.2.1 x.2.2.1 x.2.2.2.1 x.2.2.2.2.1)⟩
theorem sg:GJ.Ok prog:=NF (F:=fun rec x=>run rec (FH76 x.1 x.2.1 x.2.2.1 x.2.2.2.1 x.2.2.2.2.1)) (fun rec h=>KL rec h)

/- 74, lent -/
@[reducible] def pH74:az:=az.mk [(0,.c (.ptr 0 0)),(1,.c (.hole .str))] [(0,.cells [.mp 1,.mp 2,.mp 3,.mp 4] false),(1,.map .str false tG true),(2,.map .str false (.list .str) false),(3,.map .str false .bool false),(4,.map .str false .bool false)] [.slot 0,.cell 0 0,.cell 0 1,.cell 0 2,.cell 0 3] []
@[reducible] def qH74:az:=az.mk [(0,.cK [.cQ 5 .str,.hole .bool])] [(5,.arr .str false),(0,.cells [.mp 1,.mp 2,.mp 3,.mp 4] false),(1,.map .str false tG true),(2,.map .str false (.list .str) false),(3,.map .str false .bool false),(4,.map .str false .bool false)] [.part 0 0] []
noncomputable def VN:Cx:=(aK [] [GJ])
theorem Et:VN.Ok prog:=av trivial ⟨⟨sg,rfl⟩,trivial⟩
@[reducible] def YK:az:=az.mk [(0,.c (.ptr 0 0)),(1,.c (.hole .str)),(11,.c (.mp 1))] [(0,.cells [.mp 1,.mp 2,.mp 3,.mp 4] false),(1,.map .str false tG true),(2,.map .str false (.list .str) false),(3,.map .str false .bool false),(4,.map .str false .bool false)] [] []
@[reducible] def YL:aX:=[(.ret,az.mk [(4,.c (.cQ 5 .str)),(5,.c (.hole .bool))] [(5,.arr .str false),(0,.cells [.mp 1,.mp 2,.mp 3,.mp 4] false),(1,.map .str false tG true),(2,.map .str false (.list .str) false),(3,.map .str false .bool false),(4,.map .str false .bool false)] [.slot 4] [])]
noncomputable def YM:D prog 50 none 6:=dO [] (pick (kd prog f74) [(0,false)]) 0
noncomputable def gH74_0:((ByteArray)×(GG))→ByteArray×cI×cN×aP×aP×Unit→bU ((ByteArray×cI×cN×aP×aP×Unit) ⊕ ((Nat×Bool×List ByteArray×cI×cN×aP×aP×Unit))):=fun e (v1,m1,m2,m3,m4,_) =>
 .br (!(aM .str m1 v1)) (
 .ret (.inr ((0:Nat),false,[],m1,m2,m3,m4,()))) (
 .br ((ax .str ((bs []),(0:Int),(bs []),(bs []),(0:Int)) m1 v1).2.1==(3:Int)) (
 .ret (.inr ((0:Nat),false,[],m1,m2,m3,m4,()))) (
 .br (ax .str false m4 v1) (
 .ret (.inr ((0:Nat),false,[],m1,m2,m3,m4,()))) (
 .br ((ax .str ((bs []),(0:Int),(bs []),(bs []),(0:Int)) m1 v1).2.1==(1:Int)) (
 .bd (FH76fix v1 m1 m2 m3 m4) fun y0 =>
 .ret (.inr (y0.1,true,y0.2.1,y0.2.2.1,y0.2.2.2.1,y0.2.2.2.2.1,y0.2.2.2.2.2.1,()))) (
 .nd (jG m1 m1) <|
 .ret (.inl ((ax .str ((bs []),(0:Int),(bs []),(bs []),(0:Int)) m1 v1).2.2.1,m1,m2,m3,m4,()))))))
noncomputable def YN:rB prog 50 none 5:=Xx mixed VN Et [0,1,2,3,4] rfl YK YL rfl ( [.op (some 8) none (.mv (.t 0)),.op (some 9) none (.ex gv.iQ [.t 8]),.op (some 10) none (.mL 0 [false] (.t 9)),.op (some 11) none (.load false 1 (.t 10))]) 11 12 [13,14] (none) ( .str)  false ( .prod .str (.prod tI (.prod .str (.prod .str tI))))  true 0 rfl 6 rfl (YM) (fun e x=>ak (gH74_0 e x)) (fun e=>fun x=>by kernel_rfl)
noncomputable def VO:D prog 50 none 5:=dO [.m YN] (kd prog f74) 0
noncomputable def FH74 (v1:ByteArray) (m1:cI) (m2:cN) (m3:aP) (m4:aP):bU (Nat×Bool×List ByteArray×cI×cN×aP×aP×Unit) :=
 .bd (.mp gH74_0 m1 (v1,m1,m2,m3,m4,())) fun z1 =>
 .sm z1 (fun z2 =>
 .ret ((0:Nat),false,[],z2.2.1,z2.2.2.1,z2.2.2.2.1,z2.2.2.2.2.1,())) fun z3 =>
 .ret (z3.1,z3.2.1,z3.2.2.1,z3.2.2.2.1,z3.2.2.2.2.1,z3.2.2.2.2.2.1,z3.2.2.2.2.2.2.1,())
theorem Tc:cM prog f74=some ⟨50,2,VO.er,[.t 4,.t 5],[some (.list .str),some .bool]⟩:=by kernel_rfl
noncomputable def YO:Ht:=⟨74,pH74,qH74,(fun x=>ak (FH74 x.1 x.2.1 x.2.2.1 x.2.2.2.1 x.2.2.2.2.1))⟩
theorem Td:YO.Ok prog:=bL mixed Et rfl func74 Tc (enters_of func74 rfl rfl) VO (by kernel_rfl) rfl rfl ⟨_,rfl⟩ rfl (pre:=[0,1,2,3,4]) rfl (fun x=>by kernel_rfl)

/- 103 -/
noncomputable def VP:Cx:=(aK [] [])
theorem Eu:VP.Ok prog:=av trivial trivial
@[reducible] def YP:az:=az.mk [(0,.c (.hole (.list .str))),(1,.c (.hole .str)),(7,hI),(8,hI)] [] [] []
@[reducible] def YQ:aX:=[(.ret,az.mk [(4,hI)] [] [] []),(.exit 0,az.mk [] [] [] [])]
noncomputable def YR:D prog 19 none 0:=dO [] (pick (kd prog f103) [(0,false)]) 0
noncomputable def g103_0:List ByteArray×ByteArray×Int×Int×Unit→bU ((List ByteArray×ByteArray×Int×Int×Unit) ⊕ ((Int×Unit) ⊕ ((Unit)))):=fun (v0,v1,v7,v8,_) =>
 .br (decide (v8<v7)) (
 .nb v8 (((v0).length:Nat):Int) <|
 .br (seq v1 ((v0).getD (Int.toNat v8) (bs []))) (
 .ret (.inr <| .inl<|(v8,()))) (
 .ni (v8+(1:Int)) <|
 .ret (.inl (v0,v1,v7,(v8+(1:Int)),())))) (
 .ret (.inr <| .inr<|()))
noncomputable def YS:cn prog 19 none 0:=bR mixed VP Eu [] rfl YP YQ rfl (YR) (fun x=>ak (g103_0 x)) (fun x=>by kernel_rfl)
noncomputable def VQ:D prog 19 none 0:=dO [.l YS] (kd prog f103) 0
noncomputable def F103 (a0:List ByteArray) (a1:ByteArray):bU (Int×Unit) :=
 .bd (.it g103_0 (a0,a1,(((a0).length:Nat):Int),(0:Int),())) fun z0 =>
 .sm z0 (fun z1 =>
 .ret (z1.1,())) fun z2 =>
 .ret ((-1:Int),())
theorem Te:cM prog f103=some ⟨19,2,VQ.er,[.t 4],[some tI]⟩:=by kernel_rfl
noncomputable def VR:Ct:=⟨103,[.c (.hole (.list .str)),.c (.hole .str)],hI,fun x=>ak (F103 x.1 x.2.1)⟩
theorem O0:VR.Ok prog:=cT mixed Eu func103 Te (enters_of func103 rfl rfl) VQ (by kernel_rfl) rfl (fun x=>by kernel_rfl)

/- 75 -/
noncomputable def cx75:Cx:=(aK [VR] [])
theorem Tf:cx75.Ok prog:=av ⟨O0,trivial⟩ trivial
noncomputable def dd75:D prog 9 none 0:=dO [] (kd prog f75) 0
noncomputable def F75 (a0:List ByteArray) (a1:ByteArray):bU (Bool×Unit) :=
 .bd (F103 a0 a1) fun y0 =>
 .ret ((decide ((0:Int)≤y0.1)),())
theorem YT:cM prog f75=some ⟨9,2,dd75.er,[.t 4],[some .bool]⟩:=by kernel_rfl
noncomputable def YU:Ct:=⟨75,[.c (.hole (.list .str)),.c (.hole .str)],.c (.hole .bool),fun x=>ak (F75 x.1 x.2.1)⟩
theorem Tg:YU.Ok prog:=cT mixed Tf func75 YT (enters_of func75 rfl rfl) dd75 (by kernel_rfl) rfl (fun x=>by kernel_rfl)

/- 32, lent -/
@[reducible] def pH32:az:=az.mk [(0,.c (.ptr 0 0)),(1,.c (.hole .str))] [(0,.cells [.mp 1] false),(1,.map tG true .bool false)] [.slot 0,.cell 0 0] []
@[reducible] def qH32:az:=az.mk [(0,.cK [.hole tI,.hole tI])] [(0,.cells [.mp 1] false),(1,.map tG true .bool false)] [] []
noncomputable def IM:Cx:=(aK [YU] [zj,Ej,YO])
theorem GK:IM.Ok prog:=av (ve:=[YU]) (hts:=[zj,Ej,YO]) ⟨Tg,trivial⟩ ⟨⟨ny,rfl⟩,⟨r8,rfl⟩,⟨Td,rfl⟩,trivial⟩
@[reducible] noncomputable def Th:Go.AM.Fn:=⟨29,2,(dO [] (kd prog f73) 0:D prog 29 none 0).er,[.t 4,.cell 5 true 5,.t 6],[none,some tG,some tI]⟩
noncomputable def IP:Cx:=DZ prog IM 73 Th (fun _=>dO [] (kd prog f73) 0)
theorem GL:IP.Ok prog:=pq mixed GK func73 (by kernel_rfl) (enters_of func73 rfl rfl) (fun _=>by kernel_rfl)
noncomputable def adb:Cx:=IP
theorem O1:adb.Ok prog:=GL
noncomputable def VS:D prog 51 none 2:=dO [] (kd prog f32) 0
noncomputable def FH32 (v1:ByteArray) (m1:List ((GG)×Bool)):bU (Int×Int×(List ((GG)×Bool))×Unit) :=
 .bd (FH54 m1) fun y0 =>
 .br y0.1 (
 .br (!((9:Int)==(0:Int))) (
 .ret ((0:Int),(9:Int),y0.2.1,())) (
 .br ((0:Int)==(3:Int)) (
 .ret ((0:Int),(18:Int),y0.2.1,())) (
 .no))) (
 .bd (FH66 y0.2.1) fun y1 =>
 .br (!(aM .str y1.2.1 v1)) (
 .br (!((5:Int)==(0:Int))) (
 .ret ((0:Int),(5:Int),y1.1,())) (
 .br ((0:Int)==(3:Int)) (
 .ret ((0:Int),(18:Int),y1.1,())) (
 .no))) (
 .br (!((0:Int)==(0:Int))) (
 .ret ((0:Int),(0:Int),y1.1,())) (
 .br ((ax .str ((bs []),(0:Int),(bs []),(bs []),(0:Int)) y1.2.1 v1).2.1==(3:Int)) (
 .ret ((0:Int),(18:Int),y1.1,())) (
 .br (ax .str false y1.2.2.2.2.1 v1) (
 .ret ((2:Int),(0:Int),y1.1,())) (
 .bd (FH74 v1 y1.2.1 y1.2.2.1 y1.2.2.2.1 y1.2.2.2.2.1) fun y2 =>
 .br (!y2.2.1) (
 .ret ((1:Int),(0:Int),y1.1,())) (
 .bd (F75 (((y2.2.2.1).drop (0:Nat)).take y2.1) v1) fun y3 =>
 .br (!y3.1) (
 .ret ((3:Int),(0:Int),y1.1,())) (
 .br (decide ((1:Int)<((y2.1:Nat):Int))) (
 .ret ((5:Int),(0:Int),y1.1,())) (
 .ret ((4:Int),(0:Int),y1.1,())))))))))
theorem Ti:cM prog f32=some ⟨51,2,VS.er,[.t 4,.t 5],[some tI,some tI]⟩:=by kernel_rfl
noncomputable def ht32:Ht:=⟨32,pH32,qH32,(fun x=>ak (FH32 x.1 x.2.1))⟩
theorem Tj:ht32.Ok prog:=bL mixed O1 rfl func32 Ti (enters_of func32 rfl rfl) VS (by kernel_rfl) rfl rfl ⟨_,rfl⟩ rfl (pre:=[0,1]) rfl (fun x=>by kernel_rfl)

/- 104, lent -/
@[reducible] def O2:az:=az.mk [(0,.c .eB),(1,.c (.hole .str))] [] [] []
@[reducible] def O3:az:=az.mk [(0,.c .any)] [] [] []
noncomputable def KM:Cx:=(aK [] [])
theorem B4:KM.Ok prog:=av trivial trivial
noncomputable def AB:D prog 14 none 0:=dO [] (kd prog f104) 0
noncomputable def FH104_v1 (v1:ByteArray):bU (Unit) :=
 .no
theorem Ev:cM prog f104=some ⟨14,2,AB.er,[.t 4],[some (.list .str)]⟩:=by kernel_rfl
noncomputable def Ew:Ht:=⟨104,O2,O3,(fun x=>ak (FH104_v1 x.1))⟩
theorem Ey:Ew.Ok prog:=bL mixed B4 rfl func104 Ev (enters_of func104 rfl rfl) AB (by kernel_rfl) rfl rfl ⟨_,rfl⟩ rfl (pre:=[]) rfl (fun x=>by kernel_rfl)

/- 76, lent -/
@[reducible] def Tl:az:=az.mk [(0,.c .eB),(1,.c (.hole .str))] [] [] []
@[reducible] def Tm:az:=az.mk [(0,.c .any)] [] [] []
noncomputable def O4:Cx:=(aK [] [Ew])
theorem Ez:O4.Ok prog:=av trivial ⟨⟨Ey,rfl⟩,trivial⟩
noncomputable def EA:D prog 32 none 0:=dO [.x] (kd prog f76) 0
noncomputable def FH76_v1 (v1:ByteArray):bU (Unit) :=
 .bd (FH104_v1 v1) fun y0 =>
 .no
theorem GM:cM prog f76=some ⟨32,2,EA.er,[.t 4],[some (.list .str)]⟩:=by kernel_rfl
noncomputable def B5:Ht:=⟨76,Tl,Tm,(fun x=>ak (FH76_v1 x.1))⟩
theorem GN:B5.Ok prog:=bL mixed Ez rfl func76 GM (enters_of func76 rfl rfl) EA (by kernel_rfl) rfl rfl ⟨_,rfl⟩ rfl (pre:=[]) rfl (fun x=>by kernel_rfl)

/- 33, lent -/
@[reducible] def pH33:az:=az.mk [(0,.c (.ptr 0 0)),(1,.c (.hole .str))] [(0,.cells [.mp 1] false),(1,.map tG true .bool false)] [.slot 0,.cell 0 0] []
@[reducible] def qH33:az:=az.mk [(0,.cK [.cQ 2 .str,.hole tI])] [(2,.arr .str false),(0,.cells [.mp 1] false),(1,.map tG true .bool false)] [.part 0 0] []
noncomputable def IQ:Cx:=(aK [] [zj,B5,Ej,GJ])
theorem GO:IQ.Ok prog:=av (ve:=[]) (hts:=[zj,B5,Ej,GJ]) trivial ⟨⟨ny,rfl⟩,⟨GN,rfl⟩,⟨r8,rfl⟩,⟨sg,rfl⟩,trivial⟩
@[reducible] noncomputable def Tn:Go.AM.Fn:=⟨29,2,(dO [] (kd prog f73) 0:D prog 29 none 0).er,[.t 4,.cell 5 true 5,.t 6],[none,some tG,some tI]⟩
noncomputable def IU:Cx:=DZ prog IQ 73 Tn (fun _=>dO [] (kd prog f73) 0)
theorem GP:IU.Ok prog:=pq mixed GO func73 (by kernel_rfl) (enters_of func73 rfl rfl) (fun _=>by kernel_rfl)
noncomputable def adf:Cx:=IU
theorem O5:adf.Ok prog:=GP
noncomputable def VT:D prog 27 none 2:=dO [] (kd prog f33) 0
noncomputable def FH33 (v1:ByteArray) (m1:List ((GG)×Bool)):bU (Nat×Int×List ByteArray×(List ((GG)×Bool))×Unit) :=
 .bd (FH54 m1) fun y0 =>
 .br y0.1 (
 .br (!((9:Int)==(0:Int))) (
 .ret ((0:Nat),(9:Int),[],y0.2.1,())) (
 .br (!((0:Int)==(1:Int))) (
 .ret ((0:Nat),(18:Int),[],y0.2.1,())) (
 .bd (FH76_v1 v1) fun y1 =>
 .no))) (
 .bd (FH66 y0.2.1) fun y2 =>
 .br (!(aM .str y2.2.1 v1)) (
 .br (!((5:Int)==(0:Int))) (
 .ret ((0:Nat),(5:Int),[],y2.1,())) (
 .br (!((0:Int)==(1:Int))) (
 .ret ((0:Nat),(18:Int),[],y2.1,())) (
 .bd (FH76_v1 v1) fun y3 =>
 .no))) (
 .br (!((0:Int)==(0:Int))) (
 .ret ((0:Nat),(0:Int),[],y2.1,())) (
 .br (!((ax .str ((bs []),(0:Int),(bs []),(bs []),(0:Int)) y2.2.1 v1).2.1==(1:Int))) (
 .ret ((0:Nat),(18:Int),[],y2.1,())) (
 .bd (FH76fix v1 y2.2.1 y2.2.2.1 y2.2.2.2.1 y2.2.2.2.2.1) fun y4 =>
 .ret (y4.1,(0:Int),y4.2.1,y2.1,())))))
theorem To:cM prog f33=some ⟨27,2,VT.er,[.t 4,.t 5],[some (.list .str),some tI]⟩:=by kernel_rfl
noncomputable def YV:Ht:=⟨33,pH33,qH33,(fun x=>ak (FH33 x.1 x.2.1))⟩
theorem IV:YV.Ok prog:=bL mixed O5 rfl func33 To (enters_of func33 rfl rfl) VT (by kernel_rfl) rfl rfl ⟨_,rfl⟩ rfl (pre:=[0,1]) rfl (fun x=>by kernel_rfl)

/- 40, lent -/
@[reducible] def pH40:az:=az.mk [(0,.c (.ptr 0 0)),(1,.c (.hole .str)),(2,hI)] [(0,.cells [.mp 1] false),(1,.map tG true .bool false)] [.slot 0,.cell 0 0] []
@[reducible] def qH40:az:=az.mk [(0,.c (.hole .bool))] [(0,.cells [.mp 1] false),(1,.map tG true .bool false)] [] []
noncomputable def adg:Cx:=(aK [] [ht32])
theorem O6:adg.Ok prog:=av trivial ⟨⟨Tj,rfl⟩,trivial⟩
noncomputable def VU:D prog 22 none 2:=dO [] (kd prog f40) 0
noncomputable def FH40 (v1:ByteArray) (v2:Int) (m1:List ((GG)×Bool)):bU (Bool×(List ((GG)×Bool))×Unit) :=
 .bd (FH32 v1 m1) fun y0 =>
 .br (y0.2.1==(0:Int)) (
 .ret ((y0.1==v2),y0.2.2.1,())) (
 .ret (false,y0.2.2.1,()))
theorem Tp:cM prog f40=some ⟨22,3,VU.er,[.t 6],[some .bool]⟩:=by kernel_rfl
noncomputable def YW:Ht:=⟨40,pH40,qH40,(fun x=>ak (FH40 x.1 x.2.1 x.2.2.1))⟩
theorem IW:YW.Ok prog:=bL mixed O6 rfl func40 Tp (enters_of func40 rfl rfl) VU (by kernel_rfl) rfl rfl ⟨_,rfl⟩ rfl (pre:=[0,1]) rfl (fun x=>by kernel_rfl)

/- 100, lent -/
@[reducible] def adh:az:=az.mk [(0,.c (.mp 0)),(1,hI)] [(0,.map tI false .unit true)] [.slot 0] []
@[reducible] def adi:az:=az.mk [(0,.c .any)] [(0,.map tI false .unit true)] [] []
noncomputable def YX:Cx:=(aK [] [])
theorem KN:YX.Ok prog:=av trivial trivial
noncomputable def O7:D prog 7 none 1:=dO [] (kd prog f100) 0
noncomputable def FH100 (v1:Int) (m0:List (Int×Unit)):bU ((List (Int×Unit))×Unit) :=
 .ret ((aU (.int .i64) m0 v1 ()),())
theorem O8:cM prog f100=some ⟨7,2,O7.er,[],[]⟩:=by kernel_rfl
noncomputable def O9:Ht:=⟨100,adh,adi,(fun x=>ak (FH100 x.1 x.2.1))⟩
theorem EB:O9.Ok prog:=bL mixed KN rfl func100 O8 (enters_of func100 rfl rfl) O7 (by kernel_rfl) rfl rfl ⟨_,rfl⟩ rfl (pre:=[0]) rfl (fun x=>by kernel_rfl)

/- 79, lent -/
@[reducible] def pH79:az:=az.mk [(0,.c (.ptr 0 0))] [(0,.cells [.mp 1,.mp 2,.mp 3,.mp 4] false),(1,.map .str false tG true),(2,.map .str false (.list .str) false),(3,.map .str false .bool false),(4,.map .str false .bool false)] [.slot 0,.cell 0 0,.cell 0 1,.cell 0 2,.cell 0 3] []
@[reducible] def qH79:az:=az.mk [(0,.fn 106 [] [.ptr 5 0])] [(5,.cells [.ptr 0 0] false),(0,.cells [.mp 1,.mp 2,.mp 3,.mp 4] false),(1,.map .str false tG true),(2,.map .str false (.list .str) false),(3,.map .str false .bool false),(4,.map .str false .bool false)] [.part 0 0] []
noncomputable def adj:Cx:=(aK [] [])
theorem Pa:adj.Ok prog:=av trivial trivial
noncomputable def VV:D prog 4 none 5:=dO [] (kd prog f79) 0
noncomputable def FH79 (m1:cI) (m2:cN) (m3:aP) (m4:aP):bU (cI×cN×aP×aP×Unit) :=
 .ret (m1,m2,m3,m4,())
theorem Tq:cM prog f79=some ⟨4,1,VV.er,[.t 2],[none]⟩:=by kernel_rfl
noncomputable def Ts:Ht:=⟨79,pH79,qH79,(fun x=>ak (FH79 x.1 x.2.1 x.2.2.1 x.2.2.2.1))⟩
theorem B6:Ts.Ok prog:=bL mixed Pa rfl func79 Tq (enters_of func79 rfl rfl) VV (by kernel_rfl) rfl rfl ⟨_,rfl⟩ rfl (pre:=[0,1,2,3,4]) rfl (fun x=>by kernel_rfl)

/- 68 -/
noncomputable def cx68:Cx:=(aK [] [])
theorem Tt:cx68.Ok prog:=av trivial trivial
noncomputable def dd68:D prog 10 none 0:=dO [] (kd prog f68) 0
noncomputable def F68 (a0:GG) (a1:ByteArray):bU (Int×Unit) :=
 .br (!(seq a0.2.2.2.1 a1)) (
 .ret ((0:Int),())) (
 .ret (a0.2.2.2.2,()))
theorem YY:cM prog f68=some ⟨10,2,dd68.er,[.t 3],[some tI]⟩:=by kernel_rfl
noncomputable def ct68:Ct:=⟨68,[.c (.hole tG),.c (.ff .str)],hI,fun x=>ak (F68 x.1 x.2.1)⟩
theorem Tu:ct68.Ok prog:=cT mixed Tt func68 YY (enters_of func68 rfl rfl) dd68 (by kernel_rfl) rfl (fun x=>by kernel_rfl)

/- 120, lent -/
@[reducible] def adm:az:=az.mk [(0,.c (.mp 0))] [(0,.map tI false .unit true)] [.slot 0] []
@[reducible] def adn:az:=az.mk [(0,.fn 132 [] [.ptr 1 0])] [(1,.cells [.mp 0] false),(0,.map tI false .unit true)] [.part 0 0] []
noncomputable def YZ:Cx:=(aK [] [])
theorem KO:YZ.Ok prog:=av trivial trivial
noncomputable def Pb:D prog 4 none 1:=dO [] (kd prog f120) 0
noncomputable def FH120 (m0:List (Int×Unit)):bU ((List (Int×Unit))×Unit) :=
 .ret (m0,())
theorem Pc:cM prog f120=some ⟨4,1,Pb.er,[.t 2],[none]⟩:=by kernel_rfl
noncomputable def VW:Ht:=⟨120,adm,adn,(fun x=>ak (FH120 x.1))⟩
theorem Pd:VW.Ok prog:=bL mixed KO rfl func120 Pc (enters_of func120 rfl rfl) Pb (by kernel_rfl) rfl rfl ⟨_,rfl⟩ rfl (pre:=[0]) rfl (fun x=>by kernel_rfl)

/- 101, lent -/
@[reducible] def ado:az:=az.mk [(0,.c (.mp 0))] [(0,.map tI false .unit true)] [.slot 0] []
@[reducible] def adp:az:=az.mk [(0,.fn 132 [] [.ptr 1 0])] [(1,.cells [.mp 0] false),(0,.map tI false .unit true)] [.part 0 0] []
noncomputable def Y4:Cx:=(aK [] [VW])
theorem KP:Y4.Ok prog:=av trivial ⟨⟨Pd,rfl⟩,trivial⟩
noncomputable def Pe:D prog 5 none 1:=dO [] (kd prog f101) 0
noncomputable def FH101 (m0:List (Int×Unit)):bU ((List (Int×Unit))×Unit) :=
 .bd (FH120 m0) fun y0 =>
 .ret (y0.1,())
theorem Pf:cM prog f101=some ⟨5,1,Pe.er,[.t 2],[none]⟩:=by kernel_rfl
noncomputable def Pg:Ht:=⟨101,ado,adp,(fun x=>ak (FH101 x.1))⟩
theorem EC:Pg.Ok prog:=bL mixed KP rfl func101 Pf (enters_of func101 rfl rfl) Pe (by kernel_rfl) rfl rfl ⟨_,rfl⟩ rfl (pre:=[0]) rfl (fun x=>by kernel_rfl)

/- 122, by hand -/
@[reducible] def adq:az:=az.mk [(0,.c (.cQ 0 tI))] [(0,.arr tI false)] [.slot 0] []
@[reducible] def adr:az:=az.mk [(0,.c .any)] [(0,.arr tI false)] [] []
noncomputable def FH122 (nA:Nat) (b0:List Int):bU (List Int×Unit) :=
 .of (uJ (.int .i64) b0 nA)
noncomputable def Ph:Ht:=⟨122,adq,adr,(fun x=>ak (FH122 x.1 x.2.1))⟩
theorem Pj:Ph.Ok prog:=fun x y h=>NM (ρ:=xI) XN (enters_of func122 rfl rfl) (xs:=x.2.1) (n:=x.1) (y:=y) h

/- 102, lent -/
@[reducible] def ads:az:=az.mk [(0,.fn 132 [] [.ptr 0 0])] [(0,.cells [.mp 1] false),(1,.map tI false .unit true)] [.part 0 0,.cell 0 0] []
@[reducible] def adt:az:=az.mk [(0,.c (.cQ 2 tI))] [(2,.arr tI false),(0,.cells [.mp 1] false),(1,.map tI false .unit true)] [.slot 0] []
noncomputable def sj:Cx:=(aK [] [Ph])
theorem oD:sj.Ok prog:=av (ve:=[]) (hts:=[Ph]) trivial ⟨⟨Pj,rfl⟩,trivial⟩
noncomputable def mz:D prog 13 (some 4) 7:=dO [] (pick (kd prog f133) [(0,false)]) 0
noncomputable def mA:D prog 13 (some 4) 7:=dO [] (pick (kd prog f133) [(0,true)]) 0
noncomputable def gU:Cx:=zg sj (fun kz=>Ny kz sj ez 4 7 [7] (mz) (mA))
theorem jd:(gU).Ok prog:=jN oD (fun h=>nq mixed oD h)
@[reducible] def qB:az:=az.mk [(0,.c (.yl 4)),(4,.c (.mp 1))] [(4,.loop .ready none 3 [(2,.c (.ptr 2 0)),(4,.c .bW),(6,.fn 132 [] [.ptr 0 0])] [7] (.aO [.op (some 5) none (.mv (.t 7))]) (.block 1 (.aO [.op (some 8) none (.load false 1 (.t 2)),.op (some 9) none (.mv (.t 5)),.op (some 10) none (.dU tI [.t 9]),.op (some 11) none (.append 1 (.t 8) (.t 10)),.op none none (.store 1 (.t 2) (.t 11))])) 13),(1,.map tI false .unit true),(3,.ig),(2,.cells [.cQ 5 tI] false),(0,.cells [.mp 1] false),(5,.arr tI false)] [.cell 2 0] []
noncomputable def qC:D prog 14 none 7:=dO [] (pick (kd prog f132) [(0,false)]) 0
noncomputable def gH102f121f133_0i_0:((Int)×(Unit))→(List (Int×Unit))×Nat×List Int×Unit→bU ((List (Int×Unit))×Nat×List Int×Unit):=fun e (m1,kH,b5,_) =>
 .nd (decide ((kH+(((((e.1::[])).drop (0:Nat)).take (1:Nat))).length)<cu)) <|
 .nd (jG m1 m1) <|
 .ret (m1,(kH+(((((e.1::[])).drop (0:Nat)).take (1:Nat))).length),((((b5).drop (0:Nat)).take kH)++((((e.1::[])).drop (0:Nat)).take (1:Nat))),())
noncomputable def qD:rB prog 14 none 5:=vj mixed gU jd [0,1,2,3,4] rfl qB ( [.op (some 4) none (.load false 1 (.t 1))]) 4 5 [6,7] (some 8) ( .int .i64)  false ( .unit)  true 0 rfl 7 rfl (qC) (fun e x=>ak (gH102f121f133_0i_0 e x)) (fun e=>fun x=>by kernel_rfl)
@[reducible] def uN:az:=az.mk [(2,.c (.ptr 2 0)),(4,.c .bW),(6,.fn 132 [] [.ptr 0 0])] [(2,.cells [.bW] false),(0,.cells [.mp 1] false),(1,.map tI false .unit true)] [.slot 2] []
@[reducible] def uO:aX:=[(.normal,az.mk [(2,.c (.ptr 2 0))] [(2,.cells [.cQ 3 tI] false),(0,.cells [.mp 1] false),(1,.map tI false .unit true),(3,.arr tI false)] [.slot 2,.cell 2 0] [])]
noncomputable def mB:D prog 14 none 5:=dO [.m qD] (kd prog f132) 0
theorem tE:cM prog f132=some ⟨14,2,(mB).er,[],[]⟩:=by kernel_rfl
noncomputable def nM:gn prog 13 none 2:=rO mixed gU jd [0,1] rfl uN uO ( .t 6) [7] rfl (mz).er (mA).er 132 func132 (tE) (enters_of func132 rfl rfl) 5 rfl (mB) rfl
@[reducible] noncomputable def Pk:Go.AM.Fn:=⟨13,2,(dO [.r nM] (kd prog f133) 0:D prog 13 none 2).er,[.t 4],[some tL]⟩
noncomputable def ED:Cx:=Ap prog sj 133 Pk 2 (dO [.r nM] (kd prog f133) 0)
theorem EF:ED.Ok prog:=rN mixed oD func133 (by kernel_rfl) (enters_of func133 rfl rfl) rfl
@[reducible] noncomputable def Pm:Go.AM.Fn:=⟨5,1,(dO [] (kd prog f121) 0:D prog 5 none 0).er,[.t 2],[some tL]⟩
noncomputable def EG:Cx:=DZ prog ED 121 Pm (fun _=>dO [] (kd prog f121) 0)
theorem EH:EG.Ok prog:=pq mixed EF func121 (by kernel_rfl) (enters_of func121 rfl rfl) (fun _=>by kernel_rfl)
noncomputable def Y5:Cx:=EG
theorem KQ:Y5.Ok prog:=EH
noncomputable def Pn:D prog 9 none 2:=dO [] (kd prog f102) 0
noncomputable def FH102 (m1:List (Int×Unit)):bU (Nat×List Int×(List (Int×Unit))×Unit) :=
 .an m1 fun l0 =>
 .bd (.fm gH102f121f133_0i_0 l0 (m1,(0:Nat),[],())) fun z1 =>
 .bd (FH122 z1.2.1 z1.2.2.1) fun y2 =>
 .ret (z1.2.1,y2.1,z1.1,())
theorem Po:cM prog f102=some ⟨9,1,Pn.er,[.t 2],[some tL]⟩:=by kernel_rfl
noncomputable def Pp:Ht:=⟨102,ads,adt,(fun x=>ak (FH102 x.1))⟩
theorem EI:Pp.Ok prog:=bL mixed KQ rfl func102 Po (enters_of func102 rfl rfl) Pn (by kernel_rfl) rfl rfl ⟨_,rfl⟩ rfl (pre:=[0,1]) rfl (fun x=>by kernel_rfl)

/- 67, lent -/
@[reducible] def pH67:az:=az.mk [(0,.c (.ptr 0 0)),(1,.fn 68 [] [.ptr 1 0])] [(0,.cells [.mp 2,.mp 3,.mp 4,.mp 5] false),(1,.cells [.hole .str] false),(2,.map .str false tG true),(3,.map .str false (.list .str) false),(4,.map .str false .bool false),(5,.map .str false .bool false)] [.slot 0,.part 1 0,.cell 0 0,.cell 0 1,.cell 0 2,.cell 0 3] []
@[reducible] def qH67:az:=az.mk [(0,.c (.cQ 6 tI))] [(6,.arr tI false),(0,.cells [.mp 2,.mp 3,.mp 4,.mp 5] false),(2,.map .str false tG true),(3,.map .str false (.list .str) false),(4,.map .str false .bool false),(5,.map .str false .bool false),(1,.cells [.hole .str] false)] [.slot 0] []
noncomputable def AD:Cx:=(aK [ct68] [O9,Ts,Ox,Oz,GJ,Pg,Pp])
theorem mD:AD.Ok prog:=av ⟨Tu,trivial⟩ ⟨⟨EB,rfl⟩,⟨B6,rfl⟩,⟨vq,rfl⟩,⟨vu,rfl⟩,⟨sg,rfl⟩,⟨EC,rfl⟩,⟨EI,rfl⟩,trivial⟩
noncomputable def xU:D prog 48 (some 26) 29:=dO [] (pick (kd prog f67) [(0,true),(0,false),(0,false)]) 0
noncomputable def xV:D prog 48 (some 26) 29:=dO [] (pick (kd prog f67) [(0,true),(0,false),(0,true)]) 0
noncomputable def oE:Cx:=zg AD (fun kz=>Ny kz AD ez 26 29 [37] (xU) (xV))
theorem oF:(oE).Ok prog:=jN mD (fun h=>nq mixed mD h)
@[reducible] def B7:az:=az.mk [(0,.c (.yl 26)),(4,.c (.mp 24))] [(26,.loop .ready none 11 [(2,.c (.ptr 6 0)),(3,.c (.ptr 7 0)),(5,.c (.ptr 8 0)),(8,.c (.ptr 21 0)),(11,.c (.ptr 22 0)),(21,.c (.cQ 20 .str)),(22,hI),(23,hI),(36,.fn 132 [] [.ptr 23 0])] [37] (.aO [.op (some 12) none (.mv (.t 37))]) (.block 5 (.aO [.op (some 38) none (.load false 1 (.t 8)),.op (some 39) none (.mv (.t 12)),.op (some 40) none (.load false 1 (.t 11)),.op (some 41) none (.bin .add (.t 39) (.t 40)),.call (some 42) none (.c (.fn 100 [] [])) [.t 38,.t 41] [none,some tI]])) 48),(24,.map tI false .unit true),(11,.ig),(6,.cells [.ptr 0 0] false),(0,.cells [.mp 2,.mp 3,.mp 4,.mp 5] false),(2,.map .str false tG true),(3,.map .str false (.list .str) false),(4,.map .str false .bool false),(5,.map .str false .bool false),(7,.cells [.fn 68 .nil (.cons (.ptr 1 0) .nil)] false),(1,.cells [.hole .str] false),(8,.cells [.mp 24] false),(21,.cells [.mp 27] false),(22,.cells [.hole tI] false),(20,.arr .str false),(23,.cells [.mp 24] false),(9,.cells [.ptr 0 0] false),(12,.loop .busy none 11 [(2,.c (.ptr 6 0)),(3,.c (.ptr 7 0)),(4,.c .bW),(5,.c (.ptr 8 0)),(17,.fn 106 [] [.ptr 9 0])] [18,19] (.aO [.op (some 7) none (.mv (.t 19))]) (.block 1 (.seq (.aO [.op (some 20) none (.ex (gv.iR tI false .unit true) []),.op (some 8) none (.alloc [.cC]),.op none none (.store 1 (.t 8) (.t 20))]) (.seq (.seq (.aO [.op (some 21) none (.mv (.t 7)),.op (some 22) none (.len (.t 21)),.op (some 23) none (.mv (.c (.int .i64 (Int.ofNat 0))))]) (.block 2 (.loop (.seq (.aO [.op (some 24) none (.bin .lss (.t 23) (.t 22))]) (.seq (.cond (.t 24) .skip (.exit 2)) (.seq (.block 3 (.seq (.aO [.op (some 25) none (.idx 1 (.t 21) (.t 23)),.op (some 26) none (.load false 1 (.t 25)),.op (some 10) none (.mv (.t 26))]) (.seq (.draw [[],[],[1],[1,2],[1,2,3],[],[1,2,3,4,5],[0,1,2,3,4,5,6],[],[0,1,2,3,4,5,6,7,8]] [.op (some 27) none (.load false 1 (.t 3)),.op (some 28) none (.load false 1 (.t 2)),.op (some 29) none (.ex gv.iQ [.t 28]),.op (some 30) none (.mL 0 [false] (.t 29)),.op (some 31) none (.load false 1 (.t 30)),.op (some 32) none (.mv (.t 10)),.op (some 33) none (.ex (gv.gb .str false tG true false) [.t 31,.t 32]),.call (some 34) none (.t 27) [.t 33] [some tG],.op (some 11) none (.alloc [.int .i64 (Int.ofNat 0)]),.op none none (.store 1 (.t 11) (.t 34))]) (.seq (.aO [.op (some 35) none (.load false 1 (.t 5)),.call (some 36) none (.c (.fn 101 [] [])) [.t 35] [none]]) (.block 4 (.bF (.t 36) [37] (.aO [.op (some 12) none (.mv (.t 37))]) (.block 5 (.aO [.op (some 38) none (.load false 1 (.t 8)),.op (some 39) none (.mv (.t 12)),.op (some 40) none (.load false 1 (.t 11)),.op (some 41) none (.bin .add (.t 39) (.t 40)),.call (some 42) none (.c (.fn 100 [] [])) [.t 38,.t 41] [none,some tI]])))))))) (.aO [.op (some 43) none (.bin .add (.t 23) (.c (.int .i64 (Int.ofNat 1)))),.op (some 23) none (.mv (.t 43))]))))))) (.aO [.op (some 44) none (.load false 1 (.t 8)),.op none none (.store 1 (.t 5) (.t 44))])))) 48),(13,.arr .str false),(27,.map tI false .unit true)] [.cell 21 0] []
noncomputable def B8:D prog 14 none 29:=dO [] (pick (kd prog f132) [(0,false)]) 0
noncomputable def gH67_0b_2i_0:((Int)×(Unit))→Nat×Int×Int×(List (Int×Unit))×cI×cN×aP×aP×ByteArray×Int×List ByteArray×List ByteArray×(List (Int×Unit))×Unit→bU (Nat×Int×Int×(List (Int×Unit))×cI×cN×aP×aP×ByteArray×Int×List ByteArray×List ByteArray×(List (Int×Unit))×Unit):=fun e (Y6,w22,w23,m24,m2,m3,m4,m5,iK,EJ,pL,jh,m27,_) =>
 .ni (e.1+EJ) <|
 .bd (FH100 (e.1+EJ) m27) fun y7 =>
 .nd (jG m24 m24) <|
 .ret (Y6,w22,w23,m24,m2,m3,m4,m5,iK,EJ,pL,jh,y7.1,())
noncomputable def B9:rB prog 14 none 27:=BU mixed oE oF [0,1,2,3,4,5,6,7,8,9,10,11,12,13,14,15,16,17,18,19,20,21,22,23,24,25,26] rfl B7 ( [.op (some 4) none (.load false 1 (.t 1))]) 4 5 [6,7] (some 8) ( .int .i64)  false ( .unit)  true 0 rfl 29 rfl (B8) (fun e x=>ak (gH67_0b_2i_0 e x)) (fun e=>fun x=>by kernel_rfl)
@[reducible] def KR:az:=az.mk [(2,.c (.ptr 6 0)),(3,.c (.ptr 7 0)),(5,.c (.ptr 8 0)),(8,.c (.ptr 21 0)),(11,.c (.ptr 22 0)),(21,.c (.cQ 20 .str)),(22,hI),(23,hI),(36,.fn 132 [] [.ptr 23 0])] [(6,.cells [.ptr 0 0] false),(7,.cells [.fn 68 .nil (.cons (.ptr 1 0) .nil)] false),(8,.cells [.mp 24] false),(21,.cells [.mp 25] false),(22,.cells [.hole tI] false),(20,.arr .str false),(23,.cells [.mp 24] false),(0,.cells [.mp 2,.mp 3,.mp 4,.mp 5] false),(2,.map .str false tG true),(3,.map .str false (.list .str) false),(4,.map .str false .bool false),(5,.map .str false .bool false),(1,.cells [.hole .str] false),(9,.cells [.ptr 0 0] false),(11,.ig),(12,.loop .busy none 11 [(2,.c (.ptr 6 0)),(3,.c (.ptr 7 0)),(4,.c .bW),(5,.c (.ptr 8 0)),(17,.fn 106 [] [.ptr 9 0])] [18,19] (.aO [.op (some 7) none (.mv (.t 19))]) (.block 1 (.seq (.aO [.op (some 20) none (.ex (gv.iR tI false .unit true) []),.op (some 8) none (.alloc [.cC]),.op none none (.store 1 (.t 8) (.t 20))]) (.seq (.seq (.aO [.op (some 21) none (.mv (.t 7)),.op (some 22) none (.len (.t 21)),.op (some 23) none (.mv (.c (.int .i64 (Int.ofNat 0))))]) (.block 2 (.loop (.seq (.aO [.op (some 24) none (.bin .lss (.t 23) (.t 22))]) (.seq (.cond (.t 24) .skip (.exit 2)) (.seq (.block 3 (.seq (.aO [.op (some 25) none (.idx 1 (.t 21) (.t 23)),.op (some 26) none (.load false 1 (.t 25)),.op (some 10) none (.mv (.t 26))]) (.seq (.draw [[],[],[1],[1,2],[1,2,3],[],[1,2,3,4,5],[0,1,2,3,4,5,6],[],[0,1,2,3,4,5,6,7,8]] [.op (some 27) none (.load false 1 (.t 3)),.op (some 28) none (.load false 1 (.t 2)),.op (some 29) none (.ex gv.iQ [.t 28]),.op (some 30) none (.mL 0 [false] (.t 29)),.op (some 31) none (.load false 1 (.t 30)),.op (some 32) none (.mv (.t 10)),.op (some 33) none (.ex (gv.gb .str false tG true false) [.t 31,.t 32]),.call (some 34) none (.t 27) [.t 33] [some tG],.op (some 11) none (.alloc [.int .i64 (Int.ofNat 0)]),.op none none (.store 1 (.t 11) (.t 34))]) (.seq (.aO [.op (some 35) none (.load false 1 (.t 5)),.call (some 36) none (.c (.fn 101 [] [])) [.t 35] [none]]) (.block 4 (.bF (.t 36) [37] (.aO [.op (some 12) none (.mv (.t 37))]) (.block 5 (.aO [.op (some 38) none (.load false 1 (.t 8)),.op (some 39) none (.mv (.t 12)),.op (some 40) none (.load false 1 (.t 11)),.op (some 41) none (.bin .add (.t 39) (.t 40)),.call (some 42) none (.c (.fn 100 [] [])) [.t 38,.t 41] [none,some tI]])))))))) (.aO [.op (some 43) none (.bin .add (.t 23) (.c (.int .i64 (Int.ofNat 1)))),.op (some 23) none (.mv (.t 43))]))))))) (.aO [.op (some 44) none (.load false 1 (.t 8)),.op none none (.store 1 (.t 5) (.t 44))])))) 48),(13,.arr .str false),(24,.map tI false .unit true),(25,.map tI false .unit true)] [.slot 8,.slot 11,.part 36 0,.cell 8 0,.cell 21 0] []
@[reducible] def KT:aX:=[(.normal,az.mk [(2,.c (.ptr 6 0)),(3,.c (.ptr 7 0)),(5,.c (.ptr 8 0)),(8,.c (.ptr 21 0)),(21,.c (.cQ 20 .str)),(22,hI),(23,hI)] [(6,.cells [.ptr 0 0] false),(7,.cells [.fn 68 .nil (.cons (.ptr 1 0) .nil)] false),(8,.cells [.mp 22] false),(21,.cells [.mp 23] false),(20,.arr .str false),(0,.cells [.mp 2,.mp 3,.mp 4,.mp 5] false),(2,.map .str false tG true),(3,.map .str false (.list .str) false),(4,.map .str false .bool false),(5,.map .str false .bool false),(1,.cells [.hole .str] false),(9,.cells [.ptr 0 0] false),(11,.ig),(12,.loop .busy none 11 [(2,.c (.ptr 6 0)),(3,.c (.ptr 7 0)),(4,.c .bW),(5,.c (.ptr 8 0)),(17,.fn 106 [] [.ptr 9 0])] [18,19] (.aO [.op (some 7) none (.mv (.t 19))]) (.block 1 (.seq (.aO [.op (some 20) none (.ex (gv.iR tI false .unit true) []),.op (some 8) none (.alloc [.cC]),.op none none (.store 1 (.t 8) (.t 20))]) (.seq (.seq (.aO [.op (some 21) none (.mv (.t 7)),.op (some 22) none (.len (.t 21)),.op (some 23) none (.mv (.c (.int .i64 (Int.ofNat 0))))]) (.block 2 (.loop (.seq (.aO [.op (some 24) none (.bin .lss (.t 23) (.t 22))]) (.seq (.cond (.t 24) .skip (.exit 2)) (.seq (.block 3 (.seq (.aO [.op (some 25) none (.idx 1 (.t 21) (.t 23)),.op (some 26) none (.load false 1 (.t 25)),.op (some 10) none (.mv (.t 26))]) (.seq (.draw [[],[],[1],[1,2],[1,2,3],[],[1,2,3,4,5],[0,1,2,3,4,5,6],[],[0,1,2,3,4,5,6,7,8]] [.op (some 27) none (.load false 1 (.t 3)),.op (some 28) none (.load false 1 (.t 2)),.op (some 29) none (.ex gv.iQ [.t 28]),.op (some 30) none (.mL 0 [false] (.t 29)),.op (some 31) none (.load false 1 (.t 30)),.op (some 32) none (.mv (.t 10)),.op (some 33) none (.ex (gv.gb .str false tG true false) [.t 31,.t 32]),.call (some 34) none (.t 27) [.t 33] [some tG],.op (some 11) none (.alloc [.int .i64 (Int.ofNat 0)]),.op none none (.store 1 (.t 11) (.t 34))]) (.seq (.aO [.op (some 35) none (.load false 1 (.t 5)),.call (some 36) none (.c (.fn 101 [] [])) [.t 35] [none]]) (.block 4 (.bF (.t 36) [37] (.aO [.op (some 12) none (.mv (.t 37))]) (.block 5 (.aO [.op (some 38) none (.load false 1 (.t 8)),.op (some 39) none (.mv (.t 12)),.op (some 40) none (.load false 1 (.t 11)),.op (some 41) none (.bin .add (.t 39) (.t 40)),.call (some 42) none (.c (.fn 100 [] [])) [.t 38,.t 41] [none,some tI]])))))))) (.aO [.op (some 43) none (.bin .add (.t 23) (.c (.int .i64 (Int.ofNat 1)))),.op (some 23) none (.mv (.t 43))]))))))) (.aO [.op (some 44) none (.load false 1 (.t 8)),.op none none (.store 1 (.t 5) (.t 44))])))) 48),(13,.arr .str false),(22,.map tI false .unit true),(23,.map tI false .unit true)] [.slot 8,.cell 8 0,.cell 21 0] [])]
noncomputable def xW:D prog 14 none 27:=dO [.m B9] (kd prog f132) 0
theorem GQ:cM prog f132=some ⟨14,2,(xW).er,[],[]⟩:=by kernel_rfl
noncomputable def gH67_0b_2:Nat×Int×Int×Int×List ByteArray×cI×cN×aP×aP×ByteArray×List ByteArray×(List (Int×Unit))×(List (Int×Unit))×Unit→bU ((Nat×Int×Int×List ByteArray×cI×cN×aP×aP×ByteArray×List ByteArray×(List (Int×Unit))×(List (Int×Unit))×Unit)):=fun (xX,v22,v23,EJ,pL,m2,m3,m4,m5,iK,jh,m24,m25,_) =>
 .bd (.mq gH67_0b_2i_0 m24 (xX,v22,v23,m24,m2,m3,m4,m5,iK,EJ,pL,jh,m25,())) fun z8 =>
 .ret ((xX,v22,v23,z8.2.2.2.2.2.2.2.2.2.2.1,z8.2.2.2.2.1,z8.2.2.2.2.2.1,z8.2.2.2.2.2.2.1,z8.2.2.2.2.2.2.2.1,z8.2.2.2.2.2.2.2.2.1,z8.2.2.2.2.2.2.2.2.2.2.2.1,z8.2.2.2.1,z8.2.2.2.2.2.2.2.2.2.2.2.2.1,()))
noncomputable def KU:gn prog 48 (some 12) 21:=rK mixed oE oF [0,1,2,3,4,5,6,7,8,9,10,11,12,13,14,15,16,17,18,19,20] rfl KR KT ( .t 36) [37] rfl (xU).er (xV).er 132 func132 (GQ) (enters_of func132 rfl rfl) 27 rfl (xW) rfl (fun x=>ak (gH67_0b_2 x)) (fun x=>by kernel_rfl)
@[reducible] def KV:az:=az.mk [(2,.c (.ptr 6 0)),(3,.c (.ptr 7 0)),(5,.c (.ptr 8 0)),(8,.c (.ptr 21 0)),(21,.c (.cQ 20 .str)),(22,hI),(23,hI)] [(6,.cells [.ptr 0 0] false),(7,.cells [.fn 68 .nil (.cons (.ptr 1 0) .nil)] false),(8,.cells [.mp 22] false),(21,.cells [.mp 23] false),(20,.arr .str false),(0,.cells [.mp 2,.mp 3,.mp 4,.mp 5] false),(2,.map .str false tG true),(3,.map .str false (.list .str) false),(4,.map .str false .bool false),(5,.map .str false .bool false),(1,.cells [.hole .str] false),(9,.cells [.ptr 0 0] false),(11,.ig),(12,.loop .busy none 11 [(2,.c (.ptr 6 0)),(3,.c (.ptr 7 0)),(4,.c .bW),(5,.c (.ptr 8 0)),(17,.fn 106 [] [.ptr 9 0])] [18,19] (.aO [.op (some 7) none (.mv (.t 19))]) (.block 1 (.seq (.aO [.op (some 20) none (.ex (gv.iR tI false .unit true) []),.op (some 8) none (.alloc [.cC]),.op none none (.store 1 (.t 8) (.t 20))]) (.seq (.seq (.aO [.op (some 21) none (.mv (.t 7)),.op (some 22) none (.len (.t 21)),.op (some 23) none (.mv (.c (.int .i64 (Int.ofNat 0))))]) (.block 2 (.loop (.seq (.aO [.op (some 24) none (.bin .lss (.t 23) (.t 22))]) (.seq (.cond (.t 24) .skip (.exit 2)) (.seq (.block 3 (.seq (.aO [.op (some 25) none (.idx 1 (.t 21) (.t 23)),.op (some 26) none (.load false 1 (.t 25)),.op (some 10) none (.mv (.t 26))]) (.seq (.draw [[],[],[1],[1,2],[1,2,3],[],[1,2,3,4,5],[0,1,2,3,4,5,6],[],[0,1,2,3,4,5,6,7,8]] [.op (some 27) none (.load false 1 (.t 3)),.op (some 28) none (.load false 1 (.t 2)),.op (some 29) none (.ex gv.iQ [.t 28]),.op (some 30) none (.mL 0 [false] (.t 29)),.op (some 31) none (.load false 1 (.t 30)),.op (some 32) none (.mv (.t 10)),.op (some 33) none (.ex (gv.gb .str false tG true false) [.t 31,.t 32]),.call (some 34) none (.t 27) [.t 33] [some tG],.op (some 11) none (.alloc [.int .i64 (Int.ofNat 0)]),.op none none (.store 1 (.t 11) (.t 34))]) (.seq (.aO [.op (some 35) none (.load false 1 (.t 5)),.call (some 36) none (.c (.fn 101 [] [])) [.t 35] [none]]) (.block 4 (.bF (.t 36) [37] (.aO [.op (some 12) none (.mv (.t 37))]) (.block 5 (.aO [.op (some 38) none (.load false 1 (.t 8)),.op (some 39) none (.mv (.t 12)),.op (some 40) none (.load false 1 (.t 11)),.op (some 41) none (.bin .add (.t 39) (.t 40)),.call (some 42) none (.c (.fn 100 [] [])) [.t 38,.t 41] [none,some tI]])))))))) (.aO [.op (some 43) none (.bin .add (.t 23) (.c (.int .i64 (Int.ofNat 1)))),.op (some 23) none (.mv (.t 43))]))))))) (.aO [.op (some 44) none (.load false 1 (.t 8)),.op none none (.store 1 (.t 5) (.t 44))])))) 48),(13,.arr .str false),(22,.map tI false .unit true),(23,.map tI false .unit true)] [.slot 8,.cell 8 0,.cell 21 0] []
@[reducible] def KW:aX:=[(.exit 2,az.mk [(5,.c (.ptr 8 0)),(8,.c (.ptr 21 0))] [(8,.cells [.mp 22] false),(21,.cells [.mp 23] false),(0,.cells [.mp 2,.mp 3,.mp 4,.mp 5] false),(2,.map .str false tG true),(3,.map .str false (.list .str) false),(4,.map .str false .bool false),(5,.map .str false .bool false),(1,.cells [.hole .str] false),(6,.cells [.ptr 0 0] false),(7,.cells [.fn 68 .nil (.cons (.ptr 1 0) .nil)] false),(9,.cells [.ptr 0 0] false),(11,.ig),(12,.loop .busy none 11 [(2,.c (.ptr 6 0)),(3,.c (.ptr 7 0)),(4,.c .bW),(5,.c (.ptr 8 0)),(17,.fn 106 [] [.ptr 9 0])] [18,19] (.aO [.op (some 7) none (.mv (.t 19))]) (.block 1 (.seq (.aO [.op (some 20) none (.ex (gv.iR tI false .unit true) []),.op (some 8) none (.alloc [.cC]),.op none none (.store 1 (.t 8) (.t 20))]) (.seq (.seq (.aO [.op (some 21) none (.mv (.t 7)),.op (some 22) none (.len (.t 21)),.op (some 23) none (.mv (.c (.int .i64 (Int.ofNat 0))))]) (.block 2 (.loop (.seq (.aO [.op (some 24) none (.bin .lss (.t 23) (.t 22))]) (.seq (.cond (.t 24) .skip (.exit 2)) (.seq (.block 3 (.seq (.aO [.op (some 25) none (.idx 1 (.t 21) (.t 23)),.op (some 26) none (.load false 1 (.t 25)),.op (some 10) none (.mv (.t 26))]) (.seq (.draw [[],[],[1],[1,2],[1,2,3],[],[1,2,3,4,5],[0,1,2,3,4,5,6],[],[0,1,2,3,4,5,6,7,8]] [.op (some 27) none (.load false 1 (.t 3)),.op (some 28) none (.load false 1 (.t 2)),.op (some 29) none (.ex gv.iQ [.t 28]),.op (some 30) none (.mL 0 [false] (.t 29)),.op (some 31) none (.load false 1 (.t 30)),.op (some 32) none (.mv (.t 10)),.op (some 33) none (.ex (gv.gb .str false tG true false) [.t 31,.t 32]),.call (some 34) none (.t 27) [.t 33] [some tG],.op (some 11) none (.alloc [.int .i64 (Int.ofNat 0)]),.op none none (.store 1 (.t 11) (.t 34))]) (.seq (.aO [.op (some 35) none (.load false 1 (.t 5)),.call (some 36) none (.c (.fn 101 [] [])) [.t 35] [none]]) (.block 4 (.bF (.t 36) [37] (.aO [.op (some 12) none (.mv (.t 37))]) (.block 5 (.aO [.op (some 38) none (.load false 1 (.t 8)),.op (some 39) none (.mv (.t 12)),.op (some 40) none (.load false 1 (.t 11)),.op (some 41) none (.bin .add (.t 39) (.t 40)),.call (some 42) none (.c (.fn 100 [] [])) [.t 38,.t 41] [none,some tI]])))))))) (.aO [.op (some 43) none (.bin .add (.t 23) (.c (.int .i64 (Int.ofNat 1)))),.op (some 23) none (.mv (.t 43))]))))))) (.aO [.op (some 44) none (.load false 1 (.t 8)),.op none none (.store 1 (.t 5) (.t 44))])))) 48),(13,.arr .str false),(20,.arr .str false),(22,.map tI false .unit true),(23,.map tI false .unit true)] [.slot 8,.cell 8 0,.cell 21 0] [])]
noncomputable def KX:D prog 48 (some 12) 21:=dO [.r KU] (pick (kd prog f67) [(0,true),(0,false)]) 0
noncomputable def gH67_0b_1:Nat×Int×Int×List ByteArray×cI×cN×aP×aP×ByteArray×List ByteArray×(List (Int×Unit))×(List (Int×Unit))×Unit→bU ((Nat×Int×Int×List ByteArray×cI×cN×aP×aP×ByteArray×List ByteArray×(List (Int×Unit))×(List (Int×Unit))×Unit) ⊕ ((cI×cN×aP×aP×ByteArray×List ByteArray×List ByteArray×(List (Int×Unit))×(List (Int×Unit))×Unit))):=fun (xX,v22,v23,pL,m2,m3,m4,m5,iK,jh,m22,m23,_) =>
 .br (decide (v23<v22)) (
 .nb v23 ((xX:Nat):Int) <|
 .nd (decide (((0:Nat)+(Int.toNat v23))<(pL).length)) <|
 .bd (F68 ((ax .str ((bs []),(0:Int),(bs []),(bs []),(0:Int)) m2 ((pL).getD ((0:Nat)+(Int.toNat v23)) (bs []))).1,(ax .str ((bs []),(0:Int),(bs []),(bs []),(0:Int)) m2 ((pL).getD ((0:Nat)+(Int.toNat v23)) (bs []))).2.1,(ax .str ((bs []),(0:Int),(bs []),(bs []),(0:Int)) m2 ((pL).getD ((0:Nat)+(Int.toNat v23)) (bs []))).2.2.1,(ax .str ((bs []),(0:Int),(bs []),(bs []),(0:Int)) m2 ((pL).getD ((0:Nat)+(Int.toNat v23)) (bs []))).2.2.2.1,(ax .str ((bs []),(0:Int),(bs []),(bs []),(0:Int)) m2 ((pL).getD ((0:Nat)+(Int.toNat v23)) (bs []))).2.2.2.2) iK) fun y5 =>
 .bd (FH101 m22) fun y6 =>
 .bd (gH67_0b_2 (xX,v22,v23,y5.1,pL,m2,m3,m4,m5,iK,jh,y6.1,m23,())) fun z9 =>
 .ni (z9.2.2.1+(1:Int)) <|
 .ret (.inl (z9.1,z9.2.1,(z9.2.2.1+(1:Int)),z9.2.2.2.1,z9.2.2.2.2.1,z9.2.2.2.2.2.1,z9.2.2.2.2.2.2.1,z9.2.2.2.2.2.2.2.1,z9.2.2.2.2.2.2.2.2.1,z9.2.2.2.2.2.2.2.2.2.1,z9.2.2.2.2.2.2.2.2.2.2.1,z9.2.2.2.2.2.2.2.2.2.2.2.1,()))) (
 .ret (.inr (m2,m3,m4,m5,iK,jh,pL,m22,m23,())))
noncomputable def KY:cn prog 48 (some 12) 21:=bR mixed AD mD [0,1,2,3,4,5,6,7,8,9,10,11,12,13,14,15,16,17,18,19,20] rfl KV KW rfl (KX) (fun x=>ak (gH67_0b_1 x)) (fun x=>by kernel_rfl)
noncomputable def IX:D prog 48 (some 12) 21:=dO [] (pick (kd prog f67) [(0,false)]) 0
noncomputable def IY:D prog 48 (some 12) 21:=dO [.l KY] (pick (kd prog f67) [(0,true)]) 0
noncomputable def xY:Cx:=zg AD (fun kz=>Ny kz AD ez 12 21 [18,19] (IX) (IY))
theorem uw:(xY).Ok prog:=jN mD (fun h=>nq mixed mD h)
@[reducible] def KZ:az:=az.mk [(0,.c (.yl 12)),(1,.c (.ptr 9 0)),(10,.c (.cQ 13 .str)),(11,hI),(12,hI)] [(12,.loop .ready none 11 [(2,.c (.ptr 6 0)),(3,.c (.ptr 7 0)),(4,.c .bW),(5,.c (.ptr 8 0)),(17,.fn 106 [] [.ptr 9 0])] [18,19] (.aO [.op (some 7) none (.mv (.t 19))]) (.block 1 (.seq (.aO [.op (some 20) none (.ex (gv.iR tI false .unit true) []),.op (some 8) none (.alloc [.cC]),.op none none (.store 1 (.t 8) (.t 20))]) (.seq (.seq (.aO [.op (some 21) none (.mv (.t 7)),.op (some 22) none (.len (.t 21)),.op (some 23) none (.mv (.c (.int .i64 (Int.ofNat 0))))]) (.block 2 (.loop (.seq (.aO [.op (some 24) none (.bin .lss (.t 23) (.t 22))]) (.seq (.cond (.t 24) .skip (.exit 2)) (.seq (.block 3 (.seq (.aO [.op (some 25) none (.idx 1 (.t 21) (.t 23)),.op (some 26) none (.load false 1 (.t 25)),.op (some 10) none (.mv (.t 26))]) (.seq (.draw [[],[],[1],[1,2],[1,2,3],[],[1,2,3,4,5],[0,1,2,3,4,5,6],[],[0,1,2,3,4,5,6,7,8]] [.op (some 27) none (.load false 1 (.t 3)),.op (some 28) none (.load false 1 (.t 2)),.op (some 29) none (.ex gv.iQ [.t 28]),.op (some 30) none (.mL 0 [false] (.t 29)),.op (some 31) none (.load false 1 (.t 30)),.op (some 32) none (.mv (.t 10)),.op (some 33) none (.ex (gv.gb .str false tG true false) [.t 31,.t 32]),.call (some 34) none (.t 27) [.t 33] [some tG],.op (some 11) none (.alloc [.int .i64 (Int.ofNat 0)]),.op none none (.store 1 (.t 11) (.t 34))]) (.seq (.aO [.op (some 35) none (.load false 1 (.t 5)),.call (some 36) none (.c (.fn 101 [] [])) [.t 35] [none]]) (.block 4 (.bF (.t 36) [37] (.aO [.op (some 12) none (.mv (.t 37))]) (.block 5 (.aO [.op (some 38) none (.load false 1 (.t 8)),.op (some 39) none (.mv (.t 12)),.op (some 40) none (.load false 1 (.t 11)),.op (some 41) none (.bin .add (.t 39) (.t 40)),.call (some 42) none (.c (.fn 100 [] [])) [.t 38,.t 41] [none,some tI]])))))))) (.aO [.op (some 43) none (.bin .add (.t 23) (.c (.int .i64 (Int.ofNat 1)))),.op (some 23) none (.mv (.t 43))]))))))) (.aO [.op (some 44) none (.load false 1 (.t 8)),.op none none (.store 1 (.t 5) (.t 44))])))) 48),(9,.cells [.ptr 0 0] false),(13,.arr .str false),(11,.ig),(6,.cells [.ptr 0 0] false),(0,.cells [.mp 2,.mp 3,.mp 4,.mp 5] false),(2,.map .str false tG true),(3,.map .str false (.list .str) false),(4,.map .str false .bool false),(5,.map .str false .bool false),(7,.cells [.fn 68 .nil (.cons (.ptr 1 0) .nil)] false),(1,.cells [.hole .str] false),(8,.cells [.mp 14] false),(14,.map tI false .unit true)] [.slot 10,.cell 8 0] []
@[reducible] def K0:aX:=[(.exit 0,az.mk [] [(0,.cells [.mp 2,.mp 3,.mp 4,.mp 5] false),(2,.map .str false tG true),(3,.map .str false (.list .str) false),(4,.map .str false .bool false),(5,.map .str false .bool false),(1,.cells [.hole .str] false),(6,.cells [.ptr 0 0] false),(7,.cells [.fn 68 .nil (.cons (.ptr 1 0) .nil)] false),(8,.cells [.mp 13] false),(9,.cells [.ptr 0 0] false),(11,.ig),(12,.loop .ready none 11 [(2,.c (.ptr 6 0)),(3,.c (.ptr 7 0)),(4,.c .bW),(5,.c (.ptr 8 0)),(17,.fn 106 [] [.ptr 9 0])] [18,19] (.aO [.op (some 7) none (.mv (.t 19))]) (.block 1 (.seq (.aO [.op (some 20) none (.ex (gv.iR tI false .unit true) []),.op (some 8) none (.alloc [.cC]),.op none none (.store 1 (.t 8) (.t 20))]) (.seq (.seq (.aO [.op (some 21) none (.mv (.t 7)),.op (some 22) none (.len (.t 21)),.op (some 23) none (.mv (.c (.int .i64 (Int.ofNat 0))))]) (.block 2 (.loop (.seq (.aO [.op (some 24) none (.bin .lss (.t 23) (.t 22))]) (.seq (.cond (.t 24) .skip (.exit 2)) (.seq (.block 3 (.seq (.aO [.op (some 25) none (.idx 1 (.t 21) (.t 23)),.op (some 26) none (.load false 1 (.t 25)),.op (some 10) none (.mv (.t 26))]) (.seq (.draw [[],[],[1],[1,2],[1,2,3],[],[1,2,3,4,5],[0,1,2,3,4,5,6],[],[0,1,2,3,4,5,6,7,8]] [.op (some 27) none (.load false 1 (.t 3)),.op (some 28) none (.load false 1 (.t 2)),.op (some 29) none (.ex gv.iQ [.t 28]),.op (some 30) none (.mL 0 [false] (.t 29)),.op (some 31) none (.load false 1 (.t 30)),.op (some 32) none (.mv (.t 10)),.op (some 33) none (.ex (gv.gb .str false tG true false) [.t 31,.t 32]),.call (some 34) none (.t 27) [.t 33] [some tG],.op (some 11) none (.alloc [.int .i64 (Int.ofNat 0)]),.op none none (.store 1 (.t 11) (.t 34))]) (.seq (.aO [.op (some 35) none (.load false 1 (.t 5)),.call (some 36) none (.c (.fn 101 [] [])) [.t 35] [none]]) (.block 4 (.bF (.t 36) [37] (.aO [.op (some 12) none (.mv (.t 37))]) (.block 5 (.aO [.op (some 38) none (.load false 1 (.t 8)),.op (some 39) none (.mv (.t 12)),.op (some 40) none (.load false 1 (.t 11)),.op (some 41) none (.bin .add (.t 39) (.t 40)),.call (some 42) none (.c (.fn 100 [] [])) [.t 38,.t 41] [none,some tI]])))))))) (.aO [.op (some 43) none (.bin .add (.t 23) (.c (.int .i64 (Int.ofNat 1)))),.op (some 23) none (.mv (.t 43))]))))))) (.aO [.op (some 44) none (.load false 1 (.t 8)),.op none none (.store 1 (.t 5) (.t 44))])))) 48),(13,.map tI false .unit true)] [.cell 8 0] [])]
noncomputable def K1:D prog 34 none 13:=dO [] (pick (kd prog f106) [(0,false)]) 0
noncomputable def gH67_0i_0:Nat×Int×Int×List ByteArray×cI×cN×aP×aP×ByteArray×(List (Int×Unit))×Unit→bU ((Nat×Int×Int×List ByteArray×cI×cN×aP×aP×ByteArray×(List (Int×Unit))×Unit) ⊕ ((cI×cN×aP×aP×ByteArray×(List (Int×Unit))×Unit))):=fun (xZ,v11,v12,jh,m2,m3,m4,m5,iK,m14,_) =>
 .br (decide (v12<v11)) (
 .nb v12 ((xZ:Nat):Int) <|
 .nd (decide (((0:Nat)+(Int.toNat v12))<(jh).length)) <|
 .br ((ax .str ((bs []),(0:Int),(bs []),(bs []),(0:Int)) m2 ((jh).getD ((0:Nat)+(Int.toNat v12)) (bs []))).2.1==(1:Int)) (
 .bd (FH76fix ((jh).getD ((0:Nat)+(Int.toNat v12)) (bs [])) m2 m3 m4 m5) fun y4 =>
 .bd (.it gH67_0b_1 (y4.1,((y4.1:Nat):Int),(0:Int),y4.2.1,y4.2.2.1,y4.2.2.2.1,y4.2.2.2.2.1,y4.2.2.2.2.2.1,iK,jh,m14,[],())) fun IZ =>
 .ni (v12+(1:Int)) <|
 .ret (.inl (xZ,v11,(v12+(1:Int)),IZ.2.2.2.2.2.1,IZ.1,IZ.2.1,IZ.2.2.1,IZ.2.2.2.1,IZ.2.2.2.2.1,IZ.2.2.2.2.2.2.2.2.1,()))) (
 .ni (v12+(1:Int)) <|
 .ret (.inl (xZ,v11,(v12+(1:Int)),jh,m2,m3,m4,m5,iK,m14,())))) (
 .ret (.inr (m2,m3,m4,m5,iK,m14,())))
noncomputable def K2:cn prog 34 none 13:=bR mixed xY uw [0,1,2,3,4,5,6,7,8,9,10,11,12] rfl KZ K0 rfl (K1) (fun x=>ak (gH67_0i_0 x)) (fun x=>by kernel_rfl)
@[reducible] def Y7:az:=az.mk [(2,.c (.ptr 6 0)),(3,.c (.ptr 7 0)),(4,.c .bW),(5,.c (.ptr 8 0)),(17,.fn 106 [] [.ptr 9 0])] [(6,.cells [.ptr 0 0] false),(7,.cells [.fn 68 .nil (.cons (.ptr 1 0) .nil)] false),(8,.cells [.mp 10] false),(9,.cells [.ptr 0 0] false),(0,.cells [.mp 2,.mp 3,.mp 4,.mp 5] false),(2,.map .str false tG true),(3,.map .str false (.list .str) false),(4,.map .str false .bool false),(5,.map .str false .bool false),(1,.cells [.hole .str] false),(10,.map tI false .unit true)] [.slot 2,.slot 3,.slot 5,.part 17 0,.cell 8 0] []
@[reducible] def Y8:aX:=[(.normal,az.mk [(5,.c (.ptr 6 0))] [(6,.cells [.mp 7] false),(0,.cells [.mp 2,.mp 3,.mp 4,.mp 5] false),(2,.map .str false tG true),(3,.map .str false (.list .str) false),(4,.map .str false .bool false),(5,.map .str false .bool false),(1,.cells [.hole .str] false),(7,.map tI false .unit true)] [.slot 5,.cell 6 0] [])]
noncomputable def I1:D prog 34 none 13:=dO [.l K2] (kd prog f106) 0
theorem Tv:cM prog f106=some ⟨34,2,(I1).er,[],[]⟩:=by kernel_rfl
noncomputable def gH67_0:cI×cN×aP×aP×ByteArray×(List (Int×Unit))×Unit→bU ((cI×cN×aP×aP×ByteArray×(List (Int×Unit))×Unit)):=fun (m2,m3,m4,m5,iK,m10,_) =>
 .bd (FH95 m2) fun y2 =>
 .bd (FH81 y2.1) fun y3 =>
 .bd (.it gH67_0i_0 (y3.1,((y3.1:Nat):Int),(0:Int),y3.2.1,y3.2.2.1,m3,m4,m5,iK,m10,())) fun LI =>
 .ret ((LI.1,LI.2.1,LI.2.2.1,LI.2.2.2.1,LI.2.2.2.2.1,LI.2.2.2.2.2.1,()))
noncomputable def Y9:gn prog 48 none 6:=rK mixed xY uw [0,1,2,3,4,5] rfl Y7 Y8 ( .t 17) [18,19] rfl (IX).er (IY).er 106 func106 (Tv) (enters_of func106 rfl rfl) 13 rfl (I1) rfl (fun x=>ak (gH67_0 x)) (fun x=>by kernel_rfl)
noncomputable def VX:D prog 48 none 6:=dO [.r Y9] (kd prog f67) 0
noncomputable def FH67 (iK:ByteArray) (m2:cI) (m3:cN) (m4:aP) (m5:aP):bU (Nat×List Int×cI×cN×aP×aP×ByteArray×Unit) :=
 .bd (FH100 (0:Int) []) fun y0 =>
 .bd (FH79 m2 m3 m4 m5) fun y1 =>
 .bd (gH67_0 (y1.1,y1.2.1,y1.2.2.1,y1.2.2.2.1,iK,y0.1,())) fun z12 =>
 .bd (FH101 z12.2.2.2.2.2.1) fun Za =>
 .bd (FH102 Za.1) fun K3 =>
 .ret (K3.1,K3.2.1,z12.1,z12.2.1,z12.2.2.1,z12.2.2.2.1,z12.2.2.2.2.1,())
theorem Tw:cM prog f67=some ⟨48,2,VX.er,[.t 4],[some tL]⟩:=by kernel_rfl
noncomputable def ht67:Ht:=⟨67,pH67,qH67,(fun x=>ak (FH67 x.1 x.2.1 x.2.2.1 x.2.2.2.1 x.2.2.2.2.1))⟩
theorem Tx:ht67.Ok prog:=bL mixed mD rfl func67 Tw (enters_of func67 rfl rfl) VX (by kernel_rfl) rfl rfl ⟨_,rfl⟩ rfl (pre:=[0,1,2,3,4,5]) rfl (fun x=>by kernel_rfl)

/- 23, lent -/
@[reducible] def pH23:az:=az.mk [(0,.c (.ptr 0 0)),(1,.c (.hole .str))] [(0,.cells [.mp 1] false),(1,.map tG true .bool false)] [.slot 0,.cell 0 0] []
@[reducible] def qH23:az:=az.mk [(0,.cK [.cQ 2 tI,.hole tI])] [(2,.arr tI false),(0,.cells [.mp 1] false),(1,.map tG true .bool false)] [.part 0 0] []
noncomputable def adv:Cx:=(aK [Oh] [zj,Ej,ht67])
theorem Pq:adv.Ok prog:=av ⟨vm,trivial⟩ ⟨⟨ny,rfl⟩,⟨r8,rfl⟩,⟨Tx,rfl⟩,trivial⟩
noncomputable def VY:D prog 15 none 2:=dO [] (kd prog f23) 0
noncomputable def FH23 (v1:ByteArray) (m1:List ((GG)×Bool)):bU (Nat×Int×List Int×(List ((GG)×Bool))×Unit) :=
 .bd (FH54 m1) fun y0 =>
 .br y0.1 (
 .ret ((0:Nat),(9:Int),[],y0.2.1,())) (
 .bd (F65 v1) fun y1 =>
 .br (!y1.1) (
 .ret ((0:Nat),(8:Int),[],y0.2.1,())) (
 .bd (FH66 y0.2.1) fun y2 =>
 .bd (FH67 v1 y2.2.1 y2.2.2.1 y2.2.2.2.1 y2.2.2.2.2.1) fun y3 =>
 .ret (y3.1,(0:Int),y3.2.1,y2.1,())))
theorem Tz:cM prog f23=some ⟨15,2,VY.er,[.t 4,.t 5],[some tL,some tI]⟩:=by kernel_rfl
noncomputable def TA:Ht:=⟨23,pH23,qH23,(fun x=>ak (FH23 x.1 x.2.1))⟩
theorem Ca:TA.Ok prog:=bL mixed Pq rfl func23 Tz (enters_of func23 rfl rfl) VY (by kernel_rfl) rfl rfl ⟨_,rfl⟩ rfl (pre:=[0,1]) rfl (fun x=>by kernel_rfl)

/- 78 -/
noncomputable def cx78:Cx:=(aK [] [])
theorem TB:cx78.Ok prog:=av trivial trivial
noncomputable def dd78:D prog 5 none 0:=dO [] (kd prog f78) 0
noncomputable def F78 (a0:GG):bU (Int×Unit) :=
 .ret (a0.2.2.2.2,())
theorem Zb:cM prog f78=some ⟨5,1,dd78.er,[.t 2],[some tI]⟩:=by kernel_rfl
noncomputable def ct78:Ct:=⟨78,[.c (.hole tG)],hI,fun x=>ak (F78 x.1)⟩
theorem TC:ct78.Ok prog:=cT mixed TB func78 Zb (enters_of func78 rfl rfl) dd78 (by kernel_rfl) rfl (fun x=>by kernel_rfl)

/- 67, lent -/
@[reducible] def TD:az:=az.mk [(0,.c (.ptr 0 0)),(1,.c (.fn0 78))] [(0,.cells [.mp 1,.mp 2,.mp 3,.mp 4] false),(1,.map .str false tG true),(2,.map .str false (.list .str) false),(3,.map .str false .bool false),(4,.map .str false .bool false)] [.slot 0,.cell 0 0,.cell 0 1,.cell 0 2,.cell 0 3] []
@[reducible] def TE:az:=az.mk [(0,.c (.cQ 5 tI))] [(5,.arr tI false),(0,.cells [.mp 1,.mp 2,.mp 3,.mp 4] false),(1,.map .str false tG true),(2,.map .str false (.list .str) false),(3,.map .str false .bool false),(4,.map .str false .bool false)] [.slot 0] []
noncomputable def mE:Cx:=(aK [ct78] [O9,Ts,Ox,Oz,GJ,Pg,Pp])
theorem gE:mE.Ok prog:=av ⟨TC,trivial⟩ ⟨⟨EB,rfl⟩,⟨B6,rfl⟩,⟨vq,rfl⟩,⟨vu,rfl⟩,⟨sg,rfl⟩,⟨EC,rfl⟩,⟨EI,rfl⟩,trivial⟩
noncomputable def pY:D prog 48 (some 25) 28:=dO [] (pick (kd prog f67) [(0,true),(0,false),(0,false)]) 0
noncomputable def pZ:D prog 48 (some 25) 28:=dO [] (pick (kd prog f67) [(0,true),(0,false),(0,true)]) 0
noncomputable def kO:Cx:=zg mE (fun kz=>Ny kz mE ez 25 28 [37] (pY) (pZ))
theorem lJ:(kO).Ok prog:=jN gE (fun h=>nq mixed gE h)
@[reducible] def uP:az:=az.mk [(0,.c (.yl 25)),(4,.c (.mp 23))] [(25,.loop .ready none 10 [(2,.c (.ptr 5 0)),(3,.c (.ptr 6 0)),(5,.c (.ptr 7 0)),(8,.c (.ptr 20 0)),(11,.c (.ptr 21 0)),(21,.c (.cQ 19 .str)),(22,hI),(23,hI),(36,.fn 132 [] [.ptr 22 0])] [37] (.aO [.op (some 12) none (.mv (.t 37))]) (.block 5 (.aO [.op (some 38) none (.load false 1 (.t 8)),.op (some 39) none (.mv (.t 12)),.op (some 40) none (.load false 1 (.t 11)),.op (some 41) none (.bin .add (.t 39) (.t 40)),.call (some 42) none (.c (.fn 100 [] [])) [.t 38,.t 41] [none,some tI]])) 48),(23,.map tI false .unit true),(10,.ig),(5,.cells [.ptr 0 0] false),(0,.cells [.mp 1,.mp 2,.mp 3,.mp 4] false),(1,.map .str false tG true),(2,.map .str false (.list .str) false),(3,.map .str false .bool false),(4,.map .str false .bool false),(6,.cells [.fn0 78] false),(7,.cells [.mp 23] false),(20,.cells [.mp 26] false),(21,.cells [.hole tI] false),(19,.arr .str false),(22,.cells [.mp 23] false),(8,.cells [.ptr 0 0] false),(11,.loop .busy none 10 [(2,.c (.ptr 5 0)),(3,.c (.ptr 6 0)),(4,.c .bW),(5,.c (.ptr 7 0)),(17,.fn 106 [] [.ptr 8 0])] [18,19] (.aO [.op (some 7) none (.mv (.t 19))]) (.block 1 (.seq (.aO [.op (some 20) none (.ex (gv.iR tI false .unit true) []),.op (some 8) none (.alloc [.cC]),.op none none (.store 1 (.t 8) (.t 20))]) (.seq (.seq (.aO [.op (some 21) none (.mv (.t 7)),.op (some 22) none (.len (.t 21)),.op (some 23) none (.mv (.c (.int .i64 (Int.ofNat 0))))]) (.block 2 (.loop (.seq (.aO [.op (some 24) none (.bin .lss (.t 23) (.t 22))]) (.seq (.cond (.t 24) .skip (.exit 2)) (.seq (.block 3 (.seq (.aO [.op (some 25) none (.idx 1 (.t 21) (.t 23)),.op (some 26) none (.load false 1 (.t 25)),.op (some 10) none (.mv (.t 26))]) (.seq (.draw [[],[],[1],[1,2],[1,2,3],[],[1,2,3,4,5],[0,1,2,3,4,5,6],[],[0,1,2,3,4,5,6,7,8]] [.op (some 27) none (.load false 1 (.t 3)),.op (some 28) none (.load false 1 (.t 2)),.op (some 29) none (.ex gv.iQ [.t 28]),.op (some 30) none (.mL 0 [false] (.t 29)),.op (some 31) none (.load false 1 (.t 30)),.op (some 32) none (.mv (.t 10)),.op (some 33) none (.ex (gv.gb .str false tG true false) [.t 31,.t 32]),.call (some 34) none (.t 27) [.t 33] [some tG],.op (some 11) none (.alloc [.int .i64 (Int.ofNat 0)]),.op none none (.store 1 (.t 11) (.t 34))]) (.seq (.aO [.op (some 35) none (.load false 1 (.t 5)),.call (some 36) none (.c (.fn 101 [] [])) [.t 35] [none]]) (.block 4 (.bF (.t 36) [37] (.aO [.op (some 12) none (.mv (.t 37))]) (.block 5 (.aO [.op (some 38) none (.load false 1 (.t 8)),.op (some 39) none (.mv (.t 12)),.op (some 40) none (.load false 1 (.t 11)),.op (some 41) none (.bin .add (.t 39) (.t 40)),.call (some 42) none (.c (.fn 100 [] [])) [.t 38,.t 41] [none,some tI]])))))))) (.aO [.op (some 43) none (.bin .add (.t 23) (.c (.int .i64 (Int.ofNat 1)))),.op (some 23) none (.mv (.t 43))]))))))) (.aO [.op (some 44) none (.load false 1 (.t 8)),.op none none (.store 1 (.t 5) (.t 44))])))) 48),(12,.arr .str false),(26,.map tI false .unit true)] [.cell 20 0] []
noncomputable def uQ:D prog 14 none 28:=dO [] (pick (kd prog f132) [(0,false)]) 0
noncomputable def gH67_v1_0b_2i_0:((Int)×(Unit))→Nat×Int×Int×(List (Int×Unit))×cI×cN×aP×aP×Int×List ByteArray×List ByteArray×(List (Int×Unit))×Unit→bU (Nat×Int×Int×(List (Int×Unit))×cI×cN×aP×aP×Int×List ByteArray×List ByteArray×(List (Int×Unit))×Unit):=fun e (Y6,w22,w23,m23,m1,m2,m3,m4,EK,LJ,LK,m26,_) =>
 .ni (e.1+EK) <|
 .bd (FH100 (e.1+EK) m26) fun y7 =>
 .nd (jG m23 m23) <|
 .ret (Y6,w22,w23,m23,m1,m2,m3,m4,EK,LJ,LK,y7.1,())
noncomputable def uR:rB prog 14 none 26:=BU mixed kO lJ [0,1,2,3,4,5,6,7,8,9,10,11,12,13,14,15,16,17,18,19,20,21,22,23,24,25] rfl uP ( [.op (some 4) none (.load false 1 (.t 1))]) 4 5 [6,7] (some 8) ( .int .i64)  false ( .unit)  true 0 rfl 28 rfl (uQ) (fun e x=>ak (gH67_v1_0b_2i_0 e x)) (fun e=>fun x=>by kernel_rfl)
@[reducible] def Cb:az:=az.mk [(2,.c (.ptr 5 0)),(3,.c (.ptr 6 0)),(5,.c (.ptr 7 0)),(8,.c (.ptr 20 0)),(11,.c (.ptr 21 0)),(21,.c (.cQ 19 .str)),(22,hI),(23,hI),(36,.fn 132 [] [.ptr 22 0])] [(5,.cells [.ptr 0 0] false),(6,.cells [.fn0 78] false),(7,.cells [.mp 23] false),(20,.cells [.mp 24] false),(21,.cells [.hole tI] false),(19,.arr .str false),(22,.cells [.mp 23] false),(0,.cells [.mp 1,.mp 2,.mp 3,.mp 4] false),(1,.map .str false tG true),(2,.map .str false (.list .str) false),(3,.map .str false .bool false),(4,.map .str false .bool false),(8,.cells [.ptr 0 0] false),(10,.ig),(11,.loop .busy none 10 [(2,.c (.ptr 5 0)),(3,.c (.ptr 6 0)),(4,.c .bW),(5,.c (.ptr 7 0)),(17,.fn 106 [] [.ptr 8 0])] [18,19] (.aO [.op (some 7) none (.mv (.t 19))]) (.block 1 (.seq (.aO [.op (some 20) none (.ex (gv.iR tI false .unit true) []),.op (some 8) none (.alloc [.cC]),.op none none (.store 1 (.t 8) (.t 20))]) (.seq (.seq (.aO [.op (some 21) none (.mv (.t 7)),.op (some 22) none (.len (.t 21)),.op (some 23) none (.mv (.c (.int .i64 (Int.ofNat 0))))]) (.block 2 (.loop (.seq (.aO [.op (some 24) none (.bin .lss (.t 23) (.t 22))]) (.seq (.cond (.t 24) .skip (.exit 2)) (.seq (.block 3 (.seq (.aO [.op (some 25) none (.idx 1 (.t 21) (.t 23)),.op (some 26) none (.load false 1 (.t 25)),.op (some 10) none (.mv (.t 26))]) (.seq (.draw [[],[],[1],[1,2],[1,2,3],[],[1,2,3,4,5],[0,1,2,3,4,5,6],[],[0,1,2,3,4,5,6,7,8]] [.op (some 27) none (.load false 1 (.t 3)),.op (some 28) none (.load false 1 (.t 2)),.op (some 29) none (.ex gv.iQ [.t 28]),.op (some 30) none (.mL 0 [false] (.t 29)),.op (some 31) none (.load false 1 (.t 30)),.op (some 32) none (.mv (.t 10)),.op (some 33) none (.ex (gv.gb .str false tG true false) [.t 31,.t 32]),.call (some 34) none (.t 27) [.t 33] [some tG],.op (some 11) none (.alloc [.int .i64 (Int.ofNat 0)]),.op none none (.store 1 (.t 11) (.t 34))]) (.seq (.aO [.op (some 35) none (.load false 1 (.t 5)),.call (some 36) none (.c (.fn 101 [] [])) [.t 35] [none]]) (.block 4 (.bF (.t 36) [37] (.aO [.op (some 12) none (.mv (.t 37))]) (.block 5 (.aO [.op (some 38) none (.load false 1 (.t 8)),.op (some 39) none (.mv (.t 12)),.op (some 40) none (.load false 1 (.t 11)),.op (some 41) none (.bin .add (.t 39) (.t 40)),.call (some 42) none (.c (.fn 100 [] [])) [.t 38,.t 41] [none,some tI]])))))))) (.aO [.op (some 43) none (.bin .add (.t 23) (.c (.int .i64 (Int.ofNat 1)))),.op (some 23) none (.mv (.t 43))]))))))) (.aO [.op (some 44) none (.load false 1 (.t 8)),.op none none (.store 1 (.t 5) (.t 44))])))) 48),(12,.arr .str false),(23,.map tI false .unit true),(24,.map tI false .unit true)] [.slot 8,.slot 11,.part 36 0,.cell 7 0,.cell 20 0] []
@[reducible] def Cc:aX:=[(.normal,az.mk [(2,.c (.ptr 5 0)),(3,.c (.ptr 6 0)),(5,.c (.ptr 7 0)),(8,.c (.ptr 20 0)),(21,.c (.cQ 19 .str)),(22,hI),(23,hI)] [(5,.cells [.ptr 0 0] false),(6,.cells [.fn0 78] false),(7,.cells [.mp 21] false),(20,.cells [.mp 22] false),(19,.arr .str false),(0,.cells [.mp 1,.mp 2,.mp 3,.mp 4] false),(1,.map .str false tG true),(2,.map .str false (.list .str) false),(3,.map .str false .bool false),(4,.map .str false .bool false),(8,.cells [.ptr 0 0] false),(10,.ig),(11,.loop .busy none 10 [(2,.c (.ptr 5 0)),(3,.c (.ptr 6 0)),(4,.c .bW),(5,.c (.ptr 7 0)),(17,.fn 106 [] [.ptr 8 0])] [18,19] (.aO [.op (some 7) none (.mv (.t 19))]) (.block 1 (.seq (.aO [.op (some 20) none (.ex (gv.iR tI false .unit true) []),.op (some 8) none (.alloc [.cC]),.op none none (.store 1 (.t 8) (.t 20))]) (.seq (.seq (.aO [.op (some 21) none (.mv (.t 7)),.op (some 22) none (.len (.t 21)),.op (some 23) none (.mv (.c (.int .i64 (Int.ofNat 0))))]) (.block 2 (.loop (.seq (.aO [.op (some 24) none (.bin .lss (.t 23) (.t 22))]) (.seq (.cond (.t 24) .skip (.exit 2)) (.seq (.block 3 (.seq (.aO [.op (some 25) none (.idx 1 (.t 21) (.t 23)),.op (some 26) none (.load false 1 (.t 25)),.op (some 10) none (.mv (.t 26))]) (.seq (.draw [[],[],[1],[1,2],[1,2,3],[],[1,2,3,4,5],[0,1,2,3,4,5,6],[],[0,1,2,3,4,5,6,7,8]] [.op (some 27) none (.load false 1 (.t 3)),.op (some 28) none (.load false 1 (.t 2)),.op (some 29) none (.ex gv.iQ [.t 28]),.op (some 30) none (.mL 0 [false] (.t 29)),.op (some 31) none (.load false 1 (.t 30)),.op (some 32) none (.mv (.t 10)),.op (some 33) none (.ex (gv.gb .str false tG true false) [.t 31,.t 32]),.call (some 34) none (.t 27) [.t 33] [some tG],.op (some 11) none (.alloc [.int .i64 (Int.ofNat 0)]),.op none none (.store 1 (.t 11) (.t 34))]) (.seq (.aO [.op (some 35) none (.load false 1 (.t 5)),.call (some 36) none (.c (.fn 101 [] [])) [.t 35] [none]]) (.block 4 (.bF (.t 36) [37] (.aO [.op (some 12) none (.mv (.t 37))]) (.block 5 (.aO [.op (some 38) none (.load false 1 (.t 8)),.op (some 39) none (.mv (.t 12)),.op (some 40) none (.load false 1 (.t 11)),.op (some 41) none (.bin .add (.t 39) (.t 40)),.call (some 42) none (.c (.fn 100 [] [])) [.t 38,.t 41] [none,some tI]])))))))) (.aO [.op (some 43) none (.bin .add (.t 23) (.c (.int .i64 (Int.ofNat 1)))),.op (some 23) none (.mv (.t 43))]))))))) (.aO [.op (some 44) none (.load false 1 (.t 8)),.op none none (.store 1 (.t 5) (.t 44))])))) 48),(12,.arr .str false),(21,.map tI false .unit true),(22,.map tI false .unit true)] [.slot 8,.cell 7 0,.cell 20 0] [])]
noncomputable def p0:D prog 14 none 26:=dO [.m uR] (kd prog f132) 0
theorem zk:cM prog f132=some ⟨14,2,(p0).er,[],[]⟩:=by kernel_rfl
noncomputable def gH67_v1_0b_2:Nat×Int×Int×Int×List ByteArray×cI×cN×aP×aP×List ByteArray×(List (Int×Unit))×(List (Int×Unit))×Unit→bU ((Nat×Int×Int×List ByteArray×cI×cN×aP×aP×List ByteArray×(List (Int×Unit))×(List (Int×Unit))×Unit)):=fun (xX,v22,v23,EK,LJ,m1,m2,m3,m4,LK,m23,m24,_) =>
 .bd (.mq gH67_v1_0b_2i_0 m23 (xX,v22,v23,m23,m1,m2,m3,m4,EK,LJ,LK,m24,())) fun z8 =>
 .ret ((xX,v22,v23,z8.2.2.2.2.2.2.2.2.2.1,z8.2.2.2.2.1,z8.2.2.2.2.2.1,z8.2.2.2.2.2.2.1,z8.2.2.2.2.2.2.2.1,z8.2.2.2.2.2.2.2.2.2.2.1,z8.2.2.2.1,z8.2.2.2.2.2.2.2.2.2.2.2.1,()))
noncomputable def Cd:gn prog 48 (some 11) 20:=rK mixed kO lJ [0,1,2,3,4,5,6,7,8,9,10,11,12,13,14,15,16,17,18,19] rfl Cb Cc ( .t 36) [37] rfl (pY).er (pZ).er 132 func132 (zk) (enters_of func132 rfl rfl) 26 rfl (p0) rfl (fun x=>ak (gH67_v1_0b_2 x)) (fun x=>by kernel_rfl)
@[reducible] def Ce:az:=az.mk [(2,.c (.ptr 5 0)),(3,.c (.ptr 6 0)),(5,.c (.ptr 7 0)),(8,.c (.ptr 20 0)),(21,.c (.cQ 19 .str)),(22,hI),(23,hI)] [(5,.cells [.ptr 0 0] false),(6,.cells [.fn0 78] false),(7,.cells [.mp 21] false),(20,.cells [.mp 22] false),(19,.arr .str false),(0,.cells [.mp 1,.mp 2,.mp 3,.mp 4] false),(1,.map .str false tG true),(2,.map .str false (.list .str) false),(3,.map .str false .bool false),(4,.map .str false .bool false),(8,.cells [.ptr 0 0] false),(10,.ig),(11,.loop .busy none 10 [(2,.c (.ptr 5 0)),(3,.c (.ptr 6 0)),(4,.c .bW),(5,.c (.ptr 7 0)),(17,.fn 106 [] [.ptr 8 0])] [18,19] (.aO [.op (some 7) none (.mv (.t 19))]) (.block 1 (.seq (.aO [.op (some 20) none (.ex (gv.iR tI false .unit true) []),.op (some 8) none (.alloc [.cC]),.op none none (.store 1 (.t 8) (.t 20))]) (.seq (.seq (.aO [.op (some 21) none (.mv (.t 7)),.op (some 22) none (.len (.t 21)),.op (some 23) none (.mv (.c (.int .i64 (Int.ofNat 0))))]) (.block 2 (.loop (.seq (.aO [.op (some 24) none (.bin .lss (.t 23) (.t 22))]) (.seq (.cond (.t 24) .skip (.exit 2)) (.seq (.block 3 (.seq (.aO [.op (some 25) none (.idx 1 (.t 21) (.t 23)),.op (some 26) none (.load false 1 (.t 25)),.op (some 10) none (.mv (.t 26))]) (.seq (.draw [[],[],[1],[1,2],[1,2,3],[],[1,2,3,4,5],[0,1,2,3,4,5,6],[],[0,1,2,3,4,5,6,7,8]] [.op (some 27) none (.load false 1 (.t 3)),.op (some 28) none (.load false 1 (.t 2)),.op (some 29) none (.ex gv.iQ [.t 28]),.op (some 30) none (.mL 0 [false] (.t 29)),.op (some 31) none (.load false 1 (.t 30)),.op (some 32) none (.mv (.t 10)),.op (some 33) none (.ex (gv.gb .str false tG true false) [.t 31,.t 32]),.call (some 34) none (.t 27) [.t 33] [some tG],.op (some 11) none (.alloc [.int .i64 (Int.ofNat 0)]),.op none none (.store 1 (.t 11) (.t 34))]) (.seq (.aO [.op (some 35) none (.load false 1 (.t 5)),.call (some 36) none (.c (.fn 101 [] [])) [.t 35] [none]]) (.block 4 (.bF (.t 36) [37] (.aO [.op (some 12) none (.mv (.t 37))]) (.block 5 (.aO [.op (some 38) none (.load false 1 (.t 8)),.op (some 39) none (.mv (.t 12)),.op (some 40) none (.load false 1 (.t 11)),.op (some 41) none (.bin .add (.t 39) (.t 40)),.call (some 42) none (.c (.fn 100 [] [])) [.t 38,.t 41] [none,some tI]])))))))) (.aO [.op (some 43) none (.bin .add (.t 23) (.c (.int .i64 (Int.ofNat 1)))),.op (some 23) none (.mv (.t 43))]))))))) (.aO [.op (some 44) none (.load false 1 (.t 8)),.op none none (.store 1 (.t 5) (.t 44))])))) 48),(12,.arr .str false),(21,.map tI false .unit true),(22,.map tI false .unit true)] [.slot 8,.cell 7 0,.cell 20 0] []
@[reducible] def Cf:aX:=[(.exit 2,az.mk [(5,.c (.ptr 7 0)),(8,.c (.ptr 20 0))] [(7,.cells [.mp 21] false),(20,.cells [.mp 22] false),(0,.cells [.mp 1,.mp 2,.mp 3,.mp 4] false),(1,.map .str false tG true),(2,.map .str false (.list .str) false),(3,.map .str false .bool false),(4,.map .str false .bool false),(5,.cells [.ptr 0 0] false),(6,.cells [.fn0 78] false),(8,.cells [.ptr 0 0] false),(10,.ig),(11,.loop .busy none 10 [(2,.c (.ptr 5 0)),(3,.c (.ptr 6 0)),(4,.c .bW),(5,.c (.ptr 7 0)),(17,.fn 106 [] [.ptr 8 0])] [18,19] (.aO [.op (some 7) none (.mv (.t 19))]) (.block 1 (.seq (.aO [.op (some 20) none (.ex (gv.iR tI false .unit true) []),.op (some 8) none (.alloc [.cC]),.op none none (.store 1 (.t 8) (.t 20))]) (.seq (.seq (.aO [.op (some 21) none (.mv (.t 7)),.op (some 22) none (.len (.t 21)),.op (some 23) none (.mv (.c (.int .i64 (Int.ofNat 0))))]) (.block 2 (.loop (.seq (.aO [.op (some 24) none (.bin .lss (.t 23) (.t 22))]) (.seq (.cond (.t 24) .skip (.exit 2)) (.seq (.block 3 (.seq (.aO [.op (some 25) none (.idx 1 (.t 21) (.t 23)),.op (some 26) none (.load false 1 (.t 25)),.op (some 10) none (.mv (.t 26))]) (.seq (.draw [[],[],[1],[1,2],[1,2,3],[],[1,2,3,4,5],[0,1,2,3,4,5,6],[],[0,1,2,3,4,5,6,7,8]] [.op (some 27) none (.load false 1 (.t 3)),.op (some 28) none (.load false 1 (.t 2)),.op (some 29) none (.ex gv.iQ [.t 28]),.op (some 30) none (.mL 0 [false] (.t 29)),.op (some 31) none (.load false 1 (.t 30)),.op (some 32) none (.mv (.t 10)),.op (some 33) none (.ex (gv.gb .str false tG true false) [.t 31,.t 32]),.call (some 34) none (.t 27) [.t 33] [some tG],.op (some 11) none (.alloc [.int .i64 (Int.ofNat 0)]),.op none none (.store 1 (.t 11) (.t 34))]) (.seq (.aO [.op (some 35) none (.load false 1 (.t 5)),.call (some 36) none (.c (.fn 101 [] [])) [.t 35] [none]]) (.block 4 (.bF (.t 36) [37] (.aO [.op (some 12) none (.mv (.t 37))]) (.block 5 (.aO [.op (some 38) none (.load false 1 (.t 8)),.op (some 39) none (.mv (.t 12)),.op (some 40) none (.load false 1 (.t 11)),.op (some 41) none (.bin .add (.t 39) (.t 40)),.call (some 42) none (.c (.fn 100 [] [])) [.t 38,.t 41] [none,some tI]])))))))) (.aO [.op (some 43) none (.bin .add (.t 23) (.c (.int .i64 (Int.ofNat 1)))),.op (some 23) none (.mv (.t 43))]))))))) (.aO [.op (some 44) none (.load false 1 (.t 8)),.op none none (.store 1 (.t 5) (.t 44))])))) 48),(12,.arr .str false),(19,.arr .str false),(21,.map tI false .unit true),(22,.map tI false .unit true)] [.slot 8,.cell 7 0,.cell 20 0] [])]
noncomputable def Cg:D prog 48 (some 11) 20:=dO [.r Cd] (pick (kd prog f67) [(0,true),(0,false)]) 0
noncomputable def gH67_v1_0b_1:Nat×Int×Int×List ByteArray×cI×cN×aP×aP×List ByteArray×(List (Int×Unit))×(List (Int×Unit))×Unit→bU ((Nat×Int×Int×List ByteArray×cI×cN×aP×aP×List ByteArray×(List (Int×Unit))×(List (Int×Unit))×Unit) ⊕ ((cI×cN×aP×aP×List ByteArray×List ByteArray×(List (Int×Unit))×(List (Int×Unit))×Unit))):=fun (xX,v22,v23,LJ,m1,m2,m3,m4,LK,m21,m22,_) =>
 .br (decide (v23<v22)) (
 .nb v23 ((xX:Nat):Int) <|
 .nd (decide (((0:Nat)+(Int.toNat v23))<(LJ).length)) <|
 .bd (F78 ((ax .str ((bs []),(0:Int),(bs []),(bs []),(0:Int)) m1 ((LJ).getD ((0:Nat)+(Int.toNat v23)) (bs []))).1,(ax .str ((bs []),(0:Int),(bs []),(bs []),(0:Int)) m1 ((LJ).getD ((0:Nat)+(Int.toNat v23)) (bs []))).2.1,(ax .str ((bs []),(0:Int),(bs []),(bs []),(0:Int)) m1 ((LJ).getD ((0:Nat)+(Int.toNat v23)) (bs []))).2.2.1,(ax .str ((bs []),(0:Int),(bs []),(bs []),(0:Int)) m1 ((LJ).getD ((0:Nat)+(Int.toNat v23)) (bs []))).2.2.2.1,(ax .str ((bs []),(0:Int),(bs []),(bs []),(0:Int)) m1 ((LJ).getD ((0:Nat)+(Int.toNat v23)) (bs []))).2.2.2.2)) fun y5 =>
 .bd (FH101 m21) fun y6 =>
 .bd (gH67_v1_0b_2 (xX,v22,v23,y5.1,LJ,m1,m2,m3,m4,LK,y6.1,m22,())) fun z9 =>
 .ni (z9.2.2.1+(1:Int)) <|
 .ret (.inl (z9.1,z9.2.1,(z9.2.2.1+(1:Int)),z9.2.2.2.1,z9.2.2.2.2.1,z9.2.2.2.2.2.1,z9.2.2.2.2.2.2.1,z9.2.2.2.2.2.2.2.1,z9.2.2.2.2.2.2.2.2.1,z9.2.2.2.2.2.2.2.2.2.1,z9.2.2.2.2.2.2.2.2.2.2.1,()))) (
 .ret (.inr (m1,m2,m3,m4,LK,LJ,m21,m22,())))
noncomputable def Ch:cn prog 48 (some 11) 20:=bR mixed mE gE [0,1,2,3,4,5,6,7,8,9,10,11,12,13,14,15,16,17,18,19] rfl Ce Cf rfl (Cg) (fun x=>ak (gH67_v1_0b_1 x)) (fun x=>by kernel_rfl)
noncomputable def yb:D prog 48 (some 11) 20:=dO [] (pick (kd prog f67) [(0,false)]) 0
noncomputable def yc:D prog 48 (some 11) 20:=dO [.l Ch] (pick (kd prog f67) [(0,true)]) 0
noncomputable def oG:Cx:=zg mE (fun kz=>Ny kz mE ez 11 20 [18,19] (yb) (yc))
theorem oH:(oG).Ok prog:=jN gE (fun h=>nq mixed gE h)
@[reducible] def Ci:az:=az.mk [(0,.c (.yl 11)),(1,.c (.ptr 8 0)),(10,.c (.cQ 12 .str)),(11,hI),(12,hI)] [(11,.loop .ready none 10 [(2,.c (.ptr 5 0)),(3,.c (.ptr 6 0)),(4,.c .bW),(5,.c (.ptr 7 0)),(17,.fn 106 [] [.ptr 8 0])] [18,19] (.aO [.op (some 7) none (.mv (.t 19))]) (.block 1 (.seq (.aO [.op (some 20) none (.ex (gv.iR tI false .unit true) []),.op (some 8) none (.alloc [.cC]),.op none none (.store 1 (.t 8) (.t 20))]) (.seq (.seq (.aO [.op (some 21) none (.mv (.t 7)),.op (some 22) none (.len (.t 21)),.op (some 23) none (.mv (.c (.int .i64 (Int.ofNat 0))))]) (.block 2 (.loop (.seq (.aO [.op (some 24) none (.bin .lss (.t 23) (.t 22))]) (.seq (.cond (.t 24) .skip (.exit 2)) (.seq (.block 3 (.seq (.aO [.op (some 25) none (.idx 1 (.t 21) (.t 23)),.op (some 26) none (.load false 1 (.t 25)),.op (some 10) none (.mv (.t 26))]) (.seq (.draw [[],[],[1],[1,2],[1,2,3],[],[1,2,3,4,5],[0,1,2,3,4,5,6],[],[0,1,2,3,4,5,6,7,8]] [.op (some 27) none (.load false 1 (.t 3)),.op (some 28) none (.load false 1 (.t 2)),.op (some 29) none (.ex gv.iQ [.t 28]),.op (some 30) none (.mL 0 [false] (.t 29)),.op (some 31) none (.load false 1 (.t 30)),.op (some 32) none (.mv (.t 10)),.op (some 33) none (.ex (gv.gb .str false tG true false) [.t 31,.t 32]),.call (some 34) none (.t 27) [.t 33] [some tG],.op (some 11) none (.alloc [.int .i64 (Int.ofNat 0)]),.op none none (.store 1 (.t 11) (.t 34))]) (.seq (.aO [.op (some 35) none (.load false 1 (.t 5)),.call (some 36) none (.c (.fn 101 [] [])) [.t 35] [none]]) (.block 4 (.bF (.t 36) [37] (.aO [.op (some 12) none (.mv (.t 37))]) (.block 5 (.aO [.op (some 38) none (.load false 1 (.t 8)),.op (some 39) none (.mv (.t 12)),.op (some 40) none (.load false 1 (.t 11)),.op (some 41) none (.bin .add (.t 39) (.t 40)),.call (some 42) none (.c (.fn 100 [] [])) [.t 38,.t 41] [none,some tI]])))))))) (.aO [.op (some 43) none (.bin .add (.t 23) (.c (.int .i64 (Int.ofNat 1)))),.op (some 23) none (.mv (.t 43))]))))))) (.aO [.op (some 44) none (.load false 1 (.t 8)),.op none none (.store 1 (.t 5) (.t 44))])))) 48),(8,.cells [.ptr 0 0] false),(12,.arr .str false),(10,.ig),(5,.cells [.ptr 0 0] false),(0,.cells [.mp 1,.mp 2,.mp 3,.mp 4] false),(1,.map .str false tG true),(2,.map .str false (.list .str) false),(3,.map .str false .bool false),(4,.map .str false .bool false),(6,.cells [.fn0 78] false),(7,.cells [.mp 13] false),(13,.map tI false .unit true)] [.slot 10,.cell 7 0] []
@[reducible] def Cj:aX:=[(.exit 0,az.mk [] [(0,.cells [.mp 1,.mp 2,.mp 3,.mp 4] false),(1,.map .str false tG true),(2,.map .str false (.list .str) false),(3,.map .str false .bool false),(4,.map .str false .bool false),(5,.cells [.ptr 0 0] false),(6,.cells [.fn0 78] false),(7,.cells [.mp 12] false),(8,.cells [.ptr 0 0] false),(10,.ig),(11,.loop .ready none 10 [(2,.c (.ptr 5 0)),(3,.c (.ptr 6 0)),(4,.c .bW),(5,.c (.ptr 7 0)),(17,.fn 106 [] [.ptr 8 0])] [18,19] (.aO [.op (some 7) none (.mv (.t 19))]) (.block 1 (.seq (.aO [.op (some 20) none (.ex (gv.iR tI false .unit true) []),.op (some 8) none (.alloc [.cC]),.op none none (.store 1 (.t 8) (.t 20))]) (.seq (.seq (.aO [.op (some 21) none (.mv (.t 7)),.op (some 22) none (.len (.t 21)),.op (some 23) none (.mv (.c (.int .i64 (Int.ofNat 0))))]) (.block 2 (.loop (.seq (.aO [.op (some 24) none (.bin .lss (.t 23) (.t 22))]) (.seq (.cond (.t 24) .skip (.exit 2)) (.seq (.block 3 (.seq (.aO [.op (some 25) none (.idx 1 (.t 21) (.t 23)),.op (some 26) none (.load false 1 (.t 25)),.op (some 10) none (.mv (.t 26))]) (.seq (.draw [[],[],[1],[1,2],[1,2,3],[],[1,2,3,4,5],[0,1,2,3,4,5,6],[],[0,1,2,3,4,5,6,7,8]] [.op (some 27) none (.load false 1 (.t 3)),.op (some 28) none (.load false 1 (.t 2)),.op (some 29) none (.ex gv.iQ [.t 28]),.op (some 30) none (.mL 0 [false] (.t 29)),.op (some 31) none (.load false 1 (.t 30)),.op (some 32) none (.mv (.t 10)),.op (some 33) none (.ex (gv.gb .str false tG true false) [.t 31,.t 32]),.call (some 34) none (.t 27) [.t 33] [some tG],.op (some 11) none (.alloc [.int .i64 (Int.ofNat 0)]),.op none none (.store 1 (.t 11) (.t 34))]) (.seq (.aO [.op (some 35) none (.load false 1 (.t 5)),.call (some 36) none (.c (.fn 101 [] [])) [.t 35] [none]]) (.block 4 (.bF (.t 36) [37] (.aO [.op (some 12) none (.mv (.t 37))]) (.block 5 (.aO [.op (some 38) none (.load false 1 (.t 8)),.op (some 39) none (.mv (.t 12)),.op (some 40) none (.load false 1 (.t 11)),.op (some 41) none (.bin .add (.t 39) (.t 40)),.call (some 42) none (.c (.fn 100 [] [])) [.t 38,.t 41] [none,some tI]])))))))) (.aO [.op (some 43) none (.bin .add (.t 23) (.c (.int .i64 (Int.ofNat 1)))),.op (some 23) none (.mv (.t 43))]))))))) (.aO [.op (some 44) none (.load false 1 (.t 8)),.op none none (.store 1 (.t 5) (.t 44))])))) 48),(12,.map tI false .unit true)] [.cell 7 0] [])]
noncomputable def Ck:D prog 34 none 12:=dO [] (pick (kd prog f106) [(0,false)]) 0
noncomputable def gH67_v1_0i_0:Nat×Int×Int×List ByteArray×cI×cN×aP×aP×(List (Int×Unit))×Unit→bU ((Nat×Int×Int×List ByteArray×cI×cN×aP×aP×(List (Int×Unit))×Unit) ⊕ ((cI×cN×aP×aP×(List (Int×Unit))×Unit))):=fun (xZ,v11,v12,LK,m1,m2,m3,m4,m13,_) =>
 .br (decide (v12<v11)) (
 .nb v12 ((xZ:Nat):Int) <|
 .nd (decide (((0:Nat)+(Int.toNat v12))<(LK).length)) <|
 .br ((ax .str ((bs []),(0:Int),(bs []),(bs []),(0:Int)) m1 ((LK).getD ((0:Nat)+(Int.toNat v12)) (bs []))).2.1==(1:Int)) (
 .bd (FH76fix ((LK).getD ((0:Nat)+(Int.toNat v12)) (bs [])) m1 m2 m3 m4) fun y4 =>
 .bd (.it gH67_v1_0b_1 (y4.1,((y4.1:Nat):Int),(0:Int),y4.2.1,y4.2.2.1,y4.2.2.2.1,y4.2.2.2.2.1,y4.2.2.2.2.2.1,LK,m13,[],())) fun IZ =>
 .ni (v12+(1:Int)) <|
 .ret (.inl (xZ,v11,(v12+(1:Int)),IZ.2.2.2.2.1,IZ.1,IZ.2.1,IZ.2.2.1,IZ.2.2.2.1,IZ.2.2.2.2.2.2.2.1,()))) (
 .ni (v12+(1:Int)) <|
 .ret (.inl (xZ,v11,(v12+(1:Int)),LK,m1,m2,m3,m4,m13,())))) (
 .ret (.inr (m1,m2,m3,m4,m13,())))
noncomputable def Cl:cn prog 34 none 12:=bR mixed oG oH [0,1,2,3,4,5,6,7,8,9,10,11] rfl Ci Cj rfl (Ck) (fun x=>ak (gH67_v1_0i_0 x)) (fun x=>by kernel_rfl)
@[reducible] def K4:az:=az.mk [(2,.c (.ptr 5 0)),(3,.c (.ptr 6 0)),(4,.c .bW),(5,.c (.ptr 7 0)),(17,.fn 106 [] [.ptr 8 0])] [(5,.cells [.ptr 0 0] false),(6,.cells [.fn0 78] false),(7,.cells [.mp 9] false),(8,.cells [.ptr 0 0] false),(0,.cells [.mp 1,.mp 2,.mp 3,.mp 4] false),(1,.map .str false tG true),(2,.map .str false (.list .str) false),(3,.map .str false .bool false),(4,.map .str false .bool false),(9,.map tI false .unit true)] [.slot 2,.slot 3,.slot 5,.part 17 0,.cell 7 0] []
@[reducible] def K5:aX:=[(.normal,az.mk [(5,.c (.ptr 5 0))] [(5,.cells [.mp 6] false),(0,.cells [.mp 1,.mp 2,.mp 3,.mp 4] false),(1,.map .str false tG true),(2,.map .str false (.list .str) false),(3,.map .str false .bool false),(4,.map .str false .bool false),(6,.map tI false .unit true)] [.slot 5,.cell 5 0] [])]
noncomputable def yd:D prog 34 none 12:=dO [.l Cl] (kd prog f106) 0
theorem GR:cM prog f106=some ⟨34,2,(yd).er,[],[]⟩:=by kernel_rfl
noncomputable def gH67_v1_0:cI×cN×aP×aP×(List (Int×Unit))×Unit→bU ((cI×cN×aP×aP×(List (Int×Unit))×Unit)):=fun (m1,m2,m3,m4,m9,_) =>
 .bd (FH95 m1) fun y2 =>
 .bd (FH81 y2.1) fun y3 =>
 .bd (.it gH67_v1_0i_0 (y3.1,((y3.1:Nat):Int),(0:Int),y3.2.1,y3.2.2.1,m2,m3,m4,m9,())) fun LI =>
 .ret ((LI.1,LI.2.1,LI.2.2.1,LI.2.2.2.1,LI.2.2.2.2.1,()))
noncomputable def K6:gn prog 48 none 5:=rK mixed oG oH [0,1,2,3,4] rfl K4 K5 ( .t 17) [18,19] rfl (yb).er (yc).er 106 func106 (GR) (enters_of func106 rfl rfl) 12 rfl (yd) rfl (fun x=>ak (gH67_v1_0 x)) (fun x=>by kernel_rfl)
noncomputable def EL:D prog 48 none 5:=dO [.r K6] (kd prog f67) 0
noncomputable def FH67_v1 (m1:cI) (m2:cN) (m3:aP) (m4:aP):bU (Nat×List Int×cI×cN×aP×aP×Unit) :=
 .bd (FH100 (0:Int) []) fun y0 =>
 .bd (FH79 m1 m2 m3 m4) fun y1 =>
 .bd (gH67_v1_0 (y1.1,y1.2.1,y1.2.2.1,y1.2.2.2.1,y0.1,())) fun z12 =>
 .bd (FH101 z12.2.2.2.2.1) fun Za =>
 .bd (FH102 Za.1) fun K3 =>
 .ret (K3.1,K3.2.1,z12.1,z12.2.1,z12.2.2.1,z12.2.2.2.1,())
theorem GS:cM prog f67=some ⟨48,2,EL.er,[.t 4],[some tL]⟩:=by kernel_rfl
noncomputable def I2:Ht:=⟨67,TD,TE,(fun x=>ak (FH67_v1 x.1 x.2.1 x.2.2.1 x.2.2.2.1))⟩
theorem GU:I2.Ok prog:=bL mixed gE rfl func67 GS (enters_of func67 rfl rfl) EL (by kernel_rfl) rfl rfl ⟨_,rfl⟩ rfl (pre:=[0,1,2,3,4]) rfl (fun x=>by kernel_rfl)

/- 72 -/
noncomputable def cx72:Cx:=(aK [] [])
theorem TF:cx72.Ok prog:=av trivial trivial
noncomputable def dd72:D prog 13 none 0:=dO [] (kd prog f72) 0
noncomputable def F72 (a0:List Int):bU ((Int×Int)×Unit) :=
 .nb (0:Int) (((a0).length:Nat):Int) <|
 .ni ((((a0).length:Nat):Int) - (1:Int)) <|
 .nb ((((a0).length:Nat):Int) - (1:Int)) (((a0).length:Nat):Int) <|
 .ret ((((a0).getD (Int.toNat (0:Int)) (0:Int)),((a0).getD (Int.toNat ((((a0).length:Nat):Int) - (1:Int))) (0:Int))),())
theorem Zc:cM prog f72=some ⟨13,1,dd72.er,[.cell 2 true 2],[some (.prod tI tI)]⟩:=by kernel_rfl
noncomputable def Zd:Ct:=⟨72,[hL],.c (.hole (.prod tI tI)),fun x=>ak (F72 x.1)⟩
theorem I3:Zd.Ok prog:=cT mixed TF func72 Zc (enters_of func72 rfl rfl) dd72 (by kernel_rfl) rfl (fun x=>by kernel_rfl)

/- 37, lent -/
@[reducible] def pH37:az:=az.mk [(0,.c (.ptr 0 0))] [(0,.cells [.mp 1] false),(1,.map tG true .bool false)] [.slot 0,.cell 0 0] []
@[reducible] def qH37:az:=az.mk [(0,.cK [.hole (.prod tI tI),.hole tI])] [(0,.cells [.mp 1] false),(1,.map tG true .bool false)] [] []
noncomputable def adz:Cx:=(aK [Zd] [zj,Ej,I2])
theorem Pr:adz.Ok prog:=av ⟨I3,trivial⟩ ⟨⟨ny,rfl⟩,⟨r8,rfl⟩,⟨GU,rfl⟩,trivial⟩
noncomputable def VZ:D prog 11 none 2:=dO [] (kd prog f37) 0
noncomputable def FH37 (m1:List ((GG)×Bool)):bU ((Int×Int)×Int×(List ((GG)×Bool))×Unit) :=
 .bd (FH54 m1) fun y0 =>
 .br y0.1 (
 .ret (((0:Int),(0:Int)),(9:Int),y0.2.1,())) (
 .bd (FH66 y0.2.1) fun y1 =>
 .bd (FH67_v1 y1.2.1 y1.2.2.1 y1.2.2.2.1 y1.2.2.2.2.1) fun y2 =>
 .bd (F72 (((y2.2.1).drop (0:Nat)).take y2.1)) fun y3 =>
 .ret ((y3.1.1,y3.1.2),(0:Int),y1.1,()))
theorem TG:cM prog f37=some ⟨11,1,VZ.er,[.cell 2 true 2,.t 3],[some (.prod tI tI),some tI]⟩:=by kernel_rfl
noncomputable def Ze:Ht:=⟨37,pH37,qH37,(fun x=>ak (FH37 x.1))⟩
theorem I4:Ze.Ok prog:=bL mixed Pr rfl func37 TG (enters_of func37 rfl rfl) VZ (by kernel_rfl) rfl rfl ⟨_,rfl⟩ rfl (pre:=[0,1]) rfl (fun x=>by kernel_rfl)

/- 25, lent -/
@[reducible] def pH25:az:=az.mk [(0,.c (.ptr 0 0)),(1,.c (.hole .str))] [(0,.cells [.mp 1] false),(1,.map tG true .bool false)] [.slot 0,.cell 0 0] []
@[reducible] def qH25:az:=az.mk [(0,.cK [.hole (.prod tI tI),.hole tI])] [(0,.cells [.mp 1] false),(1,.map tG true .bool false)] [] []
noncomputable def adA:Cx:=(aK [Zd] [TA])
theorem Pt:adA.Ok prog:=av ⟨I3,trivial⟩ ⟨⟨Ca,rfl⟩,trivial⟩
noncomputable def V0:D prog 20 none 2:=dO [] (kd prog f25) 0
noncomputable def FH25 (v1:ByteArray) (m1:List ((GG)×Bool)):bU ((Int×Int)×Int×(List ((GG)×Bool))×Unit) :=
 .bd (FH23 v1 m1) fun y0 =>
 .br (!(y0.2.1==(0:Int))) (
 .ret (((0:Int),(0:Int)),y0.2.1,y0.2.2.2.1,())) (
 .bd (F72 (((y0.2.2.1).drop (0:Nat)).take y0.1)) fun y1 =>
 .ret ((y1.1.1,y1.1.2),(0:Int),y0.2.2.2.1,()))
theorem TH:cM prog f25=some ⟨20,2,V0.er,[.cell 4 true 2,.t 5],[some (.prod tI tI),some tI]⟩:=by kernel_rfl
noncomputable def ht25:Ht:=⟨25,pH25,qH25,(fun x=>ak (FH25 x.1 x.2.1))⟩
theorem TI:ht25.Ok prog:=bL mixed Pt rfl func25 TH (enters_of func25 rfl rfl) V0 (by kernel_rfl) rfl rfl ⟨_,rfl⟩ rfl (pre:=[0,1]) rfl (fun x=>by kernel_rfl)

/- 36 -/
noncomputable def cx36:Cx:=(aK [] [])
theorem I5:cx36.Ok prog:=av trivial trivial
@[reducible] def adD:az:=az.mk [(0,.c (.hole (.list .str))),(1,.c (.hole (.list .str))),(5,hI)] [] [] []
@[reducible] def adE:aX:=[(.ret,az.mk [(4,.c (.tf false))] [] [] []),(.exit 0,az.mk [] [] [] [])]
noncomputable def adF:D prog 26 none 0:=dO [] (pick (kd prog f36) [(0,false)]) 0
noncomputable def g36_0:List ByteArray×List ByteArray×Int×Unit→bU ((List ByteArray×List ByteArray×Int×Unit) ⊕ ((Unit) ⊕ ((Unit)))):=fun (v0,v1,v5,_) =>
 .br (decide (v5<(((v0).length:Nat):Int))) (
 .nb v5 (((v0).length:Nat):Int) <|
 .nb v5 (((v1).length:Nat):Int) <|
 .br (!(seq ((v0).getD (Int.toNat v5) (bs [])) ((v1).getD (Int.toNat v5) (bs [])))) (
 .ret (.inr <| .inl<|())) (
 .ni (v5+(1:Int)) <|
 .ret (.inl (v0,v1,(v5+(1:Int)),())))) (
 .ret (.inr <| .inr<|()))
noncomputable def adG:cn prog 26 none 0:=bR mixed cx36 I5 [] rfl adD adE rfl (adF) (fun x=>ak (g36_0 x)) (fun x=>by kernel_rfl)
noncomputable def dd36:D prog 26 none 0:=dO [.l adG] (kd prog f36) 0
noncomputable def F36 (a0:List ByteArray) (a1:List ByteArray):bU (Bool×Unit) :=
 .br (!((((a0).length:Nat):Int)==(((a1).length:Nat):Int))) (
 .ret (false,())) (
 .bd (.it g36_0 (a0,a1,(0:Int),())) fun z0 =>
 .sm z0 (fun z1 =>
 .ret (false,())) fun z2 =>
 .ret (true,()))
theorem Zf:cM prog f36=some ⟨26,2,dd36.er,[.t 4],[some .bool]⟩:=by kernel_rfl
noncomputable def Zg:Ct:=⟨36,[.c (.hole (.list .str)),.c (.hole (.list .str))],.c (.hole .bool),fun x=>ak (F36 x.1 x.2.1)⟩
theorem I6:Zg.Ok prog:=cT mixed I5 func36 Zf (enters_of func36 rfl rfl) dd36 (by kernel_rfl) rfl (fun x=>by kernel_rfl)

/- 27 -/
noncomputable def cx27:Cx:=(aK [] [])
theorem I7:cx27.Ok prog:=av trivial trivial
@[reducible] def adJ:az:=az.mk [(0,hL),(1,hL),(5,hI)] [] [] []
@[reducible] def adK:aX:=[(.ret,az.mk [(4,.c (.tf false))] [] [] []),(.exit 0,az.mk [] [] [] [])]
noncomputable def adL:D prog 26 none 0:=dO [] (pick (kd prog f27) [(0,false)]) 0
noncomputable def g27_0:List Int×List Int×Int×Unit→bU ((List Int×List Int×Int×Unit) ⊕ ((Unit) ⊕ ((Unit)))):=fun (v0,v1,v5,_) =>
 .br (decide (v5<(((v0).length:Nat):Int))) (
 .nb v5 (((v0).length:Nat):Int) <|
 .nb v5 (((v1).length:Nat):Int) <|
 .br (!(((v0).getD (Int.toNat v5) (0:Int))==((v1).getD (Int.toNat v5) (0:Int)))) (
 .ret (.inr <| .inl<|())) (
 .ni (v5+(1:Int)) <|
 .ret (.inl (v0,v1,(v5+(1:Int)),())))) (
 .ret (.inr <| .inr<|()))
noncomputable def adM:cn prog 26 none 0:=bR mixed cx27 I7 [] rfl adJ adK rfl (adL) (fun x=>ak (g27_0 x)) (fun x=>by kernel_rfl)
noncomputable def dd27:D prog 26 none 0:=dO [.l adM] (kd prog f27) 0
noncomputable def F27 (a0:List Int) (a1:List Int):bU (Bool×Unit) :=
 .br (!((((a0).length:Nat):Int)==(((a1).length:Nat):Int))) (
 .ret (false,())) (
 .bd (.it g27_0 (a0,a1,(0:Int),())) fun z0 =>
 .sm z0 (fun z1 =>
 .ret (false,())) fun z2 =>
 .ret (true,()))
theorem Zh:cM prog f27=some ⟨26,2,dd27.er,[.t 4],[some .bool]⟩:=by kernel_rfl
noncomputable def Zi:Ct:=⟨27,[hL,hL],.c (.hole .bool),fun x=>ak (F27 x.1 x.2.1)⟩
theorem I8:Zi.Ok prog:=cT mixed I7 func27 Zh (enters_of func27 rfl rfl) dd27 (by kernel_rfl) rfl (fun x=>by kernel_rfl)

/- 80, lent -/
@[reducible] def pH80:az:=az.mk [(0,.c (.mp 0)),(1,.c (.hole .str))] [(0,.map .str false .unit true)] [.slot 0] []
@[reducible] def qH80:az:=az.mk [(0,.c .any)] [(0,.map .str false .unit true)] [] []
noncomputable def adO:Cx:=(aK [] [])
theorem Pu:adO.Ok prog:=av trivial trivial
noncomputable def V1:D prog 7 none 1:=dO [] (kd prog f80) 0
noncomputable def FH80 (v1:ByteArray) (m0:List (ByteArray×Unit)):bU ((List (ByteArray×Unit))×Unit) :=
 .ret ((aU .str m0 v1 ()),())
theorem TJ:cM prog f80=some ⟨7,2,V1.er,[],[]⟩:=by kernel_rfl
noncomputable def ht80:Ht:=⟨80,pH80,qH80,(fun x=>ak (FH80 x.1 x.2.1))⟩
theorem TK:ht80.Ok prog:=bL mixed Pu rfl func80 TJ (enters_of func80 rfl rfl) V1 (by kernel_rfl) rfl rfl ⟨_,rfl⟩ rfl (pre:=[0]) rfl (fun x=>by kernel_rfl)

/- 108, lent -/
@[reducible] def adQ:az:=az.mk [(0,.c (.mp 0))] [(0,.map .str false .unit true)] [.slot 0] []
@[reducible] def adR:az:=az.mk [(0,.fn 127 [] [.ptr 1 0])] [(1,.cells [.mp 0] false),(0,.map .str false .unit true)] [.part 0 0] []
noncomputable def Zj:Cx:=(aK [] [])
theorem K7:Zj.Ok prog:=av trivial trivial
noncomputable def Pv:D prog 4 none 1:=dO [] (kd prog f108) 0
noncomputable def FH108 (m0:List (ByteArray×Unit)):bU ((List (ByteArray×Unit))×Unit) :=
 .ret (m0,())
theorem Pw:cM prog f108=some ⟨4,1,Pv.er,[.t 2],[none]⟩:=by kernel_rfl
noncomputable def V2:Ht:=⟨108,adQ,adR,(fun x=>ak (FH108 x.1))⟩
theorem Px:V2.Ok prog:=bL mixed K7 rfl func108 Pw (enters_of func108 rfl rfl) Pv (by kernel_rfl) rfl rfl ⟨_,rfl⟩ rfl (pre:=[0]) rfl (fun x=>by kernel_rfl)

/- 82, lent -/
@[reducible] def pH82:az:=az.mk [(0,.c (.mp 0))] [(0,.map .str false .unit true)] [.slot 0] []
@[reducible] def qH82:az:=az.mk [(0,.fn 127 [] [.ptr 1 0])] [(1,.cells [.mp 0] false),(0,.map .str false .unit true)] [.part 0 0] []
noncomputable def adS:Cx:=(aK [] [V2])
theorem Py:adS.Ok prog:=av trivial ⟨⟨Px,rfl⟩,trivial⟩
noncomputable def V3:D prog 5 none 1:=dO [] (kd prog f82) 0
noncomputable def FH82 (m0:List (ByteArray×Unit)):bU ((List (ByteArray×Unit))×Unit) :=
 .bd (FH108 m0) fun y0 =>
 .ret (y0.1,())
theorem TL:cM prog f82=some ⟨5,1,V3.er,[.t 2],[none]⟩:=by kernel_rfl
noncomputable def ht82:Ht:=⟨82,pH82,qH82,(fun x=>ak (FH82 x.1))⟩
theorem TM:ht82.Ok prog:=bL mixed Py rfl func82 TL (enters_of func82 rfl rfl) V3 (by kernel_rfl) rfl rfl ⟨_,rfl⟩ rfl (pre:=[0]) rfl (fun x=>by kernel_rfl)

/- 81, lent -/
@[reducible] def TN:az:=az.mk [(0,.fn 127 [] [.ptr 0 0])] [(0,.cells [.mp 1] false),(1,.map .str false .unit true)] [.part 0 0,.cell 0 0] []
@[reducible] def TO:az:=az.mk [(0,.c (.cQ 2 .str))] [(2,.arr .str false),(0,.cells [.mp 1] false),(1,.map .str false .unit true)] [.slot 0] []
noncomputable def nB:Cx:=(aK [] [Aw])
theorem l5:nB.Ok prog:=av (ve:=[]) (hts:=[Aw]) trivial ⟨⟨xN,rfl⟩,trivial⟩
noncomputable def kP:D prog 13 (some 4) 7:=dO [] (pick (kd prog f126) [(0,false)]) 0
noncomputable def kQ:D prog 13 (some 4) 7:=dO [] (pick (kd prog f126) [(0,true)]) 0
noncomputable def fF:Cx:=zg nB (fun kz=>Ny kz nB ez 4 7 [7] (kP) (kQ))
theorem gV:(fF).Ok prog:=jN l5 (fun h=>nq mixed l5 h)
@[reducible] def oI:az:=az.mk [(0,.c (.yl 4)),(4,.c (.mp 1))] [(4,.loop .ready none 3 [(2,.c (.ptr 2 0)),(4,.c .bW),(6,.fn 127 [] [.ptr 0 0])] [7] (.aO [.op (some 5) none (.mv (.t 7))]) (.block 1 (.aO [.op (some 8) none (.load false 1 (.t 2)),.op (some 9) none (.mv (.t 5)),.op (some 10) none (.dU .str [.t 9]),.op (some 11) none (.append 1 (.t 8) (.t 10)),.op none none (.store 1 (.t 2) (.t 11))])) 13),(1,.map .str false .unit true),(3,.ig),(2,.cells [.cQ 5 .str] false),(0,.cells [.mp 1] false),(5,.arr .str false)] [.cell 2 0] []
noncomputable def oJ:D prog 14 none 7:=dO [] (pick (kd prog f127) [(0,false)]) 0
noncomputable def gH81_v1f107f126_0i_0:((ByteArray)×(Unit))→(List (ByteArray×Unit))×Nat×List ByteArray×Unit→bU ((List (ByteArray×Unit))×Nat×List ByteArray×Unit):=fun e (m1,kH,b5,_) =>
 .nd (decide ((kH+(((((e.1::[])).drop (0:Nat)).take (1:Nat))).length)<cu)) <|
 .nd (jG m1 m1) <|
 .ret (m1,(kH+(((((e.1::[])).drop (0:Nat)).take (1:Nat))).length),((((b5).drop (0:Nat)).take kH)++((((e.1::[])).drop (0:Nat)).take (1:Nat))),())
noncomputable def oK:rB prog 14 none 5:=vj mixed fF gV [0,1,2,3,4] rfl oI ( [.op (some 4) none (.load false 1 (.t 1))]) 4 5 [6,7] (some 8) ( .str)  false ( .unit)  true 0 rfl 7 rfl (oJ) (fun e x=>ak (gH81_v1f107f126_0i_0 e x)) (fun e=>fun x=>by kernel_rfl)
@[reducible] def sk:az:=az.mk [(2,.c (.ptr 2 0)),(4,.c .bW),(6,.fn 127 [] [.ptr 0 0])] [(2,.cells [.bW] false),(0,.cells [.mp 1] false),(1,.map .str false .unit true)] [.slot 2] []
@[reducible] def sn:aX:=[(.normal,az.mk [(2,.c (.ptr 2 0))] [(2,.cells [.cQ 3 .str] false),(0,.cells [.mp 1] false),(1,.map .str false .unit true),(3,.arr .str false)] [.slot 2,.cell 2 0] [])]
noncomputable def kR:D prog 14 none 5:=dO [.m oK] (kd prog f127) 0
theorem qE:cM prog f127=some ⟨14,2,(kR).er,[],[]⟩:=by kernel_rfl
noncomputable def lK:gn prog 13 none 2:=rO mixed fF gV [0,1] rfl sk sn ( .t 6) [7] rfl (kP).er (kQ).er 127 func127 (qE) (enters_of func127 rfl rfl) 5 rfl (kR) rfl
@[reducible] noncomputable def GV:Go.AM.Fn:=⟨13,2,(dO [.r lK] (kd prog f126) 0:D prog 13 none 2).er,[.t 4],[some (.list .str)]⟩
noncomputable def ye:Cx:=Ap prog nB 126 GV 2 (dO [.r lK] (kd prog f126) 0)
theorem zm:ye.Ok prog:=rN mixed l5 func126 (by kernel_rfl) (enters_of func126 rfl rfl) rfl
@[reducible] noncomputable def GW:Go.AM.Fn:=⟨5,1,(dO [] (kd prog f107) 0:D prog 5 none 0).er,[.t 2],[some (.list .str)]⟩
noncomputable def yf:Cx:=DZ prog ye 107 GW (fun _=>dO [] (kd prog f107) 0)
theorem zn:yf.Ok prog:=pq mixed zm func107 (by kernel_rfl) (enters_of func107 rfl rfl) (fun _=>by kernel_rfl)
noncomputable def Pz:Cx:=yf
theorem EM:Pz.Ok prog:=zn
noncomputable def EN:D prog 9 none 2:=dO [] (kd prog f81) 0
noncomputable def FH81_v1 (m1:List (ByteArray×Unit)):bU (Nat×List ByteArray×(List (ByteArray×Unit))×Unit) :=
 .an m1 fun l0 =>
 .bd (.fm gH81_v1f107f126_0i_0 l0 (m1,(0:Nat),[],())) fun z1 =>
 .bd (FH105 z1.2.1 z1.2.2.1) fun y2 =>
 .ret (z1.2.1,y2.1,z1.1,())
theorem GX:cM prog f81=some ⟨9,1,EN.er,[.t 2],[some (.list .str)]⟩:=by kernel_rfl
noncomputable def I9:Ht:=⟨81,TN,TO,(fun x=>ak (FH81_v1 x.1))⟩
theorem GY:I9.Ok prog:=bL mixed EM rfl func81 GX (enters_of func81 rfl rfl) EN (by kernel_rfl) rfl rfl ⟨_,rfl⟩ rfl (pre:=[0,1]) rfl (fun x=>by kernel_rfl)

/- 45, lent -/
@[reducible] def pH45:az:=az.mk [(0,.c (.ptr 0 0))] [(0,.cells [.mp 1] false),(1,.map tG true .bool false)] [.slot 0,.cell 0 0] []
@[reducible] def qH45:az:=az.mk [(0,.c (.cQ 2 .str))] [(2,.arr .str false),(0,.cells [.mp 1] false),(1,.map tG true .bool false)] [.slot 0] []
noncomputable def Ja:Cx:=(aK [] [zj,Ej,Ts,Ox,Oz,GJ,ht80,ht82,I9])
theorem sq:Ja.Ok prog:=av trivial ⟨⟨ny,rfl⟩,⟨r8,rfl⟩,⟨B6,rfl⟩,⟨vq,rfl⟩,⟨vu,rfl⟩,⟨sg,rfl⟩,⟨TK,rfl⟩,⟨TM,rfl⟩,⟨GY,rfl⟩,trivial⟩
@[reducible] def K8:az:=az.mk [(3,.c (.ptr 2 0)),(4,.c (.ptr 3 0)),(18,.c (.cQ 20 .str)),(19,hI),(20,hI)] [(2,.cells [.ptr 5 0] false),(3,.cells [.mp 21] false),(20,.arr .str false),(5,.cells [.mp 7,.mp 8,.mp 9,.mp 10] false),(7,.map .str false tG true),(8,.map .str false (.list .str) false),(9,.map .str false .bool false),(10,.map .str false .bool false),(0,.cells [.mp 1] false),(1,.map tG true .bool false),(4,.cells [.ptr 5 0] false),(11,.ig),(12,.loop .busy none 11 [(2,.c .bW),(3,.c (.ptr 2 0)),(4,.c (.ptr 3 0)),(15,.fn 106 [] [.ptr 4 0])] [16,17] (.aO [.op (some 6) none (.mv (.t 17))]) (.block 1 (.seq (.aO [.op (some 18) none (.mv (.t 6)),.op (some 19) none (.len (.t 18)),.op (some 20) none (.mv (.c (.int .i64 (Int.ofNat 0))))]) (.block 2 (.loop (.seq (.aO [.op (some 21) none (.bin .lss (.t 20) (.t 19))]) (.seq (.cond (.t 21) .skip (.exit 2)) (.seq (.block 3 (.seq (.aO [.op (some 22) none (.idx 1 (.t 18) (.t 20)),.op (some 23) none (.load false 1 (.t 22)),.op (some 8) none (.mv (.t 23))]) (.seq (.draw [[],[],[1],[1,2],[1,2,3],[],[1,2,3,4,5],[1,2,3,4,5,6],[0,1,2,3,4,5,6,7]] [.op (some 24) none (.load false 1 (.t 4)),.op (some 25) none (.load false 1 (.t 3)),.op (some 26) none (.ex gv.iQ [.t 25]),.op (some 27) none (.mL 0 [false] (.t 26)),.op (some 28) none (.load false 1 (.t 27)),.op (some 29) none (.mv (.t 8)),.op (some 30) none (.ex (gv.gb .str false tG true false) [.t 28,.t 29]),.op (some 31) none (.field false 3 1 (.t 30))]) (.aO [.call (some 32) none (.c (.fn 80 [] [])) [.t 24,.t 31] [none,some .str]])))) (.aO [.op (some 33) none (.bin .add (.t 20) (.c (.int .i64 (Int.ofNat 1)))),.op (some 20) none (.mv (.t 33))])))))))) 37),(13,.arr .str false),(21,.map .str false .unit true)] [.cell 3 0] []
@[reducible] def K9:aX:=[(.exit 2,az.mk [] [(0,.cells [.mp 1] false),(1,.map tG true .bool false),(2,.cells [.ptr 5 0] false),(5,.cells [.mp 7,.mp 8,.mp 9,.mp 10] false),(7,.map .str false tG true),(8,.map .str false (.list .str) false),(9,.map .str false .bool false),(10,.map .str false .bool false),(3,.cells [.mp 21] false),(4,.cells [.ptr 5 0] false),(11,.ig),(12,.loop .busy none 11 [(2,.c .bW),(3,.c (.ptr 2 0)),(4,.c (.ptr 3 0)),(15,.fn 106 [] [.ptr 4 0])] [16,17] (.aO [.op (some 6) none (.mv (.t 17))]) (.block 1 (.seq (.aO [.op (some 18) none (.mv (.t 6)),.op (some 19) none (.len (.t 18)),.op (some 20) none (.mv (.c (.int .i64 (Int.ofNat 0))))]) (.block 2 (.loop (.seq (.aO [.op (some 21) none (.bin .lss (.t 20) (.t 19))]) (.seq (.cond (.t 21) .skip (.exit 2)) (.seq (.block 3 (.seq (.aO [.op (some 22) none (.idx 1 (.t 18) (.t 20)),.op (some 23) none (.load false 1 (.t 22)),.op (some 8) none (.mv (.t 23))]) (.seq (.draw [[],[],[1],[1,2],[1,2,3],[],[1,2,3,4,5],[1,2,3,4,5,6],[0,1,2,3,4,5,6,7]] [.op (some 24) none (.load false 1 (.t 4)),.op (some 25) none (.load false 1 (.t 3)),.op (some 26) none (.ex gv.iQ [.t 25]),.op (some 27) none (.mL 0 [false] (.t 26)),.op (some 28) none (.load false 1 (.t 27)),.op (some 29) none (.mv (.t 8)),.op (some 30) none (.ex (gv.gb .str false tG true false) [.t 28,.t 29]),.op (some 31) none (.field false 3 1 (.t 30))]) (.aO [.call (some 32) none (.c (.fn 80 [] [])) [.t 24,.t 31] [none,some .str]])))) (.aO [.op (some 33) none (.bin .add (.t 20) (.c (.int .i64 (Int.ofNat 1)))),.op (some 20) none (.mv (.t 33))])))))))) 37),(13,.arr .str false),(20,.arr .str false),(21,.map .str false .unit true)] [.cell 3 0] [])]
noncomputable def La:D prog 37 (some 12) 21:=dO [] (pick (kd prog f45) [(0,true),(0,false)]) 0
noncomputable def gH45_0b_1:Nat×Int×Int×List ByteArray×cI×cN×aP×aP×(List ((GG)×Bool))×List ByteArray×(List (ByteArray×Unit))×Unit→bU ((Nat×Int×Int×List ByteArray×cI×cN×aP×aP×(List ((GG)×Bool))×List ByteArray×(List (ByteArray×Unit))×Unit) ⊕ (((List ((GG)×Bool))×cI×cN×aP×aP×List ByteArray×List ByteArray×(List (ByteArray×Unit))×Unit))):=fun (nv18,Ta,v20,pL,m7,m8,m9,m10,m1,jh,m21,_) =>
 .br (decide (v20<Ta)) (
 .nb v20 ((nv18:Nat):Int) <|
 .nd (decide (((0:Nat)+(Int.toNat v20))<(pL).length)) <|
 .bd (FH80 (ax .str ((bs []),(0:Int),(bs []),(bs []),(0:Int)) m7 ((pL).getD ((0:Nat)+(Int.toNat v20)) (bs []))).2.2.2.1 m21) fun y6 =>
 .ni (v20+(1:Int)) <|
 .ret (.inl (nv18,Ta,(v20+(1:Int)),pL,m7,m8,m9,m10,m1,jh,y6.1,()))) (
 .ret (.inr (m1,m7,m8,m9,m10,jh,pL,m21,())))
noncomputable def Lb:cn prog 37 (some 12) 21:=bR mixed Ja sq [0,1,2,3,4,5,6,7,8,9,10,11,12,13,14,15,16,17,18,19,20] rfl K8 K9 rfl (La) (fun x=>ak (gH45_0b_1 x)) (fun x=>by kernel_rfl)
noncomputable def Jb:D prog 37 (some 12) 21:=dO [] (pick (kd prog f45) [(0,false)]) 0
noncomputable def Jc:D prog 37 (some 12) 21:=dO [.l Lb] (pick (kd prog f45) [(0,true)]) 0
noncomputable def yg:Cx:=zg Ja (fun kz=>Ny kz Ja ez 12 21 [16,17] (Jb) (Jc))
theorem ux:(yg).Ok prog:=jN sq (fun h=>nq mixed sq h)
@[reducible] def Lf:az:=az.mk [(0,.c (.yl 12)),(1,.c (.ptr 4 0)),(10,.c (.cQ 13 .str)),(11,hI),(12,hI)] [(12,.loop .ready none 11 [(2,.c .bW),(3,.c (.ptr 2 0)),(4,.c (.ptr 3 0)),(15,.fn 106 [] [.ptr 4 0])] [16,17] (.aO [.op (some 6) none (.mv (.t 17))]) (.block 1 (.seq (.aO [.op (some 18) none (.mv (.t 6)),.op (some 19) none (.len (.t 18)),.op (some 20) none (.mv (.c (.int .i64 (Int.ofNat 0))))]) (.block 2 (.loop (.seq (.aO [.op (some 21) none (.bin .lss (.t 20) (.t 19))]) (.seq (.cond (.t 21) .skip (.exit 2)) (.seq (.block 3 (.seq (.aO [.op (some 22) none (.idx 1 (.t 18) (.t 20)),.op (some 23) none (.load false 1 (.t 22)),.op (some 8) none (.mv (.t 23))]) (.seq (.draw [[],[],[1],[1,2],[1,2,3],[],[1,2,3,4,5],[1,2,3,4,5,6],[0,1,2,3,4,5,6,7]] [.op (some 24) none (.load false 1 (.t 4)),.op (some 25) none (.load false 1 (.t 3)),.op (some 26) none (.ex gv.iQ [.t 25]),.op (some 27) none (.mL 0 [false] (.t 26)),.op (some 28) none (.load false 1 (.t 27)),.op (some 29) none (.mv (.t 8)),.op (some 30) none (.ex (gv.gb .str false tG true false) [.t 28,.t 29]),.op (some 31) none (.field false 3 1 (.t 30))]) (.aO [.call (some 32) none (.c (.fn 80 [] [])) [.t 24,.t 31] [none,some .str]])))) (.aO [.op (some 33) none (.bin .add (.t 20) (.c (.int .i64 (Int.ofNat 1)))),.op (some 20) none (.mv (.t 33))])))))))) 37),(4,.cells [.ptr 5 0] false),(13,.arr .str false),(11,.ig),(2,.cells [.ptr 5 0] false),(5,.cells [.mp 7,.mp 8,.mp 9,.mp 10] false),(7,.map .str false tG true),(8,.map .str false (.list .str) false),(9,.map .str false .bool false),(10,.map .str false .bool false),(3,.cells [.mp 14] false),(0,.cells [.mp 1] false),(1,.map tG true .bool false),(14,.map .str false .unit true)] [.slot 10,.cell 3 0] []
@[reducible] def Lg:aX:=[(.exit 0,az.mk [] [(0,.cells [.mp 1] false),(1,.map tG true .bool false),(2,.cells [.ptr 5 0] false),(5,.cells [.mp 7,.mp 8,.mp 9,.mp 10] false),(7,.map .str false tG true),(8,.map .str false (.list .str) false),(9,.map .str false .bool false),(10,.map .str false .bool false),(3,.cells [.mp 13] false),(4,.cells [.ptr 5 0] false),(11,.ig),(12,.loop .ready none 11 [(2,.c .bW),(3,.c (.ptr 2 0)),(4,.c (.ptr 3 0)),(15,.fn 106 [] [.ptr 4 0])] [16,17] (.aO [.op (some 6) none (.mv (.t 17))]) (.block 1 (.seq (.aO [.op (some 18) none (.mv (.t 6)),.op (some 19) none (.len (.t 18)),.op (some 20) none (.mv (.c (.int .i64 (Int.ofNat 0))))]) (.block 2 (.loop (.seq (.aO [.op (some 21) none (.bin .lss (.t 20) (.t 19))]) (.seq (.cond (.t 21) .skip (.exit 2)) (.seq (.block 3 (.seq (.aO [.op (some 22) none (.idx 1 (.t 18) (.t 20)),.op (some 23) none (.load false 1 (.t 22)),.op (some 8) none (.mv (.t 23))]) (.seq (.draw [[],[],[1],[1,2],[1,2,3],[],[1,2,3,4,5],[1,2,3,4,5,6],[0,1,2,3,4,5,6,7]] [.op (some 24) none (.load false 1 (.t 4)),.op (some 25) none (.load false 1 (.t 3)),.op (some 26) none (.ex gv.iQ [.t 25]),.op (some 27) none (.mL 0 [false] (.t 26)),.op (some 28) none (.load false 1 (.t 27)),.op (some 29) none (.mv (.t 8)),.op (some 30) none (.ex (gv.gb .str false tG true false) [.t 28,.t 29]),.op (some 31) none (.field false 3 1 (.t 30))]) (.aO [.call (some 32) none (.c (.fn 80 [] [])) [.t 24,.t 31] [none,some .str]])))) (.aO [.op (some 33) none (.bin .add (.t 20) (.c (.int .i64 (Int.ofNat 1)))),.op (some 20) none (.mv (.t 33))])))))))) 37),(13,.map .str false .unit true)] [.cell 3 0] [])]
noncomputable def Lh:D prog 34 none 13:=dO [] (pick (kd prog f106) [(0,false)]) 0
noncomputable def gH45_0i_0:Nat×Int×Int×List ByteArray×cI×cN×aP×aP×(List ((GG)×Bool))×(List (ByteArray×Unit))×Unit→bU ((Nat×Int×Int×List ByteArray×cI×cN×aP×aP×(List ((GG)×Bool))×(List (ByteArray×Unit))×Unit) ⊕ (((List ((GG)×Bool))×cI×cN×aP×aP×(List (ByteArray×Unit))×Unit))):=fun (xZ,v11,v12,jh,m7,m8,m9,m10,m1,m14,_) =>
 .br (decide (v12<v11)) (
 .nb v12 ((xZ:Nat):Int) <|
 .nd (decide (((0:Nat)+(Int.toNat v12))<(jh).length)) <|
 .br ((ax .str ((bs []),(0:Int),(bs []),(bs []),(0:Int)) m7 ((jh).getD ((0:Nat)+(Int.toNat v12)) (bs []))).2.1==(1:Int)) (
 .bd (FH76fix ((jh).getD ((0:Nat)+(Int.toNat v12)) (bs [])) m7 m8 m9 m10) fun y5 =>
 .bd (.it gH45_0b_1 (y5.1,((y5.1:Nat):Int),(0:Int),y5.2.1,y5.2.2.1,y5.2.2.2.1,y5.2.2.2.2.1,y5.2.2.2.2.2.1,m1,jh,m14,())) fun z7 =>
 .ni (v12+(1:Int)) <|
 .ret (.inl (xZ,v11,(v12+(1:Int)),z7.2.2.2.2.2.1,z7.2.1,z7.2.2.1,z7.2.2.2.1,z7.2.2.2.2.1,z7.1,z7.2.2.2.2.2.2.2.1,()))) (
 .ni (v12+(1:Int)) <|
 .ret (.inl (xZ,v11,(v12+(1:Int)),jh,m7,m8,m9,m10,m1,m14,())))) (
 .ret (.inr (m1,m7,m8,m9,m10,m14,())))
noncomputable def Li:cn prog 34 none 13:=bR mixed yg ux [0,1,2,3,4,5,6,7,8,9,10,11,12] rfl Lf Lg rfl (Lh) (fun x=>ak (gH45_0i_0 x)) (fun x=>by kernel_rfl)
@[reducible] def Zk:az:=az.mk [(2,.c .bW),(3,.c (.ptr 2 0)),(4,.c (.ptr 3 0)),(15,.fn 106 [] [.ptr 4 0])] [(2,.cells [.ptr 5 0] false),(3,.cells [.mp 6] false),(4,.cells [.ptr 5 0] false),(0,.cells [.mp 1] false),(1,.map tG true .bool false),(5,.cells [.mp 7,.mp 8,.mp 9,.mp 10] false),(6,.map .str false .unit true),(7,.map .str false tG true),(8,.map .str false (.list .str) false),(9,.map .str false .bool false),(10,.map .str false .bool false)] [.slot 3,.slot 4,.part 15 0,.cell 2 0,.cell 3 0,.cell 5 0,.cell 5 1,.cell 5 2,.cell 5 3] []
@[reducible] def Zl:aX:=[(.normal,az.mk [(4,.c (.ptr 2 0))] [(2,.cells [.mp 3] false),(0,.cells [.mp 1] false),(1,.map tG true .bool false),(3,.map .str false .unit true)] [.slot 4,.cell 2 0] [])]
noncomputable def Jd:D prog 34 none 13:=dO [.l Li] (kd prog f106) 0
theorem TP:cM prog f106=some ⟨34,2,(Jd).er,[],[]⟩:=by kernel_rfl
noncomputable def gH45_0:(List ((GG)×Bool))×(List (ByteArray×Unit))×cI×cN×aP×aP×Unit→bU (((List ((GG)×Bool))×(List (ByteArray×Unit))×Unit)):=fun (m1,m6,m7,m8,m9,m10,_) =>
 .bd (FH95 m7) fun y3 =>
 .bd (FH81 y3.1) fun y4 =>
 .bd (.it gH45_0i_0 (y4.1,((y4.1:Nat):Int),(0:Int),y4.2.1,y4.2.2.1,m8,m9,m10,m1,m6,())) fun z8 =>
 .ret ((z8.1,z8.2.2.2.2.2.1,()))
noncomputable def Zm:gn prog 37 none 2:=rK mixed yg ux [0,1] rfl Zk Zl ( .t 15) [16,17] rfl (Jb).er (Jc).er 106 func106 (TP) (enters_of func106 rfl rfl) 13 rfl (Jd) rfl (fun x=>ak (gH45_0 x)) (fun x=>by kernel_rfl)
noncomputable def V4:D prog 37 none 2:=dO [.r Zm] (kd prog f45) 0
noncomputable def FH45 (m1:List ((GG)×Bool)):bU (Nat×List ByteArray×(List ((GG)×Bool))×Unit) :=
 .bd (FH54 m1) fun y0 =>
 .br y0.1 (
 .ret ((0:Nat),[],y0.2.1,())) (
 .bd (FH66 y0.2.1) fun y1 =>
 .bd (FH79 y1.2.1 y1.2.2.1 y1.2.2.2.1 y1.2.2.2.2.1) fun y2 =>
 .bd (gH45_0 (y1.1,[],y2.1,y2.2.1,y2.2.2.1,y2.2.2.2.1,())) fun z9 =>
 .bd (FH82 z9.2.1) fun LL =>
 .bd (FH81_v1 LL.1) fun Zn =>
 .ret (Zn.1,Zn.2.1,z9.1,()))
theorem TQ:cM prog f45=some ⟨37,1,V4.er,[.t 2],[some (.list .str)]⟩:=by kernel_rfl
noncomputable def Zo:Ht:=⟨45,pH45,qH45,(fun x=>ak (FH45 x.1))⟩
theorem Je:Zo.Ok prog:=bL mixed sq rfl func45 TQ (enters_of func45 rfl rfl) V4 (by kernel_rfl) rfl rfl ⟨_,rfl⟩ rfl (pre:=[0,1]) rfl (fun x=>by kernel_rfl)

/- 17 -/
noncomputable def cx17:Cx:=(aK [ct46,Zg,Zi] [Yg,YV,TA,Ze,ht25,Zo,YW,Yi])
theorem TS:cx17.Ok prog:=av ⟨Sf,I6,I8,trivial⟩ ⟨⟨IA,rfl⟩,⟨IV,rfl⟩,⟨Ca,rfl⟩,⟨I4,rfl⟩,⟨TI,rfl⟩,⟨Je,rfl⟩,⟨IW,rfl⟩,⟨ID,rfl⟩,trivial⟩
noncomputable def dd17:D prog 130 none 0:=dO [] (kd prog f17) 0
noncomputable def F17:bU (Bool×Unit) :=
 .bd (F46) fun y0 =>
 .nd (decide ((0:Int)≤(0:Int))) <|
 .nd (decide ((0:Int)≤(6:Int))) <|
 .nd (decide ((6:Int)≤(((y0.1).length:Nat):Int))) <|
 .bd (FH29 (((y0.1).drop (Int.toNat (0:Int))).take ((Int.toNat (6:Int)) - (Int.toNat (0:Int))))) fun y1 =>
 .bd (F46) fun y2 =>
 .nd (decide ((0:Int)≤(0:Int))) <|
 .nd (decide ((0:Int)≤(7:Int))) <|
 .nd (decide ((7:Int)≤(((y2.1).length:Nat):Int))) <|
 .bd (FH29 (((y2.1).drop (Int.toNat (0:Int))).take ((Int.toNat (7:Int)) - (Int.toNat (0:Int))))) fun y3 =>
 .bd (F46) fun y4 =>
 .bd (FH29 y4.1) fun y5 =>
 .bd (FH33 (bs [116,49]) y1.1) fun y6 =>
 .bd (FH23 (bs [97,110,97]) y6.2.2.2.1) fun y7 =>
 .bd (FH23 (bs [97,110,97]) y3.1) fun y8 =>
 .bd (FH37 y7.2.2.2.1) fun y9 =>
 .bd (FH25 (bs [99,121]) y5.1) fun LL =>
 .br (y6.2.1==(0:Int)) (
 .br (y7.2.1==(0:Int)) (
 .br (y8.2.1==(0:Int)) (
 .br (y9.2.1==(0:Int)) (
 .br (LL.2.1==(0:Int)) (
 .bd (F36 (((y6.2.2.1).drop (0:Nat)).take y6.1) (((((bs [99,50])::((bs [99,51])::[]))).drop (0:Nat)).take (2:Nat))) fun Zn =>
 .br Zn.1 (
 .bd (F27 (((y7.2.2.1).drop (0:Nat)).take y7.1) (((((0:Int)::((41:Int)::[]))).drop (0:Nat)).take (2:Nat))) fun y12 =>
 .br y12.1 (
 .bd (F27 (((y8.2.2.1).drop (0:Nat)).take y8.1) (((((41:Int)::[])).drop (0:Nat)).take (1:Nat))) fun Za =>
 .br Za.1 (
 .br ((y9.1.1==(65:Int))&&((y9.1.2==(66:Int))&&true)) (
 .br ((LL.1.1==(0:Int))&&((LL.1.2==(40:Int))&&true)) (
 .bd (FH45 y9.2.2.1) fun K3 =>
 .bd (F36 (((K3.2.1).drop (0:Nat)).take K3.1) (((((bs [97,110,97])::((bs [98,101,110])::((bs [99,121])::[])))).drop (0:Nat)).take (3:Nat))) fun y15 =>
 .br y15.1 (
 .bd (FH40 (bs [116,49]) (3:Int) K3.2.2.1) fun V5 =>
 .br V5.1 (
 .bd (FH40 (bs [116,50]) (4:Int) V5.2.1) fun Qy =>
 .br Qy.1 (
 .bd (FH40 (bs [99,51]) (5:Int) Qy.2.1) fun Qz =>
 .br Qz.1 (
 .bd (FH40 (bs [119,49]) (1:Int) Qz.2.1) fun y19 =>
 .br y19.1 (
 .bd (FH40 (bs [99,50]) (2:Int) y8.2.2.2.1) fun V6 =>
 .br V6.1 (
 .bd (FH40 (bs [99,51]) (4:Int) V6.2.1) fun y21 =>
 .br y21.1 (
 .bd (FH40 (bs [99,50]) (5:Int) LL.2.2.1) fun Zp =>
 .br Zp.1 (
 .bd (FH47 Zp.2.1) fun y23 =>
 .ret ((((y23.1:Nat):Int)==(8:Int)),())) (
 .ret (false,()))) (
 .ret (false,()))) (
 .ret (false,()))) (
 .ret (false,()))) (
 .ret (false,()))) (
 .ret (false,()))) (
 .ret (false,()))) (
 .ret (false,()))) (
 .ret (false,()))) (
 .ret (false,()))) (
 .ret (false,()))) (
 .ret (false,()))) (
 .ret (false,()))) (
 .ret (false,()))) (
 .ret (false,()))) (
 .ret (false,()))) (
 .ret (false,()))) (
 .ret (false,()))
theorem Zq:cM prog f17=some ⟨130,0,dd17.er,[.t 0],[some .bool]⟩:=by kernel_rfl
noncomputable def ct17:Ct:=⟨17,[],.c (.hole .bool),fun x=>ak (F17)⟩
theorem TT:ct17.Ok prog:=cT mixed TS func17 Zq (enters_of func17 rfl rfl) dd17 (by kernel_rfl) rfl (fun x=>by kernel_rfl)

/- 43 -/
noncomputable def cx43:Cx:=(aK [] [])
theorem TU:cx43.Ok prog:=av trivial trivial
noncomputable def dd43:D prog 11 none 0:=dO [] (kd prog f43) 0
noncomputable def F43 (a0:Int) (a1:Int):bU (ByteArray×Unit) :=
 .nd (gG .u8 a1) <|
 .nd (gG .u8 (a0+a1)) <|
 .ret ((uz (((((a0+a1)::[])).drop (0:Nat)).take (1:Nat))),())
theorem Zr:cM prog f43=some ⟨11,2,dd43.er,[.t 4],[some .str]⟩:=by kernel_rfl
noncomputable def Zt:Ct:=⟨43,[.c (.hole (.int .u8)),hI],.c (.hole .str),fun x=>ak (F43 x.1 x.2.1)⟩
theorem Jf:Zt.Ok prog:=cT mixed TU func43 Zr (enters_of func43 rfl rfl) dd43 (by kernel_rfl) rfl (fun x=>by kernel_rfl)

/- 44 -/
noncomputable def cx44:Cx:=(aK [Zt] [])
theorem TV:cx44.Ok prog:=av ⟨Jf,trivial⟩ trivial
noncomputable def dd44:D prog 52 none 0:=dO [] (kd prog f44) 0
noncomputable def F44 (a0:Int×Int×Int×Int):bU ((GG)×Unit) :=
 .nd (decide ((0:Nat)<((a0.1::(a0.2.1::(a0.2.2.1::(a0.2.2.2::[]))))).length)) <|
 .ni (((a0.1::(a0.2.1::(a0.2.2.1::(a0.2.2.2::[]))))).getD (0:Nat) (0:Int)) <|
 .nd (!((8:Int)==(0:Int))) <|
 .nd (decide ((1:Nat)<((a0.1::(a0.2.1::(a0.2.2.1::(a0.2.2.2::[]))))).length)) <|
 .ni (((a0.1::(a0.2.1::(a0.2.2.1::(a0.2.2.2::[]))))).getD (1:Nat) (0:Int)) <|
 .nd (!((8:Int)==(0:Int))) <|
 .br ((Int.tmod (((a0.1::(a0.2.1::(a0.2.2.1::(a0.2.2.2::[]))))).getD (0:Nat) (0:Int)) (8:Int))==(Int.tmod (((a0.1::(a0.2.1::(a0.2.2.1::(a0.2.2.2::[]))))).getD (1:Nat) (0:Int)) (8:Int))) (
 .ni ((Int.tmod (((a0.1::(a0.2.1::(a0.2.2.1::(a0.2.2.2::[]))))).getD (1:Nat) (0:Int)) (8:Int))+(1:Int)) <|
 .nd (!((8:Int)==(0:Int))) <|
 .bd (F43 (97:Int) (Int.tmod (((a0.1::(a0.2.1::(a0.2.2.1::(a0.2.2.2::[]))))).getD (0:Nat) (0:Int)) (8:Int))) fun y0 =>
 .bd (F43 (97:Int) (Int.tmod ((Int.tmod (((a0.1::(a0.2.1::(a0.2.2.1::(a0.2.2.2::[]))))).getD (1:Nat) (0:Int)) (8:Int))+(1:Int)) (8:Int))) fun y1 =>
 .nd (decide ((2:Nat)<((a0.1::(a0.2.1::(a0.2.2.1::(a0.2.2.2::[]))))).length)) <|
 .ni (((a0.1::(a0.2.1::(a0.2.2.1::(a0.2.2.2::[]))))).getD (2:Nat) (0:Int)) <|
 .nd (!((3:Int)==(0:Int))) <|
 .bd (F43 (120:Int) (Int.tmod (((a0.1::(a0.2.1::(a0.2.2.1::(a0.2.2.2::[]))))).getD (2:Nat) (0:Int)) (3:Int))) fun y2 =>
 .nd (decide ((2:Nat)<((a0.1::(a0.2.1::(a0.2.2.1::(a0.2.2.2::[]))))).length)) <|
 .ni (((a0.1::(a0.2.1::(a0.2.2.1::(a0.2.2.2::[]))))).getD (2:Nat) (0:Int)) <|
 .nd (!((3:Int)==(0:Int))) <|
 .ni (Int.tdiv (((a0.1::(a0.2.1::(a0.2.2.1::(a0.2.2.2::[]))))).getD (2:Nat) (0:Int)) (3:Int)) <|
 .nd (!((12:Int)==(0:Int))) <|
 .ni ((Int.tmod (Int.tdiv (((a0.1::(a0.2.1::(a0.2.2.1::(a0.2.2.2::[]))))).getD (2:Nat) (0:Int)) (3:Int)) (12:Int)) - (3:Int)) <|
 .nd (decide ((3:Nat)<((a0.1::(a0.2.1::(a0.2.2.1::(a0.2.2.2::[]))))).length)) <|
 .ni (((a0.1::(a0.2.1::(a0.2.2.1::(a0.2.2.2::[]))))).getD (3:Nat) (0:Int)) <|
 .nd (!((8:Int)==(0:Int))) <|
 .br ((Int.tmod (((a0.1::(a0.2.1::(a0.2.2.1::(a0.2.2.2::[]))))).getD (3:Nat) (0:Int)) (8:Int))==(0:Int)) (
 .ret ((y0.1,(1:Int),(bs []),y2.1,((Int.tmod (Int.tdiv (((a0.1::(a0.2.1::(a0.2.2.1::(a0.2.2.2::[]))))).getD (2:Nat) (0:Int)) (3:Int)) (12:Int)) - (3:Int))),())) (
 .br ((Int.tmod (((a0.1::(a0.2.1::(a0.2.2.1::(a0.2.2.2::[]))))).getD (3:Nat) (0:Int)) (8:Int))==(1:Int)) (
 .ret ((y0.1,(1:Int),(bs []),y2.1,((Int.tmod (Int.tdiv (((a0.1::(a0.2.1::(a0.2.2.1::(a0.2.2.2::[]))))).getD (2:Nat) (0:Int)) (3:Int)) (12:Int)) - (3:Int))),())) (
 .br ((Int.tmod (((a0.1::(a0.2.1::(a0.2.2.1::(a0.2.2.2::[]))))).getD (3:Nat) (0:Int)) (8:Int))==(2:Int)) (
 .ret ((y0.1,(1:Int),(bs []),y2.1,((Int.tmod (Int.tdiv (((a0.1::(a0.2.1::(a0.2.2.1::(a0.2.2.2::[]))))).getD (2:Nat) (0:Int)) (3:Int)) (12:Int)) - (3:Int))),())) (
 .br ((Int.tmod (((a0.1::(a0.2.1::(a0.2.2.1::(a0.2.2.2::[]))))).getD (3:Nat) (0:Int)) (8:Int))==(3:Int)) (
 .ret ((y0.1,(3:Int),y1.1,(bs []),(0:Int)),())) (
 .ret ((y0.1,(2:Int),y1.1,y2.1,((Int.tmod (Int.tdiv (((a0.1::(a0.2.1::(a0.2.2.1::(a0.2.2.2::[]))))).getD (2:Nat) (0:Int)) (3:Int)) (12:Int)) - (3:Int))),())))))) (
 .bd (F43 (97:Int) (Int.tmod (((a0.1::(a0.2.1::(a0.2.2.1::(a0.2.2.2::[]))))).getD (0:Nat) (0:Int)) (8:Int))) fun y3 =>
 .bd (F43 (97:Int) (Int.tmod (((a0.1::(a0.2.1::(a0.2.2.1::(a0.2.2.2::[]))))).getD (1:Nat) (0:Int)) (8:Int))) fun y4 =>
 .nd (decide ((2:Nat)<((a0.1::(a0.2.1::(a0.2.2.1::(a0.2.2.2::[]))))).length)) <|
 .ni (((a0.1::(a0.2.1::(a0.2.2.1::(a0.2.2.2::[]))))).getD (2:Nat) (0:Int)) <|
 .nd (!((3:Int)==(0:Int))) <|
 .bd (F43 (120:Int) (Int.tmod (((a0.1::(a0.2.1::(a0.2.2.1::(a0.2.2.2::[]))))).getD (2:Nat) (0:Int)) (3:Int))) fun y5 =>
 .nd (decide ((2:Nat)<((a0.1::(a0.2.1::(a0.2.2.1::(a0.2.2.2::[]))))).length)) <|
 .ni (((a0.1::(a0.2.1::(a0.2.2.1::(a0.2.2.2::[]))))).getD (2:Nat) (0:Int)) <|
 .nd (!((3:Int)==(0:Int))) <|
 .ni (Int.tdiv (((a0.1::(a0.2.1::(a0.2.2.1::(a0.2.2.2::[]))))).getD (2:Nat) (0:Int)) (3:Int)) <|
 .nd (!((12:Int)==(0:Int))) <|
 .ni ((Int.tmod (Int.tdiv (((a0.1::(a0.2.1::(a0.2.2.1::(a0.2.2.2::[]))))).getD (2:Nat) (0:Int)) (3:Int)) (12:Int)) - (3:Int)) <|
 .nd (decide ((3:Nat)<((a0.1::(a0.2.1::(a0.2.2.1::(a0.2.2.2::[]))))).length)) <|
 .ni (((a0.1::(a0.2.1::(a0.2.2.1::(a0.2.2.2::[]))))).getD (3:Nat) (0:Int)) <|
 .nd (!((8:Int)==(0:Int))) <|
 .br ((Int.tmod (((a0.1::(a0.2.1::(a0.2.2.1::(a0.2.2.2::[]))))).getD (3:Nat) (0:Int)) (8:Int))==(0:Int)) (
 .ret ((y3.1,(1:Int),(bs []),y5.1,((Int.tmod (Int.tdiv (((a0.1::(a0.2.1::(a0.2.2.1::(a0.2.2.2::[]))))).getD (2:Nat) (0:Int)) (3:Int)) (12:Int)) - (3:Int))),())) (
 .br ((Int.tmod (((a0.1::(a0.2.1::(a0.2.2.1::(a0.2.2.2::[]))))).getD (3:Nat) (0:Int)) (8:Int))==(1:Int)) (
 .ret ((y3.1,(1:Int),(bs []),y5.1,((Int.tmod (Int.tdiv (((a0.1::(a0.2.1::(a0.2.2.1::(a0.2.2.2::[]))))).getD (2:Nat) (0:Int)) (3:Int)) (12:Int)) - (3:Int))),())) (
 .br ((Int.tmod (((a0.1::(a0.2.1::(a0.2.2.1::(a0.2.2.2::[]))))).getD (3:Nat) (0:Int)) (8:Int))==(2:Int)) (
 .ret ((y3.1,(1:Int),(bs []),y5.1,((Int.tmod (Int.tdiv (((a0.1::(a0.2.1::(a0.2.2.1::(a0.2.2.2::[]))))).getD (2:Nat) (0:Int)) (3:Int)) (12:Int)) - (3:Int))),())) (
 .br ((Int.tmod (((a0.1::(a0.2.1::(a0.2.2.1::(a0.2.2.2::[]))))).getD (3:Nat) (0:Int)) (8:Int))==(3:Int)) (
 .ret ((y3.1,(3:Int),y4.1,(bs []),(0:Int)),())) (
 .ret ((y3.1,(2:Int),y4.1,y5.1,((Int.tmod (Int.tdiv (((a0.1::(a0.2.1::(a0.2.2.1::(a0.2.2.2::[]))))).getD (2:Nat) (0:Int)) (3:Int)) (12:Int)) - (3:Int))),()))))))
theorem Zu:cM prog f44=some ⟨52,1,dd44.er,[.cell 2 true 5],[some tG]⟩:=by kernel_rfl
noncomputable def Zv:Ct:=⟨44,[.c (.hole (.prod (.int .u8) (.prod (.int .u8) (.prod (.int .u8) (.int .u8)))))],.c (.hole tG),fun x=>ak (F44 x.1)⟩
theorem Jg:Zv.Ok prog:=cT mixed TV func44 Zu (enters_of func44 rfl rfl) dd44 (by kernel_rfl) rfl (fun x=>by kernel_rfl)

/- 28 -/
noncomputable def cx28:Cx:=(aK [Zv] [])
theorem Jh:cx28.Ok prog:=av ⟨Jg,trivial⟩ trivial
@[reducible] def ad2:az:=az.mk [(0,.c (.hole (.list (.prod (.int .u8) (.prod (.int .u8) (.prod (.int .u8) (.int .u8))))))),(3,.c (.cQ 0 tG)),(4,hI)] [(0,.arr tG false)] [.slot 3] []
@[reducible] def ad3:aX:=[(.exit 0,az.mk [(3,.c (.cQ 0 tG))] [(0,.arr tG false)] [.slot 3] [])]
noncomputable def ad4:D prog 24 none 0:=dO [] (pick (kd prog f28) [(0,false)]) 0
noncomputable def g28_0:(List (Int×Int×Int×Int))×Nat×Int×(List (GG))×Unit→bU (((List (Int×Int×Int×Int))×Nat×Int×(List (GG))×Unit) ⊕ ((Nat×(List (GG))×Unit))):=fun (v0,AE,v4,b0,_) =>
 .br (decide (v4<(((v0).length:Nat):Int))) (
 .br (decide (v4<(10:Int))) (
 .nb v4 (((v0).length:Nat):Int) <|
 .bd (F44 (((v0).getD (Int.toNat v4) ((0:Int),(0:Int),(0:Int),(0:Int))).1,((v0).getD (Int.toNat v4) ((0:Int),(0:Int),(0:Int),(0:Int))).2.1,((v0).getD (Int.toNat v4) ((0:Int),(0:Int),(0:Int),(0:Int))).2.2.1,((v0).getD (Int.toNat v4) ((0:Int),(0:Int),(0:Int),(0:Int))).2.2.2)) fun y0 =>
 .nd (decide ((AE+((((((y0.1.1,y0.1.2.1,y0.1.2.2.1,y0.1.2.2.2.1,y0.1.2.2.2.2)::[])).drop (0:Nat)).take (1:Nat))).length)<cu)) <|
 .ni (v4+(1:Int)) <|
 .ret (.inl (v0,(AE+((((((y0.1.1,y0.1.2.1,y0.1.2.2.1,y0.1.2.2.2.1,y0.1.2.2.2.2)::[])).drop (0:Nat)).take (1:Nat))).length),(v4+(1:Int)),((((b0).drop (0:Nat)).take AE)++(((((y0.1.1,y0.1.2.1,y0.1.2.2.1,y0.1.2.2.2.1,y0.1.2.2.2.2)::[])).drop (0:Nat)).take (1:Nat))),()))) (
 .ret (.inr (AE,b0,())))) (
 .ret (.inr (AE,b0,())))
noncomputable def ad5:cn prog 24 none 0:=bR mixed cx28 Jh [] rfl ad2 ad3 rfl (ad4) (fun x=>ak (g28_0 x)) (fun x=>by kernel_rfl)
noncomputable def dd28:D prog 24 none 0:=dO [.l ad5] (kd prog f28) 0
noncomputable def F28 (a0:List (Int×Int×Int×Int)):bU ((List (GG))×Unit) :=
 .bd (.it g28_0 (a0,(0:Nat),(0:Int),[],())) fun z1 =>
 .ret ((((z1.2.1).drop (0:Nat)).take z1.1),())
theorem Zw:cM prog f28=some ⟨24,1,dd28.er,[.t 2],[some (.list tG)]⟩:=by kernel_rfl
noncomputable def ct28:Ct:=⟨28,[.c (.hole (.list (.prod (.int .u8) (.prod (.int .u8) (.prod (.int .u8) (.int .u8))))))],.c (.hole (.list tG)),fun x=>ak (F28 x.1)⟩
theorem TW:ct28.Ok prog:=cT mixed Jh func28 Zw (enters_of func28 rfl rfl) dd28 (by kernel_rfl) rfl (fun x=>by kernel_rfl)

/- 31 -/
noncomputable def cx31:Cx:=(aK [] [])
theorem TX:cx31.Ok prog:=av trivial trivial
noncomputable def dd31:D prog 2 none 0:=dO [] (kd prog f31) 0
noncomputable def F31:bU (List ByteArray×Unit) :=
 .ret ((((((bs [97])::((bs [98])::((bs [99])::((bs [100])::((bs [101])::((bs [102])::((bs [103])::((bs [104])::[]))))))))).drop (0:Nat)).take (8:Nat)),())
theorem Zx:cM prog f31=some ⟨2,0,dd31.er,[.t 0],[some (.list .str)]⟩:=by kernel_rfl
noncomputable def Zy:Ct:=⟨31,[],.c (.hole (.list .str)),fun x=>ak (F31)⟩
theorem Ji:Zy.Ok prog:=cT mixed TX func31 Zx (enters_of func31 rfl rfl) dd31 (by kernel_rfl) rfl (fun x=>by kernel_rfl)

/- 77 -/
noncomputable def Zz:Cx:=(aK [] [])
theorem Cm:Zz.Ok prog:=av trivial trivial
@[reducible] def ad9:az:=az.mk [(0,.c (.hole (.list tG))),(3,.c (.ptr 0 0)),(5,.c (.hole .bool)),(6,.c (.hole .bool)),(7,hI),(9,.c (.ptr 1 0)),(10,.c (.hole .bool)),(13,.c (.hole (.list tG))),(14,hI),(15,hI),(49,.c (.ptr 1 2)),(50,.c (.hole .str)),(51,.c (.ptr 0 2)),(52,.c (.hole .str)),(53,.c (.hole .bool)),(56,.c (.ptr 1 0)),(57,.c (.hole .str)),(58,.c (.ptr 0 0)),(59,.c (.hole .str)),(60,.c (.hole .bool)),(62,.c (.hole (.list tG))),(63,hI),(64,hI)] [(0,.cells [.hole .str,.hole tI,.hole .str,.hole .str,.hole tI] false),(1,.cells [.hole .str,.hole tI,.hole .str,.hole .str,.hole tI] false)] [.slot 3,.slot 9] []
@[reducible] def aea:aX:=[(.exit 2,az.mk [(0,.c (.hole (.list tG))),(3,.c (.ptr 0 0)),(5,.c (.hole .bool)),(6,.c (.hole .bool)),(7,hI),(10,.c (.hole .bool)),(13,.c (.hole (.list tG))),(14,hI),(15,hI),(50,.c (.hole .str)),(51,.c (.ptr 0 2)),(52,.c (.hole .str)),(53,.c (.hole .bool)),(57,.c (.hole .str)),(58,.c (.ptr 0 0)),(59,.c (.hole .str)),(60,.c (.hole .bool))] [(0,.cells [.hole .str,.hole tI,.hole .str,.hole .str,.hole tI] false)] [.slot 3] [])]
noncomputable def aeb:D prog 95 none 0:=dO [] (pick (kd prog f77) [(0,false),(0,false)]) 0
noncomputable def g77_1:(List (GG))×Bool×Bool×Int×Bool×(List (GG))×Int×Int×ByteArray×ByteArray×Bool×ByteArray×ByteArray×Bool×(List (GG))×Int×Int×ByteArray×Int×ByteArray×ByteArray×Int×ByteArray×Int×ByteArray×ByteArray×Int×Unit→bU (((List (GG))×Bool×Bool×Int×Bool×(List (GG))×Int×Int×ByteArray×ByteArray×Bool×ByteArray×ByteArray×Bool×(List (GG))×Int×Int×ByteArray×Int×ByteArray×ByteArray×Int×ByteArray×Int×ByteArray×ByteArray×Int×Unit) ⊕ (((List (GG))×Bool×Bool×Int×Bool×(List (GG))×Int×Int×ByteArray×ByteArray×Bool×ByteArray×ByteArray×Bool×ByteArray×Int×ByteArray×ByteArray×Int×Unit))):=fun (v0,v5,v6,v7,v10,aV,kU,aI,v50,TY,v53,TZ,v59,v60,v62,v63,v64,aT,bZ,bh,b7,b8,iK,tF,uS,uT,yh,_) =>
 .br (decide (v64<v63)) (
 .nb v64 (((v62).length:Nat):Int) <|
 .br v10 (
 .ni (v64+(1:Int)) <|
 .ret (.inl (v0,v5,v6,v7,true,aV,kU,aI,v50,TY,v53,TZ,v59,v60,v62,v63,(v64+(1:Int)),aT,bZ,bh,b7,b8,iK,tF,uS,uT,yh,()))) (
 .br (((v62).getD (Int.toNat v64) ((bs []),(0:Int),(bs []),(bs []),(0:Int))).2.1==(3:Int)) (
 .ni (v64+(1:Int)) <|
 .ret (.inl (v0,v5,v6,v7,(seq ((v62).getD (Int.toNat v64) ((bs []),(0:Int),(bs []),(bs []),(0:Int))).2.2.1 iK),aV,kU,aI,v50,TY,v53,TZ,v59,v60,v62,v63,(v64+(1:Int)),aT,bZ,bh,b7,b8,iK,tF,uS,uT,yh,()))) (
 .ni (v64+(1:Int)) <|
 .ret (.inl (v0,v5,v6,v7,false,aV,kU,aI,v50,TY,v53,TZ,v59,v60,v62,v63,(v64+(1:Int)),aT,bZ,bh,b7,b8,iK,tF,uS,uT,yh,()))))) (
 .ret (.inr (v0,v5,v6,v7,v10,aV,kU,aI,v50,TY,v53,TZ,v59,v60,aT,bZ,bh,b7,b8,())))
noncomputable def aec:cn prog 95 none 0:=bR mixed Zz Cm [] rfl ad9 aea rfl (aeb) (fun x=>ak (g77_1 x)) (fun x=>by kernel_rfl)
@[reducible] def aed:az:=az.mk [(0,.c (.hole (.list tG))),(3,.c (.ptr 0 0)),(5,.c (.hole .bool)),(6,.c (.hole .bool)),(7,hI),(13,.c (.hole (.list tG))),(14,hI),(15,hI)] [(0,.cells [.hole .str,.hole tI,.hole .str,.hole .str,.hole tI] false)] [.slot 3] []
@[reducible] def aee:aX:=[(.exit 0,az.mk [(5,.c (.hole .bool)),(6,.c (.hole .bool)),(7,hI)] [] [] [])]
noncomputable def aef:D prog 95 none 0:=dO [.l aec] (pick (kd prog f77) [(0,false)]) 0
noncomputable def g77_0:(List (GG))×Bool×Bool×Int×(List (GG))×Int×Int×ByteArray×Int×ByteArray×ByteArray×Int×Unit→bU (((List (GG))×Bool×Bool×Int×(List (GG))×Int×Int×ByteArray×Int×ByteArray×ByteArray×Int×Unit) ⊕ ((Bool×Bool×Int×Unit))):=fun (v0,v5,v6,v7,aV,kU,aI,aT,bZ,bh,b7,b8,_) =>
 .br (decide (aI<kU)) (
 .nb aI (((aV).length:Nat):Int) <|
 .br v5 (
 .br v6 (
 .br (!(((aV).getD (Int.toNat aI) ((bs []),(0:Int),(bs []),(bs []),(0:Int))).2.1==(2:Int))) (
 .ni (aI+(1:Int)) <|
 .ret (.inl (v0,true,true,v7,aV,kU,(aI+(1:Int)),aT,bZ,bh,b7,b8,()))) (
 .br (!(seq ((aV).getD (Int.toNat aI) ((bs []),(0:Int),(bs []),(bs []),(0:Int))).2.2.1 bh)) (
 .ni (aI+(1:Int)) <|
 .ret (.inl (v0,true,true,v7,aV,kU,(aI+(1:Int)),aT,bZ,bh,b7,b8,()))) (
 .br (seq ((aV).getD (Int.toNat aI) ((bs []),(0:Int),(bs []),(bs []),(0:Int))).1 aT) (
 .ni (aI+(1:Int)) <|
 .ret (.inl (v0,true,true,v7,aV,kU,(aI+(1:Int)),aT,bZ,bh,b7,b8,()))) (
 .bd (.it g77_1 (v0,true,true,v7,false,aV,kU,aI,((aV).getD (Int.toNat aI) ((bs []),(0:Int),(bs []),(bs []),(0:Int))).2.2.1,bh,(!(seq ((aV).getD (Int.toNat aI) ((bs []),(0:Int),(bs []),(bs []),(0:Int))).2.2.1 bh)),((aV).getD (Int.toNat aI) ((bs []),(0:Int),(bs []),(bs []),(0:Int))).1,aT,(seq ((aV).getD (Int.toNat aI) ((bs []),(0:Int),(bs []),(bs []),(0:Int))).1 aT),v0,(((v0).length:Nat):Int),(0:Int),aT,bZ,bh,b7,b8,((aV).getD (Int.toNat aI) ((bs []),(0:Int),(bs []),(bs []),(0:Int))).1,((aV).getD (Int.toNat aI) ((bs []),(0:Int),(bs []),(bs []),(0:Int))).2.1,((aV).getD (Int.toNat aI) ((bs []),(0:Int),(bs []),(bs []),(0:Int))).2.2.1,((aV).getD (Int.toNat aI) ((bs []),(0:Int),(bs []),(bs []),(0:Int))).2.2.2.1,((aV).getD (Int.toNat aI) ((bs []),(0:Int),(bs []),(bs []),(0:Int))).2.2.2.2,())) fun z0 =>
 .br z0.2.2.2.2.1 (
 .ni (z0.2.2.2.1+(1:Int)) <|
 .ni (z0.2.2.2.2.2.2.2.1+(1:Int)) <|
 .ret (.inl (z0.1,z0.2.1,z0.2.2.1,(z0.2.2.2.1+(1:Int)),z0.2.2.2.2.2.1,z0.2.2.2.2.2.2.1,(z0.2.2.2.2.2.2.2.1+(1:Int)),z0.2.2.2.2.2.2.2.2.2.2.2.2.2.2.1,z0.2.2.2.2.2.2.2.2.2.2.2.2.2.2.2.1,z0.2.2.2.2.2.2.2.2.2.2.2.2.2.2.2.2.1,z0.2.2.2.2.2.2.2.2.2.2.2.2.2.2.2.2.2.1,z0.2.2.2.2.2.2.2.2.2.2.2.2.2.2.2.2.2.2.1,()))) (
 .ni (z0.2.2.2.2.2.2.2.1+(1:Int)) <|
 .ret (.inl (z0.1,z0.2.1,z0.2.2.1,z0.2.2.2.1,z0.2.2.2.2.2.1,z0.2.2.2.2.2.2.1,(z0.2.2.2.2.2.2.2.1+(1:Int)),z0.2.2.2.2.2.2.2.2.2.2.2.2.2.2.1,z0.2.2.2.2.2.2.2.2.2.2.2.2.2.2.2.1,z0.2.2.2.2.2.2.2.2.2.2.2.2.2.2.2.2.1,z0.2.2.2.2.2.2.2.2.2.2.2.2.2.2.2.2.2.1,z0.2.2.2.2.2.2.2.2.2.2.2.2.2.2.2.2.2.2.1,()))))))) (
 .br (((aV).getD (Int.toNat aI) ((bs []),(0:Int),(bs []),(bs []),(0:Int))).2.1==(3:Int)) (
 .br (!(((aV).getD (Int.toNat aI) ((bs []),(0:Int),(bs []),(bs []),(0:Int))).2.1==(2:Int))) (
 .ni (aI+(1:Int)) <|
 .ret (.inl (v0,true,(seq ((aV).getD (Int.toNat aI) ((bs []),(0:Int),(bs []),(bs []),(0:Int))).2.2.1 aT),v7,aV,kU,(aI+(1:Int)),aT,bZ,bh,b7,b8,()))) (
 .br (!(seq ((aV).getD (Int.toNat aI) ((bs []),(0:Int),(bs []),(bs []),(0:Int))).2.2.1 bh)) (
 .ni (aI+(1:Int)) <|
 .ret (.inl (v0,true,(seq ((aV).getD (Int.toNat aI) ((bs []),(0:Int),(bs []),(bs []),(0:Int))).2.2.1 aT),v7,aV,kU,(aI+(1:Int)),aT,bZ,bh,b7,b8,()))) (
 .br (seq ((aV).getD (Int.toNat aI) ((bs []),(0:Int),(bs []),(bs []),(0:Int))).1 aT) (
 .ni (aI+(1:Int)) <|
 .ret (.inl (v0,true,(seq ((aV).getD (Int.toNat aI) ((bs []),(0:Int),(bs []),(bs []),(0:Int))).2.2.1 aT),v7,aV,kU,(aI+(1:Int)),aT,bZ,bh,b7,b8,()))) (
 .bd (.it g77_1 (v0,true,(seq ((aV).getD (Int.toNat aI) ((bs []),(0:Int),(bs []),(bs []),(0:Int))).2.2.1 aT),v7,false,aV,kU,aI,((aV).getD (Int.toNat aI) ((bs []),(0:Int),(bs []),(bs []),(0:Int))).2.2.1,bh,(!(seq ((aV).getD (Int.toNat aI) ((bs []),(0:Int),(bs []),(bs []),(0:Int))).2.2.1 bh)),((aV).getD (Int.toNat aI) ((bs []),(0:Int),(bs []),(bs []),(0:Int))).1,aT,(seq ((aV).getD (Int.toNat aI) ((bs []),(0:Int),(bs []),(bs []),(0:Int))).1 aT),v0,(((v0).length:Nat):Int),(0:Int),aT,bZ,bh,b7,b8,((aV).getD (Int.toNat aI) ((bs []),(0:Int),(bs []),(bs []),(0:Int))).1,((aV).getD (Int.toNat aI) ((bs []),(0:Int),(bs []),(bs []),(0:Int))).2.1,((aV).getD (Int.toNat aI) ((bs []),(0:Int),(bs []),(bs []),(0:Int))).2.2.1,((aV).getD (Int.toNat aI) ((bs []),(0:Int),(bs []),(bs []),(0:Int))).2.2.2.1,((aV).getD (Int.toNat aI) ((bs []),(0:Int),(bs []),(bs []),(0:Int))).2.2.2.2,())) fun z1 =>
 .br z1.2.2.2.2.1 (
 .ni (z1.2.2.2.1+(1:Int)) <|
 .ni (z1.2.2.2.2.2.2.2.1+(1:Int)) <|
 .ret (.inl (z1.1,z1.2.1,z1.2.2.1,(z1.2.2.2.1+(1:Int)),z1.2.2.2.2.2.1,z1.2.2.2.2.2.2.1,(z1.2.2.2.2.2.2.2.1+(1:Int)),z1.2.2.2.2.2.2.2.2.2.2.2.2.2.2.1,z1.2.2.2.2.2.2.2.2.2.2.2.2.2.2.2.1,z1.2.2.2.2.2.2.2.2.2.2.2.2.2.2.2.2.1,z1.2.2.2.2.2.2.2.2.2.2.2.2.2.2.2.2.2.1,z1.2.2.2.2.2.2.2.2.2.2.2.2.2.2.2.2.2.2.1,()))) (
 .ni (z1.2.2.2.2.2.2.2.1+(1:Int)) <|
 .ret (.inl (z1.1,z1.2.1,z1.2.2.1,z1.2.2.2.1,z1.2.2.2.2.2.1,z1.2.2.2.2.2.2.1,(z1.2.2.2.2.2.2.2.1+(1:Int)),z1.2.2.2.2.2.2.2.2.2.2.2.2.2.2.1,z1.2.2.2.2.2.2.2.2.2.2.2.2.2.2.2.1,z1.2.2.2.2.2.2.2.2.2.2.2.2.2.2.2.2.1,z1.2.2.2.2.2.2.2.2.2.2.2.2.2.2.2.2.2.1,z1.2.2.2.2.2.2.2.2.2.2.2.2.2.2.2.2.2.2.1,()))))))) (
 .br (!(((aV).getD (Int.toNat aI) ((bs []),(0:Int),(bs []),(bs []),(0:Int))).2.1==(2:Int))) (
 .ni (aI+(1:Int)) <|
 .ret (.inl (v0,true,false,v7,aV,kU,(aI+(1:Int)),aT,bZ,bh,b7,b8,()))) (
 .br (!(seq ((aV).getD (Int.toNat aI) ((bs []),(0:Int),(bs []),(bs []),(0:Int))).2.2.1 bh)) (
 .ni (aI+(1:Int)) <|
 .ret (.inl (v0,true,false,v7,aV,kU,(aI+(1:Int)),aT,bZ,bh,b7,b8,()))) (
 .br (seq ((aV).getD (Int.toNat aI) ((bs []),(0:Int),(bs []),(bs []),(0:Int))).1 aT) (
 .ni (aI+(1:Int)) <|
 .ret (.inl (v0,true,false,v7,aV,kU,(aI+(1:Int)),aT,bZ,bh,b7,b8,()))) (
 .bd (.it g77_1 (v0,true,false,v7,false,aV,kU,aI,((aV).getD (Int.toNat aI) ((bs []),(0:Int),(bs []),(bs []),(0:Int))).2.2.1,bh,(!(seq ((aV).getD (Int.toNat aI) ((bs []),(0:Int),(bs []),(bs []),(0:Int))).2.2.1 bh)),((aV).getD (Int.toNat aI) ((bs []),(0:Int),(bs []),(bs []),(0:Int))).1,aT,(seq ((aV).getD (Int.toNat aI) ((bs []),(0:Int),(bs []),(bs []),(0:Int))).1 aT),v0,(((v0).length:Nat):Int),(0:Int),aT,bZ,bh,b7,b8,((aV).getD (Int.toNat aI) ((bs []),(0:Int),(bs []),(bs []),(0:Int))).1,((aV).getD (Int.toNat aI) ((bs []),(0:Int),(bs []),(bs []),(0:Int))).2.1,((aV).getD (Int.toNat aI) ((bs []),(0:Int),(bs []),(bs []),(0:Int))).2.2.1,((aV).getD (Int.toNat aI) ((bs []),(0:Int),(bs []),(bs []),(0:Int))).2.2.2.1,((aV).getD (Int.toNat aI) ((bs []),(0:Int),(bs []),(bs []),(0:Int))).2.2.2.2,())) fun z2 =>
 .br z2.2.2.2.2.1 (
 .ni (z2.2.2.2.1+(1:Int)) <|
 .ni (z2.2.2.2.2.2.2.2.1+(1:Int)) <|
 .ret (.inl (z2.1,z2.2.1,z2.2.2.1,(z2.2.2.2.1+(1:Int)),z2.2.2.2.2.2.1,z2.2.2.2.2.2.2.1,(z2.2.2.2.2.2.2.2.1+(1:Int)),z2.2.2.2.2.2.2.2.2.2.2.2.2.2.2.1,z2.2.2.2.2.2.2.2.2.2.2.2.2.2.2.2.1,z2.2.2.2.2.2.2.2.2.2.2.2.2.2.2.2.2.1,z2.2.2.2.2.2.2.2.2.2.2.2.2.2.2.2.2.2.1,z2.2.2.2.2.2.2.2.2.2.2.2.2.2.2.2.2.2.2.1,()))) (
 .ni (z2.2.2.2.2.2.2.2.1+(1:Int)) <|
 .ret (.inl (z2.1,z2.2.1,z2.2.2.1,z2.2.2.2.1,z2.2.2.2.2.2.1,z2.2.2.2.2.2.2.1,(z2.2.2.2.2.2.2.2.1+(1:Int)),z2.2.2.2.2.2.2.2.2.2.2.2.2.2.2.1,z2.2.2.2.2.2.2.2.2.2.2.2.2.2.2.2.1,z2.2.2.2.2.2.2.2.2.2.2.2.2.2.2.2.2.1,z2.2.2.2.2.2.2.2.2.2.2.2.2.2.2.2.2.2.1,z2.2.2.2.2.2.2.2.2.2.2.2.2.2.2.2.2.2.2.1,()))))))))) (
 .br (seq ((aV).getD (Int.toNat aI) ((bs []),(0:Int),(bs []),(bs []),(0:Int))).1 bh) (
 .br v6 (
 .br (!(((aV).getD (Int.toNat aI) ((bs []),(0:Int),(bs []),(bs []),(0:Int))).2.1==(2:Int))) (
 .ni (aI+(1:Int)) <|
 .ret (.inl (v0,(!(((aV).getD (Int.toNat aI) ((bs []),(0:Int),(bs []),(bs []),(0:Int))).2.1==(3:Int))),true,v7,aV,kU,(aI+(1:Int)),aT,bZ,bh,b7,b8,()))) (
 .br (!(seq ((aV).getD (Int.toNat aI) ((bs []),(0:Int),(bs []),(bs []),(0:Int))).2.2.1 bh)) (
 .ni (aI+(1:Int)) <|
 .ret (.inl (v0,(!(((aV).getD (Int.toNat aI) ((bs []),(0:Int),(bs []),(bs []),(0:Int))).2.1==(3:Int))),true,v7,aV,kU,(aI+(1:Int)),aT,bZ,bh,b7,b8,()))) (
 .br (seq ((aV).getD (Int.toNat aI) ((bs []),(0:Int),(bs []),(bs []),(0:Int))).1 aT) (
 .ni (aI+(1:Int)) <|
 .ret (.inl (v0,(!(((aV).getD (Int.toNat aI) ((bs []),(0:Int),(bs []),(bs []),(0:Int))).2.1==(3:Int))),true,v7,aV,kU,(aI+(1:Int)),aT,bZ,bh,b7,b8,()))) (
 .bd (.it g77_1 (v0,(!(((aV).getD (Int.toNat aI) ((bs []),(0:Int),(bs []),(bs []),(0:Int))).2.1==(3:Int))),true,v7,false,aV,kU,aI,((aV).getD (Int.toNat aI) ((bs []),(0:Int),(bs []),(bs []),(0:Int))).2.2.1,bh,(!(seq ((aV).getD (Int.toNat aI) ((bs []),(0:Int),(bs []),(bs []),(0:Int))).2.2.1 bh)),((aV).getD (Int.toNat aI) ((bs []),(0:Int),(bs []),(bs []),(0:Int))).1,aT,(seq ((aV).getD (Int.toNat aI) ((bs []),(0:Int),(bs []),(bs []),(0:Int))).1 aT),v0,(((v0).length:Nat):Int),(0:Int),aT,bZ,bh,b7,b8,((aV).getD (Int.toNat aI) ((bs []),(0:Int),(bs []),(bs []),(0:Int))).1,((aV).getD (Int.toNat aI) ((bs []),(0:Int),(bs []),(bs []),(0:Int))).2.1,((aV).getD (Int.toNat aI) ((bs []),(0:Int),(bs []),(bs []),(0:Int))).2.2.1,((aV).getD (Int.toNat aI) ((bs []),(0:Int),(bs []),(bs []),(0:Int))).2.2.2.1,((aV).getD (Int.toNat aI) ((bs []),(0:Int),(bs []),(bs []),(0:Int))).2.2.2.2,())) fun z3 =>
 .br z3.2.2.2.2.1 (
 .ni (z3.2.2.2.1+(1:Int)) <|
 .ni (z3.2.2.2.2.2.2.2.1+(1:Int)) <|
 .ret (.inl (z3.1,z3.2.1,z3.2.2.1,(z3.2.2.2.1+(1:Int)),z3.2.2.2.2.2.1,z3.2.2.2.2.2.2.1,(z3.2.2.2.2.2.2.2.1+(1:Int)),z3.2.2.2.2.2.2.2.2.2.2.2.2.2.2.1,z3.2.2.2.2.2.2.2.2.2.2.2.2.2.2.2.1,z3.2.2.2.2.2.2.2.2.2.2.2.2.2.2.2.2.1,z3.2.2.2.2.2.2.2.2.2.2.2.2.2.2.2.2.2.1,z3.2.2.2.2.2.2.2.2.2.2.2.2.2.2.2.2.2.2.1,()))) (
 .ni (z3.2.2.2.2.2.2.2.1+(1:Int)) <|
 .ret (.inl (z3.1,z3.2.1,z3.2.2.1,z3.2.2.2.1,z3.2.2.2.2.2.1,z3.2.2.2.2.2.2.1,(z3.2.2.2.2.2.2.2.1+(1:Int)),z3.2.2.2.2.2.2.2.2.2.2.2.2.2.2.1,z3.2.2.2.2.2.2.2.2.2.2.2.2.2.2.2.1,z3.2.2.2.2.2.2.2.2.2.2.2.2.2.2.2.2.1,z3.2.2.2.2.2.2.2.2.2.2.2.2.2.2.2.2.2.1,z3.2.2.2.2.2.2.2.2.2.2.2.2.2.2.2.2.2.2.1,()))))))) (
 .br (((aV).getD (Int.toNat aI) ((bs []),(0:Int),(bs []),(bs []),(0:Int))).2.1==(3:Int)) (
 .br (!(((aV).getD (Int.toNat aI) ((bs []),(0:Int),(bs []),(bs []),(0:Int))).2.1==(2:Int))) (
 .ni (aI+(1:Int)) <|
 .ret (.inl (v0,(!(((aV).getD (Int.toNat aI) ((bs []),(0:Int),(bs []),(bs []),(0:Int))).2.1==(3:Int))),(seq ((aV).getD (Int.toNat aI) ((bs []),(0:Int),(bs []),(bs []),(0:Int))).2.2.1 aT),v7,aV,kU,(aI+(1:Int)),aT,bZ,bh,b7,b8,()))) (
 .br (!(seq ((aV).getD (Int.toNat aI) ((bs []),(0:Int),(bs []),(bs []),(0:Int))).2.2.1 bh)) (
 .ni (aI+(1:Int)) <|
 .ret (.inl (v0,(!(((aV).getD (Int.toNat aI) ((bs []),(0:Int),(bs []),(bs []),(0:Int))).2.1==(3:Int))),(seq ((aV).getD (Int.toNat aI) ((bs []),(0:Int),(bs []),(bs []),(0:Int))).2.2.1 aT),v7,aV,kU,(aI+(1:Int)),aT,bZ,bh,b7,b8,()))) (
 .br (seq ((aV).getD (Int.toNat aI) ((bs []),(0:Int),(bs []),(bs []),(0:Int))).1 aT) (
 .ni (aI+(1:Int)) <|
 .ret (.inl (v0,(!(((aV).getD (Int.toNat aI) ((bs []),(0:Int),(bs []),(bs []),(0:Int))).2.1==(3:Int))),(seq ((aV).getD (Int.toNat aI) ((bs []),(0:Int),(bs []),(bs []),(0:Int))).2.2.1 aT),v7,aV,kU,(aI+(1:Int)),aT,bZ,bh,b7,b8,()))) (
 .bd (.it g77_1 (v0,(!(((aV).getD (Int.toNat aI) ((bs []),(0:Int),(bs []),(bs []),(0:Int))).2.1==(3:Int))),(seq ((aV).getD (Int.toNat aI) ((bs []),(0:Int),(bs []),(bs []),(0:Int))).2.2.1 aT),v7,false,aV,kU,aI,((aV).getD (Int.toNat aI) ((bs []),(0:Int),(bs []),(bs []),(0:Int))).2.2.1,bh,(!(seq ((aV).getD (Int.toNat aI) ((bs []),(0:Int),(bs []),(bs []),(0:Int))).2.2.1 bh)),((aV).getD (Int.toNat aI) ((bs []),(0:Int),(bs []),(bs []),(0:Int))).1,aT,(seq ((aV).getD (Int.toNat aI) ((bs []),(0:Int),(bs []),(bs []),(0:Int))).1 aT),v0,(((v0).length:Nat):Int),(0:Int),aT,bZ,bh,b7,b8,((aV).getD (Int.toNat aI) ((bs []),(0:Int),(bs []),(bs []),(0:Int))).1,((aV).getD (Int.toNat aI) ((bs []),(0:Int),(bs []),(bs []),(0:Int))).2.1,((aV).getD (Int.toNat aI) ((bs []),(0:Int),(bs []),(bs []),(0:Int))).2.2.1,((aV).getD (Int.toNat aI) ((bs []),(0:Int),(bs []),(bs []),(0:Int))).2.2.2.1,((aV).getD (Int.toNat aI) ((bs []),(0:Int),(bs []),(bs []),(0:Int))).2.2.2.2,())) fun z4 =>
 .br z4.2.2.2.2.1 (
 .ni (z4.2.2.2.1+(1:Int)) <|
 .ni (z4.2.2.2.2.2.2.2.1+(1:Int)) <|
 .ret (.inl (z4.1,z4.2.1,z4.2.2.1,(z4.2.2.2.1+(1:Int)),z4.2.2.2.2.2.1,z4.2.2.2.2.2.2.1,(z4.2.2.2.2.2.2.2.1+(1:Int)),z4.2.2.2.2.2.2.2.2.2.2.2.2.2.2.1,z4.2.2.2.2.2.2.2.2.2.2.2.2.2.2.2.1,z4.2.2.2.2.2.2.2.2.2.2.2.2.2.2.2.2.1,z4.2.2.2.2.2.2.2.2.2.2.2.2.2.2.2.2.2.1,z4.2.2.2.2.2.2.2.2.2.2.2.2.2.2.2.2.2.2.1,()))) (
 .ni (z4.2.2.2.2.2.2.2.1+(1:Int)) <|
 .ret (.inl (z4.1,z4.2.1,z4.2.2.1,z4.2.2.2.1,z4.2.2.2.2.2.1,z4.2.2.2.2.2.2.1,(z4.2.2.2.2.2.2.2.1+(1:Int)),z4.2.2.2.2.2.2.2.2.2.2.2.2.2.2.1,z4.2.2.2.2.2.2.2.2.2.2.2.2.2.2.2.1,z4.2.2.2.2.2.2.2.2.2.2.2.2.2.2.2.2.1,z4.2.2.2.2.2.2.2.2.2.2.2.2.2.2.2.2.2.1,z4.2.2.2.2.2.2.2.2.2.2.2.2.2.2.2.2.2.2.1,()))))))) (
 .br (!(((aV).getD (Int.toNat aI) ((bs []),(0:Int),(bs []),(bs []),(0:Int))).2.1==(2:Int))) (
 .ni (aI+(1:Int)) <|
 .ret (.inl (v0,(!(((aV).getD (Int.toNat aI) ((bs []),(0:Int),(bs []),(bs []),(0:Int))).2.1==(3:Int))),false,v7,aV,kU,(aI+(1:Int)),aT,bZ,bh,b7,b8,()))) (
 .br (!(seq ((aV).getD (Int.toNat aI) ((bs []),(0:Int),(bs []),(bs []),(0:Int))).2.2.1 bh)) (
 .ni (aI+(1:Int)) <|
 .ret (.inl (v0,(!(((aV).getD (Int.toNat aI) ((bs []),(0:Int),(bs []),(bs []),(0:Int))).2.1==(3:Int))),false,v7,aV,kU,(aI+(1:Int)),aT,bZ,bh,b7,b8,()))) (
 .br (seq ((aV).getD (Int.toNat aI) ((bs []),(0:Int),(bs []),(bs []),(0:Int))).1 aT) (
 .ni (aI+(1:Int)) <|
 .ret (.inl (v0,(!(((aV).getD (Int.toNat aI) ((bs []),(0:Int),(bs []),(bs []),(0:Int))).2.1==(3:Int))),false,v7,aV,kU,(aI+(1:Int)),aT,bZ,bh,b7,b8,()))) (
 .bd (.it g77_1 (v0,(!(((aV).getD (Int.toNat aI) ((bs []),(0:Int),(bs []),(bs []),(0:Int))).2.1==(3:Int))),false,v7,false,aV,kU,aI,((aV).getD (Int.toNat aI) ((bs []),(0:Int),(bs []),(bs []),(0:Int))).2.2.1,bh,(!(seq ((aV).getD (Int.toNat aI) ((bs []),(0:Int),(bs []),(bs []),(0:Int))).2.2.1 bh)),((aV).getD (Int.toNat aI) ((bs []),(0:Int),(bs []),(bs []),(0:Int))).1,aT,(seq ((aV).getD (Int.toNat aI) ((bs []),(0:Int),(bs []),(bs []),(0:Int))).1 aT),v0,(((v0).length:Nat):Int),(0:Int),aT,bZ,bh,b7,b8,((aV).getD (Int.toNat aI) ((bs []),(0:Int),(bs []),(bs []),(0:Int))).1,((aV).getD (Int.toNat aI) ((bs []),(0:Int),(bs []),(bs []),(0:Int))).2.1,((aV).getD (Int.toNat aI) ((bs []),(0:Int),(bs []),(bs []),(0:Int))).2.2.1,((aV).getD (Int.toNat aI) ((bs []),(0:Int),(bs []),(bs []),(0:Int))).2.2.2.1,((aV).getD (Int.toNat aI) ((bs []),(0:Int),(bs []),(bs []),(0:Int))).2.2.2.2,())) fun z5 =>
 .br z5.2.2.2.2.1 (
 .ni (z5.2.2.2.1+(1:Int)) <|
 .ni (z5.2.2.2.2.2.2.2.1+(1:Int)) <|
 .ret (.inl (z5.1,z5.2.1,z5.2.2.1,(z5.2.2.2.1+(1:Int)),z5.2.2.2.2.2.1,z5.2.2.2.2.2.2.1,(z5.2.2.2.2.2.2.2.1+(1:Int)),z5.2.2.2.2.2.2.2.2.2.2.2.2.2.2.1,z5.2.2.2.2.2.2.2.2.2.2.2.2.2.2.2.1,z5.2.2.2.2.2.2.2.2.2.2.2.2.2.2.2.2.1,z5.2.2.2.2.2.2.2.2.2.2.2.2.2.2.2.2.2.1,z5.2.2.2.2.2.2.2.2.2.2.2.2.2.2.2.2.2.2.1,()))) (
 .ni (z5.2.2.2.2.2.2.2.1+(1:Int)) <|
 .ret (.inl (z5.1,z5.2.1,z5.2.2.1,z5.2.2.2.1,z5.2.2.2.2.2.1,z5.2.2.2.2.2.2.1,(z5.2.2.2.2.2.2.2.1+(1:Int)),z5.2.2.2.2.2.2.2.2.2.2.2.2.2.2.1,z5.2.2.2.2.2.2.2.2.2.2.2.2.2.2.2.1,z5.2.2.2.2.2.2.2.2.2.2.2.2.2.2.2.2.1,z5.2.2.2.2.2.2.2.2.2.2.2.2.2.2.2.2.2.1,z5.2.2.2.2.2.2.2.2.2.2.2.2.2.2.2.2.2.2.1,()))))))))) (
 .br v6 (
 .br (!(((aV).getD (Int.toNat aI) ((bs []),(0:Int),(bs []),(bs []),(0:Int))).2.1==(2:Int))) (
 .ni (aI+(1:Int)) <|
 .ret (.inl (v0,false,true,v7,aV,kU,(aI+(1:Int)),aT,bZ,bh,b7,b8,()))) (
 .br (!(seq ((aV).getD (Int.toNat aI) ((bs []),(0:Int),(bs []),(bs []),(0:Int))).2.2.1 bh)) (
 .ni (aI+(1:Int)) <|
 .ret (.inl (v0,false,true,v7,aV,kU,(aI+(1:Int)),aT,bZ,bh,b7,b8,()))) (
 .br (seq ((aV).getD (Int.toNat aI) ((bs []),(0:Int),(bs []),(bs []),(0:Int))).1 aT) (
 .ni (aI+(1:Int)) <|
 .ret (.inl (v0,false,true,v7,aV,kU,(aI+(1:Int)),aT,bZ,bh,b7,b8,()))) (
 .bd (.it g77_1 (v0,false,true,v7,false,aV,kU,aI,((aV).getD (Int.toNat aI) ((bs []),(0:Int),(bs []),(bs []),(0:Int))).2.2.1,bh,(!(seq ((aV).getD (Int.toNat aI) ((bs []),(0:Int),(bs []),(bs []),(0:Int))).2.2.1 bh)),((aV).getD (Int.toNat aI) ((bs []),(0:Int),(bs []),(bs []),(0:Int))).1,aT,(seq ((aV).getD (Int.toNat aI) ((bs []),(0:Int),(bs []),(bs []),(0:Int))).1 aT),v0,(((v0).length:Nat):Int),(0:Int),aT,bZ,bh,b7,b8,((aV).getD (Int.toNat aI) ((bs []),(0:Int),(bs []),(bs []),(0:Int))).1,((aV).getD (Int.toNat aI) ((bs []),(0:Int),(bs []),(bs []),(0:Int))).2.1,((aV).getD (Int.toNat aI) ((bs []),(0:Int),(bs []),(bs []),(0:Int))).2.2.1,((aV).getD (Int.toNat aI) ((bs []),(0:Int),(bs []),(bs []),(0:Int))).2.2.2.1,((aV).getD (Int.toNat aI) ((bs []),(0:Int),(bs []),(bs []),(0:Int))).2.2.2.2,())) fun z6 =>
 .br z6.2.2.2.2.1 (
 .ni (z6.2.2.2.1+(1:Int)) <|
 .ni (z6.2.2.2.2.2.2.2.1+(1:Int)) <|
 .ret (.inl (z6.1,z6.2.1,z6.2.2.1,(z6.2.2.2.1+(1:Int)),z6.2.2.2.2.2.1,z6.2.2.2.2.2.2.1,(z6.2.2.2.2.2.2.2.1+(1:Int)),z6.2.2.2.2.2.2.2.2.2.2.2.2.2.2.1,z6.2.2.2.2.2.2.2.2.2.2.2.2.2.2.2.1,z6.2.2.2.2.2.2.2.2.2.2.2.2.2.2.2.2.1,z6.2.2.2.2.2.2.2.2.2.2.2.2.2.2.2.2.2.1,z6.2.2.2.2.2.2.2.2.2.2.2.2.2.2.2.2.2.2.1,()))) (
 .ni (z6.2.2.2.2.2.2.2.1+(1:Int)) <|
 .ret (.inl (z6.1,z6.2.1,z6.2.2.1,z6.2.2.2.1,z6.2.2.2.2.2.1,z6.2.2.2.2.2.2.1,(z6.2.2.2.2.2.2.2.1+(1:Int)),z6.2.2.2.2.2.2.2.2.2.2.2.2.2.2.1,z6.2.2.2.2.2.2.2.2.2.2.2.2.2.2.2.1,z6.2.2.2.2.2.2.2.2.2.2.2.2.2.2.2.2.1,z6.2.2.2.2.2.2.2.2.2.2.2.2.2.2.2.2.2.1,z6.2.2.2.2.2.2.2.2.2.2.2.2.2.2.2.2.2.2.1,()))))))) (
 .br (((aV).getD (Int.toNat aI) ((bs []),(0:Int),(bs []),(bs []),(0:Int))).2.1==(3:Int)) (
 .br (!(((aV).getD (Int.toNat aI) ((bs []),(0:Int),(bs []),(bs []),(0:Int))).2.1==(2:Int))) (
 .ni (aI+(1:Int)) <|
 .ret (.inl (v0,false,(seq ((aV).getD (Int.toNat aI) ((bs []),(0:Int),(bs []),(bs []),(0:Int))).2.2.1 aT),v7,aV,kU,(aI+(1:Int)),aT,bZ,bh,b7,b8,()))) (
 .br (!(seq ((aV).getD (Int.toNat aI) ((bs []),(0:Int),(bs []),(bs []),(0:Int))).2.2.1 bh)) (
 .ni (aI+(1:Int)) <|
 .ret (.inl (v0,false,(seq ((aV).getD (Int.toNat aI) ((bs []),(0:Int),(bs []),(bs []),(0:Int))).2.2.1 aT),v7,aV,kU,(aI+(1:Int)),aT,bZ,bh,b7,b8,()))) (
 .br (seq ((aV).getD (Int.toNat aI) ((bs []),(0:Int),(bs []),(bs []),(0:Int))).1 aT) (
 .ni (aI+(1:Int)) <|
 .ret (.inl (v0,false,(seq ((aV).getD (Int.toNat aI) ((bs []),(0:Int),(bs []),(bs []),(0:Int))).2.2.1 aT),v7,aV,kU,(aI+(1:Int)),aT,bZ,bh,b7,b8,()))) (
 .bd (.it g77_1 (v0,false,(seq ((aV).getD (Int.toNat aI) ((bs []),(0:Int),(bs []),(bs []),(0:Int))).2.2.1 aT),v7,false,aV,kU,aI,((aV).getD (Int.toNat aI) ((bs []),(0:Int),(bs []),(bs []),(0:Int))).2.2.1,bh,(!(seq ((aV).getD (Int.toNat aI) ((bs []),(0:Int),(bs []),(bs []),(0:Int))).2.2.1 bh)),((aV).getD (Int.toNat aI) ((bs []),(0:Int),(bs []),(bs []),(0:Int))).1,aT,(seq ((aV).getD (Int.toNat aI) ((bs []),(0:Int),(bs []),(bs []),(0:Int))).1 aT),v0,(((v0).length:Nat):Int),(0:Int),aT,bZ,bh,b7,b8,((aV).getD (Int.toNat aI) ((bs []),(0:Int),(bs []),(bs []),(0:Int))).1,((aV).getD (Int.toNat aI) ((bs []),(0:Int),(bs []),(bs []),(0:Int))).2.1,((aV).getD (Int.toNat aI) ((bs []),(0:Int),(bs []),(bs []),(0:Int))).2.2.1,((aV).getD (Int.toNat aI) ((bs []),(0:Int),(bs []),(bs []),(0:Int))).2.2.2.1,((aV).getD (Int.toNat aI) ((bs []),(0:Int),(bs []),(bs []),(0:Int))).2.2.2.2,())) fun z7 =>
 .br z7.2.2.2.2.1 (
 .ni (z7.2.2.2.1+(1:Int)) <|
 .ni (z7.2.2.2.2.2.2.2.1+(1:Int)) <|
 .ret (.inl (z7.1,z7.2.1,z7.2.2.1,(z7.2.2.2.1+(1:Int)),z7.2.2.2.2.2.1,z7.2.2.2.2.2.2.1,(z7.2.2.2.2.2.2.2.1+(1:Int)),z7.2.2.2.2.2.2.2.2.2.2.2.2.2.2.1,z7.2.2.2.2.2.2.2.2.2.2.2.2.2.2.2.1,z7.2.2.2.2.2.2.2.2.2.2.2.2.2.2.2.2.1,z7.2.2.2.2.2.2.2.2.2.2.2.2.2.2.2.2.2.1,z7.2.2.2.2.2.2.2.2.2.2.2.2.2.2.2.2.2.2.1,()))) (
 .ni (z7.2.2.2.2.2.2.2.1+(1:Int)) <|
 .ret (.inl (z7.1,z7.2.1,z7.2.2.1,z7.2.2.2.1,z7.2.2.2.2.2.1,z7.2.2.2.2.2.2.1,(z7.2.2.2.2.2.2.2.1+(1:Int)),z7.2.2.2.2.2.2.2.2.2.2.2.2.2.2.1,z7.2.2.2.2.2.2.2.2.2.2.2.2.2.2.2.1,z7.2.2.2.2.2.2.2.2.2.2.2.2.2.2.2.2.1,z7.2.2.2.2.2.2.2.2.2.2.2.2.2.2.2.2.2.1,z7.2.2.2.2.2.2.2.2.2.2.2.2.2.2.2.2.2.2.1,()))))))) (
 .br (!(((aV).getD (Int.toNat aI) ((bs []),(0:Int),(bs []),(bs []),(0:Int))).2.1==(2:Int))) (
 .ni (aI+(1:Int)) <|
 .ret (.inl (v0,false,false,v7,aV,kU,(aI+(1:Int)),aT,bZ,bh,b7,b8,()))) (
 .br (!(seq ((aV).getD (Int.toNat aI) ((bs []),(0:Int),(bs []),(bs []),(0:Int))).2.2.1 bh)) (
 .ni (aI+(1:Int)) <|
 .ret (.inl (v0,false,false,v7,aV,kU,(aI+(1:Int)),aT,bZ,bh,b7,b8,()))) (
 .br (seq ((aV).getD (Int.toNat aI) ((bs []),(0:Int),(bs []),(bs []),(0:Int))).1 aT) (
 .ni (aI+(1:Int)) <|
 .ret (.inl (v0,false,false,v7,aV,kU,(aI+(1:Int)),aT,bZ,bh,b7,b8,()))) (
 .bd (.it g77_1 (v0,false,false,v7,false,aV,kU,aI,((aV).getD (Int.toNat aI) ((bs []),(0:Int),(bs []),(bs []),(0:Int))).2.2.1,bh,(!(seq ((aV).getD (Int.toNat aI) ((bs []),(0:Int),(bs []),(bs []),(0:Int))).2.2.1 bh)),((aV).getD (Int.toNat aI) ((bs []),(0:Int),(bs []),(bs []),(0:Int))).1,aT,(seq ((aV).getD (Int.toNat aI) ((bs []),(0:Int),(bs []),(bs []),(0:Int))).1 aT),v0,(((v0).length:Nat):Int),(0:Int),aT,bZ,bh,b7,b8,((aV).getD (Int.toNat aI) ((bs []),(0:Int),(bs []),(bs []),(0:Int))).1,((aV).getD (Int.toNat aI) ((bs []),(0:Int),(bs []),(bs []),(0:Int))).2.1,((aV).getD (Int.toNat aI) ((bs []),(0:Int),(bs []),(bs []),(0:Int))).2.2.1,((aV).getD (Int.toNat aI) ((bs []),(0:Int),(bs []),(bs []),(0:Int))).2.2.2.1,((aV).getD (Int.toNat aI) ((bs []),(0:Int),(bs []),(bs []),(0:Int))).2.2.2.2,())) fun z8 =>
 .br z8.2.2.2.2.1 (
 .ni (z8.2.2.2.1+(1:Int)) <|
 .ni (z8.2.2.2.2.2.2.2.1+(1:Int)) <|
 .ret (.inl (z8.1,z8.2.1,z8.2.2.1,(z8.2.2.2.1+(1:Int)),z8.2.2.2.2.2.1,z8.2.2.2.2.2.2.1,(z8.2.2.2.2.2.2.2.1+(1:Int)),z8.2.2.2.2.2.2.2.2.2.2.2.2.2.2.1,z8.2.2.2.2.2.2.2.2.2.2.2.2.2.2.2.1,z8.2.2.2.2.2.2.2.2.2.2.2.2.2.2.2.2.1,z8.2.2.2.2.2.2.2.2.2.2.2.2.2.2.2.2.2.1,z8.2.2.2.2.2.2.2.2.2.2.2.2.2.2.2.2.2.2.1,()))) (
 .ni (z8.2.2.2.2.2.2.2.1+(1:Int)) <|
 .ret (.inl (z8.1,z8.2.1,z8.2.2.1,z8.2.2.2.1,z8.2.2.2.2.2.1,z8.2.2.2.2.2.2.1,(z8.2.2.2.2.2.2.2.1+(1:Int)),z8.2.2.2.2.2.2.2.2.2.2.2.2.2.2.1,z8.2.2.2.2.2.2.2.2.2.2.2.2.2.2.2.1,z8.2.2.2.2.2.2.2.2.2.2.2.2.2.2.2.2.1,z8.2.2.2.2.2.2.2.2.2.2.2.2.2.2.2.2.2.1,z8.2.2.2.2.2.2.2.2.2.2.2.2.2.2.2.2.2.2.1,()))))))))))) (
 .ret (.inr (v5,v6,v7,())))
noncomputable def aeg:cn prog 95 none 0:=bR mixed Zz Cm [] rfl aed aee rfl (aef) (fun x=>ak (g77_0 x)) (fun x=>by kernel_rfl)
noncomputable def dd77:D prog 95 none 0:=dO [.l aeg] (kd prog f77) 0
noncomputable def F77 (a0:List (GG)) (a1:GG):bU (Bool×Unit) :=
 .bd (.it g77_0 (a0,false,false,(0:Int),a0,(((a0).length:Nat):Int),(0:Int),a1.1,a1.2.1,a1.2.2.1,a1.2.2.2.1,a1.2.2.2.2,())) fun z9 =>
 .br z9.1 (
 .br (!z9.2.1) (
 .ret ((z9.2.2.1==(1:Int)),())) (
 .ret (false,()))) (
 .ret (false,()))
theorem ZA:cM prog f77=some ⟨95,2,dd77.er,[.t 4],[some .bool]⟩:=by kernel_rfl
noncomputable def ct77:Ct:=⟨77,[.c (.hole (.list tG)),.c (.hole tG)],.c (.hole .bool),fun x=>ak (F77 x.1 x.2.1)⟩
theorem T0:ct77.Ok prog:=cT mixed Cm func77 ZA (enters_of func77 rfl rfl) dd77 (by kernel_rfl) rfl (fun x=>by kernel_rfl)

end Go.Proofs.Tryz

