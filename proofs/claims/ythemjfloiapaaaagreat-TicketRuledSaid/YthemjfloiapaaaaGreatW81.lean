/- Functions of the program as functions of data, part 2; printed by a program of mine. -/
import Derived.Test.YthemjfloiapaaaaGreatW80
import Derived.Test.YthemjfloiapaaaaGreatProg
set_option linter.unusedSectionVars false
set_option linter.unusedVariables false
set_option linter.unusedSimpArgs false
open Go.AM
namespace Go.Proofs.Tryz
set_option maxRecDepth 100000
set_option synthInstance.maxSize 4000
set_option synthInstance.maxHeartbeats 400000


/- 77 -/
noncomputable def aaN:Cx:=(aN [] [])
theorem Db:aaN.Ok prog:=av trivial trivial
@[reducible] def afz:az:=az.mk [(0,.c (.hole (.list tG))),(3,.c (.ptr 0 0)),(5,.c (.hole .bool)),(6,.c (.hole .bool)),(7,hI),(9,.c (.ptr 1 0)),(10,.c (.hole .bool)),(13,.c (.hole (.list tG))),(14,hI),(15,hI),(49,.c (.ptr 1 2)),(50,.c (.hole .str)),(51,.c (.ptr 0 2)),(52,.c (.hole .str)),(53,.c (.hole .bool)),(56,.c (.ptr 1 0)),(57,.c (.hole .str)),(58,.c (.ptr 0 0)),(59,.c (.hole .str)),(60,.c (.hole .bool)),(62,.c (.hole (.list tG))),(63,hI),(64,hI)] [(0,.cells [.hole .str,.hole tI,.hole .str,.hole .str,.hole tI] false),(1,.cells [.hole .str,.hole tI,.hole .str,.hole .str,.hole tI] false)] [.slot 3,.slot 9] []
@[reducible] def afA:bf:=[(.exit 2,az.mk [(0,.c (.hole (.list tG))),(3,.c (.ptr 0 0)),(5,.c (.hole .bool)),(6,.c (.hole .bool)),(7,hI),(10,.c (.hole .bool)),(13,.c (.hole (.list tG))),(14,hI),(15,hI),(50,.c (.hole .str)),(51,.c (.ptr 0 2)),(52,.c (.hole .str)),(53,.c (.hole .bool)),(57,.c (.hole .str)),(58,.c (.ptr 0 0)),(59,.c (.hole .str)),(60,.c (.hole .bool))] [(0,.cells [.hole .str,.hole tI,.hole .str,.hole .str,.hole tI] false)] [.slot 3] [])]
noncomputable def afB:D prog 95 none 0:=dO [] (pick (kd prog f77) [(0,false),(0,false)]) 0
noncomputable def g77_1:(List (GG))×Bool×Bool×Int×Bool×(List (GG))×Int×Int×ByteArray×ByteArray×Bool×ByteArray×ByteArray×Bool×(List (GG))×Int×Int×ByteArray×Int×ByteArray×ByteArray×Int×ByteArray×Int×ByteArray×ByteArray×Int×Unit→bU (((List (GG))×Bool×Bool×Int×Bool×(List (GG))×Int×Int×ByteArray×ByteArray×Bool×ByteArray×ByteArray×Bool×(List (GG))×Int×Int×ByteArray×Int×ByteArray×ByteArray×Int×ByteArray×Int×ByteArray×ByteArray×Int×Unit) ⊕ (((List (GG))×Bool×Bool×Int×Bool×(List (GG))×Int×Int×ByteArray×ByteArray×Bool×ByteArray×ByteArray×Bool×ByteArray×Int×ByteArray×ByteArray×Int×Unit))):=fun (v0,v5,v6,v7,v10,bt,cZ,aK,v50,U1,v53,U2,v59,v60,v62,v63,v64,aR,bN,aY,bO,bP,dV,jq,jH,jI,j9,_) =>
 .br (decide (v64<v63)) (
 .nb v64 (((v62).length:Nat):Int) <|
 .br v10 (
 .ni (v64+(1:Int)) <|
 .ret (.inl (v0,v5,v6,v7,true,bt,cZ,aK,v50,U1,v53,U2,v59,v60,v62,v63,(v64+(1:Int)),aR,bN,aY,bO,bP,dV,jq,jH,jI,j9,()))) (
 .br (((v62).getD (Int.toNat v64) ((bs []),(0:Int),(bs []),(bs []),(0:Int))).2.1==(3:Int)) (
 .ni (v64+(1:Int)) <|
 .ret (.inl (v0,v5,v6,v7,(seq ((v62).getD (Int.toNat v64) ((bs []),(0:Int),(bs []),(bs []),(0:Int))).2.2.1 dV),bt,cZ,aK,v50,U1,v53,U2,v59,v60,v62,v63,(v64+(1:Int)),aR,bN,aY,bO,bP,dV,jq,jH,jI,j9,()))) (
 .ni (v64+(1:Int)) <|
 .ret (.inl (v0,v5,v6,v7,false,bt,cZ,aK,v50,U1,v53,U2,v59,v60,v62,v63,(v64+(1:Int)),aR,bN,aY,bO,bP,dV,jq,jH,jI,j9,()))))) (
 .ret (.inr (v0,v5,v6,v7,v10,bt,cZ,aK,v50,U1,v53,U2,v59,v60,aR,bN,aY,bO,bP,())))
noncomputable def afC:bQ prog 95 none 0:=bx mixed aaN Db [] rfl afz afA rfl (afB) (fun x=>ak (g77_1 x)) (fun x=>by kernel_rfl)
@[reducible] def afD:az:=az.mk [(0,.c (.hole (.list tG))),(3,.c (.ptr 0 0)),(5,.c (.hole .bool)),(6,.c (.hole .bool)),(7,hI),(13,.c (.hole (.list tG))),(14,hI),(15,hI)] [(0,.cells [.hole .str,.hole tI,.hole .str,.hole .str,.hole tI] false)] [.slot 3] []
@[reducible] def afE:bf:=[(.exit 0,az.mk [(5,.c (.hole .bool)),(6,.c (.hole .bool)),(7,hI)] [] [] [])]
noncomputable def afF:D prog 95 none 0:=dO [.l afC] (pick (kd prog f77) [(0,false)]) 0
noncomputable def g77_0:(List (GG))×Bool×Bool×Int×(List (GG))×Int×Int×ByteArray×Int×ByteArray×ByteArray×Int×Unit→bU (((List (GG))×Bool×Bool×Int×(List (GG))×Int×Int×ByteArray×Int×ByteArray×ByteArray×Int×Unit) ⊕ ((Bool×Bool×Int×Unit))):=fun (v0,v5,v6,v7,bt,cZ,aK,aR,bN,aY,bO,bP,_) =>
 .br (decide (aK<cZ)) (
 .nb aK (((bt).length:Nat):Int) <|
 .br v5 (
 .br v6 (
 .br (!(((bt).getD (Int.toNat aK) ((bs []),(0:Int),(bs []),(bs []),(0:Int))).2.1==(2:Int))) (
 .ni (aK+(1:Int)) <|
 .ret (.inl (v0,true,true,v7,bt,cZ,(aK+(1:Int)),aR,bN,aY,bO,bP,()))) (
 .br (!(seq ((bt).getD (Int.toNat aK) ((bs []),(0:Int),(bs []),(bs []),(0:Int))).2.2.1 aY)) (
 .ni (aK+(1:Int)) <|
 .ret (.inl (v0,true,true,v7,bt,cZ,(aK+(1:Int)),aR,bN,aY,bO,bP,()))) (
 .br (seq ((bt).getD (Int.toNat aK) ((bs []),(0:Int),(bs []),(bs []),(0:Int))).1 aR) (
 .ni (aK+(1:Int)) <|
 .ret (.inl (v0,true,true,v7,bt,cZ,(aK+(1:Int)),aR,bN,aY,bO,bP,()))) (
 .bd (.it g77_1 (v0,true,true,v7,false,bt,cZ,aK,((bt).getD (Int.toNat aK) ((bs []),(0:Int),(bs []),(bs []),(0:Int))).2.2.1,aY,(!(seq ((bt).getD (Int.toNat aK) ((bs []),(0:Int),(bs []),(bs []),(0:Int))).2.2.1 aY)),((bt).getD (Int.toNat aK) ((bs []),(0:Int),(bs []),(bs []),(0:Int))).1,aR,(seq ((bt).getD (Int.toNat aK) ((bs []),(0:Int),(bs []),(bs []),(0:Int))).1 aR),v0,(((v0).length:Nat):Int),(0:Int),aR,bN,aY,bO,bP,((bt).getD (Int.toNat aK) ((bs []),(0:Int),(bs []),(bs []),(0:Int))).1,((bt).getD (Int.toNat aK) ((bs []),(0:Int),(bs []),(bs []),(0:Int))).2.1,((bt).getD (Int.toNat aK) ((bs []),(0:Int),(bs []),(bs []),(0:Int))).2.2.1,((bt).getD (Int.toNat aK) ((bs []),(0:Int),(bs []),(bs []),(0:Int))).2.2.2.1,((bt).getD (Int.toNat aK) ((bs []),(0:Int),(bs []),(bs []),(0:Int))).2.2.2.2,())) fun z0 =>
 .br z0.2.2.2.2.1 (
 .ni (z0.2.2.2.1+(1:Int)) <|
 .ni (z0.2.2.2.2.2.2.2.1+(1:Int)) <|
 .ret (.inl (z0.1,z0.2.1,z0.2.2.1,(z0.2.2.2.1+(1:Int)),z0.2.2.2.2.2.1,z0.2.2.2.2.2.2.1,(z0.2.2.2.2.2.2.2.1+(1:Int)),z0.2.2.2.2.2.2.2.2.2.2.2.2.2.2.1,z0.2.2.2.2.2.2.2.2.2.2.2.2.2.2.2.1,z0.2.2.2.2.2.2.2.2.2.2.2.2.2.2.2.2.1,z0.2.2.2.2.2.2.2.2.2.2.2.2.2.2.2.2.2.1,z0.2.2.2.2.2.2.2.2.2.2.2.2.2.2.2.2.2.2.1,()))) (
 .ni (z0.2.2.2.2.2.2.2.1+(1:Int)) <|
 .ret (.inl (z0.1,z0.2.1,z0.2.2.1,z0.2.2.2.1,z0.2.2.2.2.2.1,z0.2.2.2.2.2.2.1,(z0.2.2.2.2.2.2.2.1+(1:Int)),z0.2.2.2.2.2.2.2.2.2.2.2.2.2.2.1,z0.2.2.2.2.2.2.2.2.2.2.2.2.2.2.2.1,z0.2.2.2.2.2.2.2.2.2.2.2.2.2.2.2.2.1,z0.2.2.2.2.2.2.2.2.2.2.2.2.2.2.2.2.2.1,z0.2.2.2.2.2.2.2.2.2.2.2.2.2.2.2.2.2.2.1,()))))))) (
 .br (((bt).getD (Int.toNat aK) ((bs []),(0:Int),(bs []),(bs []),(0:Int))).2.1==(3:Int)) (
 .br (!(((bt).getD (Int.toNat aK) ((bs []),(0:Int),(bs []),(bs []),(0:Int))).2.1==(2:Int))) (
 .ni (aK+(1:Int)) <|
 .ret (.inl (v0,true,(seq ((bt).getD (Int.toNat aK) ((bs []),(0:Int),(bs []),(bs []),(0:Int))).2.2.1 aR),v7,bt,cZ,(aK+(1:Int)),aR,bN,aY,bO,bP,()))) (
 .br (!(seq ((bt).getD (Int.toNat aK) ((bs []),(0:Int),(bs []),(bs []),(0:Int))).2.2.1 aY)) (
 .ni (aK+(1:Int)) <|
 .ret (.inl (v0,true,(seq ((bt).getD (Int.toNat aK) ((bs []),(0:Int),(bs []),(bs []),(0:Int))).2.2.1 aR),v7,bt,cZ,(aK+(1:Int)),aR,bN,aY,bO,bP,()))) (
 .br (seq ((bt).getD (Int.toNat aK) ((bs []),(0:Int),(bs []),(bs []),(0:Int))).1 aR) (
 .ni (aK+(1:Int)) <|
 .ret (.inl (v0,true,(seq ((bt).getD (Int.toNat aK) ((bs []),(0:Int),(bs []),(bs []),(0:Int))).2.2.1 aR),v7,bt,cZ,(aK+(1:Int)),aR,bN,aY,bO,bP,()))) (
 .bd (.it g77_1 (v0,true,(seq ((bt).getD (Int.toNat aK) ((bs []),(0:Int),(bs []),(bs []),(0:Int))).2.2.1 aR),v7,false,bt,cZ,aK,((bt).getD (Int.toNat aK) ((bs []),(0:Int),(bs []),(bs []),(0:Int))).2.2.1,aY,(!(seq ((bt).getD (Int.toNat aK) ((bs []),(0:Int),(bs []),(bs []),(0:Int))).2.2.1 aY)),((bt).getD (Int.toNat aK) ((bs []),(0:Int),(bs []),(bs []),(0:Int))).1,aR,(seq ((bt).getD (Int.toNat aK) ((bs []),(0:Int),(bs []),(bs []),(0:Int))).1 aR),v0,(((v0).length:Nat):Int),(0:Int),aR,bN,aY,bO,bP,((bt).getD (Int.toNat aK) ((bs []),(0:Int),(bs []),(bs []),(0:Int))).1,((bt).getD (Int.toNat aK) ((bs []),(0:Int),(bs []),(bs []),(0:Int))).2.1,((bt).getD (Int.toNat aK) ((bs []),(0:Int),(bs []),(bs []),(0:Int))).2.2.1,((bt).getD (Int.toNat aK) ((bs []),(0:Int),(bs []),(bs []),(0:Int))).2.2.2.1,((bt).getD (Int.toNat aK) ((bs []),(0:Int),(bs []),(bs []),(0:Int))).2.2.2.2,())) fun z1 =>
 .br z1.2.2.2.2.1 (
 .ni (z1.2.2.2.1+(1:Int)) <|
 .ni (z1.2.2.2.2.2.2.2.1+(1:Int)) <|
 .ret (.inl (z1.1,z1.2.1,z1.2.2.1,(z1.2.2.2.1+(1:Int)),z1.2.2.2.2.2.1,z1.2.2.2.2.2.2.1,(z1.2.2.2.2.2.2.2.1+(1:Int)),z1.2.2.2.2.2.2.2.2.2.2.2.2.2.2.1,z1.2.2.2.2.2.2.2.2.2.2.2.2.2.2.2.1,z1.2.2.2.2.2.2.2.2.2.2.2.2.2.2.2.2.1,z1.2.2.2.2.2.2.2.2.2.2.2.2.2.2.2.2.2.1,z1.2.2.2.2.2.2.2.2.2.2.2.2.2.2.2.2.2.2.1,()))) (
 .ni (z1.2.2.2.2.2.2.2.1+(1:Int)) <|
 .ret (.inl (z1.1,z1.2.1,z1.2.2.1,z1.2.2.2.1,z1.2.2.2.2.2.1,z1.2.2.2.2.2.2.1,(z1.2.2.2.2.2.2.2.1+(1:Int)),z1.2.2.2.2.2.2.2.2.2.2.2.2.2.2.1,z1.2.2.2.2.2.2.2.2.2.2.2.2.2.2.2.1,z1.2.2.2.2.2.2.2.2.2.2.2.2.2.2.2.2.1,z1.2.2.2.2.2.2.2.2.2.2.2.2.2.2.2.2.2.1,z1.2.2.2.2.2.2.2.2.2.2.2.2.2.2.2.2.2.2.1,()))))))) (
 .br (!(((bt).getD (Int.toNat aK) ((bs []),(0:Int),(bs []),(bs []),(0:Int))).2.1==(2:Int))) (
 .ni (aK+(1:Int)) <|
 .ret (.inl (v0,true,false,v7,bt,cZ,(aK+(1:Int)),aR,bN,aY,bO,bP,()))) (
 .br (!(seq ((bt).getD (Int.toNat aK) ((bs []),(0:Int),(bs []),(bs []),(0:Int))).2.2.1 aY)) (
 .ni (aK+(1:Int)) <|
 .ret (.inl (v0,true,false,v7,bt,cZ,(aK+(1:Int)),aR,bN,aY,bO,bP,()))) (
 .br (seq ((bt).getD (Int.toNat aK) ((bs []),(0:Int),(bs []),(bs []),(0:Int))).1 aR) (
 .ni (aK+(1:Int)) <|
 .ret (.inl (v0,true,false,v7,bt,cZ,(aK+(1:Int)),aR,bN,aY,bO,bP,()))) (
 .bd (.it g77_1 (v0,true,false,v7,false,bt,cZ,aK,((bt).getD (Int.toNat aK) ((bs []),(0:Int),(bs []),(bs []),(0:Int))).2.2.1,aY,(!(seq ((bt).getD (Int.toNat aK) ((bs []),(0:Int),(bs []),(bs []),(0:Int))).2.2.1 aY)),((bt).getD (Int.toNat aK) ((bs []),(0:Int),(bs []),(bs []),(0:Int))).1,aR,(seq ((bt).getD (Int.toNat aK) ((bs []),(0:Int),(bs []),(bs []),(0:Int))).1 aR),v0,(((v0).length:Nat):Int),(0:Int),aR,bN,aY,bO,bP,((bt).getD (Int.toNat aK) ((bs []),(0:Int),(bs []),(bs []),(0:Int))).1,((bt).getD (Int.toNat aK) ((bs []),(0:Int),(bs []),(bs []),(0:Int))).2.1,((bt).getD (Int.toNat aK) ((bs []),(0:Int),(bs []),(bs []),(0:Int))).2.2.1,((bt).getD (Int.toNat aK) ((bs []),(0:Int),(bs []),(bs []),(0:Int))).2.2.2.1,((bt).getD (Int.toNat aK) ((bs []),(0:Int),(bs []),(bs []),(0:Int))).2.2.2.2,())) fun z2 =>
 .br z2.2.2.2.2.1 (
 .ni (z2.2.2.2.1+(1:Int)) <|
 .ni (z2.2.2.2.2.2.2.2.1+(1:Int)) <|
 .ret (.inl (z2.1,z2.2.1,z2.2.2.1,(z2.2.2.2.1+(1:Int)),z2.2.2.2.2.2.1,z2.2.2.2.2.2.2.1,(z2.2.2.2.2.2.2.2.1+(1:Int)),z2.2.2.2.2.2.2.2.2.2.2.2.2.2.2.1,z2.2.2.2.2.2.2.2.2.2.2.2.2.2.2.2.1,z2.2.2.2.2.2.2.2.2.2.2.2.2.2.2.2.2.1,z2.2.2.2.2.2.2.2.2.2.2.2.2.2.2.2.2.2.1,z2.2.2.2.2.2.2.2.2.2.2.2.2.2.2.2.2.2.2.1,()))) (
 .ni (z2.2.2.2.2.2.2.2.1+(1:Int)) <|
 .ret (.inl (z2.1,z2.2.1,z2.2.2.1,z2.2.2.2.1,z2.2.2.2.2.2.1,z2.2.2.2.2.2.2.1,(z2.2.2.2.2.2.2.2.1+(1:Int)),z2.2.2.2.2.2.2.2.2.2.2.2.2.2.2.1,z2.2.2.2.2.2.2.2.2.2.2.2.2.2.2.2.1,z2.2.2.2.2.2.2.2.2.2.2.2.2.2.2.2.2.1,z2.2.2.2.2.2.2.2.2.2.2.2.2.2.2.2.2.2.1,z2.2.2.2.2.2.2.2.2.2.2.2.2.2.2.2.2.2.2.1,()))))))))) (
 .br (seq ((bt).getD (Int.toNat aK) ((bs []),(0:Int),(bs []),(bs []),(0:Int))).1 aY) (
 .br v6 (
 .br (!(((bt).getD (Int.toNat aK) ((bs []),(0:Int),(bs []),(bs []),(0:Int))).2.1==(2:Int))) (
 .ni (aK+(1:Int)) <|
 .ret (.inl (v0,(!(((bt).getD (Int.toNat aK) ((bs []),(0:Int),(bs []),(bs []),(0:Int))).2.1==(3:Int))),true,v7,bt,cZ,(aK+(1:Int)),aR,bN,aY,bO,bP,()))) (
 .br (!(seq ((bt).getD (Int.toNat aK) ((bs []),(0:Int),(bs []),(bs []),(0:Int))).2.2.1 aY)) (
 .ni (aK+(1:Int)) <|
 .ret (.inl (v0,(!(((bt).getD (Int.toNat aK) ((bs []),(0:Int),(bs []),(bs []),(0:Int))).2.1==(3:Int))),true,v7,bt,cZ,(aK+(1:Int)),aR,bN,aY,bO,bP,()))) (
 .br (seq ((bt).getD (Int.toNat aK) ((bs []),(0:Int),(bs []),(bs []),(0:Int))).1 aR) (
 .ni (aK+(1:Int)) <|
 .ret (.inl (v0,(!(((bt).getD (Int.toNat aK) ((bs []),(0:Int),(bs []),(bs []),(0:Int))).2.1==(3:Int))),true,v7,bt,cZ,(aK+(1:Int)),aR,bN,aY,bO,bP,()))) (
 .bd (.it g77_1 (v0,(!(((bt).getD (Int.toNat aK) ((bs []),(0:Int),(bs []),(bs []),(0:Int))).2.1==(3:Int))),true,v7,false,bt,cZ,aK,((bt).getD (Int.toNat aK) ((bs []),(0:Int),(bs []),(bs []),(0:Int))).2.2.1,aY,(!(seq ((bt).getD (Int.toNat aK) ((bs []),(0:Int),(bs []),(bs []),(0:Int))).2.2.1 aY)),((bt).getD (Int.toNat aK) ((bs []),(0:Int),(bs []),(bs []),(0:Int))).1,aR,(seq ((bt).getD (Int.toNat aK) ((bs []),(0:Int),(bs []),(bs []),(0:Int))).1 aR),v0,(((v0).length:Nat):Int),(0:Int),aR,bN,aY,bO,bP,((bt).getD (Int.toNat aK) ((bs []),(0:Int),(bs []),(bs []),(0:Int))).1,((bt).getD (Int.toNat aK) ((bs []),(0:Int),(bs []),(bs []),(0:Int))).2.1,((bt).getD (Int.toNat aK) ((bs []),(0:Int),(bs []),(bs []),(0:Int))).2.2.1,((bt).getD (Int.toNat aK) ((bs []),(0:Int),(bs []),(bs []),(0:Int))).2.2.2.1,((bt).getD (Int.toNat aK) ((bs []),(0:Int),(bs []),(bs []),(0:Int))).2.2.2.2,())) fun z3 =>
 .br z3.2.2.2.2.1 (
 .ni (z3.2.2.2.1+(1:Int)) <|
 .ni (z3.2.2.2.2.2.2.2.1+(1:Int)) <|
 .ret (.inl (z3.1,z3.2.1,z3.2.2.1,(z3.2.2.2.1+(1:Int)),z3.2.2.2.2.2.1,z3.2.2.2.2.2.2.1,(z3.2.2.2.2.2.2.2.1+(1:Int)),z3.2.2.2.2.2.2.2.2.2.2.2.2.2.2.1,z3.2.2.2.2.2.2.2.2.2.2.2.2.2.2.2.1,z3.2.2.2.2.2.2.2.2.2.2.2.2.2.2.2.2.1,z3.2.2.2.2.2.2.2.2.2.2.2.2.2.2.2.2.2.1,z3.2.2.2.2.2.2.2.2.2.2.2.2.2.2.2.2.2.2.1,()))) (
 .ni (z3.2.2.2.2.2.2.2.1+(1:Int)) <|
 .ret (.inl (z3.1,z3.2.1,z3.2.2.1,z3.2.2.2.1,z3.2.2.2.2.2.1,z3.2.2.2.2.2.2.1,(z3.2.2.2.2.2.2.2.1+(1:Int)),z3.2.2.2.2.2.2.2.2.2.2.2.2.2.2.1,z3.2.2.2.2.2.2.2.2.2.2.2.2.2.2.2.1,z3.2.2.2.2.2.2.2.2.2.2.2.2.2.2.2.2.1,z3.2.2.2.2.2.2.2.2.2.2.2.2.2.2.2.2.2.1,z3.2.2.2.2.2.2.2.2.2.2.2.2.2.2.2.2.2.2.1,()))))))) (
 .br (((bt).getD (Int.toNat aK) ((bs []),(0:Int),(bs []),(bs []),(0:Int))).2.1==(3:Int)) (
 .br (!(((bt).getD (Int.toNat aK) ((bs []),(0:Int),(bs []),(bs []),(0:Int))).2.1==(2:Int))) (
 .ni (aK+(1:Int)) <|
 .ret (.inl (v0,(!(((bt).getD (Int.toNat aK) ((bs []),(0:Int),(bs []),(bs []),(0:Int))).2.1==(3:Int))),(seq ((bt).getD (Int.toNat aK) ((bs []),(0:Int),(bs []),(bs []),(0:Int))).2.2.1 aR),v7,bt,cZ,(aK+(1:Int)),aR,bN,aY,bO,bP,()))) (
 .br (!(seq ((bt).getD (Int.toNat aK) ((bs []),(0:Int),(bs []),(bs []),(0:Int))).2.2.1 aY)) (
 .ni (aK+(1:Int)) <|
 .ret (.inl (v0,(!(((bt).getD (Int.toNat aK) ((bs []),(0:Int),(bs []),(bs []),(0:Int))).2.1==(3:Int))),(seq ((bt).getD (Int.toNat aK) ((bs []),(0:Int),(bs []),(bs []),(0:Int))).2.2.1 aR),v7,bt,cZ,(aK+(1:Int)),aR,bN,aY,bO,bP,()))) (
 .br (seq ((bt).getD (Int.toNat aK) ((bs []),(0:Int),(bs []),(bs []),(0:Int))).1 aR) (
 .ni (aK+(1:Int)) <|
 .ret (.inl (v0,(!(((bt).getD (Int.toNat aK) ((bs []),(0:Int),(bs []),(bs []),(0:Int))).2.1==(3:Int))),(seq ((bt).getD (Int.toNat aK) ((bs []),(0:Int),(bs []),(bs []),(0:Int))).2.2.1 aR),v7,bt,cZ,(aK+(1:Int)),aR,bN,aY,bO,bP,()))) (
 .bd (.it g77_1 (v0,(!(((bt).getD (Int.toNat aK) ((bs []),(0:Int),(bs []),(bs []),(0:Int))).2.1==(3:Int))),(seq ((bt).getD (Int.toNat aK) ((bs []),(0:Int),(bs []),(bs []),(0:Int))).2.2.1 aR),v7,false,bt,cZ,aK,((bt).getD (Int.toNat aK) ((bs []),(0:Int),(bs []),(bs []),(0:Int))).2.2.1,aY,(!(seq ((bt).getD (Int.toNat aK) ((bs []),(0:Int),(bs []),(bs []),(0:Int))).2.2.1 aY)),((bt).getD (Int.toNat aK) ((bs []),(0:Int),(bs []),(bs []),(0:Int))).1,aR,(seq ((bt).getD (Int.toNat aK) ((bs []),(0:Int),(bs []),(bs []),(0:Int))).1 aR),v0,(((v0).length:Nat):Int),(0:Int),aR,bN,aY,bO,bP,((bt).getD (Int.toNat aK) ((bs []),(0:Int),(bs []),(bs []),(0:Int))).1,((bt).getD (Int.toNat aK) ((bs []),(0:Int),(bs []),(bs []),(0:Int))).2.1,((bt).getD (Int.toNat aK) ((bs []),(0:Int),(bs []),(bs []),(0:Int))).2.2.1,((bt).getD (Int.toNat aK) ((bs []),(0:Int),(bs []),(bs []),(0:Int))).2.2.2.1,((bt).getD (Int.toNat aK) ((bs []),(0:Int),(bs []),(bs []),(0:Int))).2.2.2.2,())) fun z4 =>
 .br z4.2.2.2.2.1 (
 .ni (z4.2.2.2.1+(1:Int)) <|
 .ni (z4.2.2.2.2.2.2.2.1+(1:Int)) <|
 .ret (.inl (z4.1,z4.2.1,z4.2.2.1,(z4.2.2.2.1+(1:Int)),z4.2.2.2.2.2.1,z4.2.2.2.2.2.2.1,(z4.2.2.2.2.2.2.2.1+(1:Int)),z4.2.2.2.2.2.2.2.2.2.2.2.2.2.2.1,z4.2.2.2.2.2.2.2.2.2.2.2.2.2.2.2.1,z4.2.2.2.2.2.2.2.2.2.2.2.2.2.2.2.2.1,z4.2.2.2.2.2.2.2.2.2.2.2.2.2.2.2.2.2.1,z4.2.2.2.2.2.2.2.2.2.2.2.2.2.2.2.2.2.2.1,()))) (
 .ni (z4.2.2.2.2.2.2.2.1+(1:Int)) <|
 .ret (.inl (z4.1,z4.2.1,z4.2.2.1,z4.2.2.2.1,z4.2.2.2.2.2.1,z4.2.2.2.2.2.2.1,(z4.2.2.2.2.2.2.2.1+(1:Int)),z4.2.2.2.2.2.2.2.2.2.2.2.2.2.2.1,z4.2.2.2.2.2.2.2.2.2.2.2.2.2.2.2.1,z4.2.2.2.2.2.2.2.2.2.2.2.2.2.2.2.2.1,z4.2.2.2.2.2.2.2.2.2.2.2.2.2.2.2.2.2.1,z4.2.2.2.2.2.2.2.2.2.2.2.2.2.2.2.2.2.2.1,()))))))) (
 .br (!(((bt).getD (Int.toNat aK) ((bs []),(0:Int),(bs []),(bs []),(0:Int))).2.1==(2:Int))) (
 .ni (aK+(1:Int)) <|
 .ret (.inl (v0,(!(((bt).getD (Int.toNat aK) ((bs []),(0:Int),(bs []),(bs []),(0:Int))).2.1==(3:Int))),false,v7,bt,cZ,(aK+(1:Int)),aR,bN,aY,bO,bP,()))) (
 .br (!(seq ((bt).getD (Int.toNat aK) ((bs []),(0:Int),(bs []),(bs []),(0:Int))).2.2.1 aY)) (
 .ni (aK+(1:Int)) <|
 .ret (.inl (v0,(!(((bt).getD (Int.toNat aK) ((bs []),(0:Int),(bs []),(bs []),(0:Int))).2.1==(3:Int))),false,v7,bt,cZ,(aK+(1:Int)),aR,bN,aY,bO,bP,()))) (
 .br (seq ((bt).getD (Int.toNat aK) ((bs []),(0:Int),(bs []),(bs []),(0:Int))).1 aR) (
 .ni (aK+(1:Int)) <|
 .ret (.inl (v0,(!(((bt).getD (Int.toNat aK) ((bs []),(0:Int),(bs []),(bs []),(0:Int))).2.1==(3:Int))),false,v7,bt,cZ,(aK+(1:Int)),aR,bN,aY,bO,bP,()))) (
 .bd (.it g77_1 (v0,(!(((bt).getD (Int.toNat aK) ((bs []),(0:Int),(bs []),(bs []),(0:Int))).2.1==(3:Int))),false,v7,false,bt,cZ,aK,((bt).getD (Int.toNat aK) ((bs []),(0:Int),(bs []),(bs []),(0:Int))).2.2.1,aY,(!(seq ((bt).getD (Int.toNat aK) ((bs []),(0:Int),(bs []),(bs []),(0:Int))).2.2.1 aY)),((bt).getD (Int.toNat aK) ((bs []),(0:Int),(bs []),(bs []),(0:Int))).1,aR,(seq ((bt).getD (Int.toNat aK) ((bs []),(0:Int),(bs []),(bs []),(0:Int))).1 aR),v0,(((v0).length:Nat):Int),(0:Int),aR,bN,aY,bO,bP,((bt).getD (Int.toNat aK) ((bs []),(0:Int),(bs []),(bs []),(0:Int))).1,((bt).getD (Int.toNat aK) ((bs []),(0:Int),(bs []),(bs []),(0:Int))).2.1,((bt).getD (Int.toNat aK) ((bs []),(0:Int),(bs []),(bs []),(0:Int))).2.2.1,((bt).getD (Int.toNat aK) ((bs []),(0:Int),(bs []),(bs []),(0:Int))).2.2.2.1,((bt).getD (Int.toNat aK) ((bs []),(0:Int),(bs []),(bs []),(0:Int))).2.2.2.2,())) fun z5 =>
 .br z5.2.2.2.2.1 (
 .ni (z5.2.2.2.1+(1:Int)) <|
 .ni (z5.2.2.2.2.2.2.2.1+(1:Int)) <|
 .ret (.inl (z5.1,z5.2.1,z5.2.2.1,(z5.2.2.2.1+(1:Int)),z5.2.2.2.2.2.1,z5.2.2.2.2.2.2.1,(z5.2.2.2.2.2.2.2.1+(1:Int)),z5.2.2.2.2.2.2.2.2.2.2.2.2.2.2.1,z5.2.2.2.2.2.2.2.2.2.2.2.2.2.2.2.1,z5.2.2.2.2.2.2.2.2.2.2.2.2.2.2.2.2.1,z5.2.2.2.2.2.2.2.2.2.2.2.2.2.2.2.2.2.1,z5.2.2.2.2.2.2.2.2.2.2.2.2.2.2.2.2.2.2.1,()))) (
 .ni (z5.2.2.2.2.2.2.2.1+(1:Int)) <|
 .ret (.inl (z5.1,z5.2.1,z5.2.2.1,z5.2.2.2.1,z5.2.2.2.2.2.1,z5.2.2.2.2.2.2.1,(z5.2.2.2.2.2.2.2.1+(1:Int)),z5.2.2.2.2.2.2.2.2.2.2.2.2.2.2.1,z5.2.2.2.2.2.2.2.2.2.2.2.2.2.2.2.1,z5.2.2.2.2.2.2.2.2.2.2.2.2.2.2.2.2.1,z5.2.2.2.2.2.2.2.2.2.2.2.2.2.2.2.2.2.1,z5.2.2.2.2.2.2.2.2.2.2.2.2.2.2.2.2.2.2.1,()))))))))) (
 .br v6 (
 .br (!(((bt).getD (Int.toNat aK) ((bs []),(0:Int),(bs []),(bs []),(0:Int))).2.1==(2:Int))) (
 .ni (aK+(1:Int)) <|
 .ret (.inl (v0,false,true,v7,bt,cZ,(aK+(1:Int)),aR,bN,aY,bO,bP,()))) (
 .br (!(seq ((bt).getD (Int.toNat aK) ((bs []),(0:Int),(bs []),(bs []),(0:Int))).2.2.1 aY)) (
 .ni (aK+(1:Int)) <|
 .ret (.inl (v0,false,true,v7,bt,cZ,(aK+(1:Int)),aR,bN,aY,bO,bP,()))) (
 .br (seq ((bt).getD (Int.toNat aK) ((bs []),(0:Int),(bs []),(bs []),(0:Int))).1 aR) (
 .ni (aK+(1:Int)) <|
 .ret (.inl (v0,false,true,v7,bt,cZ,(aK+(1:Int)),aR,bN,aY,bO,bP,()))) (
 .bd (.it g77_1 (v0,false,true,v7,false,bt,cZ,aK,((bt).getD (Int.toNat aK) ((bs []),(0:Int),(bs []),(bs []),(0:Int))).2.2.1,aY,(!(seq ((bt).getD (Int.toNat aK) ((bs []),(0:Int),(bs []),(bs []),(0:Int))).2.2.1 aY)),((bt).getD (Int.toNat aK) ((bs []),(0:Int),(bs []),(bs []),(0:Int))).1,aR,(seq ((bt).getD (Int.toNat aK) ((bs []),(0:Int),(bs []),(bs []),(0:Int))).1 aR),v0,(((v0).length:Nat):Int),(0:Int),aR,bN,aY,bO,bP,((bt).getD (Int.toNat aK) ((bs []),(0:Int),(bs []),(bs []),(0:Int))).1,((bt).getD (Int.toNat aK) ((bs []),(0:Int),(bs []),(bs []),(0:Int))).2.1,((bt).getD (Int.toNat aK) ((bs []),(0:Int),(bs []),(bs []),(0:Int))).2.2.1,((bt).getD (Int.toNat aK) ((bs []),(0:Int),(bs []),(bs []),(0:Int))).2.2.2.1,((bt).getD (Int.toNat aK) ((bs []),(0:Int),(bs []),(bs []),(0:Int))).2.2.2.2,())) fun z6 =>
 .br z6.2.2.2.2.1 (
 .ni (z6.2.2.2.1+(1:Int)) <|
 .ni (z6.2.2.2.2.2.2.2.1+(1:Int)) <|
 .ret (.inl (z6.1,z6.2.1,z6.2.2.1,(z6.2.2.2.1+(1:Int)),z6.2.2.2.2.2.1,z6.2.2.2.2.2.2.1,(z6.2.2.2.2.2.2.2.1+(1:Int)),z6.2.2.2.2.2.2.2.2.2.2.2.2.2.2.1,z6.2.2.2.2.2.2.2.2.2.2.2.2.2.2.2.1,z6.2.2.2.2.2.2.2.2.2.2.2.2.2.2.2.2.1,z6.2.2.2.2.2.2.2.2.2.2.2.2.2.2.2.2.2.1,z6.2.2.2.2.2.2.2.2.2.2.2.2.2.2.2.2.2.2.1,()))) (
 .ni (z6.2.2.2.2.2.2.2.1+(1:Int)) <|
 .ret (.inl (z6.1,z6.2.1,z6.2.2.1,z6.2.2.2.1,z6.2.2.2.2.2.1,z6.2.2.2.2.2.2.1,(z6.2.2.2.2.2.2.2.1+(1:Int)),z6.2.2.2.2.2.2.2.2.2.2.2.2.2.2.1,z6.2.2.2.2.2.2.2.2.2.2.2.2.2.2.2.1,z6.2.2.2.2.2.2.2.2.2.2.2.2.2.2.2.2.1,z6.2.2.2.2.2.2.2.2.2.2.2.2.2.2.2.2.2.1,z6.2.2.2.2.2.2.2.2.2.2.2.2.2.2.2.2.2.2.1,()))))))) (
 .br (((bt).getD (Int.toNat aK) ((bs []),(0:Int),(bs []),(bs []),(0:Int))).2.1==(3:Int)) (
 .br (!(((bt).getD (Int.toNat aK) ((bs []),(0:Int),(bs []),(bs []),(0:Int))).2.1==(2:Int))) (
 .ni (aK+(1:Int)) <|
 .ret (.inl (v0,false,(seq ((bt).getD (Int.toNat aK) ((bs []),(0:Int),(bs []),(bs []),(0:Int))).2.2.1 aR),v7,bt,cZ,(aK+(1:Int)),aR,bN,aY,bO,bP,()))) (
 .br (!(seq ((bt).getD (Int.toNat aK) ((bs []),(0:Int),(bs []),(bs []),(0:Int))).2.2.1 aY)) (
 .ni (aK+(1:Int)) <|
 .ret (.inl (v0,false,(seq ((bt).getD (Int.toNat aK) ((bs []),(0:Int),(bs []),(bs []),(0:Int))).2.2.1 aR),v7,bt,cZ,(aK+(1:Int)),aR,bN,aY,bO,bP,()))) (
 .br (seq ((bt).getD (Int.toNat aK) ((bs []),(0:Int),(bs []),(bs []),(0:Int))).1 aR) (
 .ni (aK+(1:Int)) <|
 .ret (.inl (v0,false,(seq ((bt).getD (Int.toNat aK) ((bs []),(0:Int),(bs []),(bs []),(0:Int))).2.2.1 aR),v7,bt,cZ,(aK+(1:Int)),aR,bN,aY,bO,bP,()))) (
 .bd (.it g77_1 (v0,false,(seq ((bt).getD (Int.toNat aK) ((bs []),(0:Int),(bs []),(bs []),(0:Int))).2.2.1 aR),v7,false,bt,cZ,aK,((bt).getD (Int.toNat aK) ((bs []),(0:Int),(bs []),(bs []),(0:Int))).2.2.1,aY,(!(seq ((bt).getD (Int.toNat aK) ((bs []),(0:Int),(bs []),(bs []),(0:Int))).2.2.1 aY)),((bt).getD (Int.toNat aK) ((bs []),(0:Int),(bs []),(bs []),(0:Int))).1,aR,(seq ((bt).getD (Int.toNat aK) ((bs []),(0:Int),(bs []),(bs []),(0:Int))).1 aR),v0,(((v0).length:Nat):Int),(0:Int),aR,bN,aY,bO,bP,((bt).getD (Int.toNat aK) ((bs []),(0:Int),(bs []),(bs []),(0:Int))).1,((bt).getD (Int.toNat aK) ((bs []),(0:Int),(bs []),(bs []),(0:Int))).2.1,((bt).getD (Int.toNat aK) ((bs []),(0:Int),(bs []),(bs []),(0:Int))).2.2.1,((bt).getD (Int.toNat aK) ((bs []),(0:Int),(bs []),(bs []),(0:Int))).2.2.2.1,((bt).getD (Int.toNat aK) ((bs []),(0:Int),(bs []),(bs []),(0:Int))).2.2.2.2,())) fun z7 =>
 .br z7.2.2.2.2.1 (
 .ni (z7.2.2.2.1+(1:Int)) <|
 .ni (z7.2.2.2.2.2.2.2.1+(1:Int)) <|
 .ret (.inl (z7.1,z7.2.1,z7.2.2.1,(z7.2.2.2.1+(1:Int)),z7.2.2.2.2.2.1,z7.2.2.2.2.2.2.1,(z7.2.2.2.2.2.2.2.1+(1:Int)),z7.2.2.2.2.2.2.2.2.2.2.2.2.2.2.1,z7.2.2.2.2.2.2.2.2.2.2.2.2.2.2.2.1,z7.2.2.2.2.2.2.2.2.2.2.2.2.2.2.2.2.1,z7.2.2.2.2.2.2.2.2.2.2.2.2.2.2.2.2.2.1,z7.2.2.2.2.2.2.2.2.2.2.2.2.2.2.2.2.2.2.1,()))) (
 .ni (z7.2.2.2.2.2.2.2.1+(1:Int)) <|
 .ret (.inl (z7.1,z7.2.1,z7.2.2.1,z7.2.2.2.1,z7.2.2.2.2.2.1,z7.2.2.2.2.2.2.1,(z7.2.2.2.2.2.2.2.1+(1:Int)),z7.2.2.2.2.2.2.2.2.2.2.2.2.2.2.1,z7.2.2.2.2.2.2.2.2.2.2.2.2.2.2.2.1,z7.2.2.2.2.2.2.2.2.2.2.2.2.2.2.2.2.1,z7.2.2.2.2.2.2.2.2.2.2.2.2.2.2.2.2.2.1,z7.2.2.2.2.2.2.2.2.2.2.2.2.2.2.2.2.2.2.1,()))))))) (
 .br (!(((bt).getD (Int.toNat aK) ((bs []),(0:Int),(bs []),(bs []),(0:Int))).2.1==(2:Int))) (
 .ni (aK+(1:Int)) <|
 .ret (.inl (v0,false,false,v7,bt,cZ,(aK+(1:Int)),aR,bN,aY,bO,bP,()))) (
 .br (!(seq ((bt).getD (Int.toNat aK) ((bs []),(0:Int),(bs []),(bs []),(0:Int))).2.2.1 aY)) (
 .ni (aK+(1:Int)) <|
 .ret (.inl (v0,false,false,v7,bt,cZ,(aK+(1:Int)),aR,bN,aY,bO,bP,()))) (
 .br (seq ((bt).getD (Int.toNat aK) ((bs []),(0:Int),(bs []),(bs []),(0:Int))).1 aR) (
 .ni (aK+(1:Int)) <|
 .ret (.inl (v0,false,false,v7,bt,cZ,(aK+(1:Int)),aR,bN,aY,bO,bP,()))) (
 .bd (.it g77_1 (v0,false,false,v7,false,bt,cZ,aK,((bt).getD (Int.toNat aK) ((bs []),(0:Int),(bs []),(bs []),(0:Int))).2.2.1,aY,(!(seq ((bt).getD (Int.toNat aK) ((bs []),(0:Int),(bs []),(bs []),(0:Int))).2.2.1 aY)),((bt).getD (Int.toNat aK) ((bs []),(0:Int),(bs []),(bs []),(0:Int))).1,aR,(seq ((bt).getD (Int.toNat aK) ((bs []),(0:Int),(bs []),(bs []),(0:Int))).1 aR),v0,(((v0).length:Nat):Int),(0:Int),aR,bN,aY,bO,bP,((bt).getD (Int.toNat aK) ((bs []),(0:Int),(bs []),(bs []),(0:Int))).1,((bt).getD (Int.toNat aK) ((bs []),(0:Int),(bs []),(bs []),(0:Int))).2.1,((bt).getD (Int.toNat aK) ((bs []),(0:Int),(bs []),(bs []),(0:Int))).2.2.1,((bt).getD (Int.toNat aK) ((bs []),(0:Int),(bs []),(bs []),(0:Int))).2.2.2.1,((bt).getD (Int.toNat aK) ((bs []),(0:Int),(bs []),(bs []),(0:Int))).2.2.2.2,())) fun z8 =>
 .br z8.2.2.2.2.1 (
 .ni (z8.2.2.2.1+(1:Int)) <|
 .ni (z8.2.2.2.2.2.2.2.1+(1:Int)) <|
 .ret (.inl (z8.1,z8.2.1,z8.2.2.1,(z8.2.2.2.1+(1:Int)),z8.2.2.2.2.2.1,z8.2.2.2.2.2.2.1,(z8.2.2.2.2.2.2.2.1+(1:Int)),z8.2.2.2.2.2.2.2.2.2.2.2.2.2.2.1,z8.2.2.2.2.2.2.2.2.2.2.2.2.2.2.2.1,z8.2.2.2.2.2.2.2.2.2.2.2.2.2.2.2.2.1,z8.2.2.2.2.2.2.2.2.2.2.2.2.2.2.2.2.2.1,z8.2.2.2.2.2.2.2.2.2.2.2.2.2.2.2.2.2.2.1,()))) (
 .ni (z8.2.2.2.2.2.2.2.1+(1:Int)) <|
 .ret (.inl (z8.1,z8.2.1,z8.2.2.1,z8.2.2.2.1,z8.2.2.2.2.2.1,z8.2.2.2.2.2.2.1,(z8.2.2.2.2.2.2.2.1+(1:Int)),z8.2.2.2.2.2.2.2.2.2.2.2.2.2.2.1,z8.2.2.2.2.2.2.2.2.2.2.2.2.2.2.2.1,z8.2.2.2.2.2.2.2.2.2.2.2.2.2.2.2.2.1,z8.2.2.2.2.2.2.2.2.2.2.2.2.2.2.2.2.2.1,z8.2.2.2.2.2.2.2.2.2.2.2.2.2.2.2.2.2.2.1,()))))))))))) (
 .ret (.inr (v5,v6,v7,())))
noncomputable def afG:bQ prog 95 none 0:=bx mixed aaN Db [] rfl afD afE rfl (afF) (fun x=>ak (g77_0 x)) (fun x=>by kernel_rfl)
noncomputable def dd77:D prog 95 none 0:=dO [.l afG] (kd prog f77) 0
noncomputable def F77 (a0:List (GG)) (a1:GG):bU (Bool×Unit) :=
 .bd (.it g77_0 (a0,false,false,(0:Int),a0,(((a0).length:Nat):Int),(0:Int),a1.1,a1.2.1,a1.2.2.1,a1.2.2.2.1,a1.2.2.2.2,())) fun z9 =>
 .br z9.1 (
 .br (!z9.2.1) (
 .ret ((z9.2.2.1==(1:Int)),())) (
 .ret (false,()))) (
 .ret (false,()))
theorem aaO:cM prog f77=some ⟨95,2,dd77.er,[.t 4],[some .bool]⟩:=by kernel_rfl
noncomputable def ct77:Ct:=⟨77,[.c (.hole (.list tG)),.c (.hole tG)],.c (.hole .bool),fun x=>ak (F77 x.1 x.2.1)⟩
theorem U3:ct77.Ok prog:=cF mixed Db func77 aaO (enters_of func77 rfl rfl) dd77 (by kernel_rfl) rfl (fun x=>by kernel_rfl)

/- 34 -/
noncomputable def aaP:Cx:=(aN [ct77] [])
theorem Dc:aaP.Ok prog:=av ⟨U3,trivial⟩ trivial
@[reducible] def afJ:az:=az.mk [(0,.c (.hole (.list tG))),(3,.c (.ptr 0 0)),(4,.c (.cn 1 tG)),(6,.c (.hole .bool)),(7,hI),(8,.c (.tf false)),(32,.c (.hole (.list tG))),(33,hI),(34,hI)] [(0,.cells [.hole .str,.hole tI,.hole .str,.hole .str,.hole tI] false),(1,.arr tG false)] [.slot 3,.slot 4] []
@[reducible] def afK:bf:=[(.exit 2,az.mk [(0,.c (.hole (.list tG))),(3,.c (.ptr 0 0)),(4,.c (.cn 1 tG)),(6,.c (.hole .bool)),(7,hI),(8,.c (.hole .bool))] [(0,.cells [.hole .str,.hole tI,.hole .str,.hole .str,.hole tI] false),(1,.arr tG false)] [.slot 3,.slot 4] [])]
noncomputable def afL:D prog 56 none 0:=dO [] (pick (kd prog f34) [(0,false),(0,false)]) 0
noncomputable def g34_1:(List (GG))×Nat×Bool×Int×(List (GG))×Int×Int×ByteArray×Int×ByteArray×ByteArray×Int×(List (GG))×Unit→bU (((List (GG))×Nat×Bool×Int×(List (GG))×Int×Int×ByteArray×Int×ByteArray×ByteArray×Int×(List (GG))×Unit) ⊕ (((List (GG))×Nat×Bool×Int×Bool×ByteArray×Int×ByteArray×ByteArray×Int×(List (GG))×Unit))):=fun (v0,Ak,v6,v7,v32,v33,Dt,aR,bN,aY,bO,bP,b1,_) =>
 .br (decide (Dt<v33)) (
 .nb Dt (((v32).length:Nat):Int) <|
 .br (seq ((v32).getD (Int.toNat Dt) ((bs []),(0:Int),(bs []),(bs []),(0:Int))).1 aY) (
 .br (!(((v32).getD (Int.toNat Dt) ((bs []),(0:Int),(bs []),(bs []),(0:Int))).2.1==(3:Int))) (
 .ret (.inr (v0,Ak,v6,v7,true,((v32).getD (Int.toNat Dt) ((bs []),(0:Int),(bs []),(bs []),(0:Int))).1,((v32).getD (Int.toNat Dt) ((bs []),(0:Int),(bs []),(bs []),(0:Int))).2.1,((v32).getD (Int.toNat Dt) ((bs []),(0:Int),(bs []),(bs []),(0:Int))).2.2.1,((v32).getD (Int.toNat Dt) ((bs []),(0:Int),(bs []),(bs []),(0:Int))).2.2.2.1,((v32).getD (Int.toNat Dt) ((bs []),(0:Int),(bs []),(bs []),(0:Int))).2.2.2.2,b1,()))) (
 .ni (Dt+(1:Int)) <|
 .ret (.inl (v0,Ak,v6,v7,v32,v33,(Dt+(1:Int)),aR,bN,aY,bO,bP,b1,())))) (
 .ni (Dt+(1:Int)) <|
 .ret (.inl (v0,Ak,v6,v7,v32,v33,(Dt+(1:Int)),aR,bN,aY,bO,bP,b1,())))) (
 .ret (.inr (v0,Ak,v6,v7,false,aR,bN,aY,bO,bP,b1,())))
noncomputable def afM:bQ prog 56 none 0:=bx mixed aaP Dc [] rfl afJ afK rfl (afL) (fun x=>ak (g34_1 x)) (fun x=>by kernel_rfl)
@[reducible] def afN:az:=az.mk [(0,.c (.hole (.list tG))),(3,.c (.ptr 0 0)),(4,.c (.cn 1 tG)),(6,.c (.hole .bool)),(7,hI)] [(0,.cells [.hole .str,.hole tI,.hole .str,.hole .str,.hole tI] false),(1,.arr tG false)] [.slot 3,.slot 4] []
@[reducible] def afO:bf:=[(.ret,az.mk [(4,.c (.cn 0 tG)),(5,.c (.hole .bool)),(6,.c (.hole .bool))] [(0,.arr tG false)] [.slot 4] []),(.exit 0,az.mk [(4,.c (.cn 0 tG)),(6,.c (.hole .bool))] [(0,.arr tG false)] [.slot 4] [])]
noncomputable def afP:D prog 56 none 0:=dO [.l afM] (pick (kd prog f34) [(0,false)]) 0
noncomputable def g34_0:(List (GG))×Nat×Bool×Int×ByteArray×Int×ByteArray×ByteArray×Int×(List (GG))×Unit→bU (((List (GG))×Nat×Bool×Int×ByteArray×Int×ByteArray×ByteArray×Int×(List (GG))×Unit) ⊕ ((Nat×Bool×Bool×(List (GG))×Unit) ⊕ ((Nat×Bool×(List (GG))×Unit)))):=fun (v0,Ak,v6,v7,aR,bN,aY,bO,bP,b1,_) =>
 .br (decide (v7<(9:Int))) (
 .nd (decide ((Ak+((((((aR,bN,aY,bO,bP)::[])).drop (0:Nat)).take (1:Nat))).length)<cg)) <|
 .br (bN==(1:Int)) (
 .ret (.inr <| .inl<|((Ak+((((((aR,bN,aY,bO,bP)::[])).drop (0:Nat)).take (1:Nat))).length),(!v6),v6,((((b1).drop (0:Nat)).take Ak)++(((((aR,bN,aY,bO,bP)::[])).drop (0:Nat)).take (1:Nat))),()))) (
 .br v6 (
 .bd (.it g34_1 (v0,(Ak+((((((aR,bN,aY,bO,bP)::[])).drop (0:Nat)).take (1:Nat))).length),true,v7,v0,(((v0).length:Nat):Int),(0:Int),aR,bN,aY,bO,bP,((((b1).drop (0:Nat)).take Ak)++(((((aR,bN,aY,bO,bP)::[])).drop (0:Nat)).take (1:Nat))),())) fun z0 =>
 .br (!z0.2.2.2.2.1) (
 .ret (.inr <| .inl<|(z0.2.1,false,z0.2.2.1,z0.2.2.2.2.2.2.2.2.2.2.1,()))) (
 .ni (z0.2.2.2.1+(1:Int)) <|
 .ret (.inl (z0.1,z0.2.1,z0.2.2.1,(z0.2.2.2.1+(1:Int)),z0.2.2.2.2.2.1,z0.2.2.2.2.2.2.1,z0.2.2.2.2.2.2.2.1,z0.2.2.2.2.2.2.2.2.1,z0.2.2.2.2.2.2.2.2.2.1,z0.2.2.2.2.2.2.2.2.2.2.1,())))) (
 .bd (F77 v0 (aR,bN,aY,bO,bP)) fun y1 =>
 .bd (.it g34_1 (v0,(Ak+((((((aR,bN,aY,bO,bP)::[])).drop (0:Nat)).take (1:Nat))).length),y1.1,v7,v0,(((v0).length:Nat):Int),(0:Int),aR,bN,aY,bO,bP,((((b1).drop (0:Nat)).take Ak)++(((((aR,bN,aY,bO,bP)::[])).drop (0:Nat)).take (1:Nat))),())) fun z2 =>
 .br (!z2.2.2.2.2.1) (
 .ret (.inr <| .inl<|(z2.2.1,false,z2.2.2.1,z2.2.2.2.2.2.2.2.2.2.2.1,()))) (
 .ni (z2.2.2.2.1+(1:Int)) <|
 .ret (.inl (z2.1,z2.2.1,z2.2.2.1,(z2.2.2.2.1+(1:Int)),z2.2.2.2.2.2.1,z2.2.2.2.2.2.2.1,z2.2.2.2.2.2.2.2.1,z2.2.2.2.2.2.2.2.2.1,z2.2.2.2.2.2.2.2.2.2.1,z2.2.2.2.2.2.2.2.2.2.2.1,())))))) (
 .ret (.inr <| .inr<|(Ak,v6,b1,())))
noncomputable def afQ:bQ prog 56 none 0:=bx mixed aaP Dc [] rfl afN afO rfl (afP) (fun x=>ak (g34_0 x)) (fun x=>by kernel_rfl)
noncomputable def dd34:D prog 56 none 0:=dO [.l afQ] (kd prog f34) 0
noncomputable def F34 (a0:List (GG)) (a1:GG):bU ((List (GG))×Bool×Bool×Unit) :=
 .bd (.it g34_0 (a0,(0:Nat),false,(0:Int),a1.1,a1.2.1,a1.2.2.1,a1.2.2.2.1,a1.2.2.2.2,[],())) fun z3 =>
 .sm z3 (fun z4 =>
 .ret ((((z4.2.2.2.1).drop (0:Nat)).take z4.1),z4.2.1,z4.2.2.1,())) fun z5 =>
 .ret ((((z5.2.2.1).drop (0:Nat)).take z5.1),false,z5.2.1,())
theorem aaQ:cM prog f34=some ⟨56,2,dd34.er,[.t 4,.t 5,.t 6],[some (.list tG),some .bool,some .bool]⟩:=by kernel_rfl
noncomputable def U4:Ct:=⟨34,[.c (.hole (.list tG)),.c (.hole tG)],.cO [.hole (.list tG),.hole .bool,.hole .bool],fun x=>ak (F34 x.1 x.2.1)⟩
theorem Dd:U4.Ok prog:=cF mixed Dc func34 aaQ (enters_of func34 rfl rfl) dd34 (by kernel_rfl) rfl (fun x=>by kernel_rfl)

/- 35 -/
noncomputable def cx35:Cx:=(aN [U4] [])
theorem J1:cx35.Ok prog:=av ⟨Dd,trivial⟩ trivial
@[reducible] def afT:az:=az.mk [(0,.c (.hole (.list tG))),(3,.c (.ptr 0 0)),(6,.c (.hole (.list tG))),(7,.c (.hole .bool)),(24,.c (.hole (.list tG))),(25,hI),(26,hI)] [(0,.cells [.hole .str,.hole tI,.hole .str,.hole .str,.hole tI] false)] [.slot 3] []
@[reducible] def afU:bf:=[(.ret,az.mk [(4,.c (.hole .str)),(5,.c (.tf false))] [] [] []),(.exit 0,az.mk [(6,.c (.hole (.list tG))),(7,.c (.hole .bool))] [] [] [])]
noncomputable def afV:D prog 57 none 0:=dO [] (pick (kd prog f35) [(0,false)]) 0
noncomputable def g35_0:(List (GG))×(List (GG))×Bool×(List (GG))×Int×Int×ByteArray×Int×ByteArray×ByteArray×Int×Unit→bU (((List (GG))×(List (GG))×Bool×(List (GG))×Int×Int×ByteArray×Int×ByteArray×ByteArray×Int×Unit) ⊕ ((ByteArray×Unit) ⊕ (((List (GG))×Bool×Unit)))):=fun (v0,v6,v7,v24,v25,v26,aR,bN,aY,bO,bP,_) =>
 .br (decide (v26<v25)) (
 .nb v26 (((v24).length:Nat):Int) <|
 .br (((v24).getD (Int.toNat v26) ((bs []),(0:Int),(bs []),(bs []),(0:Int))).2.1==(2:Int)) (
 .br (seq ((v24).getD (Int.toNat v26) ((bs []),(0:Int),(bs []),(bs []),(0:Int))).2.2.1 aR) (
 .bd (F34 v0 (((v24).getD (Int.toNat v26) ((bs []),(0:Int),(bs []),(bs []),(0:Int))).1,((v24).getD (Int.toNat v26) ((bs []),(0:Int),(bs []),(bs []),(0:Int))).2.1,((v24).getD (Int.toNat v26) ((bs []),(0:Int),(bs []),(bs []),(0:Int))).2.2.1,((v24).getD (Int.toNat v26) ((bs []),(0:Int),(bs []),(bs []),(0:Int))).2.2.2.1,((v24).getD (Int.toNat v26) ((bs []),(0:Int),(bs []),(bs []),(0:Int))).2.2.2.2)) fun y1 =>
 .br y1.2.1 (
 .ret (.inr <| .inl<|((bs []),()))) (
 .ni (v26+(1:Int)) <|
 .ret (.inl (v0,v6,v7,v24,v25,(v26+(1:Int)),aR,bN,aY,bO,bP,())))) (
 .ni (v26+(1:Int)) <|
 .ret (.inl (v0,v6,v7,v24,v25,(v26+(1:Int)),aR,bN,aY,bO,bP,())))) (
 .ni (v26+(1:Int)) <|
 .ret (.inl (v0,v6,v7,v24,v25,(v26+(1:Int)),aR,bN,aY,bO,bP,())))) (
 .ret (.inr <| .inr<|(v6,v7,())))
noncomputable def afW:bQ prog 57 none 0:=bx mixed cx35 J1 [] rfl afT afU rfl (afV) (fun x=>ak (g35_0 x)) (fun x=>by kernel_rfl)
noncomputable def dd35:D prog 57 none 0:=dO [.l afW] (kd prog f35) 0
noncomputable def F35 (a0:List (GG)) (a1:GG):bU (ByteArray×Bool×Unit) :=
 .br (a1.2.1==(3:Int)) (
 .ret ((bs []),false,())) (
 .bd (F34 a0 (a1.1,a1.2.1,a1.2.2.1,a1.2.2.2.1,a1.2.2.2.2)) fun y0 =>
 .bd (.it g35_0 (a0,y0.1,y0.2.1,a0,(((a0).length:Nat):Int),(0:Int),a1.1,a1.2.1,a1.2.2.1,a1.2.2.2.1,a1.2.2.2.2,())) fun z2 =>
 .sm z2 (fun z3 =>
 .ret (z3.1,false,())) fun z4 =>
 .ni ((((z4.1).length:Nat):Int) - (1:Int)) <|
 .nb ((((z4.1).length:Nat):Int) - (1:Int)) (((z4.1).length:Nat):Int) <|
 .ret (((z4.1).getD (Int.toNat ((((z4.1).length:Nat):Int) - (1:Int))) ((bs []),(0:Int),(bs []),(bs []),(0:Int))).1,z4.2.1,()))
theorem aaR:cM prog f35=some ⟨57,2,dd35.er,[.t 4,.t 5],[some .str,some .bool]⟩:=by kernel_rfl
noncomputable def ct35:Ct:=⟨35,[.c (.hole (.list tG)),.c (.hole tG)],.cO [.hole .str,.hole .bool],fun x=>ak (F35 x.1 x.2.1)⟩
theorem U5:ct35.Ok prog:=cF mixed J1 func35 aaR (enters_of func35 rfl rfl) dd35 (by kernel_rfl) rfl (fun x=>by kernel_rfl)

/- 5 -/
noncomputable def cx5:Cx:=(aN [UY,aaM,U0,U4,ct35,aax,US] [TG,Uj,aah])
theorem uB:cx5.Ok prog:=av ⟨C8,JZ,C9,Dd,U5,JQ,C7,trivial⟩ ⟨⟨CI,rfl⟩,⟨CK,rfl⟩,⟨JH,rfl⟩,trivial⟩
@[reducible] def p5_1:az:=az.mk [(4,.c (.ptr 0 0)),(5,.c (.hole (.list tG))),(7,.c (.hole .str)),(8,.c (.ptr 1 0)),(39,.c (.hole (.list .str))),(40,hI),(41,hI),(45,.c (.hole (.list tG))),(46,hI),(47,hI)] [(0,.cells [.mp 2] false),(1,.cells [.hole .str,.hole tI,.hole .str,.hole .str,.hole tI] false),(2,.map tG true .bool false)] [.slot 4,.slot 8,.cell 0 0] []
@[reducible] def x5_1:bf:=[(.exit 2,az.mk [(4,.c (.ptr 0 0)),(5,.c (.hole (.list tG))),(7,.c (.hole .str)),(8,.c (.ptr 1 0)),(39,.c (.hole (.list .str))),(40,hI),(41,hI)] [(0,.cells [.mp 2] false),(1,.cells [.hole .str,.hole tI,.hole .str,.hole .str,.hole tI] false),(2,.map tG true .bool false)] [.slot 4,.slot 8,.cell 0 0] [])]
noncomputable def b5_1:D prog 224 none 0:=dO [] (pick (kd prog f5) [(0,false),(0,false)]) 0
noncomputable def g5_1:(List (GG))×ByteArray×List ByteArray×Int×Int×(List (GG))×Int×Int×ByteArray×Int×ByteArray×ByteArray×Int×(List ((GG)×Bool))×Unit→bU (((List (GG))×ByteArray×List ByteArray×Int×Int×(List (GG))×Int×Int×ByteArray×Int×ByteArray×ByteArray×Int×(List ((GG)×Bool))×Unit) ⊕ (((List (GG))×ByteArray×List ByteArray×Int×Int×ByteArray×Int×ByteArray×ByteArray×Int×(List ((GG)×Bool))×Unit))):=fun (v5,v7,v39,v40,v41,v45,v46,MT,dV,jq,jH,jI,j9,m2,_) =>
 .br (decide (MT<v46)) (
 .nb MT (((v45).length:Nat):Int) <|
 .br (seq ((v45).getD (Int.toNat MT) ((bs []),(0:Int),(bs []),(bs []),(0:Int))).1 v7) (
 .ni (MT+(1:Int)) <|
 .ret (.inl (v5,v7,v39,v40,v41,v45,v46,(MT+(1:Int)),((v45).getD (Int.toNat MT) ((bs []),(0:Int),(bs []),(bs []),(0:Int))).1,((v45).getD (Int.toNat MT) ((bs []),(0:Int),(bs []),(bs []),(0:Int))).2.1,((v45).getD (Int.toNat MT) ((bs []),(0:Int),(bs []),(bs []),(0:Int))).2.2.1,((v45).getD (Int.toNat MT) ((bs []),(0:Int),(bs []),(bs []),(0:Int))).2.2.2.1,((v45).getD (Int.toNat MT) ((bs []),(0:Int),(bs []),(bs []),(0:Int))).2.2.2.2,m2,()))) (
 .ni (MT+(1:Int)) <|
 .ret (.inl (v5,v7,v39,v40,v41,v45,v46,(MT+(1:Int)),dV,jq,jH,jI,j9,m2,())))) (
 .ret (.inr (v5,v7,v39,v40,v41,dV,jq,jH,jI,j9,m2,())))
noncomputable def L5_1:bQ prog 224 none 0:=bx mixed cx5 uB [] rfl p5_1 x5_1 rfl (b5_1) (fun x=>ak (g5_1 x)) (fun x=>by kernel_rfl)
@[reducible] def p5_2:az:=az.mk [(4,.c (.ptr 0 0)),(5,.c (.hole (.list tG))),(7,.c (.hole .str)),(8,.c (.ptr 1 0)),(11,hI),(12,hI),(13,.c (.cn 2 .str)),(14,hI),(17,.c (.hole .bool)),(18,.c (.hole .bool)),(19,.c (.hole .str)),(20,.c (.hole .bool)),(21,hI),(22,.c (.cn 3 .str)),(39,.c (.hole (.list .str))),(40,hI),(41,hI),(73,.c (.ptr 1 1)),(74,hI),(75,.c (.hole .bool)),(116,.c (.hole (.list tG))),(117,hI),(118,hI)] [(0,.cells [.mp 4] false),(1,.cells [.hole .str,.hole tI,.hole .str,.hole .str,.hole tI] false),(2,.arr .str false),(3,.arr .str false),(4,.map tG true .bool false)] [.slot 4,.slot 8,.slot 13,.slot 22,.cell 0 0] []
@[reducible] def x5_2:bf:=[(.exit 4,az.mk [(4,.c (.ptr 0 0)),(5,.c (.hole (.list tG))),(7,.c (.hole .str)),(8,.c (.ptr 1 0)),(11,hI),(12,hI),(13,.c (.cn 2 .str)),(14,hI),(17,.c (.hole .bool)),(18,.c (.hole .bool)),(20,.c (.hole .bool)),(21,hI),(22,.c (.cn 3 .str)),(39,.c (.hole (.list .str))),(40,hI),(41,hI),(73,.c (.ptr 1 1)),(74,hI),(75,.c (.hole .bool))] [(0,.cells [.mp 4] false),(1,.cells [.hole .str,.hole tI,.hole .str,.hole .str,.hole tI] false),(2,.arr .str false),(3,.arr .str false),(4,.map tG true .bool false)] [.slot 4,.slot 8,.slot 13,.slot 22,.cell 0 0] [])]
noncomputable def b5_2:D prog 224 none 0:=dO [] (pick (kd prog f5) [(0,false),(1,false)]) 0
noncomputable def g5_2:(List (GG))×ByteArray×Int×Int×Nat×Int×Bool×Bool×ByteArray×Bool×Int×Nat×List ByteArray×Int×Int×Int×Bool×(List (GG))×Int×Int×ByteArray×Int×ByteArray×ByteArray×Int×List ByteArray×List ByteArray×(List ((GG)×Bool))×Unit→bU (((List (GG))×ByteArray×Int×Int×Nat×Int×Bool×Bool×ByteArray×Bool×Int×Nat×List ByteArray×Int×Int×Int×Bool×(List (GG))×Int×Int×ByteArray×Int×ByteArray×ByteArray×Int×List ByteArray×List ByteArray×(List ((GG)×Bool))×Unit) ⊕ (((List (GG))×ByteArray×Int×Int×Nat×Int×Bool×Bool×Bool×Int×Nat×List ByteArray×Int×Int×Int×Bool×ByteArray×Int×ByteArray×ByteArray×Int×List ByteArray×List ByteArray×(List ((GG)×Bool))×Unit))):=fun (v5,v7,v11,v12,iu,cZ,v17,LK,HJ,v20,v21,lC,v39,v40,v41,sW,v75,uC,v117,oy,dV,jq,jH,jI,j9,b2,b3,m4,_) =>
 .br (decide (oy<v117)) (
 .nb oy (((uC).length:Nat):Int) <|
 .bd (F35 v5 (((uC).getD (Int.toNat oy) ((bs []),(0:Int),(bs []),(bs []),(0:Int))).1,((uC).getD (Int.toNat oy) ((bs []),(0:Int),(bs []),(bs []),(0:Int))).2.1,((uC).getD (Int.toNat oy) ((bs []),(0:Int),(bs []),(bs []),(0:Int))).2.2.1,((uC).getD (Int.toNat oy) ((bs []),(0:Int),(bs []),(bs []),(0:Int))).2.2.2.1,((uC).getD (Int.toNat oy) ((bs []),(0:Int),(bs []),(bs []),(0:Int))).2.2.2.2)) fun y12 =>
 .br v20 (
 .br y12.2.1 (
 .br (seq y12.1 HJ) (
 .nd (decide ((lC+(((((((uC).getD (Int.toNat oy) ((bs []),(0:Int),(bs []),(bs []),(0:Int))).1::[])).drop (0:Nat)).take (1:Nat))).length)<cg)) <|
 .ni (oy+(1:Int)) <|
 .ret (.inl (v5,v7,v11,v12,iu,cZ,v17,LK,HJ,v20,v21,(lC+(((((((uC).getD (Int.toNat oy) ((bs []),(0:Int),(bs []),(bs []),(0:Int))).1::[])).drop (0:Nat)).take (1:Nat))).length),v39,v40,v41,sW,v75,uC,v117,(oy+(1:Int)),dV,jq,jH,jI,j9,b2,((((b3).drop (0:Nat)).take lC)++((((((uC).getD (Int.toNat oy) ((bs []),(0:Int),(bs []),(bs []),(0:Int))).1::[])).drop (0:Nat)).take (1:Nat))),m4,()))) (
 .ni (oy+(1:Int)) <|
 .ret (.inl (v5,v7,v11,v12,iu,cZ,v17,LK,HJ,v20,v21,lC,v39,v40,v41,sW,v75,uC,v117,(oy+(1:Int)),dV,jq,jH,jI,j9,b2,b3,m4,())))) (
 .ni (oy+(1:Int)) <|
 .ret (.inl (v5,v7,v11,v12,iu,cZ,v17,LK,HJ,v20,v21,lC,v39,v40,v41,sW,v75,uC,v117,(oy+(1:Int)),dV,jq,jH,jI,j9,b2,b3,m4,())))) (
 .ni (oy+(1:Int)) <|
 .ret (.inl (v5,v7,v11,v12,iu,cZ,v17,LK,HJ,v20,v21,lC,v39,v40,v41,sW,v75,uC,v117,(oy+(1:Int)),dV,jq,jH,jI,j9,b2,b3,m4,())))) (
 .ret (.inr (v5,v7,v11,v12,iu,cZ,v17,LK,v20,v21,lC,v39,v40,v41,sW,v75,dV,jq,jH,jI,j9,b2,b3,m4,())))
noncomputable def L5_2:bQ prog 224 none 0:=bx mixed cx5 uB [] rfl p5_2 x5_2 rfl (b5_2) (fun x=>ak (g5_2 x)) (fun x=>by kernel_rfl)
@[reducible] def p5_3:az:=az.mk [(4,.c (.ptr 0 0)),(5,.c (.hole (.list tG))),(7,.c (.hole .str)),(8,.c (.ptr 1 0)),(11,hI),(12,hI),(13,.c (.cn 2 .str)),(14,hI),(21,hI),(22,.c (.cn 3 .str)),(39,.c (.hole (.list .str))),(40,hI),(41,hI),(73,.c (.ptr 1 1)),(74,hI),(75,.c (.hole .bool)),(145,.c (.hole .bool)),(148,.c (.hole .bool)),(149,.c (.hole .bool)),(151,.c (.cn 3 .str)),(152,hI),(153,hI)] [(0,.cells [.mp 4] false),(1,.cells [.hole .str,.hole tI,.hole .str,.hole .str,.hole tI] false),(2,.arr .str false),(3,.arr .str false),(4,.map tG true .bool false)] [.slot 4,.slot 8,.slot 13,.slot 22,.cell 0 0] []
@[reducible] def x5_3:bf:=[(.exit 6,az.mk [(4,.c (.ptr 0 0)),(5,.c (.hole (.list tG))),(7,.c (.hole .str)),(8,.c (.ptr 1 0)),(11,hI),(12,hI),(13,.c (.cn 2 .str)),(14,hI),(21,hI),(22,.c (.cn 3 .str)),(39,.c (.hole (.list .str))),(40,hI),(41,hI),(73,.c (.ptr 1 1)),(74,hI),(75,.c (.hole .bool)),(145,.c (.hole .bool)),(148,.c (.hole .bool)),(149,.c (.hole .bool))] [(0,.cells [.mp 4] false),(1,.cells [.hole .str,.hole tI,.hole .str,.hole .str,.hole tI] false),(2,.arr .str false),(3,.arr .str false),(4,.map tG true .bool false)] [.slot 4,.slot 8,.slot 13,.slot 22,.cell 0 0] [])]
noncomputable def b5_3:D prog 224 none 0:=dO [] (pick (kd prog f5) [(0,false),(2,false)]) 0
noncomputable def g5_3:(List (GG))×ByteArray×Int×Int×Nat×Int×Int×Nat×List ByteArray×Int×Int×Int×Bool×Bool×Bool×Bool×Nat×Int×Int×ByteArray×Int×ByteArray×ByteArray×Int×List ByteArray×List ByteArray×(List ((GG)×Bool))×Unit→bU (((List (GG))×ByteArray×Int×Int×Nat×Int×Int×Nat×List ByteArray×Int×Int×Int×Bool×Bool×Bool×Bool×Nat×Int×Int×ByteArray×Int×ByteArray×ByteArray×Int×List ByteArray×List ByteArray×(List ((GG)×Bool))×Unit) ⊕ (((List (GG))×ByteArray×Int×Int×Nat×Int×Int×Nat×List ByteArray×Int×Int×Int×Bool×Bool×Bool×Bool×ByteArray×Int×ByteArray×ByteArray×Int×List ByteArray×List ByteArray×(List ((GG)×Bool))×Unit))):=fun (v5,v7,v11,v12,iu,cZ,v21,lC,v39,v40,v41,sW,v75,v145,v148,Fx,Qx,v152,uD,dV,jq,jH,jI,j9,b2,b3,m4,_) =>
 .br (decide (uD<v152)) (
 .nb uD ((Qx:Nat):Int) <|
 .nd (decide (((0:Nat)+(Int.toNat uD))<(b3).length)) <|
 .br (seq ((b3).getD ((0:Nat)+(Int.toNat uD)) (bs [])) v7) (
 .ni (uD+(1:Int)) <|
 .ret (.inl (v5,v7,v11,v12,iu,cZ,(4:Int),lC,v39,v40,v41,sW,v75,v145,v148,Fx,Qx,v152,(uD+(1:Int)),dV,jq,jH,jI,j9,b2,b3,m4,()))) (
 .ni (uD+(1:Int)) <|
 .ret (.inl (v5,v7,v11,v12,iu,cZ,v21,lC,v39,v40,v41,sW,v75,v145,v148,Fx,Qx,v152,(uD+(1:Int)),dV,jq,jH,jI,j9,b2,b3,m4,())))) (
 .ret (.inr (v5,v7,v11,v12,iu,cZ,v21,lC,v39,v40,v41,sW,v75,v145,v148,Fx,dV,jq,jH,jI,j9,b2,b3,m4,())))
noncomputable def L5_3:bQ prog 224 none 0:=bx mixed cx5 uB [] rfl p5_3 x5_3 rfl (b5_3) (fun x=>ak (g5_3 x)) (fun x=>by kernel_rfl)
@[reducible] def p5_4:az:=az.mk [(4,.c (.ptr 0 0)),(5,.c (.hole (.list tG))),(7,.c (.hole .str)),(13,.c (.cn 1 .str)),(14,hI),(22,.c (.cn 2 .str)),(39,.c (.hole (.list .str))),(40,hI),(41,hI),(73,.c (.ptr 3 1)),(74,hI),(75,.c (.hole .bool)),(171,hI),(172,hI),(173,.c (.hole .bool)),(185,.c (.hole (.list tG))),(186,hI),(187,hI)] [(0,.cells [.mp 4] false),(1,.arr .str false),(2,.arr .str false),(3,.cells [.hole .str,.hole tI,.hole .str,.hole .str,.hole tI] false),(4,.map tG true .bool false)] [.slot 4,.slot 13,.slot 22,.slot 73,.cell 0 0] []
@[reducible] def x5_4:bf:=[(.exit 8,az.mk [(4,.c (.ptr 0 0)),(5,.c (.hole (.list tG))),(13,.c (.cn 1 .str)),(14,hI),(22,.c (.cn 2 .str)),(39,.c (.hole (.list .str))),(40,hI),(41,hI),(73,.c (.ptr 3 1)),(74,hI),(75,.c (.hole .bool)),(171,hI),(172,hI),(173,.c (.hole .bool))] [(0,.cells [.mp 4] false),(1,.arr .str false),(2,.arr .str false),(3,.cells [.hole .str,.hole tI,.hole .str,.hole .str,.hole tI] false),(4,.map tG true .bool false)] [.slot 4,.slot 13,.slot 22,.slot 73,.cell 0 0] [])]
noncomputable def b5_4:D prog 224 none 0:=dO [] (pick (kd prog f5) [(0,false),(3,false)]) 0
noncomputable def g5_4:(List (GG))×ByteArray×Nat×Int×Nat×List ByteArray×Int×Int×Int×Bool×Int×Int×Bool×(List (GG))×Int×Int×List ByteArray×List ByteArray×ByteArray×Int×ByteArray×ByteArray×Int×(List ((GG)×Bool))×Unit→bU (((List (GG))×ByteArray×Nat×Int×Nat×List ByteArray×Int×Int×Int×Bool×Int×Int×Bool×(List (GG))×Int×Int×List ByteArray×List ByteArray×ByteArray×Int×ByteArray×ByteArray×Int×(List ((GG)×Bool))×Unit) ⊕ (((List (GG))×Nat×Int×Nat×List ByteArray×Int×Int×Int×Bool×Int×Int×Bool×List ByteArray×List ByteArray×ByteArray×Int×ByteArray×ByteArray×Int×(List ((GG)×Bool))×Unit))):=fun (v5,v7,iu,cZ,lC,v39,v40,v41,sW,v75,v171,De,v173,vM,U6,qj,b1,b2,U7,U9,Va,Vb,Vc,m4,_) =>
 .br (decide (qj<U6)) (
 .nb qj (((vM).length:Nat):Int) <|
 .bd (F35 v5 (((vM).getD (Int.toNat qj) ((bs []),(0:Int),(bs []),(bs []),(0:Int))).1,((vM).getD (Int.toNat qj) ((bs []),(0:Int),(bs []),(bs []),(0:Int))).2.1,((vM).getD (Int.toNat qj) ((bs []),(0:Int),(bs []),(bs []),(0:Int))).2.2.1,((vM).getD (Int.toNat qj) ((bs []),(0:Int),(bs []),(bs []),(0:Int))).2.2.2.1,((vM).getD (Int.toNat qj) ((bs []),(0:Int),(bs []),(bs []),(0:Int))).2.2.2.2)) fun Xp =>
 .br Xp.2.1 (
 .br (seq Xp.1 v7) (
 .nd (decide ((lC+(((((((vM).getD (Int.toNat qj) ((bs []),(0:Int),(bs []),(bs []),(0:Int))).1::[])).drop (0:Nat)).take (1:Nat))).length)<cg)) <|
 .ni (qj+(1:Int)) <|
 .ret (.inl (v5,v7,iu,cZ,(lC+(((((((vM).getD (Int.toNat qj) ((bs []),(0:Int),(bs []),(bs []),(0:Int))).1::[])).drop (0:Nat)).take (1:Nat))).length),v39,v40,v41,sW,v75,v171,De,v173,vM,U6,(qj+(1:Int)),b1,((((b2).drop (0:Nat)).take lC)++((((((vM).getD (Int.toNat qj) ((bs []),(0:Int),(bs []),(bs []),(0:Int))).1::[])).drop (0:Nat)).take (1:Nat))),U7,U9,Va,Vb,Vc,m4,()))) (
 .ni (qj+(1:Int)) <|
 .ret (.inl (v5,v7,iu,cZ,lC,v39,v40,v41,sW,v75,v171,De,v173,vM,U6,(qj+(1:Int)),b1,b2,U7,U9,Va,Vb,Vc,m4,())))) (
 .ni (qj+(1:Int)) <|
 .ret (.inl (v5,v7,iu,cZ,lC,v39,v40,v41,sW,v75,v171,De,v173,vM,U6,(qj+(1:Int)),b1,b2,U7,U9,Va,Vb,Vc,m4,())))) (
 .ret (.inr (v5,iu,cZ,lC,v39,v40,v41,sW,v75,v171,De,v173,b1,b2,U7,U9,Va,Vb,Vc,m4,())))
noncomputable def L5_4:bQ prog 224 none 0:=bx mixed cx5 uB [] rfl p5_4 x5_4 rfl (b5_4) (fun x=>ak (g5_4 x)) (fun x=>by kernel_rfl)
@[reducible] def aaT:az:=az.mk [(4,.c (.ptr 0 0)),(5,.c (.hole (.list tG))),(39,.c (.hole (.list .str))),(40,hI),(41,hI)] [(0,.cells [.mp 1] false),(1,.map tG true .bool false)] [.slot 4,.cell 0 0] []
@[reducible] def aaU:bf:=[(.ret,az.mk [(2,.c (.tf false))] [] [] []),(.exit 0,az.mk [] [] [] [])]
noncomputable def b5_0:D prog 224 none 0:=dO [.l L5_1,.l L5_2,.l L5_3,.l L5_4] (pick (kd prog f5) [(0,false)]) 0
noncomputable def g5_0:(List (GG))×List ByteArray×Int×Int×(List ((GG)×Bool))×Unit→bU (((List (GG))×List ByteArray×Int×Int×(List ((GG)×Bool))×Unit) ⊕ ((Unit) ⊕ ((Unit)))):=fun (v5,v39,v40,v41,m1,_) =>
 .br (decide (v41<v40)) (
 .nb v41 (((v39).length:Nat):Int) <|
 .bd (.it g5_1 (v5,((v39).getD (Int.toNat v41) (bs [])),v39,v40,v41,v5,(((v5).length:Nat):Int),(0:Int),(bs []),(0:Int),(bs []),(bs []),(0:Int),m1,())) fun z4 =>
 .bd (FH32 z4.2.1 z4.2.2.2.2.2.2.2.2.2.2.1) fun y5 =>
 .bd (FH33 z4.2.1 y5.2.2.1) fun y6 =>
 .br (z4.2.2.2.2.2.2.1==(0:Int)) (
 .jx (
 .br (z4.2.2.2.2.2.2.1==(3:Int)) (
 .ret (.inl (z4.1,y5.1,y5.2.1,y6.1,y6.2.1,(18:Int),z4.2.2.1,z4.2.2.2.1,z4.2.2.2.2.1,y6.2.2.1,y6.2.2.2.1,()))) (
 .ret (.inl (z4.1,y5.1,y5.2.1,y6.1,y6.2.1,(5:Int),z4.2.2.1,z4.2.2.2.1,z4.2.2.2.2.1,y6.2.2.1,y6.2.2.2.1,())))) fun j7 =>
 .br (!(j7.2.2.1==j7.2.2.2.2.2.1)) (
 .ret (.inr <| .inl<|())) (
 .br (!(j7.2.2.2.2.1==j7.2.2.2.2.2.1)) (
 .ret (.inr <| .inl<|())) (
 .br (!(j7.2.1==(0:Int))) (
 .ret (.inr <| .inl<|())) (
 .br (!(((j7.2.2.2.1:Nat):Int)==(0:Int))) (
 .ret (.inr <| .inl<|())) (
 .ni (j7.2.2.2.2.2.2.2.2.1+(1:Int)) <|
 .ret (.inl (j7.1,j7.2.2.2.2.2.2.1,j7.2.2.2.2.2.2.2.1,(j7.2.2.2.2.2.2.2.2.1+(1:Int)),j7.2.2.2.2.2.2.2.2.2.2.1,()))))))) (
 .br (z4.2.2.2.2.2.2.1==(3:Int)) (
 .jx (
 .br (z4.2.2.2.2.2.2.1==(3:Int)) (
 .ret (.inl (z4.1,y5.1,y5.2.1,y6.1,y6.2.1,(18:Int),z4.2.2.1,z4.2.2.2.1,z4.2.2.2.2.1,z4.2.2.2.2.2.2.1,(z4.2.2.2.2.2.2.1==(3:Int)),y6.2.2.1,z4.2.2.2.2.2.1,z4.2.2.2.2.2.2.1,z4.2.2.2.2.2.2.2.1,z4.2.2.2.2.2.2.2.2.1,z4.2.2.2.2.2.2.2.2.2.1,y6.2.2.2.1,()))) (
 .ret (.inl (z4.1,y5.1,y5.2.1,y6.1,y6.2.1,(5:Int),z4.2.2.1,z4.2.2.2.1,z4.2.2.2.2.1,z4.2.2.2.2.2.2.1,(z4.2.2.2.2.2.2.1==(3:Int)),y6.2.2.1,z4.2.2.2.2.2.1,z4.2.2.2.2.2.2.1,z4.2.2.2.2.2.2.2.1,z4.2.2.2.2.2.2.2.2.1,z4.2.2.2.2.2.2.2.2.2.1,y6.2.2.2.1,())))) fun j8 =>
 .br (!(j8.2.2.1==j8.2.2.2.2.2.1)) (
 .ret (.inr <| .inl<|())) (
 .br (!(j8.2.2.2.2.1==j8.2.2.2.2.2.1)) (
 .ret (.inr <| .inl<|())) (
 .br (!(j8.2.1==(0:Int))) (
 .ret (.inr <| .inl<|())) (
 .br (!(((j8.2.2.2.1:Nat):Int)==(0:Int))) (
 .ret (.inr <| .inl<|())) (
 .ni (j8.2.2.2.2.2.2.2.2.1+(1:Int)) <|
 .ret (.inl (j8.1,j8.2.2.2.2.2.2.1,j8.2.2.2.2.2.2.2.1,(j8.2.2.2.2.2.2.2.2.1+(1:Int)),j8.2.2.2.2.2.2.2.2.2.2.2.2.2.2.2.2.2.1,()))))))) (
 .bd (F34 z4.1 (z4.2.2.2.2.2.1,z4.2.2.2.2.2.2.1,z4.2.2.2.2.2.2.2.1,z4.2.2.2.2.2.2.2.2.1,z4.2.2.2.2.2.2.2.2.2.1)) fun y9 =>
 .bd (F35 z4.1 (z4.2.2.2.2.2.1,z4.2.2.2.2.2.2.1,z4.2.2.2.2.2.2.2.1,z4.2.2.2.2.2.2.2.2.1,z4.2.2.2.2.2.2.2.2.2.1)) fun Gf =>
 .jx (
 .br y9.2.2.1 (
 .ret (.inl (z4.1,z4.2.1,y5.1,y5.2.1,y6.1,y6.2.1,y9.2.1,y9.2.2.1,Gf.1,Gf.2.1,(2:Int),z4.2.2.1,z4.2.2.2.1,z4.2.2.2.2.1,z4.2.2.2.2.2.2.1,(z4.2.2.2.2.2.2.1==(3:Int)),z4.2.2.2.2.2.1,z4.2.2.2.2.2.2.1,z4.2.2.2.2.2.2.2.1,z4.2.2.2.2.2.2.2.2.1,z4.2.2.2.2.2.2.2.2.2.1,y6.2.2.1,y6.2.2.2.1,()))) (
 .br y9.2.1 (
 .br (!Gf.2.1) (
 .ret (.inl (z4.1,z4.2.1,y5.1,y5.2.1,y6.1,y6.2.1,y9.2.1,y9.2.2.1,Gf.1,Gf.2.1,(3:Int),z4.2.2.1,z4.2.2.2.1,z4.2.2.2.2.1,z4.2.2.2.2.2.2.1,(z4.2.2.2.2.2.2.1==(3:Int)),z4.2.2.2.2.2.1,z4.2.2.2.2.2.2.1,z4.2.2.2.2.2.2.2.1,z4.2.2.2.2.2.2.2.2.1,z4.2.2.2.2.2.2.2.2.2.1,y6.2.2.1,y6.2.2.2.1,()))) (
 .ret (.inl (z4.1,z4.2.1,y5.1,y5.2.1,y6.1,y6.2.1,y9.2.1,y9.2.2.1,Gf.1,Gf.2.1,(1:Int),z4.2.2.1,z4.2.2.2.1,z4.2.2.2.2.1,z4.2.2.2.2.2.2.1,(z4.2.2.2.2.2.2.1==(3:Int)),z4.2.2.2.2.2.1,z4.2.2.2.2.2.2.1,z4.2.2.2.2.2.2.2.1,z4.2.2.2.2.2.2.2.2.1,z4.2.2.2.2.2.2.2.2.2.1,y6.2.2.1,y6.2.2.2.1,())))) (
 .ret (.inl (z4.1,z4.2.1,y5.1,y5.2.1,y6.1,y6.2.1,y9.2.1,y9.2.2.1,Gf.1,Gf.2.1,(1:Int),z4.2.2.1,z4.2.2.2.1,z4.2.2.2.2.1,z4.2.2.2.2.2.2.1,(z4.2.2.2.2.2.2.1==(3:Int)),z4.2.2.2.2.2.1,z4.2.2.2.2.2.2.1,z4.2.2.2.2.2.2.2.1,z4.2.2.2.2.2.2.2.2.1,z4.2.2.2.2.2.2.2.2.2.1,y6.2.2.1,y6.2.2.2.1,()))))) fun vN =>
 .bd (.it g5_2 (vN.1,vN.2.1,vN.2.2.1,vN.2.2.2.1,vN.2.2.2.2.1,vN.2.2.2.2.2.1,vN.2.2.2.2.2.2.1,vN.2.2.2.2.2.2.2.1,vN.2.2.2.2.2.2.2.2.1,vN.2.2.2.2.2.2.2.2.2.1,vN.2.2.2.2.2.2.2.2.2.2.1,(0:Nat),vN.2.2.2.2.2.2.2.2.2.2.2.1,vN.2.2.2.2.2.2.2.2.2.2.2.2.1,vN.2.2.2.2.2.2.2.2.2.2.2.2.2.1,vN.2.2.2.2.2.2.2.2.2.2.2.2.2.2.1,vN.2.2.2.2.2.2.2.2.2.2.2.2.2.2.2.1,vN.1,(((vN.1).length:Nat):Int),(0:Int),vN.2.2.2.2.2.2.2.2.2.2.2.2.2.2.2.2.1,vN.2.2.2.2.2.2.2.2.2.2.2.2.2.2.2.2.2.1,vN.2.2.2.2.2.2.2.2.2.2.2.2.2.2.2.2.2.2.1,vN.2.2.2.2.2.2.2.2.2.2.2.2.2.2.2.2.2.2.2.1,vN.2.2.2.2.2.2.2.2.2.2.2.2.2.2.2.2.2.2.2.2.1,vN.2.2.2.2.2.2.2.2.2.2.2.2.2.2.2.2.2.2.2.2.2.1,[],vN.2.2.2.2.2.2.2.2.2.2.2.2.2.2.2.2.2.2.2.2.2.2.1,())) fun dN =>
 .jx (
 .br dN.2.2.2.2.2.2.1 (
 .br dN.2.2.2.2.2.2.2.2.1 (
 .br (!dN.2.2.2.2.2.2.2.1) (
 .bd (.it g5_3 (dN.1,dN.2.1,dN.2.2.1,dN.2.2.2.1,dN.2.2.2.2.1,dN.2.2.2.2.2.1,(3:Int),dN.2.2.2.2.2.2.2.2.2.2.1,dN.2.2.2.2.2.2.2.2.2.2.2.1,dN.2.2.2.2.2.2.2.2.2.2.2.2.1,dN.2.2.2.2.2.2.2.2.2.2.2.2.2.1,dN.2.2.2.2.2.2.2.2.2.2.2.2.2.2.1,dN.2.2.2.2.2.2.2.2.2.2.2.2.2.2.2.1,dN.2.2.2.2.2.2.2.2.1,dN.2.2.2.2.2.2.2.1,(!dN.2.2.2.2.2.2.2.1),dN.2.2.2.2.2.2.2.2.2.2.1,((dN.2.2.2.2.2.2.2.2.2.2.1:Nat):Int),(0:Int),dN.2.2.2.2.2.2.2.2.2.2.2.2.2.2.2.2.1,dN.2.2.2.2.2.2.2.2.2.2.2.2.2.2.2.2.2.1,dN.2.2.2.2.2.2.2.2.2.2.2.2.2.2.2.2.2.2.1,dN.2.2.2.2.2.2.2.2.2.2.2.2.2.2.2.2.2.2.2.1,dN.2.2.2.2.2.2.2.2.2.2.2.2.2.2.2.2.2.2.2.2.1,dN.2.2.2.2.2.2.2.2.2.2.2.2.2.2.2.2.2.2.2.2.2.1,dN.2.2.2.2.2.2.2.2.2.2.2.2.2.2.2.2.2.2.2.2.2.2.1,dN.2.2.2.2.2.2.2.2.2.2.2.2.2.2.2.2.2.2.2.2.2.2.2.1,())) fun iA =>
 .br (iA.2.2.2.2.2.2.1==(4:Int)) (
 .br (decide ((1:Int)<((iA.2.2.2.2.2.2.2.1:Nat):Int))) (
 .ret (.inl (iA.1,iA.2.1,iA.2.2.1,iA.2.2.2.1,iA.2.2.2.2.1,iA.2.2.2.2.2.1,(5:Int),iA.2.2.2.2.2.2.2.2.1,iA.2.2.2.2.2.2.2.2.2.1,iA.2.2.2.2.2.2.2.2.2.2.1,iA.2.2.2.2.2.2.2.2.2.2.2.1,iA.2.2.2.2.2.2.2.2.2.2.2.2.1,iA.2.2.2.2.2.2.2.2.2.2.2.2.2.2.2.2.1,iA.2.2.2.2.2.2.2.2.2.2.2.2.2.2.2.2.2.1,iA.2.2.2.2.2.2.2.2.2.2.2.2.2.2.2.2.2.2.1,iA.2.2.2.2.2.2.2.2.2.2.2.2.2.2.2.2.2.2.2.1,iA.2.2.2.2.2.2.2.2.2.2.2.2.2.2.2.2.2.2.2.2.1,iA.2.2.2.2.2.2.2.2.2.2.2.2.2.2.2.2.2.2.2.2.2.1,iA.2.2.2.2.2.2.2.2.2.2.2.2.2.2.2.2.2.2.2.2.2.2.2.1,()))) (
 .ret (.inl (iA.1,iA.2.1,iA.2.2.1,iA.2.2.2.1,iA.2.2.2.2.1,iA.2.2.2.2.2.1,iA.2.2.2.2.2.2.1,iA.2.2.2.2.2.2.2.2.1,iA.2.2.2.2.2.2.2.2.2.1,iA.2.2.2.2.2.2.2.2.2.2.1,iA.2.2.2.2.2.2.2.2.2.2.2.1,iA.2.2.2.2.2.2.2.2.2.2.2.2.1,iA.2.2.2.2.2.2.2.2.2.2.2.2.2.2.2.2.1,iA.2.2.2.2.2.2.2.2.2.2.2.2.2.2.2.2.2.1,iA.2.2.2.2.2.2.2.2.2.2.2.2.2.2.2.2.2.2.1,iA.2.2.2.2.2.2.2.2.2.2.2.2.2.2.2.2.2.2.2.1,iA.2.2.2.2.2.2.2.2.2.2.2.2.2.2.2.2.2.2.2.2.1,iA.2.2.2.2.2.2.2.2.2.2.2.2.2.2.2.2.2.2.2.2.2.1,iA.2.2.2.2.2.2.2.2.2.2.2.2.2.2.2.2.2.2.2.2.2.2.2.1,())))) (
 .ret (.inl (iA.1,iA.2.1,iA.2.2.1,iA.2.2.2.1,iA.2.2.2.2.1,iA.2.2.2.2.2.1,iA.2.2.2.2.2.2.1,iA.2.2.2.2.2.2.2.2.1,iA.2.2.2.2.2.2.2.2.2.1,iA.2.2.2.2.2.2.2.2.2.2.1,iA.2.2.2.2.2.2.2.2.2.2.2.1,iA.2.2.2.2.2.2.2.2.2.2.2.2.1,iA.2.2.2.2.2.2.2.2.2.2.2.2.2.2.2.2.1,iA.2.2.2.2.2.2.2.2.2.2.2.2.2.2.2.2.2.1,iA.2.2.2.2.2.2.2.2.2.2.2.2.2.2.2.2.2.2.1,iA.2.2.2.2.2.2.2.2.2.2.2.2.2.2.2.2.2.2.2.1,iA.2.2.2.2.2.2.2.2.2.2.2.2.2.2.2.2.2.2.2.2.1,iA.2.2.2.2.2.2.2.2.2.2.2.2.2.2.2.2.2.2.2.2.2.1,iA.2.2.2.2.2.2.2.2.2.2.2.2.2.2.2.2.2.2.2.2.2.2.2.1,())))) (
 .ret (.inl (dN.1,dN.2.1,dN.2.2.1,dN.2.2.2.1,dN.2.2.2.2.1,dN.2.2.2.2.2.1,dN.2.2.2.2.2.2.2.2.2.1,dN.2.2.2.2.2.2.2.2.2.2.2.1,dN.2.2.2.2.2.2.2.2.2.2.2.2.1,dN.2.2.2.2.2.2.2.2.2.2.2.2.2.1,dN.2.2.2.2.2.2.2.2.2.2.2.2.2.2.1,dN.2.2.2.2.2.2.2.2.2.2.2.2.2.2.2.1,dN.2.2.2.2.2.2.2.2.2.2.2.2.2.2.2.2.1,dN.2.2.2.2.2.2.2.2.2.2.2.2.2.2.2.2.2.1,dN.2.2.2.2.2.2.2.2.2.2.2.2.2.2.2.2.2.2.1,dN.2.2.2.2.2.2.2.2.2.2.2.2.2.2.2.2.2.2.2.1,dN.2.2.2.2.2.2.2.2.2.2.2.2.2.2.2.2.2.2.2.2.1,dN.2.2.2.2.2.2.2.2.2.2.2.2.2.2.2.2.2.2.2.2.2.1,dN.2.2.2.2.2.2.2.2.2.2.2.2.2.2.2.2.2.2.2.2.2.2.2.1,())))) (
 .ret (.inl (dN.1,dN.2.1,dN.2.2.1,dN.2.2.2.1,dN.2.2.2.2.1,dN.2.2.2.2.2.1,dN.2.2.2.2.2.2.2.2.2.1,dN.2.2.2.2.2.2.2.2.2.2.2.1,dN.2.2.2.2.2.2.2.2.2.2.2.2.1,dN.2.2.2.2.2.2.2.2.2.2.2.2.2.1,dN.2.2.2.2.2.2.2.2.2.2.2.2.2.2.1,dN.2.2.2.2.2.2.2.2.2.2.2.2.2.2.2.1,dN.2.2.2.2.2.2.2.2.2.2.2.2.2.2.2.2.1,dN.2.2.2.2.2.2.2.2.2.2.2.2.2.2.2.2.2.1,dN.2.2.2.2.2.2.2.2.2.2.2.2.2.2.2.2.2.2.1,dN.2.2.2.2.2.2.2.2.2.2.2.2.2.2.2.2.2.2.2.1,dN.2.2.2.2.2.2.2.2.2.2.2.2.2.2.2.2.2.2.2.2.1,dN.2.2.2.2.2.2.2.2.2.2.2.2.2.2.2.2.2.2.2.2.2.1,dN.2.2.2.2.2.2.2.2.2.2.2.2.2.2.2.2.2.2.2.2.2.2.2.1,())))) (
 .ret (.inl (dN.1,dN.2.1,dN.2.2.1,dN.2.2.2.1,dN.2.2.2.2.1,dN.2.2.2.2.2.1,dN.2.2.2.2.2.2.2.2.2.1,dN.2.2.2.2.2.2.2.2.2.2.2.1,dN.2.2.2.2.2.2.2.2.2.2.2.2.1,dN.2.2.2.2.2.2.2.2.2.2.2.2.2.1,dN.2.2.2.2.2.2.2.2.2.2.2.2.2.2.1,dN.2.2.2.2.2.2.2.2.2.2.2.2.2.2.2.1,dN.2.2.2.2.2.2.2.2.2.2.2.2.2.2.2.2.1,dN.2.2.2.2.2.2.2.2.2.2.2.2.2.2.2.2.2.1,dN.2.2.2.2.2.2.2.2.2.2.2.2.2.2.2.2.2.2.1,dN.2.2.2.2.2.2.2.2.2.2.2.2.2.2.2.2.2.2.2.1,dN.2.2.2.2.2.2.2.2.2.2.2.2.2.2.2.2.2.2.2.2.1,dN.2.2.2.2.2.2.2.2.2.2.2.2.2.2.2.2.2.2.2.2.2.1,dN.2.2.2.2.2.2.2.2.2.2.2.2.2.2.2.2.2.2.2.2.2.2.2.1,())))) fun p0 =>
 .br (!(p0.2.2.2.1==(0:Int))) (
 .ret (.inr <| .inl<|())) (
 .br (!(p0.2.2.1==p0.2.2.2.2.2.2.1)) (
 .ret (.inr <| .inl<|())) (
 .br (!(p0.2.2.2.2.2.2.2.2.2.2.2.2.2.1==(1:Int))) (
 .br (!(p0.2.2.2.2.2.1==(18:Int))) (
 .ret (.inr <| .inl<|())) (
 .br (!(((p0.2.2.2.2.1:Nat):Int)==(0:Int))) (
 .ret (.inr <| .inl<|())) (
 .ni (p0.2.2.2.2.2.2.2.2.2.1+(1:Int)) <|
 .ret (.inl (p0.1,p0.2.2.2.2.2.2.2.1,p0.2.2.2.2.2.2.2.2.1,(p0.2.2.2.2.2.2.2.2.2.1+(1:Int)),p0.2.2.2.2.2.2.2.2.2.2.2.2.2.2.2.2.2.2.1,()))))) (
 .bd (.it g5_4 (p0.1,p0.2.1,p0.2.2.2.2.1,p0.2.2.2.2.2.1,(0:Nat),p0.2.2.2.2.2.2.2.1,p0.2.2.2.2.2.2.2.2.1,p0.2.2.2.2.2.2.2.2.2.1,p0.2.2.2.2.2.2.2.2.2.2.1,p0.2.2.2.2.2.2.2.2.2.2.2.1,p0.2.2.1,p0.2.2.2.2.2.2.1,(!(p0.2.2.1==p0.2.2.2.2.2.2.1)),p0.1,(((p0.1).length:Nat):Int),(0:Int),p0.2.2.2.2.2.2.2.2.2.2.2.2.2.2.2.2.2.1,[],p0.2.2.2.2.2.2.2.2.2.2.2.2.1,p0.2.2.2.2.2.2.2.2.2.2.2.2.2.1,p0.2.2.2.2.2.2.2.2.2.2.2.2.2.2.1,p0.2.2.2.2.2.2.2.2.2.2.2.2.2.2.2.1,p0.2.2.2.2.2.2.2.2.2.2.2.2.2.2.2.2.1,p0.2.2.2.2.2.2.2.2.2.2.2.2.2.2.2.2.2.2.1,())) fun J2 =>
 .br (!(J2.2.2.1==(0:Int))) (
 .ret (.inr <| .inl<|())) (
 .br (((J2.2.2.2.1:Nat):Int)==(0:Int)) (
 .ret (.inr <| .inl<|())) (
 .bd (F36 (((J2.2.2.2.2.2.2.2.2.2.2.2.2.1).drop (0:Nat)).take J2.2.1) (((J2.2.2.2.2.2.2.2.2.2.2.2.2.2.1).drop (0:Nat)).take J2.2.2.2.1)) fun y19 =>
 .br (!y19.1) (
 .ret (.inr <| .inl<|())) (
 .ni (J2.2.2.2.2.2.2.1+(1:Int)) <|
 .ret (.inl (J2.1,J2.2.2.2.2.1,J2.2.2.2.2.2.1,(J2.2.2.2.2.2.2.1+(1:Int)),J2.2.2.2.2.2.2.2.2.2.2.2.2.2.2.2.2.2.2.2.1,()))))))))))) (
 .ret (.inr <| .inr<|()))
theorem s5_0:∀x,qS (iN (aaT.T ⊕ aaU.T)) cx5 dY [] aaT aaU (b5_0) (fun y=>some (.inl y)) (fun b=>some (.inr b)) x=ak (g5_0 x):=fun x=>Eq.trans (b:=ak (flat (g5_0 x))) (by kernel_rfl) yB
noncomputable def L5_0:bQ prog 224 none 0:=bx mixed cx5 uB [] rfl aaT aaU rfl (b5_0) (fun x=>ak (g5_0 x)) (s5_0)
noncomputable def dd5:D prog 224 none 0:=dO [.l L5_0] (kd prog f5) 0
noncomputable def F5 (a0:List (Int×Int×Int×Int)):bU (Bool×Unit) :=
 .bd (F28 a0) fun y0 =>
 .bd (FH29 y0.1) fun y1 =>
 .bd (F30 y0.1) fun y2 =>
 .bd (F31) fun y3 =>
 .bd (.it g5_0 (y2.1,y3.1,(((y3.1).length:Nat):Int),(0:Int),y1.1,())) fun z20 =>
 .sm z20 (fun z21 =>
 .ret (false,())) fun z22 =>
 .bd (F17) fun y23 =>
 .ret (y23.1,())
theorem af0:cM prog f5=some ⟨224,1,dd5.er,[.t 2],[some .bool]⟩:=by kernel_rfl
noncomputable def ct5:Ct:=⟨5,[.c (.hole (.list (.prod (.int .u8) (.prod (.int .u8) (.prod (.int .u8) (.int .u8))))))],.c (.hole .bool),fun x=>ak (F5 x.1)⟩
theorem ct5_ok:ct5.Ok prog:=cF mixed uB func5 af0 (enters_of func5 rfl rfl) dd5 (by kernel_rfl) rfl (fun x=>by kernel_rfl)

/- 38 -/
noncomputable def cx38:Cx:=(aN [] [])
theorem Vd:cx38.Ok prog:=av trivial trivial
noncomputable def dd38:D prog 2 none 0:=dO [] (kd prog f38) 0
noncomputable def F38:bU (List ByteArray×Unit) :=
 .ret ((((((bs [120])::((bs [121])::((bs [122])::[])))).drop (0:Nat)).take (3:Nat)),())
theorem aaV:cM prog f38=some ⟨2,0,dd38.er,[.t 0],[some (.list .str)]⟩:=by kernel_rfl
noncomputable def ct38:Ct:=⟨38,[],.c (.hole (.list .str)),fun x=>ak (F38)⟩
theorem Ve:ct38.Ok prog:=cF mixed Vd func38 aaV (enters_of func38 rfl rfl) dd38 (by kernel_rfl) rfl (fun x=>by kernel_rfl)

/- 29, lent -/
@[reducible] def Vf:az:=az.mk [(0,.c (.cn 0 tG))] [(0,.arr tG false)] [.slot 0] []
@[reducible] def Vg:az:=az.mk [(0,.c (.ptr 1 0))] [(1,.cells [.mp 2] false),(0,.arr tG false),(2,.map tG true .bool false)] [.slot 0,.cell 1 0] []
noncomputable def Fy:Cx:=(aN [] [Zn,TE])
theorem vm:Fy.Ok prog:=av trivial ⟨⟨Jq,rfl⟩,⟨CH,rfl⟩,trivial⟩
@[reducible] def Mq:az:=az.mk [(0,.c (.cn 0 tG)),(3,.c (.ptr 1 0)),(4,hI)] [(0,.arr tG false),(1,.cells [.mp 2] false),(2,.map tG true .bool false)] [.slot 3,.cell 1 0] []
@[reducible] def Mr:bf:=[(.exit 0,az.mk [(3,.c (.ptr 1 0))] [(1,.cells [.mp 2] false),(0,.arr tG false),(2,.map tG true .bool false)] [.slot 3,.cell 1 0] [])]
noncomputable def Ms:D prog 19 none 1:=dO [] (pick (kd prog f29) [(0,false)]) 0
noncomputable def gH29_v1_0:Nat×Int×(List (GG))×(List ((GG)×Bool))×Unit→bU ((Nat×Int×(List (GG))×(List ((GG)×Bool))×Unit) ⊕ (((List (GG))×(List ((GG)×Bool))×Unit))):=fun (lR,v4,b0,m2,_) =>
 .br (decide (v4<((lR:Nat):Int))) (
 .nb v4 ((lR:Nat):Int) <|
 .nd (decide (((0:Nat)+(Int.toNat v4))<(b0).length)) <|
 .bd (FH20 (((b0).getD ((0:Nat)+(Int.toNat v4)) ((bs []),(0:Int),(bs []),(bs []),(0:Int))).1,((b0).getD ((0:Nat)+(Int.toNat v4)) ((bs []),(0:Int),(bs []),(bs []),(0:Int))).2.1,((b0).getD ((0:Nat)+(Int.toNat v4)) ((bs []),(0:Int),(bs []),(bs []),(0:Int))).2.2.1,((b0).getD ((0:Nat)+(Int.toNat v4)) ((bs []),(0:Int),(bs []),(bs []),(0:Int))).2.2.2.1,((b0).getD ((0:Nat)+(Int.toNat v4)) ((bs []),(0:Int),(bs []),(bs []),(0:Int))).2.2.2.2) m2) fun y1 =>
 .ni (v4+(1:Int)) <|
 .ret (.inl (lR,(v4+(1:Int)),b0,y1.2.1,()))) (
 .ret (.inr (b0,m2,())))
noncomputable def Mt:bQ prog 19 none 1:=bx mixed Fy vm [0] rfl Mq Mr rfl (Ms) (fun x=>ak (gH29_v1_0 x)) (fun x=>by kernel_rfl)
noncomputable def Fz:D prog 19 none 1:=dO [.l Mt] (kd prog f29) 0
noncomputable def FH29_v1 (lR:Nat) (b0:List (GG)):bU ((List (GG))×(List ((GG)×Bool))×Unit) :=
 .bd (FH18) fun y0 =>
 .bd (.it gH29_v1_0 (lR,(0:Int),b0,y0.1,())) fun z2 =>
 .ret (z2.1,z2.2.1,())
theorem HZ:cM prog f29=some ⟨19,1,Fz.er,[.t 2],[none]⟩:=by kernel_rfl
noncomputable def J3:Ht:=⟨29,Vf,Vg,(fun x=>ak (FH29_v1 x.1 x.2.1))⟩
theorem H6:J3.Ok prog:=bW mixed vm rfl func29 HZ (enters_of func29 rfl rfl) Fz (by kernel_rfl) rfl rfl ⟨_,rfl⟩ rfl (pre:=[0]) rfl (fun x=>by kernel_rfl)

/- 7 -/
noncomputable def cx7:Cx:=(aN [UY,US] [J3,UF])
theorem Qy:cx7.Ok prog:=av ⟨C8,C7,trivial⟩ ⟨⟨H6,rfl⟩,⟨C6,rfl⟩,trivial⟩
@[reducible] def aaW:az:=az.mk [(4,hI),(5,.c (.mp 0)),(6,.c (.cn 1 tG)),(14,.c (.hole (.list tG))),(15,hI),(16,hI)] [(0,.map .str false .bool false),(1,.arr tG false)] [.slot 5,.slot 6] []
@[reducible] def aaX:bf:=[(.exit 0,az.mk [(4,hI),(6,.c (.cn 0 tG))] [(0,.arr tG false)] [.slot 6] [])]
noncomputable def b7_0:D prog 59 none 0:=dO [] (pick (kd prog f7) [(0,false)]) 0
noncomputable def g7_0:Int×Nat×(List (GG))×Int×Int×bn×(List (GG))×Unit→bU ((Int×Nat×(List (GG))×Int×Int×bn×(List (GG))×Unit) ⊕ ((Int×Nat×(List (GG))×Unit))):=fun (v4,Ua,cZ,aK,lQ,m0,b1,_) =>
 .br (decide (lQ<aK)) (
 .nb lQ (((cZ).length:Nat):Int) <|
 .br (aA .str false m0 ((cZ).getD (Int.toNat lQ) ((bs []),(0:Int),(bs []),(bs []),(0:Int))).1) (
 .ni (lQ+(1:Int)) <|
 .ret (.inl (v4,Ua,cZ,aK,(lQ+(1:Int)),m0,b1,()))) (
 .jx (
 .br (!(((cZ).getD (Int.toNat lQ) ((bs []),(0:Int),(bs []),(bs []),(0:Int))).2.1==(3:Int))) (
 .ret (.inl (v4,Ua,cZ,aK,lQ,(bp .str m0 ((cZ).getD (Int.toNat lQ) ((bs []),(0:Int),(bs []),(bs []),(0:Int))).1 true),b1,((cZ).getD (Int.toNat lQ) ((bs []),(0:Int),(bs []),(bs []),(0:Int))).1,((cZ).getD (Int.toNat lQ) ((bs []),(0:Int),(bs []),(bs []),(0:Int))).2.1,((cZ).getD (Int.toNat lQ) ((bs []),(0:Int),(bs []),(bs []),(0:Int))).2.2.1,((cZ).getD (Int.toNat lQ) ((bs []),(0:Int),(bs []),(bs []),(0:Int))).2.2.2.1,(7:Int),()))) (
 .ret (.inl (v4,Ua,cZ,aK,lQ,(bp .str m0 ((cZ).getD (Int.toNat lQ) ((bs []),(0:Int),(bs []),(bs []),(0:Int))).1 true),b1,((cZ).getD (Int.toNat lQ) ((bs []),(0:Int),(bs []),(bs []),(0:Int))).1,((cZ).getD (Int.toNat lQ) ((bs []),(0:Int),(bs []),(bs []),(0:Int))).2.1,((cZ).getD (Int.toNat lQ) ((bs []),(0:Int),(bs []),(bs []),(0:Int))).2.2.1,((cZ).getD (Int.toNat lQ) ((bs []),(0:Int),(bs []),(bs []),(0:Int))).2.2.2.1,((cZ).getD (Int.toNat lQ) ((bs []),(0:Int),(bs []),(bs []),(0:Int))).2.2.2.2,())))) fun j1 =>
 .jx (
 .br (j1.2.2.2.2.2.2.2.2.1==(1:Int)) (
 .ni (j1.1+(7:Int)) <|
 .ret (.inl ((j1.1+(7:Int)),j1.2.1,j1.2.2.1,j1.2.2.2.1,j1.2.2.2.2.1,j1.2.2.2.2.2.1,j1.2.2.2.2.2.2.1,j1.2.2.2.2.2.2.2.1,j1.2.2.2.2.2.2.2.2.1,j1.2.2.2.2.2.2.2.2.2.1,j1.2.2.2.2.2.2.2.2.2.2.1,j1.2.2.2.2.2.2.2.2.2.2.2.1,()))) (
 .ret (.inl (j1.1,j1.2.1,j1.2.2.1,j1.2.2.2.1,j1.2.2.2.2.1,j1.2.2.2.2.2.1,j1.2.2.2.2.2.2.1,j1.2.2.2.2.2.2.2.1,j1.2.2.2.2.2.2.2.2.1,j1.2.2.2.2.2.2.2.2.2.1,j1.2.2.2.2.2.2.2.2.2.2.1,j1.2.2.2.2.2.2.2.2.2.2.2.1,())))) fun j2 =>
 .nd (decide ((j2.2.1+((((((j2.2.2.2.2.2.2.2.1,j2.2.2.2.2.2.2.2.2.1,j2.2.2.2.2.2.2.2.2.2.1,j2.2.2.2.2.2.2.2.2.2.2.1,j2.2.2.2.2.2.2.2.2.2.2.2.1)::[])).drop (0:Nat)).take (1:Nat))).length)<cg)) <|
 .ni (j2.2.2.2.2.1+(1:Int)) <|
 .ret (.inl (j2.1,(j2.2.1+((((((j2.2.2.2.2.2.2.2.1,j2.2.2.2.2.2.2.2.2.1,j2.2.2.2.2.2.2.2.2.2.1,j2.2.2.2.2.2.2.2.2.2.2.1,j2.2.2.2.2.2.2.2.2.2.2.2.1)::[])).drop (0:Nat)).take (1:Nat))).length),j2.2.2.1,j2.2.2.2.1,(j2.2.2.2.2.1+(1:Int)),j2.2.2.2.2.2.1,((((j2.2.2.2.2.2.2.1).drop (0:Nat)).take j2.2.1)++(((((j2.2.2.2.2.2.2.2.1,j2.2.2.2.2.2.2.2.2.1,j2.2.2.2.2.2.2.2.2.2.1,j2.2.2.2.2.2.2.2.2.2.2.1,j2.2.2.2.2.2.2.2.2.2.2.2.1)::[])).drop (0:Nat)).take (1:Nat))),())))) (
 .ret (.inr (v4,Ua,b1,())))
theorem s7_0:∀x,qS (iN (aaW.T ⊕ aaX.T)) cx7 dY [] aaW aaX (b7_0) (fun y=>some (.inl y)) (fun b=>some (.inr b)) x=ak (g7_0 x):=fun x=>Eq.trans (b:=ak (flat (g7_0 x))) (by kernel_rfl) yB
noncomputable def L7_0:bQ prog 59 none 0:=bx mixed cx7 Qy [] rfl aaW aaX rfl (b7_0) (fun x=>ak (g7_0 x)) (s7_0)
noncomputable def dd7:D prog 59 none 0:=dO [.l L7_0] (kd prog f7) 0
noncomputable def F7 (a0:List (Int×Int×Int×Int)):bU (Bool×Unit) :=
 .bd (F28 a0) fun y0 =>
 .bd (.it g7_0 ((0:Int),(0:Nat),y0.1,(((y0.1).length:Nat):Int),(0:Int),[],[],())) fun z3 =>
 .bd (FH29_v1 z3.2.1 z3.2.2.1) fun y4 =>
 .bd (FH37 y4.2.1) fun y5 =>
 .br (y5.2.1==(0:Int)) (
 .br ((y5.1.1==z3.1)&&((y5.1.2==z3.1)&&true)) (
 .bd (F17) fun y6 =>
 .ret (y6.1,())) (
 .ret (false,()))) (
 .ret (false,()))
theorem af4:cM prog f7=some ⟨59,1,dd7.er,[.t 2],[some .bool]⟩:=by kernel_rfl
noncomputable def ct7:Ct:=⟨7,[.c (.hole (.list (.prod (.int .u8) (.prod (.int .u8) (.prod (.int .u8) (.int .u8))))))],.c (.hole .bool),fun x=>ak (F7 x.1)⟩
theorem ct7_ok:ct7.Ok prog:=cF mixed Qy func7 af4 (enters_of func7 rfl rfl) dd7 (by kernel_rfl) rfl (fun x=>by kernel_rfl)

/- 41, lent -/
@[reducible] def pH41:az:=az.mk [(0,.c (.ptr 0 0)),(1,.c (.ptr 1 0))] [(0,.cells [.mp 2] false),(1,.cells [.mp 3] false),(2,.map tG true .bool false),(3,.map tG true .bool false)] [.slot 0,.slot 1,.cell 0 0,.cell 1 0] []
@[reducible] def qH41:az:=az.mk [(0,.c (.hole .bool))] [(0,.cells [.mp 2] false),(2,.map tG true .bool false),(1,.cells [.mp 3] false),(3,.map tG true .bool false)] [] []
noncomputable def Xq:Cx:=(aN [ct38,aaz] [Uy,UF])
theorem FA:Xq.Ok prog:=av ⟨Ve,JS,trivial⟩ ⟨⟨CT,rfl⟩,⟨C6,rfl⟩,trivial⟩
@[reducible] def aaY:az:=az.mk [(0,.c (.ptr 0 0)),(1,.c (.ptr 1 0)),(15,.c (.hole (.list .str))),(16,hI),(17,hI)] [(0,.cells [.mp 2] false),(1,.cells [.mp 3] false),(2,.map tG true .bool false),(3,.map tG true .bool false)] [] []
@[reducible] def aaZ:bf:=[(.ret,az.mk [(4,.c (.tf false))] [(0,.cells [.mp 2] false),(2,.map tG true .bool false),(1,.cells [.mp 3] false),(3,.map tG true .bool false)] [] []),(.exit 0,az.mk [(0,.c (.ptr 0 0)),(1,.c (.ptr 1 0))] [(0,.cells [.mp 2] false),(1,.cells [.mp 3] false),(2,.map tG true .bool false),(3,.map tG true .bool false)] [] [])]
noncomputable def aa0:D prog 61 none 4:=dO [] (pick (kd prog f41) [(0,false)]) 0
noncomputable def gH41_0:List ByteArray×Int×Int×(List ((GG)×Bool))×(List ((GG)×Bool))×Unit→bU ((List ByteArray×Int×Int×(List ((GG)×Bool))×(List ((GG)×Bool))×Unit) ⊕ (((List ((GG)×Bool))×(List ((GG)×Bool))×Unit) ⊕ (((List ((GG)×Bool))×(List ((GG)×Bool))×Unit)))):=fun (aK,lQ,v17,m2,m3,_) =>
 .br (decide (v17<lQ)) (
 .nb v17 (((aK).length:Nat):Int) <|
 .bd (FH23 ((aK).getD (Int.toNat v17) (bs [])) m2) fun y1 =>
 .bd (FH23 ((aK).getD (Int.toNat v17) (bs [])) m3) fun y2 =>
 .bd (F27 (((y1.2.2.1).drop (0:Nat)).take y1.1) (((y2.2.2.1).drop (0:Nat)).take y2.1)) fun y3 =>
 .br (!y3.1) (
 .ret (.inr <| .inl<|(y1.2.2.2.1,y2.2.2.2.1,()))) (
 .br (!(y1.2.1==y2.2.1)) (
 .ret (.inr <| .inl<|(y1.2.2.2.1,y2.2.2.2.1,()))) (
 .ni (v17+(1:Int)) <|
 .ret (.inl (aK,lQ,(v17+(1:Int)),y1.2.2.2.1,y2.2.2.2.1,()))))) (
 .ret (.inr <| .inr<|(m2,m3,())))
noncomputable def aa1:bQ prog 61 none 4:=bx mixed Xq FA [0,1,2,3] rfl aaY aaZ rfl (aa0) (fun x=>ak (gH41_0 x)) (fun x=>by kernel_rfl)
noncomputable def Xr:D prog 61 none 4:=dO [.l aa1] (kd prog f41) 0
noncomputable def FH41 (m2:List ((GG)×Bool)) (m3:List ((GG)×Bool)):bU (Bool×(List ((GG)×Bool))×(List ((GG)×Bool))×Unit) :=
 .bd (F38) fun y0 =>
 .bd (.it gH41_0 (y0.1,(((y0.1).length:Nat):Int),(0:Int),m2,m3,())) fun z4 =>
 .sm z4 (fun z5 =>
 .ret (false,z5.1,z5.2.1,())) fun z6 =>
 .bd (FH37 z6.1) fun y7 =>
 .bd (FH37 z6.2.1) fun y8 =>
 .br ((y7.1.1==y8.1.1)&&((y7.1.2==y8.1.2)&&true)) (
 .ret ((y7.2.1==y8.2.1),y7.2.2.1,y8.2.2.1,())) (
 .ret (false,y7.2.2.1,y8.2.2.1,()))
theorem Vh:cM prog f41=some ⟨61,2,Xr.er,[.t 4],[some .bool]⟩:=by kernel_rfl
noncomputable def ht41:Ht:=⟨41,pH41,qH41,(fun x=>ak (FH41 x.1 x.2.1))⟩
theorem Vi:ht41.Ok prog:=bW mixed FA rfl func41 Vh (enters_of func41 rfl rfl) Xr (by kernel_rfl) rfl rfl ⟨_,rfl⟩ rfl (pre:=[0,1,2,3]) rfl (fun x=>by kernel_rfl)

/- 8 -/
noncomputable def cx8:Cx:=(aN [UY,aaM,U4,US,Zl,U0] [TG,TE,aai,Uj,ht41])
theorem uE:cx8.Ok prog:=av ⟨C8,JZ,Dd,C7,Jp,C9,trivial⟩ ⟨⟨CI,rfl⟩,⟨CH,rfl⟩,⟨JI,rfl⟩,⟨CK,rfl⟩,⟨Vi,rfl⟩,trivial⟩
@[reducible] def p8_0:az:=az.mk [(1,.c (.hole (.int .u8))),(5,.c (.hole (.list tG))),(6,.c (.hole (.list tG))),(7,.c (.cn 0 tG)),(33,.c (.hole (.list tG))),(34,hI),(35,hI)] [(0,.arr tG false)] [.slot 7] []
@[reducible] def x8_0:bf:=[(.exit 0,az.mk [(1,.c (.hole (.int .u8))),(5,.c (.hole (.list tG))),(6,.c (.hole (.list tG))),(7,.c (.cn 0 tG))] [(0,.arr tG false)] [.slot 7] [])]
noncomputable def b8_0:D prog 186 none 0:=dO [] (pick (kd prog f8) [(0,false)]) 0
noncomputable def g8_0:Int×(List (GG))×(List (GG))×Nat×(List (GG))×Int×Int×(List (GG))×Unit→bU ((Int×(List (GG))×(List (GG))×Nat×(List (GG))×Int×Int×(List (GG))×Unit) ⊕ ((Int×(List (GG))×(List (GG))×Nat×(List (GG))×Unit))):=fun (v1,v5,v6,nv7,v33,Dt,v35,b0,_) =>
 .br (decide (v35<Dt)) (
 .nb v35 (((v33).length:Nat):Int) <|
 .bd (F34 v6 (((v33).getD (Int.toNat v35) ((bs []),(0:Int),(bs []),(bs []),(0:Int))).1,((v33).getD (Int.toNat v35) ((bs []),(0:Int),(bs []),(bs []),(0:Int))).2.1,((v33).getD (Int.toNat v35) ((bs []),(0:Int),(bs []),(bs []),(0:Int))).2.2.1,((v33).getD (Int.toNat v35) ((bs []),(0:Int),(bs []),(bs []),(0:Int))).2.2.2.1,((v33).getD (Int.toNat v35) ((bs []),(0:Int),(bs []),(bs []),(0:Int))).2.2.2.2)) fun y2 =>
 .br (((v33).getD (Int.toNat v35) ((bs []),(0:Int),(bs []),(bs []),(0:Int))).2.1==(2:Int)) (
 .br y2.2.1 (
 .nd (decide ((nv7+((((((((v33).getD (Int.toNat v35) ((bs []),(0:Int),(bs []),(bs []),(0:Int))).1,((v33).getD (Int.toNat v35) ((bs []),(0:Int),(bs []),(bs []),(0:Int))).2.1,((v33).getD (Int.toNat v35) ((bs []),(0:Int),(bs []),(bs []),(0:Int))).2.2.1,((v33).getD (Int.toNat v35) ((bs []),(0:Int),(bs []),(bs []),(0:Int))).2.2.2.1,((v33).getD (Int.toNat v35) ((bs []),(0:Int),(bs []),(bs []),(0:Int))).2.2.2.2)::[])).drop (0:Nat)).take (1:Nat))).length)<cg)) <|
 .ni (v35+(1:Int)) <|
 .ret (.inl (v1,v5,v6,(nv7+((((((((v33).getD (Int.toNat v35) ((bs []),(0:Int),(bs []),(bs []),(0:Int))).1,((v33).getD (Int.toNat v35) ((bs []),(0:Int),(bs []),(bs []),(0:Int))).2.1,((v33).getD (Int.toNat v35) ((bs []),(0:Int),(bs []),(bs []),(0:Int))).2.2.1,((v33).getD (Int.toNat v35) ((bs []),(0:Int),(bs []),(bs []),(0:Int))).2.2.2.1,((v33).getD (Int.toNat v35) ((bs []),(0:Int),(bs []),(bs []),(0:Int))).2.2.2.2)::[])).drop (0:Nat)).take (1:Nat))).length),v33,Dt,(v35+(1:Int)),((((b0).drop (0:Nat)).take nv7)++(((((((v33).getD (Int.toNat v35) ((bs []),(0:Int),(bs []),(bs []),(0:Int))).1,((v33).getD (Int.toNat v35) ((bs []),(0:Int),(bs []),(bs []),(0:Int))).2.1,((v33).getD (Int.toNat v35) ((bs []),(0:Int),(bs []),(bs []),(0:Int))).2.2.1,((v33).getD (Int.toNat v35) ((bs []),(0:Int),(bs []),(bs []),(0:Int))).2.2.2.1,((v33).getD (Int.toNat v35) ((bs []),(0:Int),(bs []),(bs []),(0:Int))).2.2.2.2)::[])).drop (0:Nat)).take (1:Nat))),()))) (
 .ni (v35+(1:Int)) <|
 .ret (.inl (v1,v5,v6,nv7,v33,Dt,(v35+(1:Int)),b0,())))) (
 .ni (v35+(1:Int)) <|
 .ret (.inl (v1,v5,v6,nv7,v33,Dt,(v35+(1:Int)),b0,())))) (
 .ret (.inr (v1,v5,v6,nv7,b0,())))
noncomputable def L8_0:bQ prog 186 none 0:=bx mixed cx8 uE [] rfl p8_0 x8_0 rfl (b8_0) (fun x=>ak (g8_0 x)) (fun x=>by kernel_rfl)
@[reducible] def p8_2:az:=az.mk [(5,.c (.hole (.list tG))),(6,.c (.hole (.list tG))),(13,.c (.ptr 0 0)),(14,.c (.cn 1 .str)),(16,.c (.ptr 2 0)),(69,.c (.hole (.list tG))),(70,hI),(71,hI),(79,.c (.ptr 2 2)),(80,.c (.hole .str)),(81,.c (.ptr 0 2)),(82,.c (.hole .str)),(83,.c (.hole .bool)),(95,.c (.hole (.list tG))),(96,hI),(97,hI)] [(0,.cells [.hole .str,.hole tI,.hole .str,.hole .str,.hole tI] false),(1,.arr .str false),(2,.cells [.hole .str,.hole tI,.hole .str,.hole .str,.hole tI] false)] [.slot 13,.slot 14,.slot 16] []
@[reducible] def x8_2:bf:=[(.ret,az.mk [(4,.c (.hole .bool))] [] [] []),(.exit 4,az.mk [(5,.c (.hole (.list tG))),(6,.c (.hole (.list tG))),(13,.c (.ptr 0 0)),(14,.c (.cn 1 .str)),(69,.c (.hole (.list tG))),(70,hI),(71,hI),(79,.c (.ptr 2 2)),(80,.c (.hole .str)),(81,.c (.ptr 0 2)),(82,.c (.hole .str)),(83,.c (.hole .bool))] [(0,.cells [.hole .str,.hole tI,.hole .str,.hole .str,.hole tI] false),(1,.arr .str false),(2,.cells [.hole .str,.hole tI,.hole .str,.hole .str,.hole tI] false)] [.slot 13,.slot 14,.slot 79] [])]
noncomputable def b8_2:D prog 186 none 0:=dO [] (pick (kd prog f8) [(1,false),(0,false)]) 0
noncomputable def g8_2:(List (GG))×(List (GG))×Nat×(List (GG))×Int×Int×ByteArray×ByteArray×Bool×(List (GG))×Int×Int×ByteArray×Int×ByteArray×ByteArray×Int×List ByteArray×ByteArray×Int×ByteArray×ByteArray×Int×Unit→bU (((List (GG))×(List (GG))×Nat×(List (GG))×Int×Int×ByteArray×ByteArray×Bool×(List (GG))×Int×Int×ByteArray×Int×ByteArray×ByteArray×Int×List ByteArray×ByteArray×Int×ByteArray×ByteArray×Int×Unit) ⊕ ((Bool×Unit) ⊕ (((List (GG))×(List (GG))×Nat×(List (GG))×Int×Int×ByteArray×ByteArray×Bool×ByteArray×Int×ByteArray×ByteArray×Int×List ByteArray×ByteArray×Int×ByteArray×ByteArray×Int×Unit)))):=fun (v5,v6,lP,qa,v70,oz,v80,v82,Xs,v95,v96,Xt,aR,bN,aY,bO,bP,b1,Vj,aa3,aa4,aa5,aa6,_) =>
 .br (decide (Xt<v96)) (
 .nb Xt (((v95).length:Nat):Int) <|
 .br (((v95).getD (Int.toNat Xt) ((bs []),(0:Int),(bs []),(bs []),(0:Int))).2.1==(3:Int)) (
 .br (seq ((v95).getD (Int.toNat Xt) ((bs []),(0:Int),(bs []),(bs []),(0:Int))).2.2.1 Vj) (
 .bd (F17) fun y6 =>
 .ret (.inr <| .inl<|(y6.1,()))) (
 .ni (Xt+(1:Int)) <|
 .ret (.inl (v5,v6,lP,qa,v70,oz,v80,v82,Xs,v95,v96,(Xt+(1:Int)),aR,bN,aY,bO,bP,b1,Vj,aa3,aa4,aa5,aa6,())))) (
 .ni (Xt+(1:Int)) <|
 .ret (.inl (v5,v6,lP,qa,v70,oz,v80,v82,Xs,v95,v96,(Xt+(1:Int)),aR,bN,aY,bO,bP,b1,Vj,aa3,aa4,aa5,aa6,())))) (
 .ret (.inr <| .inr<|(v5,v6,lP,qa,v70,oz,v80,v82,Xs,aR,bN,aY,bO,bP,b1,Vj,aa3,aa4,aa5,aa6,())))
noncomputable def L8_2:bQ prog 186 none 0:=bx mixed cx8 uE [] rfl p8_2 x8_2 rfl (b8_2) (fun x=>ak (g8_2 x)) (fun x=>by kernel_rfl)
@[reducible] def aa7:az:=az.mk [(5,.c (.hole (.list tG))),(6,.c (.hole (.list tG))),(13,.c (.ptr 0 0)),(14,.c (.cn 1 .str)),(69,.c (.hole (.list tG))),(70,hI),(71,hI)] [(0,.cells [.hole .str,.hole tI,.hole .str,.hole .str,.hole tI] false),(1,.arr .str false)] [.slot 13,.slot 14] []
@[reducible] def aa8:bf:=[(.ret,az.mk [(4,.c (.hole .bool))] [] [] []),(.exit 2,az.mk [(5,.c (.hole (.list tG))),(13,.c (.ptr 0 0)),(14,.c (.cn 1 .str))] [(0,.cells [.hole .str,.hole tI,.hole .str,.hole .str,.hole tI] false),(1,.arr .str false)] [.slot 13,.slot 14] [])]
noncomputable def b8_1:D prog 186 none 0:=dO [.l L8_2] (pick (kd prog f8) [(1,false)]) 0
noncomputable def g8_1:(List (GG))×(List (GG))×Nat×(List (GG))×Int×Int×ByteArray×Int×ByteArray×ByteArray×Int×List ByteArray×Unit→bU (((List (GG))×(List (GG))×Nat×(List (GG))×Int×Int×ByteArray×Int×ByteArray×ByteArray×Int×List ByteArray×Unit) ⊕ ((Bool×Unit) ⊕ (((List (GG))×Nat×ByteArray×Int×ByteArray×ByteArray×Int×List ByteArray×Unit)))):=fun (v5,v6,lP,qa,v70,oz,aR,bN,aY,bO,bP,b1,_) =>
 .br (decide (oz<v70)) (
 .nb oz (((qa).length:Nat):Int) <|
 .br (!(((qa).getD (Int.toNat oz) ((bs []),(0:Int),(bs []),(bs []),(0:Int))).2.1==(2:Int))) (
 .ni (oz+(1:Int)) <|
 .ret (.inl (v5,v6,lP,qa,v70,(oz+(1:Int)),aR,bN,aY,bO,bP,b1,()))) (
 .br (!(seq ((qa).getD (Int.toNat oz) ((bs []),(0:Int),(bs []),(bs []),(0:Int))).2.2.1 aY)) (
 .ni (oz+(1:Int)) <|
 .ret (.inl (v5,v6,lP,qa,v70,(oz+(1:Int)),aR,bN,aY,bO,bP,b1,()))) (
 .jx (
 .br (!(seq ((qa).getD (Int.toNat oz) ((bs []),(0:Int),(bs []),(bs []),(0:Int))).1 aR)) (
 .nd (decide ((lP+(((((((qa).getD (Int.toNat oz) ((bs []),(0:Int),(bs []),(bs []),(0:Int))).1::[])).drop (0:Nat)).take (1:Nat))).length)<cg)) <|
 .ret (.inl (v5,v6,(lP+(((((((qa).getD (Int.toNat oz) ((bs []),(0:Int),(bs []),(bs []),(0:Int))).1::[])).drop (0:Nat)).take (1:Nat))).length),qa,v70,oz,((qa).getD (Int.toNat oz) ((bs []),(0:Int),(bs []),(bs []),(0:Int))).2.2.1,aY,(!(seq ((qa).getD (Int.toNat oz) ((bs []),(0:Int),(bs []),(bs []),(0:Int))).2.2.1 aY)),aR,bN,aY,bO,bP,((((b1).drop (0:Nat)).take lP)++((((((qa).getD (Int.toNat oz) ((bs []),(0:Int),(bs []),(bs []),(0:Int))).1::[])).drop (0:Nat)).take (1:Nat))),((qa).getD (Int.toNat oz) ((bs []),(0:Int),(bs []),(bs []),(0:Int))).1,((qa).getD (Int.toNat oz) ((bs []),(0:Int),(bs []),(bs []),(0:Int))).2.1,((qa).getD (Int.toNat oz) ((bs []),(0:Int),(bs []),(bs []),(0:Int))).2.2.1,((qa).getD (Int.toNat oz) ((bs []),(0:Int),(bs []),(bs []),(0:Int))).2.2.2.1,((qa).getD (Int.toNat oz) ((bs []),(0:Int),(bs []),(bs []),(0:Int))).2.2.2.2,()))) (
 .ret (.inl (v5,v6,lP,qa,v70,oz,((qa).getD (Int.toNat oz) ((bs []),(0:Int),(bs []),(bs []),(0:Int))).2.2.1,aY,(!(seq ((qa).getD (Int.toNat oz) ((bs []),(0:Int),(bs []),(bs []),(0:Int))).2.2.1 aY)),aR,bN,aY,bO,bP,b1,((qa).getD (Int.toNat oz) ((bs []),(0:Int),(bs []),(bs []),(0:Int))).1,((qa).getD (Int.toNat oz) ((bs []),(0:Int),(bs []),(bs []),(0:Int))).2.1,((qa).getD (Int.toNat oz) ((bs []),(0:Int),(bs []),(bs []),(0:Int))).2.2.1,((qa).getD (Int.toNat oz) ((bs []),(0:Int),(bs []),(bs []),(0:Int))).2.2.2.1,((qa).getD (Int.toNat oz) ((bs []),(0:Int),(bs []),(bs []),(0:Int))).2.2.2.2,())))) fun j5 =>
 .bd (.it g8_2 (j5.1,j5.2.1,j5.2.2.1,j5.2.2.2.1,j5.2.2.2.2.1,j5.2.2.2.2.2.1,j5.2.2.2.2.2.2.1,j5.2.2.2.2.2.2.2.1,j5.2.2.2.2.2.2.2.2.1,j5.2.1,(((j5.2.1).length:Nat):Int),(0:Int),j5.2.2.2.2.2.2.2.2.2.1,j5.2.2.2.2.2.2.2.2.2.2.1,j5.2.2.2.2.2.2.2.2.2.2.2.1,j5.2.2.2.2.2.2.2.2.2.2.2.2.1,j5.2.2.2.2.2.2.2.2.2.2.2.2.2.1,j5.2.2.2.2.2.2.2.2.2.2.2.2.2.2.1,j5.2.2.2.2.2.2.2.2.2.2.2.2.2.2.2.1,j5.2.2.2.2.2.2.2.2.2.2.2.2.2.2.2.2.1,j5.2.2.2.2.2.2.2.2.2.2.2.2.2.2.2.2.2.1,j5.2.2.2.2.2.2.2.2.2.2.2.2.2.2.2.2.2.2.1,j5.2.2.2.2.2.2.2.2.2.2.2.2.2.2.2.2.2.2.2.1,())) fun z7 =>
 .sm z7 (fun z8 =>
 .ret (.inr <| .inl<|(z8.1,()))) fun z9 =>
 .ni (z9.2.2.2.2.2.1+(1:Int)) <|
 .ret (.inl (z9.1,z9.2.1,z9.2.2.1,z9.2.2.2.1,z9.2.2.2.2.1,(z9.2.2.2.2.2.1+(1:Int)),z9.2.2.2.2.2.2.2.2.2.1,z9.2.2.2.2.2.2.2.2.2.2.1,z9.2.2.2.2.2.2.2.2.2.2.2.1,z9.2.2.2.2.2.2.2.2.2.2.2.2.1,z9.2.2.2.2.2.2.2.2.2.2.2.2.2.1,z9.2.2.2.2.2.2.2.2.2.2.2.2.2.2.1,()))))) (
 .ret (.inr <| .inr<|(v5,lP,aR,bN,aY,bO,bP,b1,())))
theorem s8_1:∀x,qS (iN (aa7.T ⊕ aa8.T)) cx8 dY [] aa7 aa8 (b8_1) (fun y=>some (.inl y)) (fun b=>some (.inr b)) x=ak (g8_1 x):=fun x=>Eq.trans (b:=ak (flat (g8_1 x))) (by kernel_rfl) yB
noncomputable def L8_1:bQ prog 186 none 0:=bx mixed cx8 uE [] rfl aa7 aa8 rfl (b8_1) (fun x=>ak (g8_1 x)) (s8_1)
@[reducible] def p8_3:az:=az.mk [(13,.c (.ptr 0 0)),(14,.c (.cn 1 .str)),(19,.c (.ptr 2 0)),(20,.c (.ptr 3 0)),(124,.c (.cn 1 .str)),(125,hI),(126,hI)] [(0,.cells [.hole .str,.hole tI,.hole .str,.hole .str,.hole tI] false),(1,.arr .str false),(2,.cells [.mp 4] false),(3,.cells [.mp 5] false),(4,.map tG true .bool false),(5,.map tG true .bool false)] [.slot 13,.slot 14,.slot 19,.slot 20,.cell 2 0,.cell 3 0] []
@[reducible] def x8_3:bf:=[(.exit 6,az.mk [(13,.c (.ptr 0 0)),(14,.c (.cn 1 .str)),(19,.c (.ptr 2 0)),(20,.c (.ptr 3 0))] [(0,.cells [.hole .str,.hole tI,.hole .str,.hole .str,.hole tI] false),(1,.arr .str false),(2,.cells [.mp 4] false),(3,.cells [.mp 5] false),(4,.map tG true .bool false),(5,.map tG true .bool false)] [.slot 13,.slot 14,.slot 19,.slot 20,.cell 2 0,.cell 3 0] []),(.ret,az.mk [(4,.c (.tf false))] [] [] [])]
noncomputable def b8_3:D prog 186 none 0:=dO [] (pick (kd prog f8) [(2,false)]) 0
noncomputable def g8_3:Nat×Nat×Int×Int×ByteArray×Int×ByteArray×ByteArray×Int×List ByteArray×(List ((GG)×Bool))×(List ((GG)×Bool))×Unit→bU ((Nat×Nat×Int×Int×ByteArray×Int×ByteArray×ByteArray×Int×List ByteArray×(List ((GG)×Bool))×(List ((GG)×Bool))×Unit) ⊕ ((Nat×ByteArray×Int×ByteArray×ByteArray×Int×List ByteArray×(List ((GG)×Bool))×(List ((GG)×Bool))×Unit) ⊕ ((Unit)))):=fun (lP,Xu,v125,Mv,aR,bN,aY,bO,bP,b1,m4,m5,_) =>
 .br (decide (Mv<v125)) (
 .nb Mv ((Xu:Nat):Int) <|
 .nd (decide (((0:Nat)+(Int.toNat Mv))<(b1).length)) <|
 .bd (FH40 ((b1).getD ((0:Nat)+(Int.toNat Mv)) (bs [])) (2:Int) m5) fun Xp =>
 .br (!Xp.1) (
 .ret (.inr <| .inr<|())) (
 .ni (Mv+(1:Int)) <|
 .ret (.inl (lP,Xu,v125,(Mv+(1:Int)),aR,bN,aY,bO,bP,b1,m4,Xp.2.1,())))) (
 .ret (.inr <| .inl<|(lP,aR,bN,aY,bO,bP,b1,m4,m5,())))
noncomputable def L8_3:bQ prog 186 none 0:=bx mixed cx8 uE [] rfl p8_3 x8_3 rfl (b8_3) (fun x=>ak (g8_3 x)) (fun x=>by kernel_rfl)
@[reducible] def p8_4:az:=az.mk [(19,.c (.ptr 0 0)),(20,.c (.ptr 1 0)),(153,.c (.hole (.list .str))),(154,hI),(155,hI)] [(0,.cells [.mp 2] false),(1,.cells [.mp 3] false),(2,.map tG true .bool false),(3,.map tG true .bool false)] [.slot 19,.slot 20,.cell 0 0,.cell 1 0] []
@[reducible] def x8_4:bf:=[(.ret,az.mk [(4,.c (.tf false))] [] [] []),(.exit 8,az.mk [(19,.c (.ptr 0 0)),(20,.c (.ptr 1 0))] [(0,.cells [.mp 2] false),(1,.cells [.mp 3] false),(2,.map tG true .bool false),(3,.map tG true .bool false)] [.slot 19,.slot 20,.cell 0 0,.cell 1 0] [])]
noncomputable def b8_4:D prog 186 none 0:=dO [] (pick (kd prog f8) [(3,false)]) 0
noncomputable def g8_4:List ByteArray×Int×Int×(List ((GG)×Bool))×(List ((GG)×Bool))×Unit→bU ((List ByteArray×Int×Int×(List ((GG)×Bool))×(List ((GG)×Bool))×Unit) ⊕ ((Unit) ⊕ (((List ((GG)×Bool))×(List ((GG)×Bool))×Unit)))):=fun (uD,v154,Mw,m2,m3,_) =>
 .br (decide (Mw<v154)) (
 .nb Mw (((uD).length:Nat):Int) <|
 .bd (FH32 ((uD).getD (Int.toNat Mw) (bs [])) m2) fun y25 =>
 .bd (FH32 ((uD).getD (Int.toNat Mw) (bs [])) m3) fun y26 =>
 .br (!(y25.1==y26.1)) (
 .ret (.inr <| .inl<|())) (
 .br (!(y25.2.1==y26.2.1)) (
 .ret (.inr <| .inl<|())) (
 .ni (Mw+(1:Int)) <|
 .ret (.inl (uD,v154,(Mw+(1:Int)),y25.2.2.1,y26.2.2.1,()))))) (
 .ret (.inr <| .inr<|(m2,m3,())))
noncomputable def L8_4:bQ prog 186 none 0:=bx mixed cx8 uE [] rfl p8_4 x8_4 rfl (b8_4) (fun x=>ak (g8_4 x)) (fun x=>by kernel_rfl)
noncomputable def dd8:D prog 186 none 0:=dO [.l L8_0,.l L8_1,.l L8_3,.l L8_4] (kd prog f8) 0
noncomputable def F8 (a0:List (Int×Int×Int×Int)) (a1:Int):bU (Bool×Unit) :=
 .bd (F28 a0) fun y0 =>
 .bd (F30 y0.1) fun y1 =>
 .bd (.it g8_0 (a1,y0.1,y1.1,(0:Nat),y1.1,(((y1.1).length:Nat):Int),(0:Int),[],())) fun z3 =>
 .br (((z3.2.2.2.1:Nat):Int)==(0:Int)) (
 .bd (F17) fun y4 =>
 .ret (y4.1,())) (
 .ni z3.1 <|
 .nd (!(((z3.2.2.2.1:Nat):Int)==(0:Int))) <|
 .nb (Int.tmod z3.1 ((z3.2.2.2.1:Nat):Int)) ((z3.2.2.2.1:Nat):Int) <|
 .nd (decide (((0:Nat)+(Int.toNat (Int.tmod z3.1 ((z3.2.2.2.1:Nat):Int))))<(z3.2.2.2.2.1).length)) <|
 .bd (.it g8_1 (z3.2.1,z3.2.2.1,(0:Nat),z3.2.2.1,(((z3.2.2.1).length:Nat):Int),(0:Int),((z3.2.2.2.2.1).getD ((0:Nat)+(Int.toNat (Int.tmod z3.1 ((z3.2.2.2.1:Nat):Int)))) ((bs []),(0:Int),(bs []),(bs []),(0:Int))).1,((z3.2.2.2.2.1).getD ((0:Nat)+(Int.toNat (Int.tmod z3.1 ((z3.2.2.2.1:Nat):Int)))) ((bs []),(0:Int),(bs []),(bs []),(0:Int))).2.1,((z3.2.2.2.2.1).getD ((0:Nat)+(Int.toNat (Int.tmod z3.1 ((z3.2.2.2.1:Nat):Int)))) ((bs []),(0:Int),(bs []),(bs []),(0:Int))).2.2.1,((z3.2.2.2.2.1).getD ((0:Nat)+(Int.toNat (Int.tmod z3.1 ((z3.2.2.2.1:Nat):Int)))) ((bs []),(0:Int),(bs []),(bs []),(0:Int))).2.2.2.1,((z3.2.2.2.2.1).getD ((0:Nat)+(Int.toNat (Int.tmod z3.1 ((z3.2.2.2.1:Nat):Int)))) ((bs []),(0:Int),(bs []),(bs []),(0:Int))).2.2.2.2,[],())) fun Ge =>
 .sm Ge (fun JM =>
 .ret (JM.1,())) fun z12 =>
 .bd (FH29 z12.1) fun y13 =>
 .bd (FH29 z12.1) fun Qn =>
 .bd (F39 (bs [114,57]) z12.2.2.1) fun y15 =>
 .bd (FH20 (y15.1.1,y15.1.2.1,y15.1.2.2.1,y15.1.2.2.2.1,y15.1.2.2.2.2) Qn.1) fun y16 =>
 .br (!(y16.1==(0:Int))) (
 .ret (false,())) (
 .bd (.it g8_3 (z12.2.1,z12.2.1,((z12.2.1:Nat):Int),(0:Int),z12.2.2.1,z12.2.2.2.1,z12.2.2.2.2.1,z12.2.2.2.2.2.1,z12.2.2.2.2.2.2.1,z12.2.2.2.2.2.2.2.1,y13.1,y16.2.1,())) fun J2 =>
 .sm J2 (fun z19 =>
 .br (decide ((0:Int)<((z19.1:Nat):Int))) (
 .bd (FH40 z19.2.1 (2:Int) z19.2.2.2.2.2.2.2.2.1) fun y21 =>
 .br (!y21.1) (
 .bd (FH40 z19.2.1 (1:Int) y21.2.1) fun y22 =>
 .br (!y22.1) (
 .bd (F17) fun y23 =>
 .ret (y23.1,())) (
 .ret (false,()))) (
 .ret (false,()))) (
 .bd (F31) fun y24 =>
 .bd (.it g8_4 (y24.1,(((y24.1).length:Nat):Int),(0:Int),z19.2.2.2.2.2.2.2.1,z19.2.2.2.2.2.2.2.2.1,())) fun z27 =>
 .sm z27 (fun z28 =>
 .ret (false,())) fun z29 =>
 .bd (FH41 z29.2.1 z29.1) fun y30 =>
 .br y30.1 (
 .bd (F17) fun y31 =>
 .ret (y31.1,())) (
 .ret (false,())))) fun z20 =>
 .ret (false,())))
theorem af9:cM prog f8=some ⟨186,2,dd8.er,[.t 4],[some .bool]⟩:=by kernel_rfl
noncomputable def ct8:Ct:=⟨8,[.c (.hole (.list (.prod (.int .u8) (.prod (.int .u8) (.prod (.int .u8) (.int .u8)))))),.c (.hole (.int .u8))],.c (.hole .bool),fun x=>ak (F8 x.1 x.2.1)⟩
theorem aa9:ct8.Ok prog:=cF mixed uE func8 af9 (enters_of func8 rfl rfl) dd8 (by kernel_rfl) rfl (fun x=>by kernel_rfl)

end Go.Proofs.Tryz

