/- Functions of the program as functions of data, part 2; printed by a program of mine. -/
import Derived.Test.YthemjfloiapaaaaGreatW90
import Derived.Test.YthemjfloiapaaaaGreatProg
set_option linter.unusedSectionVars false
set_option linter.unusedVariables false
set_option linter.unusedSimpArgs false
open Go.AM
namespace Go.Proofs.Tryz
set_option maxRecDepth 100000
set_option synthInstance.maxSize 4000
set_option synthInstance.maxHeartbeats 400000


/- 77 -/
noncomputable def YT:Cx:=(aL [] [])
theorem Ca:YT.Ok prog:=ax trivial trivial
@[reducible] def adB:az:=az.mk [(0,.c (.hole (.list tG))),(3,.c (.ptr 0 0)),(5,.c (.hole .bool)),(6,.c (.hole .bool)),(7,hI),(9,.c (.ptr 1 0)),(10,.c (.hole .bool)),(13,.c (.hole (.list tG))),(14,hI),(15,hI),(49,.c (.ptr 1 2)),(50,.c (.hole .str)),(51,.c (.ptr 0 2)),(52,.c (.hole .str)),(53,.c (.hole .bool)),(56,.c (.ptr 1 0)),(57,.c (.hole .str)),(58,.c (.ptr 0 0)),(59,.c (.hole .str)),(60,.c (.hole .bool)),(62,.c (.hole (.list tG))),(63,hI),(64,hI)] [(0,.cells [.hole .str,.hole tI,.hole .str,.hole .str,.hole tI] false),(1,.cells [.hole .str,.hole tI,.hole .str,.hole .str,.hole tI] false)] [.slot 3,.slot 9] []
@[reducible] def adC:aZ:=[(.exit 2,az.mk [(0,.c (.hole (.list tG))),(3,.c (.ptr 0 0)),(5,.c (.hole .bool)),(6,.c (.hole .bool)),(7,hI),(10,.c (.hole .bool)),(13,.c (.hole (.list tG))),(14,hI),(15,hI),(50,.c (.hole .str)),(51,.c (.ptr 0 2)),(52,.c (.hole .str)),(53,.c (.hole .bool)),(57,.c (.hole .str)),(58,.c (.ptr 0 0)),(59,.c (.hole .str)),(60,.c (.hole .bool))] [(0,.cells [.hole .str,.hole tI,.hole .str,.hole .str,.hole tI] false)] [.slot 3] [])]
noncomputable def adD:D prog 95 none 0:=dO [] (pick (kd prog f77) [(0,false),(0,false)]) 0
noncomputable def g77_1:(List (GG))×Bool×Bool×Int×Bool×(List (GG))×Int×Int×ByteArray×ByteArray×Bool×ByteArray×ByteArray×Bool×(List (GG))×Int×Int×ByteArray×Int×ByteArray×ByteArray×Int×ByteArray×Int×ByteArray×ByteArray×Int×Unit→bW (((List (GG))×Bool×Bool×Int×Bool×(List (GG))×Int×Int×ByteArray×ByteArray×Bool×ByteArray×ByteArray×Bool×(List (GG))×Int×Int×ByteArray×Int×ByteArray×ByteArray×Int×ByteArray×Int×ByteArray×ByteArray×Int×Unit) ⊕ (((List (GG))×Bool×Bool×Int×Bool×(List (GG))×Int×Int×ByteArray×ByteArray×Bool×ByteArray×ByteArray×Bool×ByteArray×Int×ByteArray×ByteArray×Int×Unit))):=fun (v0,v5,v6,v7,v10,aX,kH,aI,v50,Tn,v53,To,v59,v60,ZS,v63,v64,aP,bQ,aW,bS,bT,iK,tE,uM,uN,yb,_) =>
 .br (decide (v64<v63)) (
 .nb v64 (((ZS).length:Nat):Int) <|
 .br v10 (
 .ni (v64+(1:Int)) <|
 .ret (.inl (v0,v5,v6,v7,true,aX,kH,aI,v50,Tn,v53,To,v59,v60,ZS,v63,(v64+(1:Int)),aP,bQ,aW,bS,bT,iK,tE,uM,uN,yb,()))) (
 .br (((ZS).getD (Int.toNat v64) ((bs []),(0:Int),(bs []),(bs []),(0:Int))).2.1==(3:Int)) (
 .ni (v64+(1:Int)) <|
 .ret (.inl (v0,v5,v6,v7,(seq ((ZS).getD (Int.toNat v64) ((bs []),(0:Int),(bs []),(bs []),(0:Int))).2.2.1 iK),aX,kH,aI,v50,Tn,v53,To,v59,v60,ZS,v63,(v64+(1:Int)),aP,bQ,aW,bS,bT,iK,tE,uM,uN,yb,()))) (
 .ni (v64+(1:Int)) <|
 .ret (.inl (v0,v5,v6,v7,false,aX,kH,aI,v50,Tn,v53,To,v59,v60,ZS,v63,(v64+(1:Int)),aP,bQ,aW,bS,bT,iK,tE,uM,uN,yb,()))))) (
 .ret (.inr (v0,v5,v6,v7,v10,aX,kH,aI,v50,Tn,v53,To,v59,v60,aP,bQ,aW,bS,bT,())))
noncomputable def adE:cm prog 95 none 0:=bN mixed YT Ca [] rfl adB adC rfl (adD) (fun x=>aq (g77_1 x)) (fun x=>by kernel_rfl)
@[reducible] def adF:az:=az.mk [(0,.c (.hole (.list tG))),(3,.c (.ptr 0 0)),(5,.c (.hole .bool)),(6,.c (.hole .bool)),(7,hI),(13,.c (.hole (.list tG))),(14,hI),(15,hI)] [(0,.cells [.hole .str,.hole tI,.hole .str,.hole .str,.hole tI] false)] [.slot 3] []
@[reducible] def adG:aZ:=[(.exit 0,az.mk [(5,.c (.hole .bool)),(6,.c (.hole .bool)),(7,hI)] [] [] [])]
noncomputable def adH:D prog 95 none 0:=dO [.l adE] (pick (kd prog f77) [(0,false)]) 0
noncomputable def g77_0:(List (GG))×Bool×Bool×Int×(List (GG))×Int×Int×ByteArray×Int×ByteArray×ByteArray×Int×Unit→bW (((List (GG))×Bool×Bool×Int×(List (GG))×Int×Int×ByteArray×Int×ByteArray×ByteArray×Int×Unit) ⊕ ((Bool×Bool×Int×Unit))):=fun (v0,v5,v6,v7,aX,kH,aI,aP,bQ,aW,bS,bT,_) =>
 .br (decide (aI<kH)) (
 .nb aI (((aX).length:Nat):Int) <|
 .br v5 (
 .br v6 (
 .br (!(((aX).getD (Int.toNat aI) ((bs []),(0:Int),(bs []),(bs []),(0:Int))).2.1==(2:Int))) (
 .ni (aI+(1:Int)) <|
 .ret (.inl (v0,true,true,v7,aX,kH,(aI+(1:Int)),aP,bQ,aW,bS,bT,()))) (
 .br (!(seq ((aX).getD (Int.toNat aI) ((bs []),(0:Int),(bs []),(bs []),(0:Int))).2.2.1 aW)) (
 .ni (aI+(1:Int)) <|
 .ret (.inl (v0,true,true,v7,aX,kH,(aI+(1:Int)),aP,bQ,aW,bS,bT,()))) (
 .br (seq ((aX).getD (Int.toNat aI) ((bs []),(0:Int),(bs []),(bs []),(0:Int))).1 aP) (
 .ni (aI+(1:Int)) <|
 .ret (.inl (v0,true,true,v7,aX,kH,(aI+(1:Int)),aP,bQ,aW,bS,bT,()))) (
 .bd (.it g77_1 (v0,true,true,v7,false,aX,kH,aI,((aX).getD (Int.toNat aI) ((bs []),(0:Int),(bs []),(bs []),(0:Int))).2.2.1,aW,(!(seq ((aX).getD (Int.toNat aI) ((bs []),(0:Int),(bs []),(bs []),(0:Int))).2.2.1 aW)),((aX).getD (Int.toNat aI) ((bs []),(0:Int),(bs []),(bs []),(0:Int))).1,aP,(seq ((aX).getD (Int.toNat aI) ((bs []),(0:Int),(bs []),(bs []),(0:Int))).1 aP),v0,(((v0).length:Nat):Int),(0:Int),aP,bQ,aW,bS,bT,((aX).getD (Int.toNat aI) ((bs []),(0:Int),(bs []),(bs []),(0:Int))).1,((aX).getD (Int.toNat aI) ((bs []),(0:Int),(bs []),(bs []),(0:Int))).2.1,((aX).getD (Int.toNat aI) ((bs []),(0:Int),(bs []),(bs []),(0:Int))).2.2.1,((aX).getD (Int.toNat aI) ((bs []),(0:Int),(bs []),(bs []),(0:Int))).2.2.2.1,((aX).getD (Int.toNat aI) ((bs []),(0:Int),(bs []),(bs []),(0:Int))).2.2.2.2,())) fun z0 =>
 .br z0.2.2.2.2.1 (
 .ni (z0.2.2.2.1+(1:Int)) <|
 .ni (z0.2.2.2.2.2.2.2.1+(1:Int)) <|
 .ret (.inl (z0.1,z0.2.1,z0.2.2.1,(z0.2.2.2.1+(1:Int)),z0.2.2.2.2.2.1,z0.2.2.2.2.2.2.1,(z0.2.2.2.2.2.2.2.1+(1:Int)),z0.2.2.2.2.2.2.2.2.2.2.2.2.2.2.1,z0.2.2.2.2.2.2.2.2.2.2.2.2.2.2.2.1,z0.2.2.2.2.2.2.2.2.2.2.2.2.2.2.2.2.1,z0.2.2.2.2.2.2.2.2.2.2.2.2.2.2.2.2.2.1,z0.2.2.2.2.2.2.2.2.2.2.2.2.2.2.2.2.2.2.1,()))) (
 .ni (z0.2.2.2.2.2.2.2.1+(1:Int)) <|
 .ret (.inl (z0.1,z0.2.1,z0.2.2.1,z0.2.2.2.1,z0.2.2.2.2.2.1,z0.2.2.2.2.2.2.1,(z0.2.2.2.2.2.2.2.1+(1:Int)),z0.2.2.2.2.2.2.2.2.2.2.2.2.2.2.1,z0.2.2.2.2.2.2.2.2.2.2.2.2.2.2.2.1,z0.2.2.2.2.2.2.2.2.2.2.2.2.2.2.2.2.1,z0.2.2.2.2.2.2.2.2.2.2.2.2.2.2.2.2.2.1,z0.2.2.2.2.2.2.2.2.2.2.2.2.2.2.2.2.2.2.1,()))))))) (
 .br (((aX).getD (Int.toNat aI) ((bs []),(0:Int),(bs []),(bs []),(0:Int))).2.1==(3:Int)) (
 .br (!(((aX).getD (Int.toNat aI) ((bs []),(0:Int),(bs []),(bs []),(0:Int))).2.1==(2:Int))) (
 .ni (aI+(1:Int)) <|
 .ret (.inl (v0,true,(seq ((aX).getD (Int.toNat aI) ((bs []),(0:Int),(bs []),(bs []),(0:Int))).2.2.1 aP),v7,aX,kH,(aI+(1:Int)),aP,bQ,aW,bS,bT,()))) (
 .br (!(seq ((aX).getD (Int.toNat aI) ((bs []),(0:Int),(bs []),(bs []),(0:Int))).2.2.1 aW)) (
 .ni (aI+(1:Int)) <|
 .ret (.inl (v0,true,(seq ((aX).getD (Int.toNat aI) ((bs []),(0:Int),(bs []),(bs []),(0:Int))).2.2.1 aP),v7,aX,kH,(aI+(1:Int)),aP,bQ,aW,bS,bT,()))) (
 .br (seq ((aX).getD (Int.toNat aI) ((bs []),(0:Int),(bs []),(bs []),(0:Int))).1 aP) (
 .ni (aI+(1:Int)) <|
 .ret (.inl (v0,true,(seq ((aX).getD (Int.toNat aI) ((bs []),(0:Int),(bs []),(bs []),(0:Int))).2.2.1 aP),v7,aX,kH,(aI+(1:Int)),aP,bQ,aW,bS,bT,()))) (
 .bd (.it g77_1 (v0,true,(seq ((aX).getD (Int.toNat aI) ((bs []),(0:Int),(bs []),(bs []),(0:Int))).2.2.1 aP),v7,false,aX,kH,aI,((aX).getD (Int.toNat aI) ((bs []),(0:Int),(bs []),(bs []),(0:Int))).2.2.1,aW,(!(seq ((aX).getD (Int.toNat aI) ((bs []),(0:Int),(bs []),(bs []),(0:Int))).2.2.1 aW)),((aX).getD (Int.toNat aI) ((bs []),(0:Int),(bs []),(bs []),(0:Int))).1,aP,(seq ((aX).getD (Int.toNat aI) ((bs []),(0:Int),(bs []),(bs []),(0:Int))).1 aP),v0,(((v0).length:Nat):Int),(0:Int),aP,bQ,aW,bS,bT,((aX).getD (Int.toNat aI) ((bs []),(0:Int),(bs []),(bs []),(0:Int))).1,((aX).getD (Int.toNat aI) ((bs []),(0:Int),(bs []),(bs []),(0:Int))).2.1,((aX).getD (Int.toNat aI) ((bs []),(0:Int),(bs []),(bs []),(0:Int))).2.2.1,((aX).getD (Int.toNat aI) ((bs []),(0:Int),(bs []),(bs []),(0:Int))).2.2.2.1,((aX).getD (Int.toNat aI) ((bs []),(0:Int),(bs []),(bs []),(0:Int))).2.2.2.2,())) fun z1 =>
 .br z1.2.2.2.2.1 (
 .ni (z1.2.2.2.1+(1:Int)) <|
 .ni (z1.2.2.2.2.2.2.2.1+(1:Int)) <|
 .ret (.inl (z1.1,z1.2.1,z1.2.2.1,(z1.2.2.2.1+(1:Int)),z1.2.2.2.2.2.1,z1.2.2.2.2.2.2.1,(z1.2.2.2.2.2.2.2.1+(1:Int)),z1.2.2.2.2.2.2.2.2.2.2.2.2.2.2.1,z1.2.2.2.2.2.2.2.2.2.2.2.2.2.2.2.1,z1.2.2.2.2.2.2.2.2.2.2.2.2.2.2.2.2.1,z1.2.2.2.2.2.2.2.2.2.2.2.2.2.2.2.2.2.1,z1.2.2.2.2.2.2.2.2.2.2.2.2.2.2.2.2.2.2.1,()))) (
 .ni (z1.2.2.2.2.2.2.2.1+(1:Int)) <|
 .ret (.inl (z1.1,z1.2.1,z1.2.2.1,z1.2.2.2.1,z1.2.2.2.2.2.1,z1.2.2.2.2.2.2.1,(z1.2.2.2.2.2.2.2.1+(1:Int)),z1.2.2.2.2.2.2.2.2.2.2.2.2.2.2.1,z1.2.2.2.2.2.2.2.2.2.2.2.2.2.2.2.1,z1.2.2.2.2.2.2.2.2.2.2.2.2.2.2.2.2.1,z1.2.2.2.2.2.2.2.2.2.2.2.2.2.2.2.2.2.1,z1.2.2.2.2.2.2.2.2.2.2.2.2.2.2.2.2.2.2.1,()))))))) (
 .br (!(((aX).getD (Int.toNat aI) ((bs []),(0:Int),(bs []),(bs []),(0:Int))).2.1==(2:Int))) (
 .ni (aI+(1:Int)) <|
 .ret (.inl (v0,true,false,v7,aX,kH,(aI+(1:Int)),aP,bQ,aW,bS,bT,()))) (
 .br (!(seq ((aX).getD (Int.toNat aI) ((bs []),(0:Int),(bs []),(bs []),(0:Int))).2.2.1 aW)) (
 .ni (aI+(1:Int)) <|
 .ret (.inl (v0,true,false,v7,aX,kH,(aI+(1:Int)),aP,bQ,aW,bS,bT,()))) (
 .br (seq ((aX).getD (Int.toNat aI) ((bs []),(0:Int),(bs []),(bs []),(0:Int))).1 aP) (
 .ni (aI+(1:Int)) <|
 .ret (.inl (v0,true,false,v7,aX,kH,(aI+(1:Int)),aP,bQ,aW,bS,bT,()))) (
 .bd (.it g77_1 (v0,true,false,v7,false,aX,kH,aI,((aX).getD (Int.toNat aI) ((bs []),(0:Int),(bs []),(bs []),(0:Int))).2.2.1,aW,(!(seq ((aX).getD (Int.toNat aI) ((bs []),(0:Int),(bs []),(bs []),(0:Int))).2.2.1 aW)),((aX).getD (Int.toNat aI) ((bs []),(0:Int),(bs []),(bs []),(0:Int))).1,aP,(seq ((aX).getD (Int.toNat aI) ((bs []),(0:Int),(bs []),(bs []),(0:Int))).1 aP),v0,(((v0).length:Nat):Int),(0:Int),aP,bQ,aW,bS,bT,((aX).getD (Int.toNat aI) ((bs []),(0:Int),(bs []),(bs []),(0:Int))).1,((aX).getD (Int.toNat aI) ((bs []),(0:Int),(bs []),(bs []),(0:Int))).2.1,((aX).getD (Int.toNat aI) ((bs []),(0:Int),(bs []),(bs []),(0:Int))).2.2.1,((aX).getD (Int.toNat aI) ((bs []),(0:Int),(bs []),(bs []),(0:Int))).2.2.2.1,((aX).getD (Int.toNat aI) ((bs []),(0:Int),(bs []),(bs []),(0:Int))).2.2.2.2,())) fun z2 =>
 .br z2.2.2.2.2.1 (
 .ni (z2.2.2.2.1+(1:Int)) <|
 .ni (z2.2.2.2.2.2.2.2.1+(1:Int)) <|
 .ret (.inl (z2.1,z2.2.1,z2.2.2.1,(z2.2.2.2.1+(1:Int)),z2.2.2.2.2.2.1,z2.2.2.2.2.2.2.1,(z2.2.2.2.2.2.2.2.1+(1:Int)),z2.2.2.2.2.2.2.2.2.2.2.2.2.2.2.1,z2.2.2.2.2.2.2.2.2.2.2.2.2.2.2.2.1,z2.2.2.2.2.2.2.2.2.2.2.2.2.2.2.2.2.1,z2.2.2.2.2.2.2.2.2.2.2.2.2.2.2.2.2.2.1,z2.2.2.2.2.2.2.2.2.2.2.2.2.2.2.2.2.2.2.1,()))) (
 .ni (z2.2.2.2.2.2.2.2.1+(1:Int)) <|
 .ret (.inl (z2.1,z2.2.1,z2.2.2.1,z2.2.2.2.1,z2.2.2.2.2.2.1,z2.2.2.2.2.2.2.1,(z2.2.2.2.2.2.2.2.1+(1:Int)),z2.2.2.2.2.2.2.2.2.2.2.2.2.2.2.1,z2.2.2.2.2.2.2.2.2.2.2.2.2.2.2.2.1,z2.2.2.2.2.2.2.2.2.2.2.2.2.2.2.2.2.1,z2.2.2.2.2.2.2.2.2.2.2.2.2.2.2.2.2.2.1,z2.2.2.2.2.2.2.2.2.2.2.2.2.2.2.2.2.2.2.1,()))))))))) (
 .br (seq ((aX).getD (Int.toNat aI) ((bs []),(0:Int),(bs []),(bs []),(0:Int))).1 aW) (
 .br v6 (
 .br (!(((aX).getD (Int.toNat aI) ((bs []),(0:Int),(bs []),(bs []),(0:Int))).2.1==(2:Int))) (
 .ni (aI+(1:Int)) <|
 .ret (.inl (v0,(!(((aX).getD (Int.toNat aI) ((bs []),(0:Int),(bs []),(bs []),(0:Int))).2.1==(3:Int))),true,v7,aX,kH,(aI+(1:Int)),aP,bQ,aW,bS,bT,()))) (
 .br (!(seq ((aX).getD (Int.toNat aI) ((bs []),(0:Int),(bs []),(bs []),(0:Int))).2.2.1 aW)) (
 .ni (aI+(1:Int)) <|
 .ret (.inl (v0,(!(((aX).getD (Int.toNat aI) ((bs []),(0:Int),(bs []),(bs []),(0:Int))).2.1==(3:Int))),true,v7,aX,kH,(aI+(1:Int)),aP,bQ,aW,bS,bT,()))) (
 .br (seq ((aX).getD (Int.toNat aI) ((bs []),(0:Int),(bs []),(bs []),(0:Int))).1 aP) (
 .ni (aI+(1:Int)) <|
 .ret (.inl (v0,(!(((aX).getD (Int.toNat aI) ((bs []),(0:Int),(bs []),(bs []),(0:Int))).2.1==(3:Int))),true,v7,aX,kH,(aI+(1:Int)),aP,bQ,aW,bS,bT,()))) (
 .bd (.it g77_1 (v0,(!(((aX).getD (Int.toNat aI) ((bs []),(0:Int),(bs []),(bs []),(0:Int))).2.1==(3:Int))),true,v7,false,aX,kH,aI,((aX).getD (Int.toNat aI) ((bs []),(0:Int),(bs []),(bs []),(0:Int))).2.2.1,aW,(!(seq ((aX).getD (Int.toNat aI) ((bs []),(0:Int),(bs []),(bs []),(0:Int))).2.2.1 aW)),((aX).getD (Int.toNat aI) ((bs []),(0:Int),(bs []),(bs []),(0:Int))).1,aP,(seq ((aX).getD (Int.toNat aI) ((bs []),(0:Int),(bs []),(bs []),(0:Int))).1 aP),v0,(((v0).length:Nat):Int),(0:Int),aP,bQ,aW,bS,bT,((aX).getD (Int.toNat aI) ((bs []),(0:Int),(bs []),(bs []),(0:Int))).1,((aX).getD (Int.toNat aI) ((bs []),(0:Int),(bs []),(bs []),(0:Int))).2.1,((aX).getD (Int.toNat aI) ((bs []),(0:Int),(bs []),(bs []),(0:Int))).2.2.1,((aX).getD (Int.toNat aI) ((bs []),(0:Int),(bs []),(bs []),(0:Int))).2.2.2.1,((aX).getD (Int.toNat aI) ((bs []),(0:Int),(bs []),(bs []),(0:Int))).2.2.2.2,())) fun z3 =>
 .br z3.2.2.2.2.1 (
 .ni (z3.2.2.2.1+(1:Int)) <|
 .ni (z3.2.2.2.2.2.2.2.1+(1:Int)) <|
 .ret (.inl (z3.1,z3.2.1,z3.2.2.1,(z3.2.2.2.1+(1:Int)),z3.2.2.2.2.2.1,z3.2.2.2.2.2.2.1,(z3.2.2.2.2.2.2.2.1+(1:Int)),z3.2.2.2.2.2.2.2.2.2.2.2.2.2.2.1,z3.2.2.2.2.2.2.2.2.2.2.2.2.2.2.2.1,z3.2.2.2.2.2.2.2.2.2.2.2.2.2.2.2.2.1,z3.2.2.2.2.2.2.2.2.2.2.2.2.2.2.2.2.2.1,z3.2.2.2.2.2.2.2.2.2.2.2.2.2.2.2.2.2.2.1,()))) (
 .ni (z3.2.2.2.2.2.2.2.1+(1:Int)) <|
 .ret (.inl (z3.1,z3.2.1,z3.2.2.1,z3.2.2.2.1,z3.2.2.2.2.2.1,z3.2.2.2.2.2.2.1,(z3.2.2.2.2.2.2.2.1+(1:Int)),z3.2.2.2.2.2.2.2.2.2.2.2.2.2.2.1,z3.2.2.2.2.2.2.2.2.2.2.2.2.2.2.2.1,z3.2.2.2.2.2.2.2.2.2.2.2.2.2.2.2.2.1,z3.2.2.2.2.2.2.2.2.2.2.2.2.2.2.2.2.2.1,z3.2.2.2.2.2.2.2.2.2.2.2.2.2.2.2.2.2.2.1,()))))))) (
 .br (((aX).getD (Int.toNat aI) ((bs []),(0:Int),(bs []),(bs []),(0:Int))).2.1==(3:Int)) (
 .br (!(((aX).getD (Int.toNat aI) ((bs []),(0:Int),(bs []),(bs []),(0:Int))).2.1==(2:Int))) (
 .ni (aI+(1:Int)) <|
 .ret (.inl (v0,(!(((aX).getD (Int.toNat aI) ((bs []),(0:Int),(bs []),(bs []),(0:Int))).2.1==(3:Int))),(seq ((aX).getD (Int.toNat aI) ((bs []),(0:Int),(bs []),(bs []),(0:Int))).2.2.1 aP),v7,aX,kH,(aI+(1:Int)),aP,bQ,aW,bS,bT,()))) (
 .br (!(seq ((aX).getD (Int.toNat aI) ((bs []),(0:Int),(bs []),(bs []),(0:Int))).2.2.1 aW)) (
 .ni (aI+(1:Int)) <|
 .ret (.inl (v0,(!(((aX).getD (Int.toNat aI) ((bs []),(0:Int),(bs []),(bs []),(0:Int))).2.1==(3:Int))),(seq ((aX).getD (Int.toNat aI) ((bs []),(0:Int),(bs []),(bs []),(0:Int))).2.2.1 aP),v7,aX,kH,(aI+(1:Int)),aP,bQ,aW,bS,bT,()))) (
 .br (seq ((aX).getD (Int.toNat aI) ((bs []),(0:Int),(bs []),(bs []),(0:Int))).1 aP) (
 .ni (aI+(1:Int)) <|
 .ret (.inl (v0,(!(((aX).getD (Int.toNat aI) ((bs []),(0:Int),(bs []),(bs []),(0:Int))).2.1==(3:Int))),(seq ((aX).getD (Int.toNat aI) ((bs []),(0:Int),(bs []),(bs []),(0:Int))).2.2.1 aP),v7,aX,kH,(aI+(1:Int)),aP,bQ,aW,bS,bT,()))) (
 .bd (.it g77_1 (v0,(!(((aX).getD (Int.toNat aI) ((bs []),(0:Int),(bs []),(bs []),(0:Int))).2.1==(3:Int))),(seq ((aX).getD (Int.toNat aI) ((bs []),(0:Int),(bs []),(bs []),(0:Int))).2.2.1 aP),v7,false,aX,kH,aI,((aX).getD (Int.toNat aI) ((bs []),(0:Int),(bs []),(bs []),(0:Int))).2.2.1,aW,(!(seq ((aX).getD (Int.toNat aI) ((bs []),(0:Int),(bs []),(bs []),(0:Int))).2.2.1 aW)),((aX).getD (Int.toNat aI) ((bs []),(0:Int),(bs []),(bs []),(0:Int))).1,aP,(seq ((aX).getD (Int.toNat aI) ((bs []),(0:Int),(bs []),(bs []),(0:Int))).1 aP),v0,(((v0).length:Nat):Int),(0:Int),aP,bQ,aW,bS,bT,((aX).getD (Int.toNat aI) ((bs []),(0:Int),(bs []),(bs []),(0:Int))).1,((aX).getD (Int.toNat aI) ((bs []),(0:Int),(bs []),(bs []),(0:Int))).2.1,((aX).getD (Int.toNat aI) ((bs []),(0:Int),(bs []),(bs []),(0:Int))).2.2.1,((aX).getD (Int.toNat aI) ((bs []),(0:Int),(bs []),(bs []),(0:Int))).2.2.2.1,((aX).getD (Int.toNat aI) ((bs []),(0:Int),(bs []),(bs []),(0:Int))).2.2.2.2,())) fun z4 =>
 .br z4.2.2.2.2.1 (
 .ni (z4.2.2.2.1+(1:Int)) <|
 .ni (z4.2.2.2.2.2.2.2.1+(1:Int)) <|
 .ret (.inl (z4.1,z4.2.1,z4.2.2.1,(z4.2.2.2.1+(1:Int)),z4.2.2.2.2.2.1,z4.2.2.2.2.2.2.1,(z4.2.2.2.2.2.2.2.1+(1:Int)),z4.2.2.2.2.2.2.2.2.2.2.2.2.2.2.1,z4.2.2.2.2.2.2.2.2.2.2.2.2.2.2.2.1,z4.2.2.2.2.2.2.2.2.2.2.2.2.2.2.2.2.1,z4.2.2.2.2.2.2.2.2.2.2.2.2.2.2.2.2.2.1,z4.2.2.2.2.2.2.2.2.2.2.2.2.2.2.2.2.2.2.1,()))) (
 .ni (z4.2.2.2.2.2.2.2.1+(1:Int)) <|
 .ret (.inl (z4.1,z4.2.1,z4.2.2.1,z4.2.2.2.1,z4.2.2.2.2.2.1,z4.2.2.2.2.2.2.1,(z4.2.2.2.2.2.2.2.1+(1:Int)),z4.2.2.2.2.2.2.2.2.2.2.2.2.2.2.1,z4.2.2.2.2.2.2.2.2.2.2.2.2.2.2.2.1,z4.2.2.2.2.2.2.2.2.2.2.2.2.2.2.2.2.1,z4.2.2.2.2.2.2.2.2.2.2.2.2.2.2.2.2.2.1,z4.2.2.2.2.2.2.2.2.2.2.2.2.2.2.2.2.2.2.1,()))))))) (
 .br (!(((aX).getD (Int.toNat aI) ((bs []),(0:Int),(bs []),(bs []),(0:Int))).2.1==(2:Int))) (
 .ni (aI+(1:Int)) <|
 .ret (.inl (v0,(!(((aX).getD (Int.toNat aI) ((bs []),(0:Int),(bs []),(bs []),(0:Int))).2.1==(3:Int))),false,v7,aX,kH,(aI+(1:Int)),aP,bQ,aW,bS,bT,()))) (
 .br (!(seq ((aX).getD (Int.toNat aI) ((bs []),(0:Int),(bs []),(bs []),(0:Int))).2.2.1 aW)) (
 .ni (aI+(1:Int)) <|
 .ret (.inl (v0,(!(((aX).getD (Int.toNat aI) ((bs []),(0:Int),(bs []),(bs []),(0:Int))).2.1==(3:Int))),false,v7,aX,kH,(aI+(1:Int)),aP,bQ,aW,bS,bT,()))) (
 .br (seq ((aX).getD (Int.toNat aI) ((bs []),(0:Int),(bs []),(bs []),(0:Int))).1 aP) (
 .ni (aI+(1:Int)) <|
 .ret (.inl (v0,(!(((aX).getD (Int.toNat aI) ((bs []),(0:Int),(bs []),(bs []),(0:Int))).2.1==(3:Int))),false,v7,aX,kH,(aI+(1:Int)),aP,bQ,aW,bS,bT,()))) (
 .bd (.it g77_1 (v0,(!(((aX).getD (Int.toNat aI) ((bs []),(0:Int),(bs []),(bs []),(0:Int))).2.1==(3:Int))),false,v7,false,aX,kH,aI,((aX).getD (Int.toNat aI) ((bs []),(0:Int),(bs []),(bs []),(0:Int))).2.2.1,aW,(!(seq ((aX).getD (Int.toNat aI) ((bs []),(0:Int),(bs []),(bs []),(0:Int))).2.2.1 aW)),((aX).getD (Int.toNat aI) ((bs []),(0:Int),(bs []),(bs []),(0:Int))).1,aP,(seq ((aX).getD (Int.toNat aI) ((bs []),(0:Int),(bs []),(bs []),(0:Int))).1 aP),v0,(((v0).length:Nat):Int),(0:Int),aP,bQ,aW,bS,bT,((aX).getD (Int.toNat aI) ((bs []),(0:Int),(bs []),(bs []),(0:Int))).1,((aX).getD (Int.toNat aI) ((bs []),(0:Int),(bs []),(bs []),(0:Int))).2.1,((aX).getD (Int.toNat aI) ((bs []),(0:Int),(bs []),(bs []),(0:Int))).2.2.1,((aX).getD (Int.toNat aI) ((bs []),(0:Int),(bs []),(bs []),(0:Int))).2.2.2.1,((aX).getD (Int.toNat aI) ((bs []),(0:Int),(bs []),(bs []),(0:Int))).2.2.2.2,())) fun z5 =>
 .br z5.2.2.2.2.1 (
 .ni (z5.2.2.2.1+(1:Int)) <|
 .ni (z5.2.2.2.2.2.2.2.1+(1:Int)) <|
 .ret (.inl (z5.1,z5.2.1,z5.2.2.1,(z5.2.2.2.1+(1:Int)),z5.2.2.2.2.2.1,z5.2.2.2.2.2.2.1,(z5.2.2.2.2.2.2.2.1+(1:Int)),z5.2.2.2.2.2.2.2.2.2.2.2.2.2.2.1,z5.2.2.2.2.2.2.2.2.2.2.2.2.2.2.2.1,z5.2.2.2.2.2.2.2.2.2.2.2.2.2.2.2.2.1,z5.2.2.2.2.2.2.2.2.2.2.2.2.2.2.2.2.2.1,z5.2.2.2.2.2.2.2.2.2.2.2.2.2.2.2.2.2.2.1,()))) (
 .ni (z5.2.2.2.2.2.2.2.1+(1:Int)) <|
 .ret (.inl (z5.1,z5.2.1,z5.2.2.1,z5.2.2.2.1,z5.2.2.2.2.2.1,z5.2.2.2.2.2.2.1,(z5.2.2.2.2.2.2.2.1+(1:Int)),z5.2.2.2.2.2.2.2.2.2.2.2.2.2.2.1,z5.2.2.2.2.2.2.2.2.2.2.2.2.2.2.2.1,z5.2.2.2.2.2.2.2.2.2.2.2.2.2.2.2.2.1,z5.2.2.2.2.2.2.2.2.2.2.2.2.2.2.2.2.2.1,z5.2.2.2.2.2.2.2.2.2.2.2.2.2.2.2.2.2.2.1,()))))))))) (
 .br v6 (
 .br (!(((aX).getD (Int.toNat aI) ((bs []),(0:Int),(bs []),(bs []),(0:Int))).2.1==(2:Int))) (
 .ni (aI+(1:Int)) <|
 .ret (.inl (v0,false,true,v7,aX,kH,(aI+(1:Int)),aP,bQ,aW,bS,bT,()))) (
 .br (!(seq ((aX).getD (Int.toNat aI) ((bs []),(0:Int),(bs []),(bs []),(0:Int))).2.2.1 aW)) (
 .ni (aI+(1:Int)) <|
 .ret (.inl (v0,false,true,v7,aX,kH,(aI+(1:Int)),aP,bQ,aW,bS,bT,()))) (
 .br (seq ((aX).getD (Int.toNat aI) ((bs []),(0:Int),(bs []),(bs []),(0:Int))).1 aP) (
 .ni (aI+(1:Int)) <|
 .ret (.inl (v0,false,true,v7,aX,kH,(aI+(1:Int)),aP,bQ,aW,bS,bT,()))) (
 .bd (.it g77_1 (v0,false,true,v7,false,aX,kH,aI,((aX).getD (Int.toNat aI) ((bs []),(0:Int),(bs []),(bs []),(0:Int))).2.2.1,aW,(!(seq ((aX).getD (Int.toNat aI) ((bs []),(0:Int),(bs []),(bs []),(0:Int))).2.2.1 aW)),((aX).getD (Int.toNat aI) ((bs []),(0:Int),(bs []),(bs []),(0:Int))).1,aP,(seq ((aX).getD (Int.toNat aI) ((bs []),(0:Int),(bs []),(bs []),(0:Int))).1 aP),v0,(((v0).length:Nat):Int),(0:Int),aP,bQ,aW,bS,bT,((aX).getD (Int.toNat aI) ((bs []),(0:Int),(bs []),(bs []),(0:Int))).1,((aX).getD (Int.toNat aI) ((bs []),(0:Int),(bs []),(bs []),(0:Int))).2.1,((aX).getD (Int.toNat aI) ((bs []),(0:Int),(bs []),(bs []),(0:Int))).2.2.1,((aX).getD (Int.toNat aI) ((bs []),(0:Int),(bs []),(bs []),(0:Int))).2.2.2.1,((aX).getD (Int.toNat aI) ((bs []),(0:Int),(bs []),(bs []),(0:Int))).2.2.2.2,())) fun z6 =>
 .br z6.2.2.2.2.1 (
 .ni (z6.2.2.2.1+(1:Int)) <|
 .ni (z6.2.2.2.2.2.2.2.1+(1:Int)) <|
 .ret (.inl (z6.1,z6.2.1,z6.2.2.1,(z6.2.2.2.1+(1:Int)),z6.2.2.2.2.2.1,z6.2.2.2.2.2.2.1,(z6.2.2.2.2.2.2.2.1+(1:Int)),z6.2.2.2.2.2.2.2.2.2.2.2.2.2.2.1,z6.2.2.2.2.2.2.2.2.2.2.2.2.2.2.2.1,z6.2.2.2.2.2.2.2.2.2.2.2.2.2.2.2.2.1,z6.2.2.2.2.2.2.2.2.2.2.2.2.2.2.2.2.2.1,z6.2.2.2.2.2.2.2.2.2.2.2.2.2.2.2.2.2.2.1,()))) (
 .ni (z6.2.2.2.2.2.2.2.1+(1:Int)) <|
 .ret (.inl (z6.1,z6.2.1,z6.2.2.1,z6.2.2.2.1,z6.2.2.2.2.2.1,z6.2.2.2.2.2.2.1,(z6.2.2.2.2.2.2.2.1+(1:Int)),z6.2.2.2.2.2.2.2.2.2.2.2.2.2.2.1,z6.2.2.2.2.2.2.2.2.2.2.2.2.2.2.2.1,z6.2.2.2.2.2.2.2.2.2.2.2.2.2.2.2.2.1,z6.2.2.2.2.2.2.2.2.2.2.2.2.2.2.2.2.2.1,z6.2.2.2.2.2.2.2.2.2.2.2.2.2.2.2.2.2.2.1,()))))))) (
 .br (((aX).getD (Int.toNat aI) ((bs []),(0:Int),(bs []),(bs []),(0:Int))).2.1==(3:Int)) (
 .br (!(((aX).getD (Int.toNat aI) ((bs []),(0:Int),(bs []),(bs []),(0:Int))).2.1==(2:Int))) (
 .ni (aI+(1:Int)) <|
 .ret (.inl (v0,false,(seq ((aX).getD (Int.toNat aI) ((bs []),(0:Int),(bs []),(bs []),(0:Int))).2.2.1 aP),v7,aX,kH,(aI+(1:Int)),aP,bQ,aW,bS,bT,()))) (
 .br (!(seq ((aX).getD (Int.toNat aI) ((bs []),(0:Int),(bs []),(bs []),(0:Int))).2.2.1 aW)) (
 .ni (aI+(1:Int)) <|
 .ret (.inl (v0,false,(seq ((aX).getD (Int.toNat aI) ((bs []),(0:Int),(bs []),(bs []),(0:Int))).2.2.1 aP),v7,aX,kH,(aI+(1:Int)),aP,bQ,aW,bS,bT,()))) (
 .br (seq ((aX).getD (Int.toNat aI) ((bs []),(0:Int),(bs []),(bs []),(0:Int))).1 aP) (
 .ni (aI+(1:Int)) <|
 .ret (.inl (v0,false,(seq ((aX).getD (Int.toNat aI) ((bs []),(0:Int),(bs []),(bs []),(0:Int))).2.2.1 aP),v7,aX,kH,(aI+(1:Int)),aP,bQ,aW,bS,bT,()))) (
 .bd (.it g77_1 (v0,false,(seq ((aX).getD (Int.toNat aI) ((bs []),(0:Int),(bs []),(bs []),(0:Int))).2.2.1 aP),v7,false,aX,kH,aI,((aX).getD (Int.toNat aI) ((bs []),(0:Int),(bs []),(bs []),(0:Int))).2.2.1,aW,(!(seq ((aX).getD (Int.toNat aI) ((bs []),(0:Int),(bs []),(bs []),(0:Int))).2.2.1 aW)),((aX).getD (Int.toNat aI) ((bs []),(0:Int),(bs []),(bs []),(0:Int))).1,aP,(seq ((aX).getD (Int.toNat aI) ((bs []),(0:Int),(bs []),(bs []),(0:Int))).1 aP),v0,(((v0).length:Nat):Int),(0:Int),aP,bQ,aW,bS,bT,((aX).getD (Int.toNat aI) ((bs []),(0:Int),(bs []),(bs []),(0:Int))).1,((aX).getD (Int.toNat aI) ((bs []),(0:Int),(bs []),(bs []),(0:Int))).2.1,((aX).getD (Int.toNat aI) ((bs []),(0:Int),(bs []),(bs []),(0:Int))).2.2.1,((aX).getD (Int.toNat aI) ((bs []),(0:Int),(bs []),(bs []),(0:Int))).2.2.2.1,((aX).getD (Int.toNat aI) ((bs []),(0:Int),(bs []),(bs []),(0:Int))).2.2.2.2,())) fun z7 =>
 .br z7.2.2.2.2.1 (
 .ni (z7.2.2.2.1+(1:Int)) <|
 .ni (z7.2.2.2.2.2.2.2.1+(1:Int)) <|
 .ret (.inl (z7.1,z7.2.1,z7.2.2.1,(z7.2.2.2.1+(1:Int)),z7.2.2.2.2.2.1,z7.2.2.2.2.2.2.1,(z7.2.2.2.2.2.2.2.1+(1:Int)),z7.2.2.2.2.2.2.2.2.2.2.2.2.2.2.1,z7.2.2.2.2.2.2.2.2.2.2.2.2.2.2.2.1,z7.2.2.2.2.2.2.2.2.2.2.2.2.2.2.2.2.1,z7.2.2.2.2.2.2.2.2.2.2.2.2.2.2.2.2.2.1,z7.2.2.2.2.2.2.2.2.2.2.2.2.2.2.2.2.2.2.1,()))) (
 .ni (z7.2.2.2.2.2.2.2.1+(1:Int)) <|
 .ret (.inl (z7.1,z7.2.1,z7.2.2.1,z7.2.2.2.1,z7.2.2.2.2.2.1,z7.2.2.2.2.2.2.1,(z7.2.2.2.2.2.2.2.1+(1:Int)),z7.2.2.2.2.2.2.2.2.2.2.2.2.2.2.1,z7.2.2.2.2.2.2.2.2.2.2.2.2.2.2.2.1,z7.2.2.2.2.2.2.2.2.2.2.2.2.2.2.2.2.1,z7.2.2.2.2.2.2.2.2.2.2.2.2.2.2.2.2.2.1,z7.2.2.2.2.2.2.2.2.2.2.2.2.2.2.2.2.2.2.1,()))))))) (
 .br (!(((aX).getD (Int.toNat aI) ((bs []),(0:Int),(bs []),(bs []),(0:Int))).2.1==(2:Int))) (
 .ni (aI+(1:Int)) <|
 .ret (.inl (v0,false,false,v7,aX,kH,(aI+(1:Int)),aP,bQ,aW,bS,bT,()))) (
 .br (!(seq ((aX).getD (Int.toNat aI) ((bs []),(0:Int),(bs []),(bs []),(0:Int))).2.2.1 aW)) (
 .ni (aI+(1:Int)) <|
 .ret (.inl (v0,false,false,v7,aX,kH,(aI+(1:Int)),aP,bQ,aW,bS,bT,()))) (
 .br (seq ((aX).getD (Int.toNat aI) ((bs []),(0:Int),(bs []),(bs []),(0:Int))).1 aP) (
 .ni (aI+(1:Int)) <|
 .ret (.inl (v0,false,false,v7,aX,kH,(aI+(1:Int)),aP,bQ,aW,bS,bT,()))) (
 .bd (.it g77_1 (v0,false,false,v7,false,aX,kH,aI,((aX).getD (Int.toNat aI) ((bs []),(0:Int),(bs []),(bs []),(0:Int))).2.2.1,aW,(!(seq ((aX).getD (Int.toNat aI) ((bs []),(0:Int),(bs []),(bs []),(0:Int))).2.2.1 aW)),((aX).getD (Int.toNat aI) ((bs []),(0:Int),(bs []),(bs []),(0:Int))).1,aP,(seq ((aX).getD (Int.toNat aI) ((bs []),(0:Int),(bs []),(bs []),(0:Int))).1 aP),v0,(((v0).length:Nat):Int),(0:Int),aP,bQ,aW,bS,bT,((aX).getD (Int.toNat aI) ((bs []),(0:Int),(bs []),(bs []),(0:Int))).1,((aX).getD (Int.toNat aI) ((bs []),(0:Int),(bs []),(bs []),(0:Int))).2.1,((aX).getD (Int.toNat aI) ((bs []),(0:Int),(bs []),(bs []),(0:Int))).2.2.1,((aX).getD (Int.toNat aI) ((bs []),(0:Int),(bs []),(bs []),(0:Int))).2.2.2.1,((aX).getD (Int.toNat aI) ((bs []),(0:Int),(bs []),(bs []),(0:Int))).2.2.2.2,())) fun z8 =>
 .br z8.2.2.2.2.1 (
 .ni (z8.2.2.2.1+(1:Int)) <|
 .ni (z8.2.2.2.2.2.2.2.1+(1:Int)) <|
 .ret (.inl (z8.1,z8.2.1,z8.2.2.1,(z8.2.2.2.1+(1:Int)),z8.2.2.2.2.2.1,z8.2.2.2.2.2.2.1,(z8.2.2.2.2.2.2.2.1+(1:Int)),z8.2.2.2.2.2.2.2.2.2.2.2.2.2.2.1,z8.2.2.2.2.2.2.2.2.2.2.2.2.2.2.2.1,z8.2.2.2.2.2.2.2.2.2.2.2.2.2.2.2.2.1,z8.2.2.2.2.2.2.2.2.2.2.2.2.2.2.2.2.2.1,z8.2.2.2.2.2.2.2.2.2.2.2.2.2.2.2.2.2.2.1,()))) (
 .ni (z8.2.2.2.2.2.2.2.1+(1:Int)) <|
 .ret (.inl (z8.1,z8.2.1,z8.2.2.1,z8.2.2.2.1,z8.2.2.2.2.2.1,z8.2.2.2.2.2.2.1,(z8.2.2.2.2.2.2.2.1+(1:Int)),z8.2.2.2.2.2.2.2.2.2.2.2.2.2.2.1,z8.2.2.2.2.2.2.2.2.2.2.2.2.2.2.2.1,z8.2.2.2.2.2.2.2.2.2.2.2.2.2.2.2.2.1,z8.2.2.2.2.2.2.2.2.2.2.2.2.2.2.2.2.2.1,z8.2.2.2.2.2.2.2.2.2.2.2.2.2.2.2.2.2.2.1,()))))))))))) (
 .ret (.inr (v5,v6,v7,())))
noncomputable def adI:cm prog 95 none 0:=bN mixed YT Ca [] rfl adF adG rfl (adH) (fun x=>aq (g77_0 x)) (fun x=>by kernel_rfl)
noncomputable def dd77:D prog 95 none 0:=dO [.l adI] (kd prog f77) 0
noncomputable def F77 (a0:List (GG)) (a1:GG):bW (Bool×Unit) :=
 .bd (.it g77_0 (a0,false,false,(0:Int),a0,(((a0).length:Nat):Int),(0:Int),a1.1,a1.2.1,a1.2.2.1,a1.2.2.2.1,a1.2.2.2.2,())) fun z9 =>
 .br z9.1 (
 .br (!z9.2.1) (
 .ret ((z9.2.2.1==(1:Int)),())) (
 .ret (false,()))) (
 .ret (false,()))
theorem YU:cN prog f77=some ⟨95,2,dd77.er,[.t 4],[some .bool]⟩:=by kernel_rfl
noncomputable def ct77:Ct:=⟨77,[.c (.hole (.list tG)),.c (.hole tG)],.c (.hole .bool),fun x=>aq (F77 x.1 x.2.1)⟩
theorem Tp:ct77.Ok prog:=cQ mixed Ca func77 YU (enters_of func77 rfl rfl) dd77 (by kernel_rfl) rfl (fun x=>by kernel_rfl)

/- 34 -/
noncomputable def YV:Cx:=(aL [ct77] [])
theorem Cb:YV.Ok prog:=ax ⟨Tp,trivial⟩ trivial
@[reducible] def adL:az:=az.mk [(0,.c (.hole (.list tG))),(3,.c (.ptr 0 0)),(4,.c (.cC 1 tG)),(6,.c (.hole .bool)),(7,hI),(8,.c (.tf false)),(32,.c (.hole (.list tG))),(33,hI),(34,hI)] [(0,.cells [.hole .str,.hole tI,.hole .str,.hole .str,.hole tI] false),(1,.arr tG false)] [.slot 3,.slot 4] []
@[reducible] def adM:aZ:=[(.exit 2,az.mk [(0,.c (.hole (.list tG))),(3,.c (.ptr 0 0)),(4,.c (.cC 1 tG)),(6,.c (.hole .bool)),(7,hI),(8,.c (.hole .bool))] [(0,.cells [.hole .str,.hole tI,.hole .str,.hole .str,.hole tI] false),(1,.arr tG false)] [.slot 3,.slot 4] [])]
noncomputable def adN:D prog 56 none 0:=dO [] (pick (kd prog f34) [(0,false),(0,false)]) 0
noncomputable def g34_1:(List (GG))×Nat×Bool×Int×(List (GG))×Int×Int×ByteArray×Int×ByteArray×ByteArray×Int×(List (GG))×Unit→bW (((List (GG))×Nat×Bool×Int×(List (GG))×Int×Int×ByteArray×Int×ByteArray×ByteArray×Int×(List (GG))×Unit) ⊕ (((List (GG))×Nat×Bool×Int×Bool×ByteArray×Int×ByteArray×ByteArray×Int×(List (GG))×Unit))):=fun (v0,yZ,v6,v7,v32,v33,KK,aP,bQ,aW,bS,bT,b1,_) =>
 .br (decide (KK<v33)) (
 .nb KK (((v32).length:Nat):Int) <|
 .br (seq ((v32).getD (Int.toNat KK) ((bs []),(0:Int),(bs []),(bs []),(0:Int))).1 aW) (
 .br (!(((v32).getD (Int.toNat KK) ((bs []),(0:Int),(bs []),(bs []),(0:Int))).2.1==(3:Int))) (
 .ret (.inr (v0,yZ,v6,v7,true,((v32).getD (Int.toNat KK) ((bs []),(0:Int),(bs []),(bs []),(0:Int))).1,((v32).getD (Int.toNat KK) ((bs []),(0:Int),(bs []),(bs []),(0:Int))).2.1,((v32).getD (Int.toNat KK) ((bs []),(0:Int),(bs []),(bs []),(0:Int))).2.2.1,((v32).getD (Int.toNat KK) ((bs []),(0:Int),(bs []),(bs []),(0:Int))).2.2.2.1,((v32).getD (Int.toNat KK) ((bs []),(0:Int),(bs []),(bs []),(0:Int))).2.2.2.2,b1,()))) (
 .ni (KK+(1:Int)) <|
 .ret (.inl (v0,yZ,v6,v7,v32,v33,(KK+(1:Int)),aP,bQ,aW,bS,bT,b1,())))) (
 .ni (KK+(1:Int)) <|
 .ret (.inl (v0,yZ,v6,v7,v32,v33,(KK+(1:Int)),aP,bQ,aW,bS,bT,b1,())))) (
 .ret (.inr (v0,yZ,v6,v7,false,aP,bQ,aW,bS,bT,b1,())))
noncomputable def adO:cm prog 56 none 0:=bN mixed YV Cb [] rfl adL adM rfl (adN) (fun x=>aq (g34_1 x)) (fun x=>by kernel_rfl)
@[reducible] def adP:az:=az.mk [(0,.c (.hole (.list tG))),(3,.c (.ptr 0 0)),(4,.c (.cC 1 tG)),(6,.c (.hole .bool)),(7,hI)] [(0,.cells [.hole .str,.hole tI,.hole .str,.hole .str,.hole tI] false),(1,.arr tG false)] [.slot 3,.slot 4] []
@[reducible] def adQ:aZ:=[(.ret,az.mk [(4,.c (.cC 0 tG)),(5,.c (.hole .bool)),(6,.c (.hole .bool))] [(0,.arr tG false)] [.slot 4] []),(.exit 0,az.mk [(4,.c (.cC 0 tG)),(6,.c (.hole .bool))] [(0,.arr tG false)] [.slot 4] [])]
noncomputable def adR:D prog 56 none 0:=dO [.l adO] (pick (kd prog f34) [(0,false)]) 0
noncomputable def g34_0:(List (GG))×Nat×Bool×Int×ByteArray×Int×ByteArray×ByteArray×Int×(List (GG))×Unit→bW (((List (GG))×Nat×Bool×Int×ByteArray×Int×ByteArray×ByteArray×Int×(List (GG))×Unit) ⊕ ((Nat×Bool×Bool×(List (GG))×Unit) ⊕ ((Nat×Bool×(List (GG))×Unit)))):=fun (v0,yZ,v6,v7,aP,bQ,aW,bS,bT,b1,_) =>
 .br (decide (v7<(9:Int))) (
 .nd (decide ((yZ+((((((aP,bQ,aW,bS,bT)::[])).drop (0:Nat)).take (1:Nat))).length)<cg)) <|
 .br (bQ==(1:Int)) (
 .ret (.inr <| .inl<|((yZ+((((((aP,bQ,aW,bS,bT)::[])).drop (0:Nat)).take (1:Nat))).length),(!v6),v6,((((b1).drop (0:Nat)).take yZ)++(((((aP,bQ,aW,bS,bT)::[])).drop (0:Nat)).take (1:Nat))),()))) (
 .br v6 (
 .bd (.it g34_1 (v0,(yZ+((((((aP,bQ,aW,bS,bT)::[])).drop (0:Nat)).take (1:Nat))).length),true,v7,v0,(((v0).length:Nat):Int),(0:Int),aP,bQ,aW,bS,bT,((((b1).drop (0:Nat)).take yZ)++(((((aP,bQ,aW,bS,bT)::[])).drop (0:Nat)).take (1:Nat))),())) fun z0 =>
 .br (!z0.2.2.2.2.1) (
 .ret (.inr <| .inl<|(z0.2.1,false,z0.2.2.1,z0.2.2.2.2.2.2.2.2.2.2.1,()))) (
 .ni (z0.2.2.2.1+(1:Int)) <|
 .ret (.inl (z0.1,z0.2.1,z0.2.2.1,(z0.2.2.2.1+(1:Int)),z0.2.2.2.2.2.1,z0.2.2.2.2.2.2.1,z0.2.2.2.2.2.2.2.1,z0.2.2.2.2.2.2.2.2.1,z0.2.2.2.2.2.2.2.2.2.1,z0.2.2.2.2.2.2.2.2.2.2.1,())))) (
 .bd (F77 v0 (aP,bQ,aW,bS,bT)) fun y1 =>
 .bd (.it g34_1 (v0,(yZ+((((((aP,bQ,aW,bS,bT)::[])).drop (0:Nat)).take (1:Nat))).length),y1.1,v7,v0,(((v0).length:Nat):Int),(0:Int),aP,bQ,aW,bS,bT,((((b1).drop (0:Nat)).take yZ)++(((((aP,bQ,aW,bS,bT)::[])).drop (0:Nat)).take (1:Nat))),())) fun z2 =>
 .br (!z2.2.2.2.2.1) (
 .ret (.inr <| .inl<|(z2.2.1,false,z2.2.2.1,z2.2.2.2.2.2.2.2.2.2.2.1,()))) (
 .ni (z2.2.2.2.1+(1:Int)) <|
 .ret (.inl (z2.1,z2.2.1,z2.2.2.1,(z2.2.2.2.1+(1:Int)),z2.2.2.2.2.2.1,z2.2.2.2.2.2.2.1,z2.2.2.2.2.2.2.2.1,z2.2.2.2.2.2.2.2.2.1,z2.2.2.2.2.2.2.2.2.2.1,z2.2.2.2.2.2.2.2.2.2.2.1,())))))) (
 .ret (.inr <| .inr<|(yZ,v6,b1,())))
noncomputable def adS:cm prog 56 none 0:=bN mixed YV Cb [] rfl adP adQ rfl (adR) (fun x=>aq (g34_0 x)) (fun x=>by kernel_rfl)
noncomputable def dd34:D prog 56 none 0:=dO [.l adS] (kd prog f34) 0
noncomputable def F34 (a0:List (GG)) (a1:GG):bW ((List (GG))×Bool×Bool×Unit) :=
 .bd (.it g34_0 (a0,(0:Nat),false,(0:Int),a1.1,a1.2.1,a1.2.2.1,a1.2.2.2.1,a1.2.2.2.2,[],())) fun z3 =>
 .sm z3 (fun z4 =>
 .ret ((((z4.2.2.2.1).drop (0:Nat)).take z4.1),z4.2.1,z4.2.2.1,())) fun z5 =>
 .ret ((((z5.2.2.1).drop (0:Nat)).take z5.1),false,z5.2.1,())
theorem YW:cN prog f34=some ⟨56,2,dd34.er,[.t 4,.t 5,.t 6],[some (.list tG),some .bool,some .bool]⟩:=by kernel_rfl
noncomputable def ct34:Ct:=⟨34,[.c (.hole (.list tG)),.c (.hole tG)],.cI [.hole (.list tG),.hole .bool,.hole .bool],fun x=>aq (F34 x.1 x.2.1)⟩
theorem Tq:ct34.Ok prog:=cQ mixed Cb func34 YW (enters_of func34 rfl rfl) dd34 (by kernel_rfl) rfl (fun x=>by kernel_rfl)

/- 35 -/
noncomputable def cx35:Cx:=(aL [ct34] [])
theorem II:cx35.Ok prog:=ax ⟨Tq,trivial⟩ trivial
@[reducible] def adW:az:=az.mk [(0,.c (.hole (.list tG))),(3,.c (.ptr 0 0)),(6,.c (.hole (.list tG))),(7,.c (.hole .bool)),(24,.c (.hole (.list tG))),(25,hI),(26,hI)] [(0,.cells [.hole .str,.hole tI,.hole .str,.hole .str,.hole tI] false)] [.slot 3] []
@[reducible] def adX:aZ:=[(.ret,az.mk [(4,.c (.hole .str)),(5,.c (.tf false))] [] [] []),(.exit 0,az.mk [(6,.c (.hole (.list tG))),(7,.c (.hole .bool))] [] [] [])]
noncomputable def adY:D prog 57 none 0:=dO [] (pick (kd prog f35) [(0,false)]) 0
noncomputable def g35_0:(List (GG))×(List (GG))×Bool×(List (GG))×Int×Int×ByteArray×Int×ByteArray×ByteArray×Int×Unit→bW (((List (GG))×(List (GG))×Bool×(List (GG))×Int×Int×ByteArray×Int×ByteArray×ByteArray×Int×Unit) ⊕ ((ByteArray×Unit) ⊕ (((List (GG))×Bool×Unit)))):=fun (v0,v6,v7,v24,v25,v26,aP,bQ,aW,bS,bT,_) =>
 .br (decide (v26<v25)) (
 .nb v26 (((v24).length:Nat):Int) <|
 .br (((v24).getD (Int.toNat v26) ((bs []),(0:Int),(bs []),(bs []),(0:Int))).2.1==(2:Int)) (
 .br (seq ((v24).getD (Int.toNat v26) ((bs []),(0:Int),(bs []),(bs []),(0:Int))).2.2.1 aP) (
 .bd (F34 v0 (((v24).getD (Int.toNat v26) ((bs []),(0:Int),(bs []),(bs []),(0:Int))).1,((v24).getD (Int.toNat v26) ((bs []),(0:Int),(bs []),(bs []),(0:Int))).2.1,((v24).getD (Int.toNat v26) ((bs []),(0:Int),(bs []),(bs []),(0:Int))).2.2.1,((v24).getD (Int.toNat v26) ((bs []),(0:Int),(bs []),(bs []),(0:Int))).2.2.2.1,((v24).getD (Int.toNat v26) ((bs []),(0:Int),(bs []),(bs []),(0:Int))).2.2.2.2)) fun y1 =>
 .br y1.2.1 (
 .ret (.inr <| .inl<|((bs []),()))) (
 .ni (v26+(1:Int)) <|
 .ret (.inl (v0,v6,v7,v24,v25,(v26+(1:Int)),aP,bQ,aW,bS,bT,())))) (
 .ni (v26+(1:Int)) <|
 .ret (.inl (v0,v6,v7,v24,v25,(v26+(1:Int)),aP,bQ,aW,bS,bT,())))) (
 .ni (v26+(1:Int)) <|
 .ret (.inl (v0,v6,v7,v24,v25,(v26+(1:Int)),aP,bQ,aW,bS,bT,())))) (
 .ret (.inr <| .inr<|(v6,v7,())))
noncomputable def adZ:cm prog 57 none 0:=bN mixed cx35 II [] rfl adW adX rfl (adY) (fun x=>aq (g35_0 x)) (fun x=>by kernel_rfl)
noncomputable def dd35:D prog 57 none 0:=dO [.l adZ] (kd prog f35) 0
noncomputable def F35 (a0:List (GG)) (a1:GG):bW (ByteArray×Bool×Unit) :=
 .br (a1.2.1==(3:Int)) (
 .ret ((bs []),false,())) (
 .bd (F34 a0 (a1.1,a1.2.1,a1.2.2.1,a1.2.2.2.1,a1.2.2.2.2)) fun y0 =>
 .bd (.it g35_0 (a0,y0.1,y0.2.1,a0,(((a0).length:Nat):Int),(0:Int),a1.1,a1.2.1,a1.2.2.1,a1.2.2.2.1,a1.2.2.2.2,())) fun z2 =>
 .sm z2 (fun z3 =>
 .ret (z3.1,false,())) fun z4 =>
 .ni ((((z4.1).length:Nat):Int) - (1:Int)) <|
 .nb ((((z4.1).length:Nat):Int) - (1:Int)) (((z4.1).length:Nat):Int) <|
 .ret (((z4.1).getD (Int.toNat ((((z4.1).length:Nat):Int) - (1:Int))) ((bs []),(0:Int),(bs []),(bs []),(0:Int))).1,z4.2.1,()))
theorem YX:cN prog f35=some ⟨57,2,dd35.er,[.t 4,.t 5],[some .str,some .bool]⟩:=by kernel_rfl
noncomputable def ct35:Ct:=⟨35,[.c (.hole (.list tG)),.c (.hole tG)],.cI [.hole .str,.hole .bool],fun x=>aq (F35 x.1 x.2.1)⟩
theorem Ts:ct35.Ok prog:=cQ mixed II func35 YX (enters_of func35 rfl rfl) dd35 (by kernel_rfl) rfl (fun x=>by kernel_rfl)

/- 9 -/
noncomputable def cx9:Cx:=(aL [ct28,ct30,ct35,ct17,YN,Xn,YD] [XF,Yn,XA,Yo])
theorem Gx:cx9.Ok prog:=ax ⟨Ti,Tm,Ts,Te,IF,HV,Iy,trivial⟩ ⟨⟨HZ,rfl⟩,⟨Im,rfl⟩,⟨HY,rfl⟩,⟨Io,rfl⟩,trivial⟩
@[reducible] def p9_0:az:=az.mk [(1,.c (.hole (.int .u8))),(2,.c (.hole (.int .u8))),(7,.c (.hole (.list tG))),(8,.c (.hole (.list tG))),(9,.c (.cC 0 tG)),(29,.c (.hole (.list tG))),(30,hI),(31,hI)] [(0,.arr tG false)] [.slot 9] []
@[reducible] def x9_0:aZ:=[(.exit 0,az.mk [(1,.c (.hole (.int .u8))),(2,.c (.hole (.int .u8))),(7,.c (.hole (.list tG))),(8,.c (.hole (.list tG))),(9,.c (.cC 0 tG))] [(0,.arr tG false)] [.slot 9] [])]
noncomputable def b9_0:D prog 157 none 0:=dO [] (pick (kd prog f9) [(0,false)]) 0
noncomputable def g9_0:Int×Int×(List (GG))×(List (GG))×Nat×(List (GG))×Int×Int×(List (GG))×Unit→bW ((Int×Int×(List (GG))×(List (GG))×Nat×(List (GG))×Int×Int×(List (GG))×Unit) ⊕ ((Int×Int×(List (GG))×(List (GG))×Nat×(List (GG))×Unit))):=fun (v1,v2,v7,v8,nv9,yc,v30,v31,b0,_) =>
 .br (decide (v31<v30)) (
 .nb v31 (((yc).length:Nat):Int) <|
 .bd (F35 v8 (((yc).getD (Int.toNat v31) ((bs []),(0:Int),(bs []),(bs []),(0:Int))).1,((yc).getD (Int.toNat v31) ((bs []),(0:Int),(bs []),(bs []),(0:Int))).2.1,((yc).getD (Int.toNat v31) ((bs []),(0:Int),(bs []),(bs []),(0:Int))).2.2.1,((yc).getD (Int.toNat v31) ((bs []),(0:Int),(bs []),(bs []),(0:Int))).2.2.2.1,((yc).getD (Int.toNat v31) ((bs []),(0:Int),(bs []),(bs []),(0:Int))).2.2.2.2)) fun y2 =>
 .br y2.2.1 (
 .nd (decide ((nv9+((((((((yc).getD (Int.toNat v31) ((bs []),(0:Int),(bs []),(bs []),(0:Int))).1,((yc).getD (Int.toNat v31) ((bs []),(0:Int),(bs []),(bs []),(0:Int))).2.1,((yc).getD (Int.toNat v31) ((bs []),(0:Int),(bs []),(bs []),(0:Int))).2.2.1,((yc).getD (Int.toNat v31) ((bs []),(0:Int),(bs []),(bs []),(0:Int))).2.2.2.1,((yc).getD (Int.toNat v31) ((bs []),(0:Int),(bs []),(bs []),(0:Int))).2.2.2.2)::[])).drop (0:Nat)).take (1:Nat))).length)<cg)) <|
 .ni (v31+(1:Int)) <|
 .ret (.inl (v1,v2,v7,v8,(nv9+((((((((yc).getD (Int.toNat v31) ((bs []),(0:Int),(bs []),(bs []),(0:Int))).1,((yc).getD (Int.toNat v31) ((bs []),(0:Int),(bs []),(bs []),(0:Int))).2.1,((yc).getD (Int.toNat v31) ((bs []),(0:Int),(bs []),(bs []),(0:Int))).2.2.1,((yc).getD (Int.toNat v31) ((bs []),(0:Int),(bs []),(bs []),(0:Int))).2.2.2.1,((yc).getD (Int.toNat v31) ((bs []),(0:Int),(bs []),(bs []),(0:Int))).2.2.2.2)::[])).drop (0:Nat)).take (1:Nat))).length),yc,v30,(v31+(1:Int)),((((b0).drop (0:Nat)).take nv9)++(((((((yc).getD (Int.toNat v31) ((bs []),(0:Int),(bs []),(bs []),(0:Int))).1,((yc).getD (Int.toNat v31) ((bs []),(0:Int),(bs []),(bs []),(0:Int))).2.1,((yc).getD (Int.toNat v31) ((bs []),(0:Int),(bs []),(bs []),(0:Int))).2.2.1,((yc).getD (Int.toNat v31) ((bs []),(0:Int),(bs []),(bs []),(0:Int))).2.2.2.1,((yc).getD (Int.toNat v31) ((bs []),(0:Int),(bs []),(bs []),(0:Int))).2.2.2.2)::[])).drop (0:Nat)).take (1:Nat))),()))) (
 .ni (v31+(1:Int)) <|
 .ret (.inl (v1,v2,v7,v8,nv9,yc,v30,(v31+(1:Int)),b0,())))) (
 .ret (.inr (v1,v2,v7,v8,nv9,b0,())))
noncomputable def L9_0:cm prog 157 none 0:=bN mixed cx9 Gx [] rfl p9_0 x9_0 rfl (b9_0) (fun x=>aq (g9_0 x)) (fun x=>by kernel_rfl)
@[reducible] def p9_1:az:=az.mk [(14,.c (.ptr 0 0)),(18,.c (.ptr 1 0)),(19,.c (.cC 2 .str)),(21,.c (.cC 3 .str)),(22,.c (.cC 4 .str)),(115,.c (.cC 2 .str)),(116,hI),(117,hI)] [(0,.cells [.hole .str,.hole tI,.hole .str,.hole .str,.hole tI] false),(1,.cells [.mp 5] false),(2,.arr .str false),(3,.arr .str false),(4,.arr .str false),(5,.map tG true .bool false)] [.slot 14,.slot 18,.slot 19,.slot 21,.slot 22,.cell 1 0] []
@[reducible] def x9_1:aZ:=[(.exit 2,az.mk [(18,.c (.ptr 0 0)),(19,.c (.cC 1 .str)),(21,.c (.cC 2 .str)),(22,.c (.cC 3 .str))] [(0,.cells [.mp 4] false),(1,.arr .str false),(2,.arr .str false),(3,.arr .str false),(4,.map tG true .bool false)] [.slot 18,.slot 19,.slot 21,.slot 22,.cell 0 0] [])]
noncomputable def b9_1:D prog 157 none 0:=dO [] (pick (kd prog f9) [(1,false)]) 0
noncomputable def g9_1:Nat×Nat×Nat×Nat×Int×Int×ByteArray×Int×ByteArray×ByteArray×Int×List ByteArray×List ByteArray×List ByteArray×(List ((GG)×Bool))×Unit→bW ((Nat×Nat×Nat×Nat×Int×Int×ByteArray×Int×ByteArray×ByteArray×Int×List ByteArray×List ByteArray×List ByteArray×(List ((GG)×Bool))×Unit) ⊕ ((Nat×Nat×Nat×List ByteArray×List ByteArray×List ByteArray×(List ((GG)×Bool))×Unit))):=fun (YY,l8,O0,O1,YZ,v117,aP,bQ,aW,bS,bT,b2,b3,b4,m5,_) =>
 .br (decide (v117<YZ)) (
 .nb v117 ((O1:Nat):Int) <|
 .nd (decide (((0:Nat)+(Int.toNat v117))<(b2).length)) <|
 .br (!(seq ((b2).getD ((0:Nat)+(Int.toNat v117)) (bs [])) aP)) (
 .nd (decide ((O0+(((((((b2).getD ((0:Nat)+(Int.toNat v117)) (bs []))::[])).drop (0:Nat)).take (1:Nat))).length)<cg)) <|
 .ni (v117+(1:Int)) <|
 .ret (.inl (YY,l8,(O0+(((((((b2).getD ((0:Nat)+(Int.toNat v117)) (bs []))::[])).drop (0:Nat)).take (1:Nat))).length),O1,YZ,(v117+(1:Int)),aP,bQ,aW,bS,bT,b2,b3,((((b4).drop (0:Nat)).take O0)++((((((b2).getD ((0:Nat)+(Int.toNat v117)) (bs []))::[])).drop (0:Nat)).take (1:Nat))),m5,()))) (
 .ni (v117+(1:Int)) <|
 .ret (.inl (YY,l8,O0,O1,YZ,(v117+(1:Int)),aP,bQ,aW,bS,bT,b2,b3,b4,m5,())))) (
 .ret (.inr (YY,l8,O0,b2,b3,b4,m5,())))
noncomputable def L9_1:cm prog 157 none 0:=bN mixed cx9 Gx [] rfl p9_1 x9_1 rfl (b9_1) (fun x=>aq (g9_1 x)) (fun x=>by kernel_rfl)
noncomputable def dd9:D prog 157 none 0:=dO [.l L9_0,.l L9_1] (kd prog f9) 0
noncomputable def F9 (a0:List (Int×Int×Int×Int)) (a1:Int) (a2:Int):bW (Bool×Unit) :=
 .bd (F28 a0) fun y0 =>
 .bd (F30 y0.1) fun y1 =>
 .bd (.it g9_0 (a1,a2,y0.1,y1.1,(0:Nat),y1.1,(((y1.1).length:Nat):Int),(0:Int),[],())) fun z3 =>
 .br (((z3.2.2.2.2.1:Nat):Int)==(0:Int)) (
 .bd (F17) fun y4 =>
 .ret (y4.1,())) (
 .ni z3.1 <|
 .nd (!(((z3.2.2.2.2.1:Nat):Int)==(0:Int))) <|
 .nb (Int.tmod z3.1 ((z3.2.2.2.2.1:Nat):Int)) ((z3.2.2.2.2.1:Nat):Int) <|
 .nd (decide (((0:Nat)+(Int.toNat (Int.tmod z3.1 ((z3.2.2.2.2.1:Nat):Int))))<(z3.2.2.2.2.2.1).length)) <|
 .bd (F35 z3.2.2.2.1 (((z3.2.2.2.2.2.1).getD ((0:Nat)+(Int.toNat (Int.tmod z3.1 ((z3.2.2.2.2.1:Nat):Int)))) ((bs []),(0:Int),(bs []),(bs []),(0:Int))).1,((z3.2.2.2.2.2.1).getD ((0:Nat)+(Int.toNat (Int.tmod z3.1 ((z3.2.2.2.2.1:Nat):Int)))) ((bs []),(0:Int),(bs []),(bs []),(0:Int))).2.1,((z3.2.2.2.2.2.1).getD ((0:Nat)+(Int.toNat (Int.tmod z3.1 ((z3.2.2.2.2.1:Nat):Int)))) ((bs []),(0:Int),(bs []),(bs []),(0:Int))).2.2.1,((z3.2.2.2.2.2.1).getD ((0:Nat)+(Int.toNat (Int.tmod z3.1 ((z3.2.2.2.2.1:Nat):Int)))) ((bs []),(0:Int),(bs []),(bs []),(0:Int))).2.2.2.1,((z3.2.2.2.2.2.1).getD ((0:Nat)+(Int.toNat (Int.tmod z3.1 ((z3.2.2.2.2.1:Nat):Int)))) ((bs []),(0:Int),(bs []),(bs []),(0:Int))).2.2.2.2)) fun y5 =>
 .bd (FH29 z3.2.2.1) fun y6 =>
 .bd (FH29 z3.2.2.1) fun y7 =>
 .bd (FH33 y5.1 y6.1) fun y8 =>
 .ni z3.2.1 <|
 .nd (!((3:Int)==(0:Int))) <|
 .bd (F43 (120:Int) (Int.tmod z3.2.1 (3:Int))) fun y9 =>
 .ni z3.2.1 <|
 .nd (!((3:Int)==(0:Int))) <|
 .ni (Int.tdiv z3.2.1 (3:Int)) <|
 .ni ((Int.tdiv z3.2.1 (3:Int)) - (40:Int)) <|
 .bd (F42 (bs [110,101,119]) ((z3.2.2.2.2.2.1).getD ((0:Nat)+(Int.toNat (Int.tmod z3.1 ((z3.2.2.2.2.1:Nat):Int)))) ((bs []),(0:Int),(bs []),(bs []),(0:Int))).1 y9.1 ((Int.tdiv z3.2.1 (3:Int)) - (40:Int))) fun K7 =>
 .bd (FH20 (K7.1.1,K7.1.2.1,K7.1.2.2.1,K7.1.2.2.2.1,K7.1.2.2.2.2) y7.1) fun YJ =>
 .br (!(YJ.1==(0:Int))) (
 .ret (false,())) (
 .br (!(y8.2.1==(0:Int))) (
 .ret (false,())) (
 .bd (FH33 y5.1 YJ.2.1) fun YK =>
 .br (!(YK.2.1==(0:Int))) (
 .ret (false,())) (
 .br (!(((YK.1:Nat):Int)==((y8.1:Nat):Int))) (
 .ret (false,())) (
 .bd (FH40 ((z3.2.2.2.2.2.1).getD ((0:Nat)+(Int.toNat (Int.tmod z3.1 ((z3.2.2.2.2.1:Nat):Int)))) ((bs []),(0:Int),(bs []),(bs []),(0:Int))).1 (3:Int) YK.2.2.2.1) fun Vt =>
 .br (!Vt.1) (
 .ret (false,())) (
 .bd (.it g9_1 (y8.1,YK.1,(0:Nat),y8.1,((y8.1:Nat):Int),(0:Int),((z3.2.2.2.2.2.1).getD ((0:Nat)+(Int.toNat (Int.tmod z3.1 ((z3.2.2.2.2.1:Nat):Int)))) ((bs []),(0:Int),(bs []),(bs []),(0:Int))).1,((z3.2.2.2.2.2.1).getD ((0:Nat)+(Int.toNat (Int.tmod z3.1 ((z3.2.2.2.2.1:Nat):Int)))) ((bs []),(0:Int),(bs []),(bs []),(0:Int))).2.1,((z3.2.2.2.2.2.1).getD ((0:Nat)+(Int.toNat (Int.tmod z3.1 ((z3.2.2.2.2.1:Nat):Int)))) ((bs []),(0:Int),(bs []),(bs []),(0:Int))).2.2.1,((z3.2.2.2.2.2.1).getD ((0:Nat)+(Int.toNat (Int.tmod z3.1 ((z3.2.2.2.2.1:Nat):Int)))) ((bs []),(0:Int),(bs []),(bs []),(0:Int))).2.2.2.1,((z3.2.2.2.2.2.1).getD ((0:Nat)+(Int.toNat (Int.tmod z3.1 ((z3.2.2.2.2.1:Nat):Int)))) ((bs []),(0:Int),(bs []),(bs []),(0:Int))).2.2.2.2,y8.2.2.1,YK.2.2.1,[],Vt.2.1,())) fun uq =>
 .nd (decide ((uq.2.2.1+((((((bs [110,101,119])::[])).drop (0:Nat)).take (1:Nat))).length)<cg)) <|
 .br (((uq.1:Nat):Int)==(1:Int)) (
 .bd (FH40 (bs [110,101,119]) (4:Int) uq.2.2.2.2.2.2.1) fun y15 =>
 .br (!y15.1) (
 .ret (false,())) (
 .br (decide ((1:Int)<((uq.1:Nat):Int))) (
 .bd (FH40 (bs [110,101,119]) (5:Int) y15.2.1) fun y16 =>
 .br (!y16.1) (
 .ret (false,())) (
 .bd (F36 (((uq.2.2.2.2.1).drop (0:Nat)).take uq.2.1) (((((((uq.2.2.2.2.2.1).drop (0:Nat)).take uq.2.2.1)++(((((bs [110,101,119])::[])).drop (0:Nat)).take (1:Nat)))).drop (0:Nat)).take (uq.2.2.1+((((((bs [110,101,119])::[])).drop (0:Nat)).take (1:Nat))).length))) fun y17 =>
 .br y17.1 (
 .bd (F17) fun y18 =>
 .ret (y18.1,())) (
 .ret (false,())))) (
 .bd (F36 (((uq.2.2.2.2.1).drop (0:Nat)).take uq.2.1) (((((((uq.2.2.2.2.2.1).drop (0:Nat)).take uq.2.2.1)++(((((bs [110,101,119])::[])).drop (0:Nat)).take (1:Nat)))).drop (0:Nat)).take (uq.2.2.1+((((((bs [110,101,119])::[])).drop (0:Nat)).take (1:Nat))).length))) fun y19 =>
 .br y19.1 (
 .bd (F17) fun y20 =>
 .ret (y20.1,())) (
 .ret (false,()))))) (
 .br (decide ((1:Int)<((uq.1:Nat):Int))) (
 .bd (FH40 (bs [110,101,119]) (5:Int) uq.2.2.2.2.2.2.1) fun y21 =>
 .br (!y21.1) (
 .ret (false,())) (
 .bd (F36 (((uq.2.2.2.2.1).drop (0:Nat)).take uq.2.1) (((((((uq.2.2.2.2.2.1).drop (0:Nat)).take uq.2.2.1)++(((((bs [110,101,119])::[])).drop (0:Nat)).take (1:Nat)))).drop (0:Nat)).take (uq.2.2.1+((((((bs [110,101,119])::[])).drop (0:Nat)).take (1:Nat))).length))) fun y22 =>
 .br y22.1 (
 .bd (F17) fun y23 =>
 .ret (y23.1,())) (
 .ret (false,())))) (
 .bd (F36 (((uq.2.2.2.2.1).drop (0:Nat)).take uq.2.1) (((((((uq.2.2.2.2.2.1).drop (0:Nat)).take uq.2.2.1)++(((((bs [110,101,119])::[])).drop (0:Nat)).take (1:Nat)))).drop (0:Nat)).take (uq.2.2.1+((((((bs [110,101,119])::[])).drop (0:Nat)).take (1:Nat))).length))) fun y24 =>
 .br y24.1 (
 .bd (F17) fun y25 =>
 .ret (y25.1,())) (
 .ret (false,()))))))))))
theorem ad3:cN prog f9=some ⟨157,3,dd9.er,[.t 6],[some .bool]⟩:=by kernel_rfl
noncomputable def ct9:Ct:=⟨9,[.c (.hole (.list (.prod (.int .u8) (.prod (.int .u8) (.prod (.int .u8) (.int .u8)))))),.c (.hole (.int .u8)),.c (.hole (.int .u8))],.c (.hole .bool),fun x=>aq (F9 x.1 x.2.1 x.2.2.1)⟩
theorem Y4:ct9.Ok prog:=cQ mixed Gx func9 ad3 (enters_of func9 rfl rfl) dd9 (by kernel_rfl) rfl (fun x=>by kernel_rfl)

end Go.Proofs.Tryz

