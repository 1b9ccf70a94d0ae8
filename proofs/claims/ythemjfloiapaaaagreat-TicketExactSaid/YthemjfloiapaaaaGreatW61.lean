/- Functions of the program as functions of data, part 2; printed by a program of mine. -/
import Derived.Test.YthemjfloiapaaaaGreatW60
import Derived.Test.YthemjfloiapaaaaGreatProg
set_option linter.unusedSectionVars false
set_option linter.unusedVariables false
set_option linter.unusedSimpArgs false
open Go.AM
namespace Go.Proofs.Tryz
set_option maxRecDepth 100000
set_option synthInstance.maxSize 4000
set_option synthInstance.maxHeartbeats 400000


/- 77 -/
noncomputable def Zt:Cx:=(aL [] [])
theorem Cu:Zt.Ok prog:=ax trivial trivial
@[reducible] def ad1:az:=az.mk [(0,.c (.hole (.list tG))),(3,.c (.ptr 0 0)),(5,.c (.hole .bool)),(6,.c (.hole .bool)),(7,hI),(9,.c (.ptr 1 0)),(10,.c (.hole .bool)),(13,.c (.hole (.list tG))),(14,hI),(15,hI),(49,.c (.ptr 1 2)),(50,.c (.hole .str)),(51,.c (.ptr 0 2)),(52,.c (.hole .str)),(53,.c (.hole .bool)),(56,.c (.ptr 1 0)),(57,.c (.hole .str)),(58,.c (.ptr 0 0)),(59,.c (.hole .str)),(60,.c (.hole .bool)),(62,.c (.hole (.list tG))),(63,hI),(64,hI)] [(0,.cells [.hole .str,.hole tI,.hole .str,.hole .str,.hole tI] false),(1,.cells [.hole .str,.hole tI,.hole .str,.hole .str,.hole tI] false)] [.slot 3,.slot 9] []
@[reducible] def ad2:aW:=[(.exit 2,az.mk [(0,.c (.hole (.list tG))),(3,.c (.ptr 0 0)),(5,.c (.hole .bool)),(6,.c (.hole .bool)),(7,hI),(10,.c (.hole .bool)),(13,.c (.hole (.list tG))),(14,hI),(15,hI),(50,.c (.hole .str)),(51,.c (.ptr 0 2)),(52,.c (.hole .str)),(53,.c (.hole .bool)),(57,.c (.hole .str)),(58,.c (.ptr 0 0)),(59,.c (.hole .str)),(60,.c (.hole .bool))] [(0,.cells [.hole .str,.hole tI,.hole .str,.hole .str,.hole tI] false)] [.slot 3] [])]
noncomputable def ad3:D prog 95 none 0:=dO [] (pick (kd prog f77) [(0,false),(0,false)]) 0
noncomputable def g77_1:(List (GG))×Bool×Bool×Int×Bool×(List (GG))×Int×Int×ByteArray×ByteArray×Bool×ByteArray×ByteArray×Bool×(List (GG))×Int×Int×ByteArray×Int×ByteArray×ByteArray×Int×ByteArray×Int×ByteArray×ByteArray×Int×Unit→bQ (((List (GG))×Bool×Bool×Int×Bool×(List (GG))×Int×Int×ByteArray×ByteArray×Bool×ByteArray×ByteArray×Bool×(List (GG))×Int×Int×ByteArray×Int×ByteArray×ByteArray×Int×ByteArray×Int×ByteArray×ByteArray×Int×Unit) ⊕ (((List (GG))×Bool×Bool×Int×Bool×(List (GG))×Int×Int×ByteArray×ByteArray×Bool×ByteArray×ByteArray×Bool×ByteArray×Int×ByteArray×ByteArray×Int×Unit))):=fun (v0,v5,v6,v7,v10,bf,kK,aJ,v50,TS,v53,TT,v59,v60,v62,v63,v64,aQ,bR,bh,bY,bZ,eo,kJ,nq,nt,nQ,_) =>
 .br (decide (v64<v63)) (
 .nb v64 (((v62).length:Nat):Int) <|
 .br v10 (
 .ni (v64+(1:Int)) <|
 .ret (.inl (v0,v5,v6,v7,true,bf,kK,aJ,v50,TS,v53,TT,v59,v60,v62,v63,(v64+(1:Int)),aQ,bR,bh,bY,bZ,eo,kJ,nq,nt,nQ,()))) (
 .br (((v62).getD (Int.toNat v64) ((bs []),(0:Int),(bs []),(bs []),(0:Int))).2.1==(3:Int)) (
 .ni (v64+(1:Int)) <|
 .ret (.inl (v0,v5,v6,v7,(seq ((v62).getD (Int.toNat v64) ((bs []),(0:Int),(bs []),(bs []),(0:Int))).2.2.1 eo),bf,kK,aJ,v50,TS,v53,TT,v59,v60,v62,v63,(v64+(1:Int)),aQ,bR,bh,bY,bZ,eo,kJ,nq,nt,nQ,()))) (
 .ni (v64+(1:Int)) <|
 .ret (.inl (v0,v5,v6,v7,false,bf,kK,aJ,v50,TS,v53,TT,v59,v60,v62,v63,(v64+(1:Int)),aQ,bR,bh,bY,bZ,eo,kJ,nq,nt,nQ,()))))) (
 .ret (.inr (v0,v5,v6,v7,v10,bf,kK,aJ,v50,TS,v53,TT,v59,v60,aQ,bR,bh,bY,bZ,())))
noncomputable def ad4:bS prog 95 none 0:=bE mixed Zt Cu [] rfl ad1 ad2 rfl (ad3) (fun x=>ak (g77_1 x)) (fun x=>by kernel_rfl)
@[reducible] def ad5:az:=az.mk [(0,.c (.hole (.list tG))),(3,.c (.ptr 0 0)),(5,.c (.hole .bool)),(6,.c (.hole .bool)),(7,hI),(13,.c (.hole (.list tG))),(14,hI),(15,hI)] [(0,.cells [.hole .str,.hole tI,.hole .str,.hole .str,.hole tI] false)] [.slot 3] []
@[reducible] def ad6:aW:=[(.exit 0,az.mk [(5,.c (.hole .bool)),(6,.c (.hole .bool)),(7,hI)] [] [] [])]
noncomputable def ad7:D prog 95 none 0:=dO [.l ad4] (pick (kd prog f77) [(0,false)]) 0
noncomputable def g77_0:(List (GG))×Bool×Bool×Int×(List (GG))×Int×Int×ByteArray×Int×ByteArray×ByteArray×Int×Unit→bQ (((List (GG))×Bool×Bool×Int×(List (GG))×Int×Int×ByteArray×Int×ByteArray×ByteArray×Int×Unit) ⊕ ((Bool×Bool×Int×Unit))):=fun (v0,v5,v6,v7,bf,kK,aJ,aQ,bR,bh,bY,bZ,_) =>
 .br (decide (aJ<kK)) (
 .nb aJ (((bf).length:Nat):Int) <|
 .br v5 (
 .br v6 (
 .br (!(((bf).getD (Int.toNat aJ) ((bs []),(0:Int),(bs []),(bs []),(0:Int))).2.1==(2:Int))) (
 .ni (aJ+(1:Int)) <|
 .ret (.inl (v0,true,true,v7,bf,kK,(aJ+(1:Int)),aQ,bR,bh,bY,bZ,()))) (
 .br (!(seq ((bf).getD (Int.toNat aJ) ((bs []),(0:Int),(bs []),(bs []),(0:Int))).2.2.1 bh)) (
 .ni (aJ+(1:Int)) <|
 .ret (.inl (v0,true,true,v7,bf,kK,(aJ+(1:Int)),aQ,bR,bh,bY,bZ,()))) (
 .br (seq ((bf).getD (Int.toNat aJ) ((bs []),(0:Int),(bs []),(bs []),(0:Int))).1 aQ) (
 .ni (aJ+(1:Int)) <|
 .ret (.inl (v0,true,true,v7,bf,kK,(aJ+(1:Int)),aQ,bR,bh,bY,bZ,()))) (
 .bd (.it g77_1 (v0,true,true,v7,false,bf,kK,aJ,((bf).getD (Int.toNat aJ) ((bs []),(0:Int),(bs []),(bs []),(0:Int))).2.2.1,bh,(!(seq ((bf).getD (Int.toNat aJ) ((bs []),(0:Int),(bs []),(bs []),(0:Int))).2.2.1 bh)),((bf).getD (Int.toNat aJ) ((bs []),(0:Int),(bs []),(bs []),(0:Int))).1,aQ,(seq ((bf).getD (Int.toNat aJ) ((bs []),(0:Int),(bs []),(bs []),(0:Int))).1 aQ),v0,(((v0).length:Nat):Int),(0:Int),aQ,bR,bh,bY,bZ,((bf).getD (Int.toNat aJ) ((bs []),(0:Int),(bs []),(bs []),(0:Int))).1,((bf).getD (Int.toNat aJ) ((bs []),(0:Int),(bs []),(bs []),(0:Int))).2.1,((bf).getD (Int.toNat aJ) ((bs []),(0:Int),(bs []),(bs []),(0:Int))).2.2.1,((bf).getD (Int.toNat aJ) ((bs []),(0:Int),(bs []),(bs []),(0:Int))).2.2.2.1,((bf).getD (Int.toNat aJ) ((bs []),(0:Int),(bs []),(bs []),(0:Int))).2.2.2.2,())) fun z0 =>
 .br z0.2.2.2.2.1 (
 .ni (z0.2.2.2.1+(1:Int)) <|
 .ni (z0.2.2.2.2.2.2.2.1+(1:Int)) <|
 .ret (.inl (z0.1,z0.2.1,z0.2.2.1,(z0.2.2.2.1+(1:Int)),z0.2.2.2.2.2.1,z0.2.2.2.2.2.2.1,(z0.2.2.2.2.2.2.2.1+(1:Int)),z0.2.2.2.2.2.2.2.2.2.2.2.2.2.2.1,z0.2.2.2.2.2.2.2.2.2.2.2.2.2.2.2.1,z0.2.2.2.2.2.2.2.2.2.2.2.2.2.2.2.2.1,z0.2.2.2.2.2.2.2.2.2.2.2.2.2.2.2.2.2.1,z0.2.2.2.2.2.2.2.2.2.2.2.2.2.2.2.2.2.2.1,()))) (
 .ni (z0.2.2.2.2.2.2.2.1+(1:Int)) <|
 .ret (.inl (z0.1,z0.2.1,z0.2.2.1,z0.2.2.2.1,z0.2.2.2.2.2.1,z0.2.2.2.2.2.2.1,(z0.2.2.2.2.2.2.2.1+(1:Int)),z0.2.2.2.2.2.2.2.2.2.2.2.2.2.2.1,z0.2.2.2.2.2.2.2.2.2.2.2.2.2.2.2.1,z0.2.2.2.2.2.2.2.2.2.2.2.2.2.2.2.2.1,z0.2.2.2.2.2.2.2.2.2.2.2.2.2.2.2.2.2.1,z0.2.2.2.2.2.2.2.2.2.2.2.2.2.2.2.2.2.2.1,()))))))) (
 .br (((bf).getD (Int.toNat aJ) ((bs []),(0:Int),(bs []),(bs []),(0:Int))).2.1==(3:Int)) (
 .br (!(((bf).getD (Int.toNat aJ) ((bs []),(0:Int),(bs []),(bs []),(0:Int))).2.1==(2:Int))) (
 .ni (aJ+(1:Int)) <|
 .ret (.inl (v0,true,(seq ((bf).getD (Int.toNat aJ) ((bs []),(0:Int),(bs []),(bs []),(0:Int))).2.2.1 aQ),v7,bf,kK,(aJ+(1:Int)),aQ,bR,bh,bY,bZ,()))) (
 .br (!(seq ((bf).getD (Int.toNat aJ) ((bs []),(0:Int),(bs []),(bs []),(0:Int))).2.2.1 bh)) (
 .ni (aJ+(1:Int)) <|
 .ret (.inl (v0,true,(seq ((bf).getD (Int.toNat aJ) ((bs []),(0:Int),(bs []),(bs []),(0:Int))).2.2.1 aQ),v7,bf,kK,(aJ+(1:Int)),aQ,bR,bh,bY,bZ,()))) (
 .br (seq ((bf).getD (Int.toNat aJ) ((bs []),(0:Int),(bs []),(bs []),(0:Int))).1 aQ) (
 .ni (aJ+(1:Int)) <|
 .ret (.inl (v0,true,(seq ((bf).getD (Int.toNat aJ) ((bs []),(0:Int),(bs []),(bs []),(0:Int))).2.2.1 aQ),v7,bf,kK,(aJ+(1:Int)),aQ,bR,bh,bY,bZ,()))) (
 .bd (.it g77_1 (v0,true,(seq ((bf).getD (Int.toNat aJ) ((bs []),(0:Int),(bs []),(bs []),(0:Int))).2.2.1 aQ),v7,false,bf,kK,aJ,((bf).getD (Int.toNat aJ) ((bs []),(0:Int),(bs []),(bs []),(0:Int))).2.2.1,bh,(!(seq ((bf).getD (Int.toNat aJ) ((bs []),(0:Int),(bs []),(bs []),(0:Int))).2.2.1 bh)),((bf).getD (Int.toNat aJ) ((bs []),(0:Int),(bs []),(bs []),(0:Int))).1,aQ,(seq ((bf).getD (Int.toNat aJ) ((bs []),(0:Int),(bs []),(bs []),(0:Int))).1 aQ),v0,(((v0).length:Nat):Int),(0:Int),aQ,bR,bh,bY,bZ,((bf).getD (Int.toNat aJ) ((bs []),(0:Int),(bs []),(bs []),(0:Int))).1,((bf).getD (Int.toNat aJ) ((bs []),(0:Int),(bs []),(bs []),(0:Int))).2.1,((bf).getD (Int.toNat aJ) ((bs []),(0:Int),(bs []),(bs []),(0:Int))).2.2.1,((bf).getD (Int.toNat aJ) ((bs []),(0:Int),(bs []),(bs []),(0:Int))).2.2.2.1,((bf).getD (Int.toNat aJ) ((bs []),(0:Int),(bs []),(bs []),(0:Int))).2.2.2.2,())) fun z1 =>
 .br z1.2.2.2.2.1 (
 .ni (z1.2.2.2.1+(1:Int)) <|
 .ni (z1.2.2.2.2.2.2.2.1+(1:Int)) <|
 .ret (.inl (z1.1,z1.2.1,z1.2.2.1,(z1.2.2.2.1+(1:Int)),z1.2.2.2.2.2.1,z1.2.2.2.2.2.2.1,(z1.2.2.2.2.2.2.2.1+(1:Int)),z1.2.2.2.2.2.2.2.2.2.2.2.2.2.2.1,z1.2.2.2.2.2.2.2.2.2.2.2.2.2.2.2.1,z1.2.2.2.2.2.2.2.2.2.2.2.2.2.2.2.2.1,z1.2.2.2.2.2.2.2.2.2.2.2.2.2.2.2.2.2.1,z1.2.2.2.2.2.2.2.2.2.2.2.2.2.2.2.2.2.2.1,()))) (
 .ni (z1.2.2.2.2.2.2.2.1+(1:Int)) <|
 .ret (.inl (z1.1,z1.2.1,z1.2.2.1,z1.2.2.2.1,z1.2.2.2.2.2.1,z1.2.2.2.2.2.2.1,(z1.2.2.2.2.2.2.2.1+(1:Int)),z1.2.2.2.2.2.2.2.2.2.2.2.2.2.2.1,z1.2.2.2.2.2.2.2.2.2.2.2.2.2.2.2.1,z1.2.2.2.2.2.2.2.2.2.2.2.2.2.2.2.2.1,z1.2.2.2.2.2.2.2.2.2.2.2.2.2.2.2.2.2.1,z1.2.2.2.2.2.2.2.2.2.2.2.2.2.2.2.2.2.2.1,()))))))) (
 .br (!(((bf).getD (Int.toNat aJ) ((bs []),(0:Int),(bs []),(bs []),(0:Int))).2.1==(2:Int))) (
 .ni (aJ+(1:Int)) <|
 .ret (.inl (v0,true,false,v7,bf,kK,(aJ+(1:Int)),aQ,bR,bh,bY,bZ,()))) (
 .br (!(seq ((bf).getD (Int.toNat aJ) ((bs []),(0:Int),(bs []),(bs []),(0:Int))).2.2.1 bh)) (
 .ni (aJ+(1:Int)) <|
 .ret (.inl (v0,true,false,v7,bf,kK,(aJ+(1:Int)),aQ,bR,bh,bY,bZ,()))) (
 .br (seq ((bf).getD (Int.toNat aJ) ((bs []),(0:Int),(bs []),(bs []),(0:Int))).1 aQ) (
 .ni (aJ+(1:Int)) <|
 .ret (.inl (v0,true,false,v7,bf,kK,(aJ+(1:Int)),aQ,bR,bh,bY,bZ,()))) (
 .bd (.it g77_1 (v0,true,false,v7,false,bf,kK,aJ,((bf).getD (Int.toNat aJ) ((bs []),(0:Int),(bs []),(bs []),(0:Int))).2.2.1,bh,(!(seq ((bf).getD (Int.toNat aJ) ((bs []),(0:Int),(bs []),(bs []),(0:Int))).2.2.1 bh)),((bf).getD (Int.toNat aJ) ((bs []),(0:Int),(bs []),(bs []),(0:Int))).1,aQ,(seq ((bf).getD (Int.toNat aJ) ((bs []),(0:Int),(bs []),(bs []),(0:Int))).1 aQ),v0,(((v0).length:Nat):Int),(0:Int),aQ,bR,bh,bY,bZ,((bf).getD (Int.toNat aJ) ((bs []),(0:Int),(bs []),(bs []),(0:Int))).1,((bf).getD (Int.toNat aJ) ((bs []),(0:Int),(bs []),(bs []),(0:Int))).2.1,((bf).getD (Int.toNat aJ) ((bs []),(0:Int),(bs []),(bs []),(0:Int))).2.2.1,((bf).getD (Int.toNat aJ) ((bs []),(0:Int),(bs []),(bs []),(0:Int))).2.2.2.1,((bf).getD (Int.toNat aJ) ((bs []),(0:Int),(bs []),(bs []),(0:Int))).2.2.2.2,())) fun z2 =>
 .br z2.2.2.2.2.1 (
 .ni (z2.2.2.2.1+(1:Int)) <|
 .ni (z2.2.2.2.2.2.2.2.1+(1:Int)) <|
 .ret (.inl (z2.1,z2.2.1,z2.2.2.1,(z2.2.2.2.1+(1:Int)),z2.2.2.2.2.2.1,z2.2.2.2.2.2.2.1,(z2.2.2.2.2.2.2.2.1+(1:Int)),z2.2.2.2.2.2.2.2.2.2.2.2.2.2.2.1,z2.2.2.2.2.2.2.2.2.2.2.2.2.2.2.2.1,z2.2.2.2.2.2.2.2.2.2.2.2.2.2.2.2.2.1,z2.2.2.2.2.2.2.2.2.2.2.2.2.2.2.2.2.2.1,z2.2.2.2.2.2.2.2.2.2.2.2.2.2.2.2.2.2.2.1,()))) (
 .ni (z2.2.2.2.2.2.2.2.1+(1:Int)) <|
 .ret (.inl (z2.1,z2.2.1,z2.2.2.1,z2.2.2.2.1,z2.2.2.2.2.2.1,z2.2.2.2.2.2.2.1,(z2.2.2.2.2.2.2.2.1+(1:Int)),z2.2.2.2.2.2.2.2.2.2.2.2.2.2.2.1,z2.2.2.2.2.2.2.2.2.2.2.2.2.2.2.2.1,z2.2.2.2.2.2.2.2.2.2.2.2.2.2.2.2.2.1,z2.2.2.2.2.2.2.2.2.2.2.2.2.2.2.2.2.2.1,z2.2.2.2.2.2.2.2.2.2.2.2.2.2.2.2.2.2.2.1,()))))))))) (
 .br (seq ((bf).getD (Int.toNat aJ) ((bs []),(0:Int),(bs []),(bs []),(0:Int))).1 bh) (
 .br v6 (
 .br (!(((bf).getD (Int.toNat aJ) ((bs []),(0:Int),(bs []),(bs []),(0:Int))).2.1==(2:Int))) (
 .ni (aJ+(1:Int)) <|
 .ret (.inl (v0,(!(((bf).getD (Int.toNat aJ) ((bs []),(0:Int),(bs []),(bs []),(0:Int))).2.1==(3:Int))),true,v7,bf,kK,(aJ+(1:Int)),aQ,bR,bh,bY,bZ,()))) (
 .br (!(seq ((bf).getD (Int.toNat aJ) ((bs []),(0:Int),(bs []),(bs []),(0:Int))).2.2.1 bh)) (
 .ni (aJ+(1:Int)) <|
 .ret (.inl (v0,(!(((bf).getD (Int.toNat aJ) ((bs []),(0:Int),(bs []),(bs []),(0:Int))).2.1==(3:Int))),true,v7,bf,kK,(aJ+(1:Int)),aQ,bR,bh,bY,bZ,()))) (
 .br (seq ((bf).getD (Int.toNat aJ) ((bs []),(0:Int),(bs []),(bs []),(0:Int))).1 aQ) (
 .ni (aJ+(1:Int)) <|
 .ret (.inl (v0,(!(((bf).getD (Int.toNat aJ) ((bs []),(0:Int),(bs []),(bs []),(0:Int))).2.1==(3:Int))),true,v7,bf,kK,(aJ+(1:Int)),aQ,bR,bh,bY,bZ,()))) (
 .bd (.it g77_1 (v0,(!(((bf).getD (Int.toNat aJ) ((bs []),(0:Int),(bs []),(bs []),(0:Int))).2.1==(3:Int))),true,v7,false,bf,kK,aJ,((bf).getD (Int.toNat aJ) ((bs []),(0:Int),(bs []),(bs []),(0:Int))).2.2.1,bh,(!(seq ((bf).getD (Int.toNat aJ) ((bs []),(0:Int),(bs []),(bs []),(0:Int))).2.2.1 bh)),((bf).getD (Int.toNat aJ) ((bs []),(0:Int),(bs []),(bs []),(0:Int))).1,aQ,(seq ((bf).getD (Int.toNat aJ) ((bs []),(0:Int),(bs []),(bs []),(0:Int))).1 aQ),v0,(((v0).length:Nat):Int),(0:Int),aQ,bR,bh,bY,bZ,((bf).getD (Int.toNat aJ) ((bs []),(0:Int),(bs []),(bs []),(0:Int))).1,((bf).getD (Int.toNat aJ) ((bs []),(0:Int),(bs []),(bs []),(0:Int))).2.1,((bf).getD (Int.toNat aJ) ((bs []),(0:Int),(bs []),(bs []),(0:Int))).2.2.1,((bf).getD (Int.toNat aJ) ((bs []),(0:Int),(bs []),(bs []),(0:Int))).2.2.2.1,((bf).getD (Int.toNat aJ) ((bs []),(0:Int),(bs []),(bs []),(0:Int))).2.2.2.2,())) fun z3 =>
 .br z3.2.2.2.2.1 (
 .ni (z3.2.2.2.1+(1:Int)) <|
 .ni (z3.2.2.2.2.2.2.2.1+(1:Int)) <|
 .ret (.inl (z3.1,z3.2.1,z3.2.2.1,(z3.2.2.2.1+(1:Int)),z3.2.2.2.2.2.1,z3.2.2.2.2.2.2.1,(z3.2.2.2.2.2.2.2.1+(1:Int)),z3.2.2.2.2.2.2.2.2.2.2.2.2.2.2.1,z3.2.2.2.2.2.2.2.2.2.2.2.2.2.2.2.1,z3.2.2.2.2.2.2.2.2.2.2.2.2.2.2.2.2.1,z3.2.2.2.2.2.2.2.2.2.2.2.2.2.2.2.2.2.1,z3.2.2.2.2.2.2.2.2.2.2.2.2.2.2.2.2.2.2.1,()))) (
 .ni (z3.2.2.2.2.2.2.2.1+(1:Int)) <|
 .ret (.inl (z3.1,z3.2.1,z3.2.2.1,z3.2.2.2.1,z3.2.2.2.2.2.1,z3.2.2.2.2.2.2.1,(z3.2.2.2.2.2.2.2.1+(1:Int)),z3.2.2.2.2.2.2.2.2.2.2.2.2.2.2.1,z3.2.2.2.2.2.2.2.2.2.2.2.2.2.2.2.1,z3.2.2.2.2.2.2.2.2.2.2.2.2.2.2.2.2.1,z3.2.2.2.2.2.2.2.2.2.2.2.2.2.2.2.2.2.1,z3.2.2.2.2.2.2.2.2.2.2.2.2.2.2.2.2.2.2.1,()))))))) (
 .br (((bf).getD (Int.toNat aJ) ((bs []),(0:Int),(bs []),(bs []),(0:Int))).2.1==(3:Int)) (
 .br (!(((bf).getD (Int.toNat aJ) ((bs []),(0:Int),(bs []),(bs []),(0:Int))).2.1==(2:Int))) (
 .ni (aJ+(1:Int)) <|
 .ret (.inl (v0,(!(((bf).getD (Int.toNat aJ) ((bs []),(0:Int),(bs []),(bs []),(0:Int))).2.1==(3:Int))),(seq ((bf).getD (Int.toNat aJ) ((bs []),(0:Int),(bs []),(bs []),(0:Int))).2.2.1 aQ),v7,bf,kK,(aJ+(1:Int)),aQ,bR,bh,bY,bZ,()))) (
 .br (!(seq ((bf).getD (Int.toNat aJ) ((bs []),(0:Int),(bs []),(bs []),(0:Int))).2.2.1 bh)) (
 .ni (aJ+(1:Int)) <|
 .ret (.inl (v0,(!(((bf).getD (Int.toNat aJ) ((bs []),(0:Int),(bs []),(bs []),(0:Int))).2.1==(3:Int))),(seq ((bf).getD (Int.toNat aJ) ((bs []),(0:Int),(bs []),(bs []),(0:Int))).2.2.1 aQ),v7,bf,kK,(aJ+(1:Int)),aQ,bR,bh,bY,bZ,()))) (
 .br (seq ((bf).getD (Int.toNat aJ) ((bs []),(0:Int),(bs []),(bs []),(0:Int))).1 aQ) (
 .ni (aJ+(1:Int)) <|
 .ret (.inl (v0,(!(((bf).getD (Int.toNat aJ) ((bs []),(0:Int),(bs []),(bs []),(0:Int))).2.1==(3:Int))),(seq ((bf).getD (Int.toNat aJ) ((bs []),(0:Int),(bs []),(bs []),(0:Int))).2.2.1 aQ),v7,bf,kK,(aJ+(1:Int)),aQ,bR,bh,bY,bZ,()))) (
 .bd (.it g77_1 (v0,(!(((bf).getD (Int.toNat aJ) ((bs []),(0:Int),(bs []),(bs []),(0:Int))).2.1==(3:Int))),(seq ((bf).getD (Int.toNat aJ) ((bs []),(0:Int),(bs []),(bs []),(0:Int))).2.2.1 aQ),v7,false,bf,kK,aJ,((bf).getD (Int.toNat aJ) ((bs []),(0:Int),(bs []),(bs []),(0:Int))).2.2.1,bh,(!(seq ((bf).getD (Int.toNat aJ) ((bs []),(0:Int),(bs []),(bs []),(0:Int))).2.2.1 bh)),((bf).getD (Int.toNat aJ) ((bs []),(0:Int),(bs []),(bs []),(0:Int))).1,aQ,(seq ((bf).getD (Int.toNat aJ) ((bs []),(0:Int),(bs []),(bs []),(0:Int))).1 aQ),v0,(((v0).length:Nat):Int),(0:Int),aQ,bR,bh,bY,bZ,((bf).getD (Int.toNat aJ) ((bs []),(0:Int),(bs []),(bs []),(0:Int))).1,((bf).getD (Int.toNat aJ) ((bs []),(0:Int),(bs []),(bs []),(0:Int))).2.1,((bf).getD (Int.toNat aJ) ((bs []),(0:Int),(bs []),(bs []),(0:Int))).2.2.1,((bf).getD (Int.toNat aJ) ((bs []),(0:Int),(bs []),(bs []),(0:Int))).2.2.2.1,((bf).getD (Int.toNat aJ) ((bs []),(0:Int),(bs []),(bs []),(0:Int))).2.2.2.2,())) fun z4 =>
 .br z4.2.2.2.2.1 (
 .ni (z4.2.2.2.1+(1:Int)) <|
 .ni (z4.2.2.2.2.2.2.2.1+(1:Int)) <|
 .ret (.inl (z4.1,z4.2.1,z4.2.2.1,(z4.2.2.2.1+(1:Int)),z4.2.2.2.2.2.1,z4.2.2.2.2.2.2.1,(z4.2.2.2.2.2.2.2.1+(1:Int)),z4.2.2.2.2.2.2.2.2.2.2.2.2.2.2.1,z4.2.2.2.2.2.2.2.2.2.2.2.2.2.2.2.1,z4.2.2.2.2.2.2.2.2.2.2.2.2.2.2.2.2.1,z4.2.2.2.2.2.2.2.2.2.2.2.2.2.2.2.2.2.1,z4.2.2.2.2.2.2.2.2.2.2.2.2.2.2.2.2.2.2.1,()))) (
 .ni (z4.2.2.2.2.2.2.2.1+(1:Int)) <|
 .ret (.inl (z4.1,z4.2.1,z4.2.2.1,z4.2.2.2.1,z4.2.2.2.2.2.1,z4.2.2.2.2.2.2.1,(z4.2.2.2.2.2.2.2.1+(1:Int)),z4.2.2.2.2.2.2.2.2.2.2.2.2.2.2.1,z4.2.2.2.2.2.2.2.2.2.2.2.2.2.2.2.1,z4.2.2.2.2.2.2.2.2.2.2.2.2.2.2.2.2.1,z4.2.2.2.2.2.2.2.2.2.2.2.2.2.2.2.2.2.1,z4.2.2.2.2.2.2.2.2.2.2.2.2.2.2.2.2.2.2.1,()))))))) (
 .br (!(((bf).getD (Int.toNat aJ) ((bs []),(0:Int),(bs []),(bs []),(0:Int))).2.1==(2:Int))) (
 .ni (aJ+(1:Int)) <|
 .ret (.inl (v0,(!(((bf).getD (Int.toNat aJ) ((bs []),(0:Int),(bs []),(bs []),(0:Int))).2.1==(3:Int))),false,v7,bf,kK,(aJ+(1:Int)),aQ,bR,bh,bY,bZ,()))) (
 .br (!(seq ((bf).getD (Int.toNat aJ) ((bs []),(0:Int),(bs []),(bs []),(0:Int))).2.2.1 bh)) (
 .ni (aJ+(1:Int)) <|
 .ret (.inl (v0,(!(((bf).getD (Int.toNat aJ) ((bs []),(0:Int),(bs []),(bs []),(0:Int))).2.1==(3:Int))),false,v7,bf,kK,(aJ+(1:Int)),aQ,bR,bh,bY,bZ,()))) (
 .br (seq ((bf).getD (Int.toNat aJ) ((bs []),(0:Int),(bs []),(bs []),(0:Int))).1 aQ) (
 .ni (aJ+(1:Int)) <|
 .ret (.inl (v0,(!(((bf).getD (Int.toNat aJ) ((bs []),(0:Int),(bs []),(bs []),(0:Int))).2.1==(3:Int))),false,v7,bf,kK,(aJ+(1:Int)),aQ,bR,bh,bY,bZ,()))) (
 .bd (.it g77_1 (v0,(!(((bf).getD (Int.toNat aJ) ((bs []),(0:Int),(bs []),(bs []),(0:Int))).2.1==(3:Int))),false,v7,false,bf,kK,aJ,((bf).getD (Int.toNat aJ) ((bs []),(0:Int),(bs []),(bs []),(0:Int))).2.2.1,bh,(!(seq ((bf).getD (Int.toNat aJ) ((bs []),(0:Int),(bs []),(bs []),(0:Int))).2.2.1 bh)),((bf).getD (Int.toNat aJ) ((bs []),(0:Int),(bs []),(bs []),(0:Int))).1,aQ,(seq ((bf).getD (Int.toNat aJ) ((bs []),(0:Int),(bs []),(bs []),(0:Int))).1 aQ),v0,(((v0).length:Nat):Int),(0:Int),aQ,bR,bh,bY,bZ,((bf).getD (Int.toNat aJ) ((bs []),(0:Int),(bs []),(bs []),(0:Int))).1,((bf).getD (Int.toNat aJ) ((bs []),(0:Int),(bs []),(bs []),(0:Int))).2.1,((bf).getD (Int.toNat aJ) ((bs []),(0:Int),(bs []),(bs []),(0:Int))).2.2.1,((bf).getD (Int.toNat aJ) ((bs []),(0:Int),(bs []),(bs []),(0:Int))).2.2.2.1,((bf).getD (Int.toNat aJ) ((bs []),(0:Int),(bs []),(bs []),(0:Int))).2.2.2.2,())) fun z5 =>
 .br z5.2.2.2.2.1 (
 .ni (z5.2.2.2.1+(1:Int)) <|
 .ni (z5.2.2.2.2.2.2.2.1+(1:Int)) <|
 .ret (.inl (z5.1,z5.2.1,z5.2.2.1,(z5.2.2.2.1+(1:Int)),z5.2.2.2.2.2.1,z5.2.2.2.2.2.2.1,(z5.2.2.2.2.2.2.2.1+(1:Int)),z5.2.2.2.2.2.2.2.2.2.2.2.2.2.2.1,z5.2.2.2.2.2.2.2.2.2.2.2.2.2.2.2.1,z5.2.2.2.2.2.2.2.2.2.2.2.2.2.2.2.2.1,z5.2.2.2.2.2.2.2.2.2.2.2.2.2.2.2.2.2.1,z5.2.2.2.2.2.2.2.2.2.2.2.2.2.2.2.2.2.2.1,()))) (
 .ni (z5.2.2.2.2.2.2.2.1+(1:Int)) <|
 .ret (.inl (z5.1,z5.2.1,z5.2.2.1,z5.2.2.2.1,z5.2.2.2.2.2.1,z5.2.2.2.2.2.2.1,(z5.2.2.2.2.2.2.2.1+(1:Int)),z5.2.2.2.2.2.2.2.2.2.2.2.2.2.2.1,z5.2.2.2.2.2.2.2.2.2.2.2.2.2.2.2.1,z5.2.2.2.2.2.2.2.2.2.2.2.2.2.2.2.2.1,z5.2.2.2.2.2.2.2.2.2.2.2.2.2.2.2.2.2.1,z5.2.2.2.2.2.2.2.2.2.2.2.2.2.2.2.2.2.2.1,()))))))))) (
 .br v6 (
 .br (!(((bf).getD (Int.toNat aJ) ((bs []),(0:Int),(bs []),(bs []),(0:Int))).2.1==(2:Int))) (
 .ni (aJ+(1:Int)) <|
 .ret (.inl (v0,false,true,v7,bf,kK,(aJ+(1:Int)),aQ,bR,bh,bY,bZ,()))) (
 .br (!(seq ((bf).getD (Int.toNat aJ) ((bs []),(0:Int),(bs []),(bs []),(0:Int))).2.2.1 bh)) (
 .ni (aJ+(1:Int)) <|
 .ret (.inl (v0,false,true,v7,bf,kK,(aJ+(1:Int)),aQ,bR,bh,bY,bZ,()))) (
 .br (seq ((bf).getD (Int.toNat aJ) ((bs []),(0:Int),(bs []),(bs []),(0:Int))).1 aQ) (
 .ni (aJ+(1:Int)) <|
 .ret (.inl (v0,false,true,v7,bf,kK,(aJ+(1:Int)),aQ,bR,bh,bY,bZ,()))) (
 .bd (.it g77_1 (v0,false,true,v7,false,bf,kK,aJ,((bf).getD (Int.toNat aJ) ((bs []),(0:Int),(bs []),(bs []),(0:Int))).2.2.1,bh,(!(seq ((bf).getD (Int.toNat aJ) ((bs []),(0:Int),(bs []),(bs []),(0:Int))).2.2.1 bh)),((bf).getD (Int.toNat aJ) ((bs []),(0:Int),(bs []),(bs []),(0:Int))).1,aQ,(seq ((bf).getD (Int.toNat aJ) ((bs []),(0:Int),(bs []),(bs []),(0:Int))).1 aQ),v0,(((v0).length:Nat):Int),(0:Int),aQ,bR,bh,bY,bZ,((bf).getD (Int.toNat aJ) ((bs []),(0:Int),(bs []),(bs []),(0:Int))).1,((bf).getD (Int.toNat aJ) ((bs []),(0:Int),(bs []),(bs []),(0:Int))).2.1,((bf).getD (Int.toNat aJ) ((bs []),(0:Int),(bs []),(bs []),(0:Int))).2.2.1,((bf).getD (Int.toNat aJ) ((bs []),(0:Int),(bs []),(bs []),(0:Int))).2.2.2.1,((bf).getD (Int.toNat aJ) ((bs []),(0:Int),(bs []),(bs []),(0:Int))).2.2.2.2,())) fun z6 =>
 .br z6.2.2.2.2.1 (
 .ni (z6.2.2.2.1+(1:Int)) <|
 .ni (z6.2.2.2.2.2.2.2.1+(1:Int)) <|
 .ret (.inl (z6.1,z6.2.1,z6.2.2.1,(z6.2.2.2.1+(1:Int)),z6.2.2.2.2.2.1,z6.2.2.2.2.2.2.1,(z6.2.2.2.2.2.2.2.1+(1:Int)),z6.2.2.2.2.2.2.2.2.2.2.2.2.2.2.1,z6.2.2.2.2.2.2.2.2.2.2.2.2.2.2.2.1,z6.2.2.2.2.2.2.2.2.2.2.2.2.2.2.2.2.1,z6.2.2.2.2.2.2.2.2.2.2.2.2.2.2.2.2.2.1,z6.2.2.2.2.2.2.2.2.2.2.2.2.2.2.2.2.2.2.1,()))) (
 .ni (z6.2.2.2.2.2.2.2.1+(1:Int)) <|
 .ret (.inl (z6.1,z6.2.1,z6.2.2.1,z6.2.2.2.1,z6.2.2.2.2.2.1,z6.2.2.2.2.2.2.1,(z6.2.2.2.2.2.2.2.1+(1:Int)),z6.2.2.2.2.2.2.2.2.2.2.2.2.2.2.1,z6.2.2.2.2.2.2.2.2.2.2.2.2.2.2.2.1,z6.2.2.2.2.2.2.2.2.2.2.2.2.2.2.2.2.1,z6.2.2.2.2.2.2.2.2.2.2.2.2.2.2.2.2.2.1,z6.2.2.2.2.2.2.2.2.2.2.2.2.2.2.2.2.2.2.1,()))))))) (
 .br (((bf).getD (Int.toNat aJ) ((bs []),(0:Int),(bs []),(bs []),(0:Int))).2.1==(3:Int)) (
 .br (!(((bf).getD (Int.toNat aJ) ((bs []),(0:Int),(bs []),(bs []),(0:Int))).2.1==(2:Int))) (
 .ni (aJ+(1:Int)) <|
 .ret (.inl (v0,false,(seq ((bf).getD (Int.toNat aJ) ((bs []),(0:Int),(bs []),(bs []),(0:Int))).2.2.1 aQ),v7,bf,kK,(aJ+(1:Int)),aQ,bR,bh,bY,bZ,()))) (
 .br (!(seq ((bf).getD (Int.toNat aJ) ((bs []),(0:Int),(bs []),(bs []),(0:Int))).2.2.1 bh)) (
 .ni (aJ+(1:Int)) <|
 .ret (.inl (v0,false,(seq ((bf).getD (Int.toNat aJ) ((bs []),(0:Int),(bs []),(bs []),(0:Int))).2.2.1 aQ),v7,bf,kK,(aJ+(1:Int)),aQ,bR,bh,bY,bZ,()))) (
 .br (seq ((bf).getD (Int.toNat aJ) ((bs []),(0:Int),(bs []),(bs []),(0:Int))).1 aQ) (
 .ni (aJ+(1:Int)) <|
 .ret (.inl (v0,false,(seq ((bf).getD (Int.toNat aJ) ((bs []),(0:Int),(bs []),(bs []),(0:Int))).2.2.1 aQ),v7,bf,kK,(aJ+(1:Int)),aQ,bR,bh,bY,bZ,()))) (
 .bd (.it g77_1 (v0,false,(seq ((bf).getD (Int.toNat aJ) ((bs []),(0:Int),(bs []),(bs []),(0:Int))).2.2.1 aQ),v7,false,bf,kK,aJ,((bf).getD (Int.toNat aJ) ((bs []),(0:Int),(bs []),(bs []),(0:Int))).2.2.1,bh,(!(seq ((bf).getD (Int.toNat aJ) ((bs []),(0:Int),(bs []),(bs []),(0:Int))).2.2.1 bh)),((bf).getD (Int.toNat aJ) ((bs []),(0:Int),(bs []),(bs []),(0:Int))).1,aQ,(seq ((bf).getD (Int.toNat aJ) ((bs []),(0:Int),(bs []),(bs []),(0:Int))).1 aQ),v0,(((v0).length:Nat):Int),(0:Int),aQ,bR,bh,bY,bZ,((bf).getD (Int.toNat aJ) ((bs []),(0:Int),(bs []),(bs []),(0:Int))).1,((bf).getD (Int.toNat aJ) ((bs []),(0:Int),(bs []),(bs []),(0:Int))).2.1,((bf).getD (Int.toNat aJ) ((bs []),(0:Int),(bs []),(bs []),(0:Int))).2.2.1,((bf).getD (Int.toNat aJ) ((bs []),(0:Int),(bs []),(bs []),(0:Int))).2.2.2.1,((bf).getD (Int.toNat aJ) ((bs []),(0:Int),(bs []),(bs []),(0:Int))).2.2.2.2,())) fun z7 =>
 .br z7.2.2.2.2.1 (
 .ni (z7.2.2.2.1+(1:Int)) <|
 .ni (z7.2.2.2.2.2.2.2.1+(1:Int)) <|
 .ret (.inl (z7.1,z7.2.1,z7.2.2.1,(z7.2.2.2.1+(1:Int)),z7.2.2.2.2.2.1,z7.2.2.2.2.2.2.1,(z7.2.2.2.2.2.2.2.1+(1:Int)),z7.2.2.2.2.2.2.2.2.2.2.2.2.2.2.1,z7.2.2.2.2.2.2.2.2.2.2.2.2.2.2.2.1,z7.2.2.2.2.2.2.2.2.2.2.2.2.2.2.2.2.1,z7.2.2.2.2.2.2.2.2.2.2.2.2.2.2.2.2.2.1,z7.2.2.2.2.2.2.2.2.2.2.2.2.2.2.2.2.2.2.1,()))) (
 .ni (z7.2.2.2.2.2.2.2.1+(1:Int)) <|
 .ret (.inl (z7.1,z7.2.1,z7.2.2.1,z7.2.2.2.1,z7.2.2.2.2.2.1,z7.2.2.2.2.2.2.1,(z7.2.2.2.2.2.2.2.1+(1:Int)),z7.2.2.2.2.2.2.2.2.2.2.2.2.2.2.1,z7.2.2.2.2.2.2.2.2.2.2.2.2.2.2.2.1,z7.2.2.2.2.2.2.2.2.2.2.2.2.2.2.2.2.1,z7.2.2.2.2.2.2.2.2.2.2.2.2.2.2.2.2.2.1,z7.2.2.2.2.2.2.2.2.2.2.2.2.2.2.2.2.2.2.1,()))))))) (
 .br (!(((bf).getD (Int.toNat aJ) ((bs []),(0:Int),(bs []),(bs []),(0:Int))).2.1==(2:Int))) (
 .ni (aJ+(1:Int)) <|
 .ret (.inl (v0,false,false,v7,bf,kK,(aJ+(1:Int)),aQ,bR,bh,bY,bZ,()))) (
 .br (!(seq ((bf).getD (Int.toNat aJ) ((bs []),(0:Int),(bs []),(bs []),(0:Int))).2.2.1 bh)) (
 .ni (aJ+(1:Int)) <|
 .ret (.inl (v0,false,false,v7,bf,kK,(aJ+(1:Int)),aQ,bR,bh,bY,bZ,()))) (
 .br (seq ((bf).getD (Int.toNat aJ) ((bs []),(0:Int),(bs []),(bs []),(0:Int))).1 aQ) (
 .ni (aJ+(1:Int)) <|
 .ret (.inl (v0,false,false,v7,bf,kK,(aJ+(1:Int)),aQ,bR,bh,bY,bZ,()))) (
 .bd (.it g77_1 (v0,false,false,v7,false,bf,kK,aJ,((bf).getD (Int.toNat aJ) ((bs []),(0:Int),(bs []),(bs []),(0:Int))).2.2.1,bh,(!(seq ((bf).getD (Int.toNat aJ) ((bs []),(0:Int),(bs []),(bs []),(0:Int))).2.2.1 bh)),((bf).getD (Int.toNat aJ) ((bs []),(0:Int),(bs []),(bs []),(0:Int))).1,aQ,(seq ((bf).getD (Int.toNat aJ) ((bs []),(0:Int),(bs []),(bs []),(0:Int))).1 aQ),v0,(((v0).length:Nat):Int),(0:Int),aQ,bR,bh,bY,bZ,((bf).getD (Int.toNat aJ) ((bs []),(0:Int),(bs []),(bs []),(0:Int))).1,((bf).getD (Int.toNat aJ) ((bs []),(0:Int),(bs []),(bs []),(0:Int))).2.1,((bf).getD (Int.toNat aJ) ((bs []),(0:Int),(bs []),(bs []),(0:Int))).2.2.1,((bf).getD (Int.toNat aJ) ((bs []),(0:Int),(bs []),(bs []),(0:Int))).2.2.2.1,((bf).getD (Int.toNat aJ) ((bs []),(0:Int),(bs []),(bs []),(0:Int))).2.2.2.2,())) fun z8 =>
 .br z8.2.2.2.2.1 (
 .ni (z8.2.2.2.1+(1:Int)) <|
 .ni (z8.2.2.2.2.2.2.2.1+(1:Int)) <|
 .ret (.inl (z8.1,z8.2.1,z8.2.2.1,(z8.2.2.2.1+(1:Int)),z8.2.2.2.2.2.1,z8.2.2.2.2.2.2.1,(z8.2.2.2.2.2.2.2.1+(1:Int)),z8.2.2.2.2.2.2.2.2.2.2.2.2.2.2.1,z8.2.2.2.2.2.2.2.2.2.2.2.2.2.2.2.1,z8.2.2.2.2.2.2.2.2.2.2.2.2.2.2.2.2.1,z8.2.2.2.2.2.2.2.2.2.2.2.2.2.2.2.2.2.1,z8.2.2.2.2.2.2.2.2.2.2.2.2.2.2.2.2.2.2.1,()))) (
 .ni (z8.2.2.2.2.2.2.2.1+(1:Int)) <|
 .ret (.inl (z8.1,z8.2.1,z8.2.2.1,z8.2.2.2.1,z8.2.2.2.2.2.1,z8.2.2.2.2.2.2.1,(z8.2.2.2.2.2.2.2.1+(1:Int)),z8.2.2.2.2.2.2.2.2.2.2.2.2.2.2.1,z8.2.2.2.2.2.2.2.2.2.2.2.2.2.2.2.1,z8.2.2.2.2.2.2.2.2.2.2.2.2.2.2.2.2.1,z8.2.2.2.2.2.2.2.2.2.2.2.2.2.2.2.2.2.1,z8.2.2.2.2.2.2.2.2.2.2.2.2.2.2.2.2.2.2.1,()))))))))))) (
 .ret (.inr (v5,v6,v7,())))
noncomputable def ad8:bS prog 95 none 0:=bE mixed Zt Cu [] rfl ad5 ad6 rfl (ad7) (fun x=>ak (g77_0 x)) (fun x=>by kernel_rfl)
noncomputable def dd77:D prog 95 none 0:=dO [.l ad8] (kd prog f77) 0
noncomputable def F77 (a0:List (GG)) (a1:GG):bQ (Bool×Unit) :=
 .bd (.it g77_0 (a0,false,false,(0:Int),a0,(((a0).length:Nat):Int),(0:Int),a1.1,a1.2.1,a1.2.2.1,a1.2.2.2.1,a1.2.2.2.2,())) fun z9 =>
 .br z9.1 (
 .br (!z9.2.1) (
 .ret ((z9.2.2.1==(1:Int)),())) (
 .ret (false,()))) (
 .ret (false,()))
theorem Zu:cL prog f77=some ⟨95,2,dd77.er,[.t 4],[some .bool]⟩:=by kernel_rfl
noncomputable def ct77:Ct:=⟨77,[.c (.hole (.list tG)),.c (.hole tG)],.c (.hole .bool),fun x=>ak (F77 x.1 x.2.1)⟩
theorem TU:ct77.Ok prog:=cK mixed Cu func77 Zu (enters_of func77 rfl rfl) dd77 (by kernel_rfl) rfl (fun x=>by kernel_rfl)

/- 34 -/
noncomputable def Zv:Cx:=(aL [ct77] [])
theorem Cv:Zv.Ok prog:=ax ⟨TU,trivial⟩ trivial
@[reducible] def aeb:az:=az.mk [(0,.c (.hole (.list tG))),(3,.c (.ptr 0 0)),(4,.c (.b7 1 tG)),(6,.c (.hole .bool)),(7,hI),(8,.c (.tf false)),(32,.c (.hole (.list tG))),(33,hI),(34,hI)] [(0,.cells [.hole .str,.hole tI,.hole .str,.hole .str,.hole tI] false),(1,.arr tG false)] [.slot 3,.slot 4] []
@[reducible] def aec:aW:=[(.exit 2,az.mk [(0,.c (.hole (.list tG))),(3,.c (.ptr 0 0)),(4,.c (.b7 1 tG)),(6,.c (.hole .bool)),(7,hI),(8,.c (.hole .bool))] [(0,.cells [.hole .str,.hole tI,.hole .str,.hole .str,.hole tI] false),(1,.arr tG false)] [.slot 3,.slot 4] [])]
noncomputable def aed:D prog 56 none 0:=dO [] (pick (kd prog f34) [(0,false),(0,false)]) 0
noncomputable def g34_1:(List (GG))×Nat×Bool×Int×(List (GG))×Int×Int×ByteArray×Int×ByteArray×ByteArray×Int×(List (GG))×Unit→bQ (((List (GG))×Nat×Bool×Int×(List (GG))×Int×Int×ByteArray×Int×ByteArray×ByteArray×Int×(List (GG))×Unit) ⊕ (((List (GG))×Nat×Bool×Int×Bool×ByteArray×Int×ByteArray×ByteArray×Int×(List (GG))×Unit))):=fun (v0,zA,v6,v7,v32,v33,Lg,aQ,bR,bh,bY,bZ,b1,_) =>
 .br (decide (Lg<v33)) (
 .nb Lg (((v32).length:Nat):Int) <|
 .br (seq ((v32).getD (Int.toNat Lg) ((bs []),(0:Int),(bs []),(bs []),(0:Int))).1 bh) (
 .br (!(((v32).getD (Int.toNat Lg) ((bs []),(0:Int),(bs []),(bs []),(0:Int))).2.1==(3:Int))) (
 .ret (.inr (v0,zA,v6,v7,true,((v32).getD (Int.toNat Lg) ((bs []),(0:Int),(bs []),(bs []),(0:Int))).1,((v32).getD (Int.toNat Lg) ((bs []),(0:Int),(bs []),(bs []),(0:Int))).2.1,((v32).getD (Int.toNat Lg) ((bs []),(0:Int),(bs []),(bs []),(0:Int))).2.2.1,((v32).getD (Int.toNat Lg) ((bs []),(0:Int),(bs []),(bs []),(0:Int))).2.2.2.1,((v32).getD (Int.toNat Lg) ((bs []),(0:Int),(bs []),(bs []),(0:Int))).2.2.2.2,b1,()))) (
 .ni (Lg+(1:Int)) <|
 .ret (.inl (v0,zA,v6,v7,v32,v33,(Lg+(1:Int)),aQ,bR,bh,bY,bZ,b1,())))) (
 .ni (Lg+(1:Int)) <|
 .ret (.inl (v0,zA,v6,v7,v32,v33,(Lg+(1:Int)),aQ,bR,bh,bY,bZ,b1,())))) (
 .ret (.inr (v0,zA,v6,v7,false,aQ,bR,bh,bY,bZ,b1,())))
noncomputable def aee:bS prog 56 none 0:=bE mixed Zv Cv [] rfl aeb aec rfl (aed) (fun x=>ak (g34_1 x)) (fun x=>by kernel_rfl)
@[reducible] def aef:az:=az.mk [(0,.c (.hole (.list tG))),(3,.c (.ptr 0 0)),(4,.c (.b7 1 tG)),(6,.c (.hole .bool)),(7,hI)] [(0,.cells [.hole .str,.hole tI,.hole .str,.hole .str,.hole tI] false),(1,.arr tG false)] [.slot 3,.slot 4] []
@[reducible] def aeg:aW:=[(.ret,az.mk [(4,.c (.b7 0 tG)),(5,.c (.hole .bool)),(6,.c (.hole .bool))] [(0,.arr tG false)] [.slot 4] []),(.exit 0,az.mk [(4,.c (.b7 0 tG)),(6,.c (.hole .bool))] [(0,.arr tG false)] [.slot 4] [])]
noncomputable def aeh:D prog 56 none 0:=dO [.l aee] (pick (kd prog f34) [(0,false)]) 0
noncomputable def g34_0:(List (GG))×Nat×Bool×Int×ByteArray×Int×ByteArray×ByteArray×Int×(List (GG))×Unit→bQ (((List (GG))×Nat×Bool×Int×ByteArray×Int×ByteArray×ByteArray×Int×(List (GG))×Unit) ⊕ ((Nat×Bool×Bool×(List (GG))×Unit) ⊕ ((Nat×Bool×(List (GG))×Unit)))):=fun (v0,zA,v6,v7,aQ,bR,bh,bY,bZ,b1,_) =>
 .br (decide (v7<(9:Int))) (
 .nd (decide ((zA+((((((aQ,bR,bh,bY,bZ)::[])).drop (0:Nat)).take (1:Nat))).length)<cg)) <|
 .br (bR==(1:Int)) (
 .ret (.inr <| .inl<|((zA+((((((aQ,bR,bh,bY,bZ)::[])).drop (0:Nat)).take (1:Nat))).length),(!v6),v6,((((b1).drop (0:Nat)).take zA)++(((((aQ,bR,bh,bY,bZ)::[])).drop (0:Nat)).take (1:Nat))),()))) (
 .br v6 (
 .bd (.it g34_1 (v0,(zA+((((((aQ,bR,bh,bY,bZ)::[])).drop (0:Nat)).take (1:Nat))).length),true,v7,v0,(((v0).length:Nat):Int),(0:Int),aQ,bR,bh,bY,bZ,((((b1).drop (0:Nat)).take zA)++(((((aQ,bR,bh,bY,bZ)::[])).drop (0:Nat)).take (1:Nat))),())) fun z0 =>
 .br (!z0.2.2.2.2.1) (
 .ret (.inr <| .inl<|(z0.2.1,false,z0.2.2.1,z0.2.2.2.2.2.2.2.2.2.2.1,()))) (
 .ni (z0.2.2.2.1+(1:Int)) <|
 .ret (.inl (z0.1,z0.2.1,z0.2.2.1,(z0.2.2.2.1+(1:Int)),z0.2.2.2.2.2.1,z0.2.2.2.2.2.2.1,z0.2.2.2.2.2.2.2.1,z0.2.2.2.2.2.2.2.2.1,z0.2.2.2.2.2.2.2.2.2.1,z0.2.2.2.2.2.2.2.2.2.2.1,())))) (
 .bd (F77 v0 (aQ,bR,bh,bY,bZ)) fun y1 =>
 .bd (.it g34_1 (v0,(zA+((((((aQ,bR,bh,bY,bZ)::[])).drop (0:Nat)).take (1:Nat))).length),y1.1,v7,v0,(((v0).length:Nat):Int),(0:Int),aQ,bR,bh,bY,bZ,((((b1).drop (0:Nat)).take zA)++(((((aQ,bR,bh,bY,bZ)::[])).drop (0:Nat)).take (1:Nat))),())) fun z2 =>
 .br (!z2.2.2.2.2.1) (
 .ret (.inr <| .inl<|(z2.2.1,false,z2.2.2.1,z2.2.2.2.2.2.2.2.2.2.2.1,()))) (
 .ni (z2.2.2.2.1+(1:Int)) <|
 .ret (.inl (z2.1,z2.2.1,z2.2.2.1,(z2.2.2.2.1+(1:Int)),z2.2.2.2.2.2.1,z2.2.2.2.2.2.2.1,z2.2.2.2.2.2.2.2.1,z2.2.2.2.2.2.2.2.2.1,z2.2.2.2.2.2.2.2.2.2.1,z2.2.2.2.2.2.2.2.2.2.2.1,())))))) (
 .ret (.inr <| .inr<|(zA,v6,b1,())))
noncomputable def aei:bS prog 56 none 0:=bE mixed Zv Cv [] rfl aef aeg rfl (aeh) (fun x=>ak (g34_0 x)) (fun x=>by kernel_rfl)
noncomputable def dd34:D prog 56 none 0:=dO [.l aei] (kd prog f34) 0
noncomputable def F34 (a0:List (GG)) (a1:GG):bQ ((List (GG))×Bool×Bool×Unit) :=
 .bd (.it g34_0 (a0,(0:Nat),false,(0:Int),a1.1,a1.2.1,a1.2.2.1,a1.2.2.2.1,a1.2.2.2.2,[],())) fun z3 =>
 .sm z3 (fun z4 =>
 .ret ((((z4.2.2.2.1).drop (0:Nat)).take z4.1),z4.2.1,z4.2.2.1,())) fun z5 =>
 .ret ((((z5.2.2.1).drop (0:Nat)).take z5.1),false,z5.2.1,())
theorem Zw:cL prog f34=some ⟨56,2,dd34.er,[.t 4,.t 5,.t 6],[some (.list tG),some .bool,some .bool]⟩:=by kernel_rfl
noncomputable def ct34:Ct:=⟨34,[.c (.hole (.list tG)),.c (.hole tG)],.cG [.hole (.list tG),.hole .bool,.hole .bool],fun x=>ak (F34 x.1 x.2.1)⟩
theorem TV:ct34.Ok prog:=cK mixed Cv func34 Zw (enters_of func34 rfl rfl) dd34 (by kernel_rfl) rfl (fun x=>by kernel_rfl)

/- 35 -/
noncomputable def cx35:Cx:=(aL [ct34] [])
theorem Ji:cx35.Ok prog:=ax ⟨TV,trivial⟩ trivial
@[reducible] def aem:az:=az.mk [(0,.c (.hole (.list tG))),(3,.c (.ptr 0 0)),(6,.c (.hole (.list tG))),(7,.c (.hole .bool)),(24,.c (.hole (.list tG))),(25,hI),(26,hI)] [(0,.cells [.hole .str,.hole tI,.hole .str,.hole .str,.hole tI] false)] [.slot 3] []
@[reducible] def aen:aW:=[(.ret,az.mk [(4,.c (.hole .str)),(5,.c (.tf false))] [] [] []),(.exit 0,az.mk [(6,.c (.hole (.list tG))),(7,.c (.hole .bool))] [] [] [])]
noncomputable def aeo:D prog 57 none 0:=dO [] (pick (kd prog f35) [(0,false)]) 0
noncomputable def g35_0:(List (GG))×(List (GG))×Bool×(List (GG))×Int×Int×ByteArray×Int×ByteArray×ByteArray×Int×Unit→bQ (((List (GG))×(List (GG))×Bool×(List (GG))×Int×Int×ByteArray×Int×ByteArray×ByteArray×Int×Unit) ⊕ ((ByteArray×Unit) ⊕ (((List (GG))×Bool×Unit)))):=fun (v0,v6,v7,v24,v25,v26,aQ,bR,bh,bY,bZ,_) =>
 .br (decide (v26<v25)) (
 .nb v26 (((v24).length:Nat):Int) <|
 .br (((v24).getD (Int.toNat v26) ((bs []),(0:Int),(bs []),(bs []),(0:Int))).2.1==(2:Int)) (
 .br (seq ((v24).getD (Int.toNat v26) ((bs []),(0:Int),(bs []),(bs []),(0:Int))).2.2.1 aQ) (
 .bd (F34 v0 (((v24).getD (Int.toNat v26) ((bs []),(0:Int),(bs []),(bs []),(0:Int))).1,((v24).getD (Int.toNat v26) ((bs []),(0:Int),(bs []),(bs []),(0:Int))).2.1,((v24).getD (Int.toNat v26) ((bs []),(0:Int),(bs []),(bs []),(0:Int))).2.2.1,((v24).getD (Int.toNat v26) ((bs []),(0:Int),(bs []),(bs []),(0:Int))).2.2.2.1,((v24).getD (Int.toNat v26) ((bs []),(0:Int),(bs []),(bs []),(0:Int))).2.2.2.2)) fun y1 =>
 .br y1.2.1 (
 .ret (.inr <| .inl<|((bs []),()))) (
 .ni (v26+(1:Int)) <|
 .ret (.inl (v0,v6,v7,v24,v25,(v26+(1:Int)),aQ,bR,bh,bY,bZ,())))) (
 .ni (v26+(1:Int)) <|
 .ret (.inl (v0,v6,v7,v24,v25,(v26+(1:Int)),aQ,bR,bh,bY,bZ,())))) (
 .ni (v26+(1:Int)) <|
 .ret (.inl (v0,v6,v7,v24,v25,(v26+(1:Int)),aQ,bR,bh,bY,bZ,())))) (
 .ret (.inr <| .inr<|(v6,v7,())))
noncomputable def aep:bS prog 57 none 0:=bE mixed cx35 Ji [] rfl aem aen rfl (aeo) (fun x=>ak (g35_0 x)) (fun x=>by kernel_rfl)
noncomputable def dd35:D prog 57 none 0:=dO [.l aep] (kd prog f35) 0
noncomputable def F35 (a0:List (GG)) (a1:GG):bQ (ByteArray×Bool×Unit) :=
 .br (a1.2.1==(3:Int)) (
 .ret ((bs []),false,())) (
 .bd (F34 a0 (a1.1,a1.2.1,a1.2.2.1,a1.2.2.2.1,a1.2.2.2.2)) fun y0 =>
 .bd (.it g35_0 (a0,y0.1,y0.2.1,a0,(((a0).length:Nat):Int),(0:Int),a1.1,a1.2.1,a1.2.2.1,a1.2.2.2.1,a1.2.2.2.2,())) fun z2 =>
 .sm z2 (fun z3 =>
 .ret (z3.1,false,())) fun z4 =>
 .ni ((((z4.1).length:Nat):Int) - (1:Int)) <|
 .nb ((((z4.1).length:Nat):Int) - (1:Int)) (((z4.1).length:Nat):Int) <|
 .ret (((z4.1).getD (Int.toNat ((((z4.1).length:Nat):Int) - (1:Int))) ((bs []),(0:Int),(bs []),(bs []),(0:Int))).1,z4.2.1,()))
theorem Zx:cL prog f35=some ⟨57,2,dd35.er,[.t 4,.t 5],[some .str,some .bool]⟩:=by kernel_rfl
noncomputable def ct35:Ct:=⟨35,[.c (.hole (.list tG)),.c (.hole tG)],.cG [.hole .str,.hole .bool],fun x=>ak (F35 x.1 x.2.1)⟩
theorem TW:ct35.Ok prog:=cK mixed Ji func35 Zx (enters_of func35 rfl rfl) dd35 (by kernel_rfl) rfl (fun x=>by kernel_rfl)

/- 38 -/
noncomputable def cx38:Cx:=(aL [] [])
theorem TX:cx38.Ok prog:=ax trivial trivial
noncomputable def dd38:D prog 2 none 0:=dO [] (kd prog f38) 0
noncomputable def F38:bQ (List ByteArray×Unit) :=
 .ret ((((((bs [120])::((bs [121])::((bs [122])::[])))).drop (0:Nat)).take (3:Nat)),())
theorem Zy:cL prog f38=some ⟨2,0,dd38.er,[.t 0],[some (.list .str)]⟩:=by kernel_rfl
noncomputable def ct38:Ct:=⟨38,[],.c (.hole (.list .str)),fun x=>ak (F38)⟩
theorem TY:ct38.Ok prog:=cK mixed TX func38 Zy (enters_of func38 rfl rfl) dd38 (by kernel_rfl) rfl (fun x=>by kernel_rfl)

/- 6 -/
noncomputable def Wc:Cx:=(aL [ct28,ct30,ct35,ct38,Zg,ct17] [Yg,Zc,Tm,Zd])
theorem oQ:Wc.Ok prog:=ax ⟨TN,TQ,TW,TY,Jb,TI,trivial⟩ ⟨⟨IG,rfl⟩,⟨I7,rfl⟩,⟨Cg,rfl⟩,⟨I8,rfl⟩,trivial⟩
@[reducible] def p6_2:az:=az.mk [(4,.c (.ptr 0 0)),(5,.c (.hole (.list tG))),(8,.c (.ptr 1 0)),(9,.c (.b7 2 (.prod tI (.prod tI tI)))),(11,.c (.pa 3 tI 3)),(43,.c (.hole (.list tG))),(44,hI),(45,hI),(52,.c (.b7 4 (.prod tI (.prod tI tI)))),(53,hI),(54,hI),(58,.c (.hole (.list tG))),(59,hI),(60,hI)] [(0,.cells [.mp 5] false),(1,.cells [.hole .str,.hole tI,.hole .str,.hole .str,.hole tI] false),(2,.arr (.prod tI (.prod tI tI)) false),(3,.arr tI false),(4,.arr (.prod tI (.prod tI tI)) false),(5,.map tG true .bool false)] [.slot 4,.slot 8,.slot 9,.slot 11,.slot 52,.cell 0 0] []
@[reducible] def x6_2:aW:=[(.exit 4,az.mk [(4,.c (.ptr 0 0)),(5,.c (.hole (.list tG))),(8,.c (.ptr 1 0)),(9,.c (.b7 2 (.prod tI (.prod tI tI)))),(43,.c (.hole (.list tG))),(44,hI),(45,hI),(52,.c (.b7 3 (.prod tI (.prod tI tI)))),(53,hI),(54,hI)] [(0,.cells [.mp 4] false),(1,.cells [.hole .str,.hole tI,.hole .str,.hole .str,.hole tI] false),(2,.arr (.prod tI (.prod tI tI)) false),(3,.arr (.prod tI (.prod tI tI)) false),(4,.map tG true .bool false)] [.slot 4,.slot 8,.slot 9,.slot 52,.cell 0 0] [])]
noncomputable def b6_2:D prog 215 none 0:=dO [] (pick (kd prog f6) [(0,false),(0,false),(0,false)]) 0
noncomputable def g6_2:(List (GG))×Nat×(List (GG))×Int×Int×Nat×Int×Int×(List (GG))×Int×Int×ByteArray×Int×ByteArray×ByteArray×Int×(List (Int×Int×Int))×List Int×(List (Int×Int×Int))×(List ((GG)×Bool))×Unit→bQ (((List (GG))×Nat×(List (GG))×Int×Int×Nat×Int×Int×(List (GG))×Int×Int×ByteArray×Int×ByteArray×ByteArray×Int×(List (Int×Int×Int))×List Int×(List (Int×Int×Int))×(List ((GG)×Bool))×Unit) ⊕ (((List (GG))×Nat×(List (GG))×Int×Int×Nat×Int×Int×ByteArray×Int×ByteArray×ByteArray×Int×(List (Int×Int×Int))×(List (Int×Int×Int))×(List ((GG)×Bool))×Unit))):=fun (v5,TZ,tT,v44,v45,u5,v53,v54,v58,v59,v60,eo,kJ,nq,nt,nQ,b2,b3,b4,m5,_) =>
 .br (decide (v60<v59)) (
 .nb v60 (((v58).length:Nat):Int) <|
 .bd (F35 v5 (((v58).getD (Int.toNat v60) ((bs []),(0:Int),(bs []),(bs []),(0:Int))).1,((v58).getD (Int.toNat v60) ((bs []),(0:Int),(bs []),(bs []),(0:Int))).2.1,((v58).getD (Int.toNat v60) ((bs []),(0:Int),(bs []),(bs []),(0:Int))).2.2.1,((v58).getD (Int.toNat v60) ((bs []),(0:Int),(bs []),(bs []),(0:Int))).2.2.2.1,((v58).getD (Int.toNat v60) ((bs []),(0:Int),(bs []),(bs []),(0:Int))).2.2.2.2)) fun y3 =>
 .br y3.2.1 (
 .br (seq y3.1 eo) (
 .nb (0:Int) ((((v58).getD (Int.toNat v60) ((bs []),(0:Int),(bs []),(bs []),(0:Int))).2.2.2.1.size:Nat):Int) <|
 .nd (eN .u8 ((fF ((v58).getD (Int.toNat v60) ((bs []),(0:Int),(bs []),(bs []),(0:Int))).2.2.2.1 (Int.toNat (0:Int))) - (120:Int))) <|
 .nb ((fF ((v58).getD (Int.toNat v60) ((bs []),(0:Int),(bs []),(bs []),(0:Int))).2.2.2.1 (Int.toNat (0:Int))) - (120:Int)) (3:Int) <|
 .nd (decide ((Int.toNat ((fF ((v58).getD (Int.toNat v60) ((bs []),(0:Int),(bs []),(bs []),(0:Int))).2.2.2.1 (Int.toNat (0:Int))) - (120:Int)))<((((b3).getD (0:Nat) (0:Int))::(((b3).getD (1:Nat) (0:Int))::(((b3).getD (2:Nat) (0:Int))::[])))).length)) <|
 .ni ((((((b3).getD (0:Nat) (0:Int))::(((b3).getD (1:Nat) (0:Int))::(((b3).getD (2:Nat) (0:Int))::[])))).getD (Int.toNat ((fF ((v58).getD (Int.toNat v60) ((bs []),(0:Int),(bs []),(bs []),(0:Int))).2.2.2.1 (Int.toNat (0:Int))) - (120:Int))) (0:Int))+((v58).getD (Int.toNat v60) ((bs []),(0:Int),(bs []),(bs []),(0:Int))).2.2.2.2) <|
 .nb ((fF ((v58).getD (Int.toNat v60) ((bs []),(0:Int),(bs []),(bs []),(0:Int))).2.2.2.1 (Int.toNat (0:Int))) - (120:Int)) (3:Int) <|
 .nd (decide ((Int.toNat ((fF ((v58).getD (Int.toNat v60) ((bs []),(0:Int),(bs []),(bs []),(0:Int))).2.2.2.1 (Int.toNat (0:Int))) - (120:Int)))<((((b3).getD (0:Nat) (0:Int))::(((b3).getD (1:Nat) (0:Int))::(((b3).getD (2:Nat) (0:Int))::[])))).length)) <|
 .nd (decide ((TZ+(((((((((((((b3).getD (0:Nat) (0:Int))::(((b3).getD (1:Nat) (0:Int))::(((b3).getD (2:Nat) (0:Int))::[])))).set (Int.toNat ((fF ((v58).getD (Int.toNat v60) ((bs []),(0:Int),(bs []),(bs []),(0:Int))).2.2.2.1 (Int.toNat (0:Int))) - (120:Int))) ((((((b3).getD (0:Nat) (0:Int))::(((b3).getD (1:Nat) (0:Int))::(((b3).getD (2:Nat) (0:Int))::[])))).getD (Int.toNat ((fF ((v58).getD (Int.toNat v60) ((bs []),(0:Int),(bs []),(bs []),(0:Int))).2.2.2.1 (Int.toNat (0:Int))) - (120:Int))) (0:Int))+((v58).getD (Int.toNat v60) ((bs []),(0:Int),(bs []),(bs []),(0:Int))).2.2.2.2))).getD (0:Nat) (0:Int)),(((((((b3).getD (0:Nat) (0:Int))::(((b3).getD (1:Nat) (0:Int))::(((b3).getD (2:Nat) (0:Int))::[])))).set (Int.toNat ((fF ((v58).getD (Int.toNat v60) ((bs []),(0:Int),(bs []),(bs []),(0:Int))).2.2.2.1 (Int.toNat (0:Int))) - (120:Int))) ((((((b3).getD (0:Nat) (0:Int))::(((b3).getD (1:Nat) (0:Int))::(((b3).getD (2:Nat) (0:Int))::[])))).getD (Int.toNat ((fF ((v58).getD (Int.toNat v60) ((bs []),(0:Int),(bs []),(bs []),(0:Int))).2.2.2.1 (Int.toNat (0:Int))) - (120:Int))) (0:Int))+((v58).getD (Int.toNat v60) ((bs []),(0:Int),(bs []),(bs []),(0:Int))).2.2.2.2))).getD (1:Nat) (0:Int)),(((((((b3).getD (0:Nat) (0:Int))::(((b3).getD (1:Nat) (0:Int))::(((b3).getD (2:Nat) (0:Int))::[])))).set (Int.toNat ((fF ((v58).getD (Int.toNat v60) ((bs []),(0:Int),(bs []),(bs []),(0:Int))).2.2.2.1 (Int.toNat (0:Int))) - (120:Int))) ((((((b3).getD (0:Nat) (0:Int))::(((b3).getD (1:Nat) (0:Int))::(((b3).getD (2:Nat) (0:Int))::[])))).getD (Int.toNat ((fF ((v58).getD (Int.toNat v60) ((bs []),(0:Int),(bs []),(bs []),(0:Int))).2.2.2.1 (Int.toNat (0:Int))) - (120:Int))) (0:Int))+((v58).getD (Int.toNat v60) ((bs []),(0:Int),(bs []),(bs []),(0:Int))).2.2.2.2))).getD (2:Nat) (0:Int)))::[])).drop (0:Nat)).take (1:Nat))).length)<cg)) <|
 .ni (v60+(1:Int)) <|
 .ret (.inl (v5,(TZ+(((((((((((((b3).getD (0:Nat) (0:Int))::(((b3).getD (1:Nat) (0:Int))::(((b3).getD (2:Nat) (0:Int))::[])))).set (Int.toNat ((fF ((v58).getD (Int.toNat v60) ((bs []),(0:Int),(bs []),(bs []),(0:Int))).2.2.2.1 (Int.toNat (0:Int))) - (120:Int))) ((((((b3).getD (0:Nat) (0:Int))::(((b3).getD (1:Nat) (0:Int))::(((b3).getD (2:Nat) (0:Int))::[])))).getD (Int.toNat ((fF ((v58).getD (Int.toNat v60) ((bs []),(0:Int),(bs []),(bs []),(0:Int))).2.2.2.1 (Int.toNat (0:Int))) - (120:Int))) (0:Int))+((v58).getD (Int.toNat v60) ((bs []),(0:Int),(bs []),(bs []),(0:Int))).2.2.2.2))).getD (0:Nat) (0:Int)),(((((((b3).getD (0:Nat) (0:Int))::(((b3).getD (1:Nat) (0:Int))::(((b3).getD (2:Nat) (0:Int))::[])))).set (Int.toNat ((fF ((v58).getD (Int.toNat v60) ((bs []),(0:Int),(bs []),(bs []),(0:Int))).2.2.2.1 (Int.toNat (0:Int))) - (120:Int))) ((((((b3).getD (0:Nat) (0:Int))::(((b3).getD (1:Nat) (0:Int))::(((b3).getD (2:Nat) (0:Int))::[])))).getD (Int.toNat ((fF ((v58).getD (Int.toNat v60) ((bs []),(0:Int),(bs []),(bs []),(0:Int))).2.2.2.1 (Int.toNat (0:Int))) - (120:Int))) (0:Int))+((v58).getD (Int.toNat v60) ((bs []),(0:Int),(bs []),(bs []),(0:Int))).2.2.2.2))).getD (1:Nat) (0:Int)),(((((((b3).getD (0:Nat) (0:Int))::(((b3).getD (1:Nat) (0:Int))::(((b3).getD (2:Nat) (0:Int))::[])))).set (Int.toNat ((fF ((v58).getD (Int.toNat v60) ((bs []),(0:Int),(bs []),(bs []),(0:Int))).2.2.2.1 (Int.toNat (0:Int))) - (120:Int))) ((((((b3).getD (0:Nat) (0:Int))::(((b3).getD (1:Nat) (0:Int))::(((b3).getD (2:Nat) (0:Int))::[])))).getD (Int.toNat ((fF ((v58).getD (Int.toNat v60) ((bs []),(0:Int),(bs []),(bs []),(0:Int))).2.2.2.1 (Int.toNat (0:Int))) - (120:Int))) (0:Int))+((v58).getD (Int.toNat v60) ((bs []),(0:Int),(bs []),(bs []),(0:Int))).2.2.2.2))).getD (2:Nat) (0:Int)))::[])).drop (0:Nat)).take (1:Nat))).length),tT,v44,v45,u5,v53,v54,v58,v59,(v60+(1:Int)),eo,kJ,nq,nt,nQ,((((b2).drop (0:Nat)).take TZ)++((((((((((((b3).getD (0:Nat) (0:Int))::(((b3).getD (1:Nat) (0:Int))::(((b3).getD (2:Nat) (0:Int))::[])))).set (Int.toNat ((fF ((v58).getD (Int.toNat v60) ((bs []),(0:Int),(bs []),(bs []),(0:Int))).2.2.2.1 (Int.toNat (0:Int))) - (120:Int))) ((((((b3).getD (0:Nat) (0:Int))::(((b3).getD (1:Nat) (0:Int))::(((b3).getD (2:Nat) (0:Int))::[])))).getD (Int.toNat ((fF ((v58).getD (Int.toNat v60) ((bs []),(0:Int),(bs []),(bs []),(0:Int))).2.2.2.1 (Int.toNat (0:Int))) - (120:Int))) (0:Int))+((v58).getD (Int.toNat v60) ((bs []),(0:Int),(bs []),(bs []),(0:Int))).2.2.2.2))).getD (0:Nat) (0:Int)),(((((((b3).getD (0:Nat) (0:Int))::(((b3).getD (1:Nat) (0:Int))::(((b3).getD (2:Nat) (0:Int))::[])))).set (Int.toNat ((fF ((v58).getD (Int.toNat v60) ((bs []),(0:Int),(bs []),(bs []),(0:Int))).2.2.2.1 (Int.toNat (0:Int))) - (120:Int))) ((((((b3).getD (0:Nat) (0:Int))::(((b3).getD (1:Nat) (0:Int))::(((b3).getD (2:Nat) (0:Int))::[])))).getD (Int.toNat ((fF ((v58).getD (Int.toNat v60) ((bs []),(0:Int),(bs []),(bs []),(0:Int))).2.2.2.1 (Int.toNat (0:Int))) - (120:Int))) (0:Int))+((v58).getD (Int.toNat v60) ((bs []),(0:Int),(bs []),(bs []),(0:Int))).2.2.2.2))).getD (1:Nat) (0:Int)),(((((((b3).getD (0:Nat) (0:Int))::(((b3).getD (1:Nat) (0:Int))::(((b3).getD (2:Nat) (0:Int))::[])))).set (Int.toNat ((fF ((v58).getD (Int.toNat v60) ((bs []),(0:Int),(bs []),(bs []),(0:Int))).2.2.2.1 (Int.toNat (0:Int))) - (120:Int))) ((((((b3).getD (0:Nat) (0:Int))::(((b3).getD (1:Nat) (0:Int))::(((b3).getD (2:Nat) (0:Int))::[])))).getD (Int.toNat ((fF ((v58).getD (Int.toNat v60) ((bs []),(0:Int),(bs []),(bs []),(0:Int))).2.2.2.1 (Int.toNat (0:Int))) - (120:Int))) (0:Int))+((v58).getD (Int.toNat v60) ((bs []),(0:Int),(bs []),(bs []),(0:Int))).2.2.2.2))).getD (2:Nat) (0:Int)))::[])).drop (0:Nat)).take (1:Nat))),b3,b4,m5,()))) (
 .ni (v60+(1:Int)) <|
 .ret (.inl (v5,TZ,tT,v44,v45,u5,v53,v54,v58,v59,(v60+(1:Int)),eo,kJ,nq,nt,nQ,b2,b3,b4,m5,())))) (
 .ni (v60+(1:Int)) <|
 .ret (.inl (v5,TZ,tT,v44,v45,u5,v53,v54,v58,v59,(v60+(1:Int)),eo,kJ,nq,nt,nQ,b2,b3,b4,m5,())))) (
 .ret (.inr (v5,TZ,tT,v44,v45,u5,v53,v54,eo,kJ,nq,nt,nQ,b2,b4,m5,())))
noncomputable def L6_2:bS prog 215 none 0:=bE mixed Wc oQ [] rfl p6_2 x6_2 rfl (b6_2) (fun x=>ak (g6_2 x)) (fun x=>by kernel_rfl)
@[reducible] def p6_1:az:=az.mk [(4,.c (.ptr 0 0)),(5,.c (.hole (.list tG))),(8,.c (.ptr 1 0)),(9,.c (.b7 2 (.prod tI (.prod tI tI)))),(43,.c (.hole (.list tG))),(44,hI),(45,hI),(52,.c (.b7 3 (.prod tI (.prod tI tI)))),(53,hI),(54,hI)] [(0,.cells [.mp 4] false),(1,.cells [.hole .str,.hole tI,.hole .str,.hole .str,.hole tI] false),(2,.arr (.prod tI (.prod tI tI)) false),(3,.arr (.prod tI (.prod tI tI)) false),(4,.map tG true .bool false)] [.slot 4,.slot 8,.slot 9,.slot 52,.cell 0 0] []
@[reducible] def x6_1:aW:=[(.exit 2,az.mk [(4,.c (.ptr 0 0)),(5,.c (.hole (.list tG))),(9,.c (.b7 1 (.prod tI (.prod tI tI)))),(43,.c (.hole (.list tG))),(44,hI),(45,hI)] [(0,.cells [.mp 2] false),(1,.arr (.prod tI (.prod tI tI)) false),(2,.map tG true .bool false)] [.slot 4,.slot 9,.cell 0 0] [])]
noncomputable def b6_1:D prog 215 none 0:=dO [.l L6_2] (pick (kd prog f6) [(0,false),(0,false)]) 0
noncomputable def g6_1:(List (GG))×Nat×(List (GG))×Int×Int×Nat×Int×Int×ByteArray×Int×ByteArray×ByteArray×Int×(List (Int×Int×Int))×(List (Int×Int×Int))×(List ((GG)×Bool))×Unit→bQ (((List (GG))×Nat×(List (GG))×Int×Int×Nat×Int×Int×ByteArray×Int×ByteArray×ByteArray×Int×(List (Int×Int×Int))×(List (Int×Int×Int))×(List ((GG)×Bool))×Unit) ⊕ (((List (GG))×Nat×(List (GG))×Int×Int×(List (Int×Int×Int))×(List ((GG)×Bool))×Unit))):=fun (v5,TZ,tT,v44,v45,u5,v53,v54,eo,kJ,nq,nt,nQ,b2,b3,m4,_) =>
 .br (decide (v54<v53)) (
 .nb v54 ((u5:Nat):Int) <|
 .nd (decide (((0:Nat)+(Int.toNat v54))<(b3).length)) <|
 .bd (.it g6_2 (v5,TZ,tT,v44,v45,u5,v53,v54,v5,(((v5).length:Nat):Int),(0:Int),eo,kJ,nq,nt,nQ,b2,(((b3).getD ((0:Nat)+(Int.toNat v54)) ((0:Int),(0:Int),(0:Int))).1::(((b3).getD ((0:Nat)+(Int.toNat v54)) ((0:Int),(0:Int),(0:Int))).2.1::(((b3).getD ((0:Nat)+(Int.toNat v54)) ((0:Int),(0:Int),(0:Int))).2.2::[]))),b3,m4,())) fun z4 =>
 .ni (z4.2.2.2.2.2.2.2.1+(1:Int)) <|
 .ret (.inl (z4.1,z4.2.1,z4.2.2.1,z4.2.2.2.1,z4.2.2.2.2.1,z4.2.2.2.2.2.1,z4.2.2.2.2.2.2.1,(z4.2.2.2.2.2.2.2.1+(1:Int)),z4.2.2.2.2.2.2.2.2.1,z4.2.2.2.2.2.2.2.2.2.1,z4.2.2.2.2.2.2.2.2.2.2.1,z4.2.2.2.2.2.2.2.2.2.2.2.1,z4.2.2.2.2.2.2.2.2.2.2.2.2.1,z4.2.2.2.2.2.2.2.2.2.2.2.2.2.1,z4.2.2.2.2.2.2.2.2.2.2.2.2.2.2.1,z4.2.2.2.2.2.2.2.2.2.2.2.2.2.2.2.1,()))) (
 .ret (.inr (v5,TZ,tT,v44,v45,b2,m4,())))
noncomputable def L6_1:bS prog 215 none 0:=bE mixed Wc oQ [] rfl p6_1 x6_1 rfl (b6_1) (fun x=>ak (g6_1 x)) (fun x=>by kernel_rfl)
@[reducible] def p6_0:az:=az.mk [(4,.c (.ptr 0 0)),(5,.c (.hole (.list tG))),(6,.c (.b7 1 (.prod tI (.prod tI tI)))),(43,.c (.hole (.list tG))),(44,hI),(45,hI)] [(0,.cells [.mp 2] false),(1,.arr (.prod tI (.prod tI tI)) false),(2,.map tG true .bool false)] [.slot 4,.slot 6,.cell 0 0] []
@[reducible] def x6_0:aW:=[(.exit 0,az.mk [(4,.c (.ptr 0 0)),(6,.c (.b7 1 (.prod tI (.prod tI tI))))] [(0,.cells [.mp 2] false),(1,.arr (.prod tI (.prod tI tI)) false),(2,.map tG true .bool false)] [.slot 4,.slot 6,.cell 0 0] [])]
noncomputable def b6_0:D prog 215 none 0:=dO [.l L6_1] (pick (kd prog f6) [(0,false)]) 0
noncomputable def g6_0:(List (GG))×Nat×(List (GG))×Int×Int×(List (Int×Int×Int))×(List ((GG)×Bool))×Unit→bQ (((List (GG))×Nat×(List (GG))×Int×Int×(List (Int×Int×Int))×(List ((GG)×Bool))×Unit) ⊕ ((Nat×(List (Int×Int×Int))×(List ((GG)×Bool))×Unit))):=fun (v5,zw,tT,v44,v45,b1,m2,_) =>
 .br (decide (v45<v44)) (
 .nb v45 (((tT).length:Nat):Int) <|
 .br (!(((tT).getD (Int.toNat v45) ((bs []),(0:Int),(bs []),(bs []),(0:Int))).2.1==(1:Int))) (
 .ni (v45+(1:Int)) <|
 .ret (.inl (v5,zw,tT,v44,(v45+(1:Int)),b1,m2,()))) (
 .bd (.it g6_1 (v5,(0:Nat),tT,v44,v45,zw,((zw:Nat):Int),(0:Int),((tT).getD (Int.toNat v45) ((bs []),(0:Int),(bs []),(bs []),(0:Int))).1,((tT).getD (Int.toNat v45) ((bs []),(0:Int),(bs []),(bs []),(0:Int))).2.1,((tT).getD (Int.toNat v45) ((bs []),(0:Int),(bs []),(bs []),(0:Int))).2.2.1,((tT).getD (Int.toNat v45) ((bs []),(0:Int),(bs []),(bs []),(0:Int))).2.2.2.1,((tT).getD (Int.toNat v45) ((bs []),(0:Int),(bs []),(bs []),(0:Int))).2.2.2.2,[],b1,m2,())) fun z5 =>
 .ni (z5.2.2.2.2.1+(1:Int)) <|
 .ret (.inl (z5.1,z5.2.1,z5.2.2.1,z5.2.2.2.1,(z5.2.2.2.2.1+(1:Int)),z5.2.2.2.2.2.1,z5.2.2.2.2.2.2.1,())))) (
 .ret (.inr (zw,b1,m2,())))
noncomputable def L6_0:bS prog 215 none 0:=bE mixed Wc oQ [] rfl p6_0 x6_0 rfl (b6_0) (fun x=>ak (g6_0 x)) (fun x=>by kernel_rfl)
@[reducible] def p6_5:az:=az.mk [(4,.c (.ptr 0 0)),(6,.c (.b7 1 (.prod tI (.prod tI tI)))),(17,.c (.ptr 2 0)),(19,.c (.ptr 3 0)),(20,.c (.ptr 4 0)),(21,hI),(22,.c (.hole .str)),(23,.c (.b7 5 tI)),(24,hI),(25,.c (.hole .bool)),(110,.c (.hole (.list .str))),(111,hI),(112,hI),(121,.c (.b7 1 (.prod tI (.prod tI tI)))),(122,hI),(123,hI)] [(0,.cells [.mp 6] false),(1,.arr (.prod tI (.prod tI tI)) false),(2,.cells [.hole tI,.hole tI] false),(3,.cells [.hole tI,.hole tI] false),(4,.cells [.hole tI,.hole tI] false),(5,.arr tI false),(6,.map tG true .bool false)] [.slot 4,.slot 6,.slot 17,.slot 19,.slot 20,.slot 23,.cell 0 0] []
@[reducible] def x6_5:aW:=[(.exit 10,az.mk [(4,.c (.ptr 0 0)),(6,.c (.b7 1 (.prod tI (.prod tI tI)))),(17,.c (.ptr 2 0)),(19,.c (.ptr 3 0)),(20,.c (.ptr 4 0)),(21,hI),(22,.c (.hole .str)),(23,.c (.b7 5 tI)),(24,hI),(25,.c (.hole .bool)),(110,.c (.hole (.list .str))),(111,hI),(112,hI)] [(0,.cells [.mp 6] false),(1,.arr (.prod tI (.prod tI tI)) false),(2,.cells [.hole tI,.hole tI] false),(3,.cells [.hole tI,.hole tI] false),(4,.cells [.hole tI,.hole tI] false),(5,.arr tI false),(6,.map tG true .bool false)] [.slot 4,.slot 6,.slot 17,.slot 19,.slot 20,.slot 23,.cell 0 0] [])]
noncomputable def b6_5:D prog 215 none 0:=dO [] (pick (kd prog f6) [(1,false),(0,false),(0,false)]) 0
noncomputable def g6_5:Nat×Int×ByteArray×Nat×Int×Bool×List ByteArray×Int×Int×Nat×Int×Int×(List (Int×Int×Int))×Int×Int×Int×Int×Int×Int×List Int×(List ((GG)×Bool))×Unit→bQ ((Nat×Int×ByteArray×Nat×Int×Bool×List ByteArray×Int×Int×Nat×Int×Int×(List (Int×Int×Int))×Int×Int×Int×Int×Int×Int×List Int×(List ((GG)×Bool))×Unit) ⊕ ((Nat×Int×ByteArray×Nat×Int×Bool×List ByteArray×Int×Int×(List (Int×Int×Int))×Int×Int×Int×Int×Int×Int×List Int×(List ((GG)×Bool))×Unit))):=fun (zw,v21,v22,yx,v24,v25,mo,nu,kU,Pp,uU,kR,b1,u7,u9,Cw,Cy,Cz,CA,b5,m6,_) =>
 .br (decide (kR<uU)) (
 .nb kR ((Pp:Nat):Int) <|
 .nd (decide (((0:Nat)+(Int.toNat kR))<(b1).length)) <|
 .br v25 (
 .ni (kR+(1:Int)) <|
 .ret (.inl (zw,v21,v22,yx,v24,true,mo,nu,kU,Pp,uU,(kR+(1:Int)),b1,u7,u9,Cw,Cy,Cz,CA,b5,m6,()))) (
 .nb v21 (3:Int) <|
 .nd (decide ((Int.toNat v21)<((((b1).getD ((0:Nat)+(Int.toNat kR)) ((0:Int),(0:Int),(0:Int))).1::(((b1).getD ((0:Nat)+(Int.toNat kR)) ((0:Int),(0:Int),(0:Int))).2.1::(((b1).getD ((0:Nat)+(Int.toNat kR)) ((0:Int),(0:Int),(0:Int))).2.2::[])))).length)) <|
 .ni (kR+(1:Int)) <|
 .ret (.inl (zw,v21,v22,yx,v24,((((((b1).getD ((0:Nat)+(Int.toNat kR)) ((0:Int),(0:Int),(0:Int))).1::(((b1).getD ((0:Nat)+(Int.toNat kR)) ((0:Int),(0:Int),(0:Int))).2.1::(((b1).getD ((0:Nat)+(Int.toNat kR)) ((0:Int),(0:Int),(0:Int))).2.2::[])))).getD (Int.toNat v21) (0:Int))==v24),mo,nu,kU,Pp,uU,(kR+(1:Int)),b1,u7,u9,Cw,Cy,Cz,CA,b5,m6,())))) (
 .ret (.inr (zw,v21,v22,yx,v24,v25,mo,nu,kU,b1,u7,u9,Cw,Cy,Cz,CA,b5,m6,())))
noncomputable def L6_5:bS prog 215 none 0:=bE mixed Wc oQ [] rfl p6_5 x6_5 rfl (b6_5) (fun x=>ak (g6_5 x)) (fun x=>by kernel_rfl)
@[reducible] def p6_4:az:=az.mk [(4,.c (.ptr 0 0)),(6,.c (.b7 1 (.prod tI (.prod tI tI)))),(17,.c (.ptr 2 0)),(19,.c (.ptr 3 0)),(20,.c (.ptr 4 0)),(21,hI),(22,.c (.hole .str)),(23,.c (.b7 5 tI)),(24,hI),(110,.c (.hole (.list .str))),(111,hI),(112,hI)] [(0,.cells [.mp 6] false),(1,.arr (.prod tI (.prod tI tI)) false),(2,.cells [.hole tI,.hole tI] false),(3,.cells [.hole tI,.hole tI] false),(4,.cells [.hole tI,.hole tI] false),(5,.arr tI false),(6,.map tG true .bool false)] [.slot 4,.slot 6,.slot 17,.slot 19,.slot 20,.slot 23,.cell 0 0] []
@[reducible] def x6_4:aW:=[(.exit 8,az.mk [(4,.c (.ptr 0 0)),(6,.c (.b7 1 (.prod tI (.prod tI tI)))),(17,.c (.ptr 2 0)),(19,.c (.ptr 3 0)),(20,.c (.ptr 4 0)),(22,.c (.hole .str)),(23,.c (.b7 5 tI)),(110,.c (.hole (.list .str))),(111,hI),(112,hI)] [(0,.cells [.mp 6] false),(1,.arr (.prod tI (.prod tI tI)) false),(2,.cells [.hole tI,.hole tI] false),(3,.cells [.hole tI,.hole tI] false),(4,.cells [.hole tI,.hole tI] false),(5,.arr tI false),(6,.map tG true .bool false)] [.slot 4,.slot 6,.slot 17,.slot 19,.slot 20,.slot 23,.cell 0 0] [])]
noncomputable def b6_4:D prog 215 none 0:=dO [.l L6_5] (pick (kd prog f6) [(1,false),(0,false)]) 0
noncomputable def g6_4:Nat×Int×ByteArray×Nat×Int×List ByteArray×Int×Int×(List (Int×Int×Int))×Int×Int×Int×Int×Int×Int×List Int×(List ((GG)×Bool))×Unit→bQ ((Nat×Int×ByteArray×Nat×Int×List ByteArray×Int×Int×(List (Int×Int×Int))×Int×Int×Int×Int×Int×Int×List Int×(List ((GG)×Bool))×Unit) ⊕ ((Nat×ByteArray×Nat×List ByteArray×Int×Int×(List (Int×Int×Int))×Int×Int×Int×Int×Int×Int×List Int×(List ((GG)×Bool))×Unit))):=fun (zw,v21,v22,yx,v24,mo,nu,kU,b1,u7,u9,Cw,Cy,Cz,CA,b5,m6,_) =>
 .br (decide (v24≤(200:Int))) (
 .bd (.it g6_5 (zw,v21,v22,yx,v24,false,mo,nu,kU,zw,((zw:Nat):Int),(0:Int),b1,u7,u9,Cw,Cy,Cz,CA,b5,m6,())) fun z9 =>
 .br z9.2.2.2.2.2.1 (
 .nd (decide ((z9.2.2.2.1+(((((z9.2.2.2.2.1::[])).drop (0:Nat)).take (1:Nat))).length)<cg)) <|
 .ni (z9.2.2.2.2.1+(1:Int)) <|
 .ret (.inl (z9.1,z9.2.1,z9.2.2.1,(z9.2.2.2.1+(((((z9.2.2.2.2.1::[])).drop (0:Nat)).take (1:Nat))).length),(z9.2.2.2.2.1+(1:Int)),z9.2.2.2.2.2.2.1,z9.2.2.2.2.2.2.2.1,z9.2.2.2.2.2.2.2.2.1,z9.2.2.2.2.2.2.2.2.2.1,z9.2.2.2.2.2.2.2.2.2.2.1,z9.2.2.2.2.2.2.2.2.2.2.2.1,z9.2.2.2.2.2.2.2.2.2.2.2.2.1,z9.2.2.2.2.2.2.2.2.2.2.2.2.2.1,z9.2.2.2.2.2.2.2.2.2.2.2.2.2.2.1,z9.2.2.2.2.2.2.2.2.2.2.2.2.2.2.2.1,((((z9.2.2.2.2.2.2.2.2.2.2.2.2.2.2.2.2.1).drop (0:Nat)).take z9.2.2.2.1)++((((z9.2.2.2.2.1::[])).drop (0:Nat)).take (1:Nat))),z9.2.2.2.2.2.2.2.2.2.2.2.2.2.2.2.2.2.1,()))) (
 .ni (z9.2.2.2.2.1+(1:Int)) <|
 .ret (.inl (z9.1,z9.2.1,z9.2.2.1,z9.2.2.2.1,(z9.2.2.2.2.1+(1:Int)),z9.2.2.2.2.2.2.1,z9.2.2.2.2.2.2.2.1,z9.2.2.2.2.2.2.2.2.1,z9.2.2.2.2.2.2.2.2.2.1,z9.2.2.2.2.2.2.2.2.2.2.1,z9.2.2.2.2.2.2.2.2.2.2.2.1,z9.2.2.2.2.2.2.2.2.2.2.2.2.1,z9.2.2.2.2.2.2.2.2.2.2.2.2.2.1,z9.2.2.2.2.2.2.2.2.2.2.2.2.2.2.1,z9.2.2.2.2.2.2.2.2.2.2.2.2.2.2.2.1,z9.2.2.2.2.2.2.2.2.2.2.2.2.2.2.2.2.1,z9.2.2.2.2.2.2.2.2.2.2.2.2.2.2.2.2.2.1,())))) (
 .ret (.inr (zw,v22,yx,mo,nu,kU,b1,u7,u9,Cw,Cy,Cz,CA,b5,m6,())))
noncomputable def L6_4:bS prog 215 none 0:=bE mixed Wc oQ [] rfl p6_4 x6_4 rfl (b6_4) (fun x=>ak (g6_4 x)) (fun x=>by kernel_rfl)
@[reducible] def p6_3:az:=az.mk [(4,.c (.ptr 0 0)),(6,.c (.b7 1 (.prod tI (.prod tI tI)))),(17,.c (.ptr 2 0)),(19,.c (.ptr 3 0)),(20,.c (.ptr 4 0)),(110,.c (.hole (.list .str))),(111,hI),(112,hI)] [(0,.cells [.mp 5] false),(1,.arr (.prod tI (.prod tI tI)) false),(2,.cells [.hole tI,.hole tI] false),(3,.cells [.hole tI,.hole tI] false),(4,.cells [.hole tI,.hole tI] false),(5,.map tG true .bool false)] [.slot 4,.slot 6,.slot 17,.slot 19,.slot 20,.cell 0 0] []
@[reducible] def x6_3:aW:=[(.ret,az.mk [(2,.c (.tf false))] [] [] []),(.exit 6,az.mk [(6,.c (.b7 0 (.prod tI (.prod tI tI)))),(17,.c (.ptr 1 0)),(19,.c (.ptr 2 0)),(20,.c (.ptr 3 0))] [(0,.arr (.prod tI (.prod tI tI)) false),(1,.cells [.hole tI,.hole tI] false),(2,.cells [.hole tI,.hole tI] false),(3,.cells [.hole tI,.hole tI] false)] [.slot 6,.slot 17,.slot 19,.slot 20] [])]
noncomputable def b6_3:D prog 215 none 0:=dO [.l L6_4] (pick (kd prog f6) [(1,false)]) 0
noncomputable def g6_3:Nat×List ByteArray×Int×Int×(List (Int×Int×Int))×Int×Int×Int×Int×Int×Int×(List ((GG)×Bool))×Unit→bQ ((Nat×List ByteArray×Int×Int×(List (Int×Int×Int))×Int×Int×Int×Int×Int×Int×(List ((GG)×Bool))×Unit) ⊕ ((Unit) ⊕ ((Nat×(List (Int×Int×Int))×Int×Int×Int×Int×Int×Int×Unit)))):=fun (zw,mo,nu,kU,b1,u7,u9,Cw,Cy,Cz,CA,m5,_) =>
 .br (decide (kU<nu)) (
 .nb kU (((mo).length:Nat):Int) <|
 .bd (.it g6_4 (zw,kU,((mo).getD (Int.toNat kU) (bs [])),(0:Nat),(-200:Int),mo,nu,kU,b1,u7,u9,Cw,Cy,Cz,CA,[],m5,())) fun lR =>
 .bd (FH23 lR.2.1 lR.2.2.2.2.2.2.2.2.2.2.2.2.2.2.1) fun TE =>
 .bd (FH25 lR.2.1 TE.2.2.2.1) fun y12 =>
 .br (!(TE.2.1==(0:Int))) (
 .ret (.inr <| .inl<|())) (
 .br (!(y12.2.1==(0:Int))) (
 .ret (.inr <| .inl<|())) (
 .bd (F27 (((TE.2.2.1).drop (0:Nat)).take TE.1) (((lR.2.2.2.2.2.2.2.2.2.2.2.2.2.1).drop (0:Nat)).take lR.2.2.1)) fun Y8 =>
 .br (!Y8.1) (
 .ret (.inr <| .inl<|())) (
 .nb (0:Int) ((lR.2.2.1:Nat):Int) <|
 .nd (decide (((0:Nat)+(Int.toNat (0:Int)))<(lR.2.2.2.2.2.2.2.2.2.2.2.2.2.1).length)) <|
 .ni (((lR.2.2.1:Nat):Int) - (1:Int)) <|
 .nb (((lR.2.2.1:Nat):Int) - (1:Int)) ((lR.2.2.1:Nat):Int) <|
 .nd (decide (((0:Nat)+(Int.toNat (((lR.2.2.1:Nat):Int) - (1:Int))))<(lR.2.2.2.2.2.2.2.2.2.2.2.2.2.1).length)) <|
 .br (!((y12.1.1==((lR.2.2.2.2.2.2.2.2.2.2.2.2.2.1).getD ((0:Nat)+(Int.toNat (0:Int))) (0:Int)))&&((y12.1.2==((lR.2.2.2.2.2.2.2.2.2.2.2.2.2.1).getD ((0:Nat)+(Int.toNat (((lR.2.2.1:Nat):Int) - (1:Int)))) (0:Int)))&&true))) (
 .ret (.inr <| .inl<|())) (
 .ni (lR.2.2.2.2.2.1+(1:Int)) <|
 .ret (.inl (lR.1,lR.2.2.2.1,lR.2.2.2.2.1,(lR.2.2.2.2.2.1+(1:Int)),lR.2.2.2.2.2.2.1,lR.2.2.2.2.2.2.2.1,lR.2.2.2.2.2.2.2.2.1,lR.2.2.2.2.2.2.2.2.2.1,lR.2.2.2.2.2.2.2.2.2.2.1,lR.2.2.2.2.2.2.2.2.2.2.2.1,lR.2.2.2.2.2.2.2.2.2.2.2.2.1,y12.2.2.1,()))))))) (
 .ret (.inr <| .inr<|(zw,b1,u7,u9,Cw,Cy,Cz,CA,())))
noncomputable def L6_3:bS prog 215 none 0:=bE mixed Wc oQ [] rfl p6_3 x6_3 rfl (b6_3) (fun x=>ak (g6_3 x)) (fun x=>by kernel_rfl)
@[reducible] def p6_6:az:=az.mk [(17,.c (.ptr 0 0)),(19,.c (.ptr 1 0)),(20,.c (.ptr 2 0)),(180,.c (.b7 3 (.prod tI (.prod tI tI)))),(181,hI),(182,hI)] [(0,.cells [.hole tI,.hole tI] false),(1,.cells [.hole tI,.hole tI] false),(2,.cells [.hole tI,.hole tI] false),(3,.arr (.prod tI (.prod tI tI)) false)] [.slot 17,.slot 19,.slot 20,.slot 180] []
@[reducible] def x6_6:aW:=[(.exit 12,az.mk [(17,.c (.ptr 0 0)),(19,.c (.ptr 1 0)),(20,.c (.ptr 2 0))] [(0,.cells [.hole tI,.hole tI] false),(1,.cells [.hole tI,.hole tI] false),(2,.cells [.hole tI,.hole tI] false)] [.slot 17,.slot 19,.slot 20] [])]
noncomputable def b6_6:D prog 215 none 0:=dO [] (pick (kd prog f6) [(2,false)]) 0
noncomputable def g6_6:Nat×Int×Int×Int×Int×Int×Int×Int×Int×(List (Int×Int×Int))×Unit→bQ ((Nat×Int×Int×Int×Int×Int×Int×Int×Int×(List (Int×Int×Int))×Unit) ⊕ ((Int×Int×Int×Int×Int×Int×Unit))):=fun (Wd,v181,v182,aQ,bR,eo,kJ,u7,u9,b3,_) =>
 .br (decide (v182<v181)) (
 .nb v182 ((Wd:Nat):Int) <|
 .nd (decide (((0:Nat)+(Int.toNat v182))<(b3).length)) <|
 .nd (decide ((0:Nat)<((((b3).getD ((0:Nat)+(Int.toNat v182)) ((0:Int),(0:Int),(0:Int))).1::(((b3).getD ((0:Nat)+(Int.toNat v182)) ((0:Int),(0:Int),(0:Int))).2.1::(((b3).getD ((0:Nat)+(Int.toNat v182)) ((0:Int),(0:Int),(0:Int))).2.2::[])))).length)) <|
 .nd (decide ((1:Nat)<((((b3).getD ((0:Nat)+(Int.toNat v182)) ((0:Int),(0:Int),(0:Int))).1::(((b3).getD ((0:Nat)+(Int.toNat v182)) ((0:Int),(0:Int),(0:Int))).2.1::(((b3).getD ((0:Nat)+(Int.toNat v182)) ((0:Int),(0:Int),(0:Int))).2.2::[])))).length)) <|
 .ni ((((((b3).getD ((0:Nat)+(Int.toNat v182)) ((0:Int),(0:Int),(0:Int))).1::(((b3).getD ((0:Nat)+(Int.toNat v182)) ((0:Int),(0:Int),(0:Int))).2.1::(((b3).getD ((0:Nat)+(Int.toNat v182)) ((0:Int),(0:Int),(0:Int))).2.2::[])))).getD (0:Nat) (0:Int))+(((((b3).getD ((0:Nat)+(Int.toNat v182)) ((0:Int),(0:Int),(0:Int))).1::(((b3).getD ((0:Nat)+(Int.toNat v182)) ((0:Int),(0:Int),(0:Int))).2.1::(((b3).getD ((0:Nat)+(Int.toNat v182)) ((0:Int),(0:Int),(0:Int))).2.2::[])))).getD (1:Nat) (0:Int))) <|
 .nd (decide ((2:Nat)<((((b3).getD ((0:Nat)+(Int.toNat v182)) ((0:Int),(0:Int),(0:Int))).1::(((b3).getD ((0:Nat)+(Int.toNat v182)) ((0:Int),(0:Int),(0:Int))).2.1::(((b3).getD ((0:Nat)+(Int.toNat v182)) ((0:Int),(0:Int),(0:Int))).2.2::[])))).length)) <|
 .ni (((((((b3).getD ((0:Nat)+(Int.toNat v182)) ((0:Int),(0:Int),(0:Int))).1::(((b3).getD ((0:Nat)+(Int.toNat v182)) ((0:Int),(0:Int),(0:Int))).2.1::(((b3).getD ((0:Nat)+(Int.toNat v182)) ((0:Int),(0:Int),(0:Int))).2.2::[])))).getD (0:Nat) (0:Int))+(((((b3).getD ((0:Nat)+(Int.toNat v182)) ((0:Int),(0:Int),(0:Int))).1::(((b3).getD ((0:Nat)+(Int.toNat v182)) ((0:Int),(0:Int),(0:Int))).2.1::(((b3).getD ((0:Nat)+(Int.toNat v182)) ((0:Int),(0:Int),(0:Int))).2.2::[])))).getD (1:Nat) (0:Int)))+(((((b3).getD ((0:Nat)+(Int.toNat v182)) ((0:Int),(0:Int),(0:Int))).1::(((b3).getD ((0:Nat)+(Int.toNat v182)) ((0:Int),(0:Int),(0:Int))).2.1::(((b3).getD ((0:Nat)+(Int.toNat v182)) ((0:Int),(0:Int),(0:Int))).2.2::[])))).getD (2:Nat) (0:Int))) <|
 .ni (v182+(1:Int)) <|
 .ret (.inl (Wd,v181,(v182+(1:Int)),aQ,bR,(nO eo (((((((b3).getD ((0:Nat)+(Int.toNat v182)) ((0:Int),(0:Int),(0:Int))).1::(((b3).getD ((0:Nat)+(Int.toNat v182)) ((0:Int),(0:Int),(0:Int))).2.1::(((b3).getD ((0:Nat)+(Int.toNat v182)) ((0:Int),(0:Int),(0:Int))).2.2::[])))).getD (0:Nat) (0:Int))+(((((b3).getD ((0:Nat)+(Int.toNat v182)) ((0:Int),(0:Int),(0:Int))).1::(((b3).getD ((0:Nat)+(Int.toNat v182)) ((0:Int),(0:Int),(0:Int))).2.1::(((b3).getD ((0:Nat)+(Int.toNat v182)) ((0:Int),(0:Int),(0:Int))).2.2::[])))).getD (1:Nat) (0:Int)))+(((((b3).getD ((0:Nat)+(Int.toNat v182)) ((0:Int),(0:Int),(0:Int))).1::(((b3).getD ((0:Nat)+(Int.toNat v182)) ((0:Int),(0:Int),(0:Int))).2.1::(((b3).getD ((0:Nat)+(Int.toNat v182)) ((0:Int),(0:Int),(0:Int))).2.2::[])))).getD (2:Nat) (0:Int)))),kJ,u7,(imax u9 (((((((b3).getD ((0:Nat)+(Int.toNat v182)) ((0:Int),(0:Int),(0:Int))).1::(((b3).getD ((0:Nat)+(Int.toNat v182)) ((0:Int),(0:Int),(0:Int))).2.1::(((b3).getD ((0:Nat)+(Int.toNat v182)) ((0:Int),(0:Int),(0:Int))).2.2::[])))).getD (0:Nat) (0:Int))+(((((b3).getD ((0:Nat)+(Int.toNat v182)) ((0:Int),(0:Int),(0:Int))).1::(((b3).getD ((0:Nat)+(Int.toNat v182)) ((0:Int),(0:Int),(0:Int))).2.1::(((b3).getD ((0:Nat)+(Int.toNat v182)) ((0:Int),(0:Int),(0:Int))).2.2::[])))).getD (1:Nat) (0:Int)))+(((((b3).getD ((0:Nat)+(Int.toNat v182)) ((0:Int),(0:Int),(0:Int))).1::(((b3).getD ((0:Nat)+(Int.toNat v182)) ((0:Int),(0:Int),(0:Int))).2.1::(((b3).getD ((0:Nat)+(Int.toNat v182)) ((0:Int),(0:Int),(0:Int))).2.2::[])))).getD (2:Nat) (0:Int)))),b3,()))) (
 .ret (.inr (aQ,bR,eo,kJ,u7,u9,())))
noncomputable def L6_6:bS prog 215 none 0:=bE mixed Wc oQ [] rfl p6_6 x6_6 rfl (b6_6) (fun x=>ak (g6_6 x)) (fun x=>by kernel_rfl)
noncomputable def dd6:D prog 215 none 0:=dO [.l L6_0,.l L6_3,.l L6_6] (kd prog f6) 0
noncomputable def F6 (a0:List (Int×Int×Int×Int)):bQ (Bool×Unit) :=
 .bd (F28 a0) fun y0 =>
 .bd (FH29 y0.1) fun y1 =>
 .bd (F30 y0.1) fun y2 =>
 .bd (.it g6_0 (y2.1,(1:Nat),y2.1,(((y2.1).length:Nat):Int),(0:Int),(((0:Int),(0:Int),(0:Int))::[]),y1.1,())) fun z6 =>
 .bd (FH37 z6.2.2.1) fun y7 =>
 .br (!(y7.2.1==(0:Int))) (
 .ret (false,())) (
 .br (((z6.1:Nat):Int)==(0:Int)) (
 .ret (false,())) (
 .bd (F38) fun y8 =>
 .bd (.it g6_3 (z6.1,y8.1,(((y8.1).length:Nat):Int),(0:Int),z6.2.1,y7.1.1,y7.1.2,(1000:Int),(1000:Int),(-1000:Int),(-1000:Int),y7.2.2.1,())) fun z14 =>
 .sm z14 (fun z15 =>
 .ret (false,())) fun T0 =>
 .bd (.it g6_6 (T0.1,((T0.1:Nat):Int),(0:Int),T0.2.2.1,T0.2.2.2.1,T0.2.2.2.2.1,T0.2.2.2.2.2.1,T0.2.2.2.2.2.2.1,T0.2.2.2.2.2.2.2.1,T0.2.1,())) fun z17 =>
 .br ((z17.1==z17.2.2.1)&&((z17.2.1==z17.2.2.2.2.2.1)&&true)) (
 .bd (F17) fun y18 =>
 .ret (y18.1,())) (
 .ret (false,()))))
theorem aev:cL prog f6=some ⟨215,1,dd6.er,[.t 2],[some .bool]⟩:=by kernel_rfl
noncomputable def ct6:Ct:=⟨6,[.c (.hole (.list (.prod (.int .u8) (.prod (.int .u8) (.prod (.int .u8) (.int .u8))))))],.c (.hole .bool),fun x=>ak (F6 x.1)⟩
theorem Zz:ct6.Ok prog:=cK mixed oQ func6 aev (enters_of func6 rfl rfl) dd6 (by kernel_rfl) rfl (fun x=>by kernel_rfl)

end Go.Proofs.Tryz

