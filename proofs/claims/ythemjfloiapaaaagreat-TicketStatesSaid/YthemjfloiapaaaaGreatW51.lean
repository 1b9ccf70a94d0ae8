/- Functions of the program as functions of data, part 2; printed by a program of mine. -/
import Derived.Test.YthemjfloiapaaaaGreatW50
import Derived.Test.YthemjfloiapaaaaGreatProg
set_option linter.unusedSectionVars false
set_option linter.unusedVariables false
set_option linter.unusedSimpArgs false
open Go.AM
namespace Go.Proofs.Tryz
set_option maxRecDepth 100000
set_option synthInstance.maxSize 4000
set_option synthInstance.maxHeartbeats 400000


/- 77 -/
noncomputable def cx77:Cx:=(mkCxH [] [])
theorem cx77_ok:cx77.Ok prog:=mkCxH_ok trivial trivial
@[reducible] def p77_1:Pat:=Pat.mk [(0,.c (.hole (.list tG))),(3,.c (.ptr 0 0)),(5,.c (.hole .bool)),(6,.c (.hole .bool)),(7,hI),(9,.c (.ptr 1 0)),(10,.c (.hole .bool)),(13,.c (.hole (.list tG))),(14,hI),(15,hI),(49,.c (.ptr 1 2)),(50,.c (.hole .str)),(51,.c (.ptr 0 2)),(52,.c (.hole .str)),(53,.c (.hole .bool)),(56,.c (.ptr 1 0)),(57,.c (.hole .str)),(58,.c (.ptr 0 0)),(59,.c (.hole .str)),(60,.c (.hole .bool)),(62,.c (.hole (.list tG))),(63,hI),(64,hI)] [(0,.cells [.hole .str,.hole tI,.hole .str,.hole .str,.hole tI] false),(1,.cells [.hole .str,.hole tI,.hole .str,.hole .str,.hole tI] false)] [.slot 3,.slot 9] []
@[reducible] def x77_1:Outs:=[(.exit 2,Pat.mk [(0,.c (.hole (.list tG))),(3,.c (.ptr 0 0)),(5,.c (.hole .bool)),(6,.c (.hole .bool)),(7,hI),(10,.c (.hole .bool)),(13,.c (.hole (.list tG))),(14,hI),(15,hI),(50,.c (.hole .str)),(51,.c (.ptr 0 2)),(52,.c (.hole .str)),(53,.c (.hole .bool)),(57,.c (.hole .str)),(58,.c (.ptr 0 0)),(59,.c (.hole .str)),(60,.c (.hole .bool))] [(0,.cells [.hole .str,.hole tI,.hole .str,.hole .str,.hole tI] false)] [.slot 3] [])]
noncomputable def b77_1:D prog 95 none 0:=dO [] (pick (kd prog f77) [(0,false),(0,false)]) 0
noncomputable def g77_1:(List (GG))×Bool×Bool×Int×Bool×(List (GG))×Int×Int×ByteArray×ByteArray×Bool×ByteArray×ByteArray×Bool×(List (GG))×Int×Int×ByteArray×Int×ByteArray×ByteArray×Int×ByteArray×Int×ByteArray×ByteArray×Int×Unit→Tr0 (((List (GG))×Bool×Bool×Int×Bool×(List (GG))×Int×Int×ByteArray×ByteArray×Bool×ByteArray×ByteArray×Bool×(List (GG))×Int×Int×ByteArray×Int×ByteArray×ByteArray×Int×ByteArray×Int×ByteArray×ByteArray×Int×Unit) ⊕ (((List (GG))×Bool×Bool×Int×Bool×(List (GG))×Int×Int×ByteArray×ByteArray×Bool×ByteArray×ByteArray×Bool×ByteArray×Int×ByteArray×ByteArray×Int×Unit))):=fun (v0,v5,v6,v7,v10,v13,v14,v15,v50,v52,v53,v57,v59,v60,v62,v63,v64,c0_0,c0_1,c0_2,c0_3,c0_4,c1_0,c1_1,c1_2,c1_3,c1_4,_) =>
 .br (decide (v64<v63)) (
 .nb v64 (((v62).length:Nat):Int) <|
 .br v10 (
 .ni (v64+(1:Int)) <|
 .ret (.inl (v0,v5,v6,v7,true,v13,v14,v15,v50,v52,v53,v57,v59,v60,v62,v63,(v64+(1:Int)),c0_0,c0_1,c0_2,c0_3,c0_4,c1_0,c1_1,c1_2,c1_3,c1_4,()))) (
 .br (((v62).getD (Int.toNat v64) ((bs []),(0:Int),(bs []),(bs []),(0:Int))).2.1==(3:Int)) (
 .ni (v64+(1:Int)) <|
 .ret (.inl (v0,v5,v6,v7,(seq ((v62).getD (Int.toNat v64) ((bs []),(0:Int),(bs []),(bs []),(0:Int))).2.2.1 c1_0),v13,v14,v15,v50,v52,v53,v57,v59,v60,v62,v63,(v64+(1:Int)),c0_0,c0_1,c0_2,c0_3,c0_4,c1_0,c1_1,c1_2,c1_3,c1_4,()))) (
 .ni (v64+(1:Int)) <|
 .ret (.inl (v0,v5,v6,v7,false,v13,v14,v15,v50,v52,v53,v57,v59,v60,v62,v63,(v64+(1:Int)),c0_0,c0_1,c0_2,c0_3,c0_4,c1_0,c1_1,c1_2,c1_3,c1_4,()))))) (
 .ret (.inr (v0,v5,v6,v7,v10,v13,v14,v15,v50,v52,v53,v57,v59,v60,c0_0,c0_1,c0_2,c0_3,c0_4,())))
noncomputable def L77_1:LoopS prog 95 none 0:=mkLoop mixed cx77 cx77_ok [] rfl p77_1 x77_1 rfl (b77_1) (fun x=>run0 (g77_1 x)) (fun x=>by kernel_rfl)
@[reducible] def p77_0:Pat:=Pat.mk [(0,.c (.hole (.list tG))),(3,.c (.ptr 0 0)),(5,.c (.hole .bool)),(6,.c (.hole .bool)),(7,hI),(13,.c (.hole (.list tG))),(14,hI),(15,hI)] [(0,.cells [.hole .str,.hole tI,.hole .str,.hole .str,.hole tI] false)] [.slot 3] []
@[reducible] def x77_0:Outs:=[(.exit 0,Pat.mk [(5,.c (.hole .bool)),(6,.c (.hole .bool)),(7,hI)] [] [] [])]
noncomputable def b77_0:D prog 95 none 0:=dO [.l L77_1] (pick (kd prog f77) [(0,false)]) 0
noncomputable def g77_0:(List (GG))×Bool×Bool×Int×(List (GG))×Int×Int×ByteArray×Int×ByteArray×ByteArray×Int×Unit→Tr0 (((List (GG))×Bool×Bool×Int×(List (GG))×Int×Int×ByteArray×Int×ByteArray×ByteArray×Int×Unit) ⊕ ((Bool×Bool×Int×Unit))):=fun (v0,v5,v6,v7,v13,v14,v15,c0_0,c0_1,c0_2,c0_3,c0_4,_) =>
 .br (decide (v15<v14)) (
 .nb v15 (((v13).length:Nat):Int) <|
 .br v5 (
 .br v6 (
 .br (!(((v13).getD (Int.toNat v15) ((bs []),(0:Int),(bs []),(bs []),(0:Int))).2.1==(2:Int))) (
 .ni (v15+(1:Int)) <|
 .ret (.inl (v0,true,true,v7,v13,v14,(v15+(1:Int)),c0_0,c0_1,c0_2,c0_3,c0_4,()))) (
 .br (!(seq ((v13).getD (Int.toNat v15) ((bs []),(0:Int),(bs []),(bs []),(0:Int))).2.2.1 c0_2)) (
 .ni (v15+(1:Int)) <|
 .ret (.inl (v0,true,true,v7,v13,v14,(v15+(1:Int)),c0_0,c0_1,c0_2,c0_3,c0_4,()))) (
 .br (seq ((v13).getD (Int.toNat v15) ((bs []),(0:Int),(bs []),(bs []),(0:Int))).1 c0_0) (
 .ni (v15+(1:Int)) <|
 .ret (.inl (v0,true,true,v7,v13,v14,(v15+(1:Int)),c0_0,c0_1,c0_2,c0_3,c0_4,()))) (
 .bd (.it g77_1 (v0,true,true,v7,false,v13,v14,v15,((v13).getD (Int.toNat v15) ((bs []),(0:Int),(bs []),(bs []),(0:Int))).2.2.1,c0_2,(!(seq ((v13).getD (Int.toNat v15) ((bs []),(0:Int),(bs []),(bs []),(0:Int))).2.2.1 c0_2)),((v13).getD (Int.toNat v15) ((bs []),(0:Int),(bs []),(bs []),(0:Int))).1,c0_0,(seq ((v13).getD (Int.toNat v15) ((bs []),(0:Int),(bs []),(bs []),(0:Int))).1 c0_0),v0,(((v0).length:Nat):Int),(0:Int),c0_0,c0_1,c0_2,c0_3,c0_4,((v13).getD (Int.toNat v15) ((bs []),(0:Int),(bs []),(bs []),(0:Int))).1,((v13).getD (Int.toNat v15) ((bs []),(0:Int),(bs []),(bs []),(0:Int))).2.1,((v13).getD (Int.toNat v15) ((bs []),(0:Int),(bs []),(bs []),(0:Int))).2.2.1,((v13).getD (Int.toNat v15) ((bs []),(0:Int),(bs []),(bs []),(0:Int))).2.2.2.1,((v13).getD (Int.toNat v15) ((bs []),(0:Int),(bs []),(bs []),(0:Int))).2.2.2.2,())) fun z0 =>
 .br z0.2.2.2.2.1 (
 .ni (z0.2.2.2.1+(1:Int)) <|
 .ni (z0.2.2.2.2.2.2.2.1+(1:Int)) <|
 .ret (.inl (z0.1,z0.2.1,z0.2.2.1,(z0.2.2.2.1+(1:Int)),z0.2.2.2.2.2.1,z0.2.2.2.2.2.2.1,(z0.2.2.2.2.2.2.2.1+(1:Int)),z0.2.2.2.2.2.2.2.2.2.2.2.2.2.2.1,z0.2.2.2.2.2.2.2.2.2.2.2.2.2.2.2.1,z0.2.2.2.2.2.2.2.2.2.2.2.2.2.2.2.2.1,z0.2.2.2.2.2.2.2.2.2.2.2.2.2.2.2.2.2.1,z0.2.2.2.2.2.2.2.2.2.2.2.2.2.2.2.2.2.2.1,()))) (
 .ni (z0.2.2.2.2.2.2.2.1+(1:Int)) <|
 .ret (.inl (z0.1,z0.2.1,z0.2.2.1,z0.2.2.2.1,z0.2.2.2.2.2.1,z0.2.2.2.2.2.2.1,(z0.2.2.2.2.2.2.2.1+(1:Int)),z0.2.2.2.2.2.2.2.2.2.2.2.2.2.2.1,z0.2.2.2.2.2.2.2.2.2.2.2.2.2.2.2.1,z0.2.2.2.2.2.2.2.2.2.2.2.2.2.2.2.2.1,z0.2.2.2.2.2.2.2.2.2.2.2.2.2.2.2.2.2.1,z0.2.2.2.2.2.2.2.2.2.2.2.2.2.2.2.2.2.2.1,()))))))) (
 .br (((v13).getD (Int.toNat v15) ((bs []),(0:Int),(bs []),(bs []),(0:Int))).2.1==(3:Int)) (
 .br (!(((v13).getD (Int.toNat v15) ((bs []),(0:Int),(bs []),(bs []),(0:Int))).2.1==(2:Int))) (
 .ni (v15+(1:Int)) <|
 .ret (.inl (v0,true,(seq ((v13).getD (Int.toNat v15) ((bs []),(0:Int),(bs []),(bs []),(0:Int))).2.2.1 c0_0),v7,v13,v14,(v15+(1:Int)),c0_0,c0_1,c0_2,c0_3,c0_4,()))) (
 .br (!(seq ((v13).getD (Int.toNat v15) ((bs []),(0:Int),(bs []),(bs []),(0:Int))).2.2.1 c0_2)) (
 .ni (v15+(1:Int)) <|
 .ret (.inl (v0,true,(seq ((v13).getD (Int.toNat v15) ((bs []),(0:Int),(bs []),(bs []),(0:Int))).2.2.1 c0_0),v7,v13,v14,(v15+(1:Int)),c0_0,c0_1,c0_2,c0_3,c0_4,()))) (
 .br (seq ((v13).getD (Int.toNat v15) ((bs []),(0:Int),(bs []),(bs []),(0:Int))).1 c0_0) (
 .ni (v15+(1:Int)) <|
 .ret (.inl (v0,true,(seq ((v13).getD (Int.toNat v15) ((bs []),(0:Int),(bs []),(bs []),(0:Int))).2.2.1 c0_0),v7,v13,v14,(v15+(1:Int)),c0_0,c0_1,c0_2,c0_3,c0_4,()))) (
 .bd (.it g77_1 (v0,true,(seq ((v13).getD (Int.toNat v15) ((bs []),(0:Int),(bs []),(bs []),(0:Int))).2.2.1 c0_0),v7,false,v13,v14,v15,((v13).getD (Int.toNat v15) ((bs []),(0:Int),(bs []),(bs []),(0:Int))).2.2.1,c0_2,(!(seq ((v13).getD (Int.toNat v15) ((bs []),(0:Int),(bs []),(bs []),(0:Int))).2.2.1 c0_2)),((v13).getD (Int.toNat v15) ((bs []),(0:Int),(bs []),(bs []),(0:Int))).1,c0_0,(seq ((v13).getD (Int.toNat v15) ((bs []),(0:Int),(bs []),(bs []),(0:Int))).1 c0_0),v0,(((v0).length:Nat):Int),(0:Int),c0_0,c0_1,c0_2,c0_3,c0_4,((v13).getD (Int.toNat v15) ((bs []),(0:Int),(bs []),(bs []),(0:Int))).1,((v13).getD (Int.toNat v15) ((bs []),(0:Int),(bs []),(bs []),(0:Int))).2.1,((v13).getD (Int.toNat v15) ((bs []),(0:Int),(bs []),(bs []),(0:Int))).2.2.1,((v13).getD (Int.toNat v15) ((bs []),(0:Int),(bs []),(bs []),(0:Int))).2.2.2.1,((v13).getD (Int.toNat v15) ((bs []),(0:Int),(bs []),(bs []),(0:Int))).2.2.2.2,())) fun z1 =>
 .br z1.2.2.2.2.1 (
 .ni (z1.2.2.2.1+(1:Int)) <|
 .ni (z1.2.2.2.2.2.2.2.1+(1:Int)) <|
 .ret (.inl (z1.1,z1.2.1,z1.2.2.1,(z1.2.2.2.1+(1:Int)),z1.2.2.2.2.2.1,z1.2.2.2.2.2.2.1,(z1.2.2.2.2.2.2.2.1+(1:Int)),z1.2.2.2.2.2.2.2.2.2.2.2.2.2.2.1,z1.2.2.2.2.2.2.2.2.2.2.2.2.2.2.2.1,z1.2.2.2.2.2.2.2.2.2.2.2.2.2.2.2.2.1,z1.2.2.2.2.2.2.2.2.2.2.2.2.2.2.2.2.2.1,z1.2.2.2.2.2.2.2.2.2.2.2.2.2.2.2.2.2.2.1,()))) (
 .ni (z1.2.2.2.2.2.2.2.1+(1:Int)) <|
 .ret (.inl (z1.1,z1.2.1,z1.2.2.1,z1.2.2.2.1,z1.2.2.2.2.2.1,z1.2.2.2.2.2.2.1,(z1.2.2.2.2.2.2.2.1+(1:Int)),z1.2.2.2.2.2.2.2.2.2.2.2.2.2.2.1,z1.2.2.2.2.2.2.2.2.2.2.2.2.2.2.2.1,z1.2.2.2.2.2.2.2.2.2.2.2.2.2.2.2.2.1,z1.2.2.2.2.2.2.2.2.2.2.2.2.2.2.2.2.2.1,z1.2.2.2.2.2.2.2.2.2.2.2.2.2.2.2.2.2.2.1,()))))))) (
 .br (!(((v13).getD (Int.toNat v15) ((bs []),(0:Int),(bs []),(bs []),(0:Int))).2.1==(2:Int))) (
 .ni (v15+(1:Int)) <|
 .ret (.inl (v0,true,false,v7,v13,v14,(v15+(1:Int)),c0_0,c0_1,c0_2,c0_3,c0_4,()))) (
 .br (!(seq ((v13).getD (Int.toNat v15) ((bs []),(0:Int),(bs []),(bs []),(0:Int))).2.2.1 c0_2)) (
 .ni (v15+(1:Int)) <|
 .ret (.inl (v0,true,false,v7,v13,v14,(v15+(1:Int)),c0_0,c0_1,c0_2,c0_3,c0_4,()))) (
 .br (seq ((v13).getD (Int.toNat v15) ((bs []),(0:Int),(bs []),(bs []),(0:Int))).1 c0_0) (
 .ni (v15+(1:Int)) <|
 .ret (.inl (v0,true,false,v7,v13,v14,(v15+(1:Int)),c0_0,c0_1,c0_2,c0_3,c0_4,()))) (
 .bd (.it g77_1 (v0,true,false,v7,false,v13,v14,v15,((v13).getD (Int.toNat v15) ((bs []),(0:Int),(bs []),(bs []),(0:Int))).2.2.1,c0_2,(!(seq ((v13).getD (Int.toNat v15) ((bs []),(0:Int),(bs []),(bs []),(0:Int))).2.2.1 c0_2)),((v13).getD (Int.toNat v15) ((bs []),(0:Int),(bs []),(bs []),(0:Int))).1,c0_0,(seq ((v13).getD (Int.toNat v15) ((bs []),(0:Int),(bs []),(bs []),(0:Int))).1 c0_0),v0,(((v0).length:Nat):Int),(0:Int),c0_0,c0_1,c0_2,c0_3,c0_4,((v13).getD (Int.toNat v15) ((bs []),(0:Int),(bs []),(bs []),(0:Int))).1,((v13).getD (Int.toNat v15) ((bs []),(0:Int),(bs []),(bs []),(0:Int))).2.1,((v13).getD (Int.toNat v15) ((bs []),(0:Int),(bs []),(bs []),(0:Int))).2.2.1,((v13).getD (Int.toNat v15) ((bs []),(0:Int),(bs []),(bs []),(0:Int))).2.2.2.1,((v13).getD (Int.toNat v15) ((bs []),(0:Int),(bs []),(bs []),(0:Int))).2.2.2.2,())) fun z2 =>
 .br z2.2.2.2.2.1 (
 .ni (z2.2.2.2.1+(1:Int)) <|
 .ni (z2.2.2.2.2.2.2.2.1+(1:Int)) <|
 .ret (.inl (z2.1,z2.2.1,z2.2.2.1,(z2.2.2.2.1+(1:Int)),z2.2.2.2.2.2.1,z2.2.2.2.2.2.2.1,(z2.2.2.2.2.2.2.2.1+(1:Int)),z2.2.2.2.2.2.2.2.2.2.2.2.2.2.2.1,z2.2.2.2.2.2.2.2.2.2.2.2.2.2.2.2.1,z2.2.2.2.2.2.2.2.2.2.2.2.2.2.2.2.2.1,z2.2.2.2.2.2.2.2.2.2.2.2.2.2.2.2.2.2.1,z2.2.2.2.2.2.2.2.2.2.2.2.2.2.2.2.2.2.2.1,()))) (
 .ni (z2.2.2.2.2.2.2.2.1+(1:Int)) <|
 .ret (.inl (z2.1,z2.2.1,z2.2.2.1,z2.2.2.2.1,z2.2.2.2.2.2.1,z2.2.2.2.2.2.2.1,(z2.2.2.2.2.2.2.2.1+(1:Int)),z2.2.2.2.2.2.2.2.2.2.2.2.2.2.2.1,z2.2.2.2.2.2.2.2.2.2.2.2.2.2.2.2.1,z2.2.2.2.2.2.2.2.2.2.2.2.2.2.2.2.2.1,z2.2.2.2.2.2.2.2.2.2.2.2.2.2.2.2.2.2.1,z2.2.2.2.2.2.2.2.2.2.2.2.2.2.2.2.2.2.2.1,()))))))))) (
 .br (seq ((v13).getD (Int.toNat v15) ((bs []),(0:Int),(bs []),(bs []),(0:Int))).1 c0_2) (
 .br v6 (
 .br (!(((v13).getD (Int.toNat v15) ((bs []),(0:Int),(bs []),(bs []),(0:Int))).2.1==(2:Int))) (
 .ni (v15+(1:Int)) <|
 .ret (.inl (v0,(!(((v13).getD (Int.toNat v15) ((bs []),(0:Int),(bs []),(bs []),(0:Int))).2.1==(3:Int))),true,v7,v13,v14,(v15+(1:Int)),c0_0,c0_1,c0_2,c0_3,c0_4,()))) (
 .br (!(seq ((v13).getD (Int.toNat v15) ((bs []),(0:Int),(bs []),(bs []),(0:Int))).2.2.1 c0_2)) (
 .ni (v15+(1:Int)) <|
 .ret (.inl (v0,(!(((v13).getD (Int.toNat v15) ((bs []),(0:Int),(bs []),(bs []),(0:Int))).2.1==(3:Int))),true,v7,v13,v14,(v15+(1:Int)),c0_0,c0_1,c0_2,c0_3,c0_4,()))) (
 .br (seq ((v13).getD (Int.toNat v15) ((bs []),(0:Int),(bs []),(bs []),(0:Int))).1 c0_0) (
 .ni (v15+(1:Int)) <|
 .ret (.inl (v0,(!(((v13).getD (Int.toNat v15) ((bs []),(0:Int),(bs []),(bs []),(0:Int))).2.1==(3:Int))),true,v7,v13,v14,(v15+(1:Int)),c0_0,c0_1,c0_2,c0_3,c0_4,()))) (
 .bd (.it g77_1 (v0,(!(((v13).getD (Int.toNat v15) ((bs []),(0:Int),(bs []),(bs []),(0:Int))).2.1==(3:Int))),true,v7,false,v13,v14,v15,((v13).getD (Int.toNat v15) ((bs []),(0:Int),(bs []),(bs []),(0:Int))).2.2.1,c0_2,(!(seq ((v13).getD (Int.toNat v15) ((bs []),(0:Int),(bs []),(bs []),(0:Int))).2.2.1 c0_2)),((v13).getD (Int.toNat v15) ((bs []),(0:Int),(bs []),(bs []),(0:Int))).1,c0_0,(seq ((v13).getD (Int.toNat v15) ((bs []),(0:Int),(bs []),(bs []),(0:Int))).1 c0_0),v0,(((v0).length:Nat):Int),(0:Int),c0_0,c0_1,c0_2,c0_3,c0_4,((v13).getD (Int.toNat v15) ((bs []),(0:Int),(bs []),(bs []),(0:Int))).1,((v13).getD (Int.toNat v15) ((bs []),(0:Int),(bs []),(bs []),(0:Int))).2.1,((v13).getD (Int.toNat v15) ((bs []),(0:Int),(bs []),(bs []),(0:Int))).2.2.1,((v13).getD (Int.toNat v15) ((bs []),(0:Int),(bs []),(bs []),(0:Int))).2.2.2.1,((v13).getD (Int.toNat v15) ((bs []),(0:Int),(bs []),(bs []),(0:Int))).2.2.2.2,())) fun z3 =>
 .br z3.2.2.2.2.1 (
 .ni (z3.2.2.2.1+(1:Int)) <|
 .ni (z3.2.2.2.2.2.2.2.1+(1:Int)) <|
 .ret (.inl (z3.1,z3.2.1,z3.2.2.1,(z3.2.2.2.1+(1:Int)),z3.2.2.2.2.2.1,z3.2.2.2.2.2.2.1,(z3.2.2.2.2.2.2.2.1+(1:Int)),z3.2.2.2.2.2.2.2.2.2.2.2.2.2.2.1,z3.2.2.2.2.2.2.2.2.2.2.2.2.2.2.2.1,z3.2.2.2.2.2.2.2.2.2.2.2.2.2.2.2.2.1,z3.2.2.2.2.2.2.2.2.2.2.2.2.2.2.2.2.2.1,z3.2.2.2.2.2.2.2.2.2.2.2.2.2.2.2.2.2.2.1,()))) (
 .ni (z3.2.2.2.2.2.2.2.1+(1:Int)) <|
 .ret (.inl (z3.1,z3.2.1,z3.2.2.1,z3.2.2.2.1,z3.2.2.2.2.2.1,z3.2.2.2.2.2.2.1,(z3.2.2.2.2.2.2.2.1+(1:Int)),z3.2.2.2.2.2.2.2.2.2.2.2.2.2.2.1,z3.2.2.2.2.2.2.2.2.2.2.2.2.2.2.2.1,z3.2.2.2.2.2.2.2.2.2.2.2.2.2.2.2.2.1,z3.2.2.2.2.2.2.2.2.2.2.2.2.2.2.2.2.2.1,z3.2.2.2.2.2.2.2.2.2.2.2.2.2.2.2.2.2.2.1,()))))))) (
 .br (((v13).getD (Int.toNat v15) ((bs []),(0:Int),(bs []),(bs []),(0:Int))).2.1==(3:Int)) (
 .br (!(((v13).getD (Int.toNat v15) ((bs []),(0:Int),(bs []),(bs []),(0:Int))).2.1==(2:Int))) (
 .ni (v15+(1:Int)) <|
 .ret (.inl (v0,(!(((v13).getD (Int.toNat v15) ((bs []),(0:Int),(bs []),(bs []),(0:Int))).2.1==(3:Int))),(seq ((v13).getD (Int.toNat v15) ((bs []),(0:Int),(bs []),(bs []),(0:Int))).2.2.1 c0_0),v7,v13,v14,(v15+(1:Int)),c0_0,c0_1,c0_2,c0_3,c0_4,()))) (
 .br (!(seq ((v13).getD (Int.toNat v15) ((bs []),(0:Int),(bs []),(bs []),(0:Int))).2.2.1 c0_2)) (
 .ni (v15+(1:Int)) <|
 .ret (.inl (v0,(!(((v13).getD (Int.toNat v15) ((bs []),(0:Int),(bs []),(bs []),(0:Int))).2.1==(3:Int))),(seq ((v13).getD (Int.toNat v15) ((bs []),(0:Int),(bs []),(bs []),(0:Int))).2.2.1 c0_0),v7,v13,v14,(v15+(1:Int)),c0_0,c0_1,c0_2,c0_3,c0_4,()))) (
 .br (seq ((v13).getD (Int.toNat v15) ((bs []),(0:Int),(bs []),(bs []),(0:Int))).1 c0_0) (
 .ni (v15+(1:Int)) <|
 .ret (.inl (v0,(!(((v13).getD (Int.toNat v15) ((bs []),(0:Int),(bs []),(bs []),(0:Int))).2.1==(3:Int))),(seq ((v13).getD (Int.toNat v15) ((bs []),(0:Int),(bs []),(bs []),(0:Int))).2.2.1 c0_0),v7,v13,v14,(v15+(1:Int)),c0_0,c0_1,c0_2,c0_3,c0_4,()))) (
 .bd (.it g77_1 (v0,(!(((v13).getD (Int.toNat v15) ((bs []),(0:Int),(bs []),(bs []),(0:Int))).2.1==(3:Int))),(seq ((v13).getD (Int.toNat v15) ((bs []),(0:Int),(bs []),(bs []),(0:Int))).2.2.1 c0_0),v7,false,v13,v14,v15,((v13).getD (Int.toNat v15) ((bs []),(0:Int),(bs []),(bs []),(0:Int))).2.2.1,c0_2,(!(seq ((v13).getD (Int.toNat v15) ((bs []),(0:Int),(bs []),(bs []),(0:Int))).2.2.1 c0_2)),((v13).getD (Int.toNat v15) ((bs []),(0:Int),(bs []),(bs []),(0:Int))).1,c0_0,(seq ((v13).getD (Int.toNat v15) ((bs []),(0:Int),(bs []),(bs []),(0:Int))).1 c0_0),v0,(((v0).length:Nat):Int),(0:Int),c0_0,c0_1,c0_2,c0_3,c0_4,((v13).getD (Int.toNat v15) ((bs []),(0:Int),(bs []),(bs []),(0:Int))).1,((v13).getD (Int.toNat v15) ((bs []),(0:Int),(bs []),(bs []),(0:Int))).2.1,((v13).getD (Int.toNat v15) ((bs []),(0:Int),(bs []),(bs []),(0:Int))).2.2.1,((v13).getD (Int.toNat v15) ((bs []),(0:Int),(bs []),(bs []),(0:Int))).2.2.2.1,((v13).getD (Int.toNat v15) ((bs []),(0:Int),(bs []),(bs []),(0:Int))).2.2.2.2,())) fun z4 =>
 .br z4.2.2.2.2.1 (
 .ni (z4.2.2.2.1+(1:Int)) <|
 .ni (z4.2.2.2.2.2.2.2.1+(1:Int)) <|
 .ret (.inl (z4.1,z4.2.1,z4.2.2.1,(z4.2.2.2.1+(1:Int)),z4.2.2.2.2.2.1,z4.2.2.2.2.2.2.1,(z4.2.2.2.2.2.2.2.1+(1:Int)),z4.2.2.2.2.2.2.2.2.2.2.2.2.2.2.1,z4.2.2.2.2.2.2.2.2.2.2.2.2.2.2.2.1,z4.2.2.2.2.2.2.2.2.2.2.2.2.2.2.2.2.1,z4.2.2.2.2.2.2.2.2.2.2.2.2.2.2.2.2.2.1,z4.2.2.2.2.2.2.2.2.2.2.2.2.2.2.2.2.2.2.1,()))) (
 .ni (z4.2.2.2.2.2.2.2.1+(1:Int)) <|
 .ret (.inl (z4.1,z4.2.1,z4.2.2.1,z4.2.2.2.1,z4.2.2.2.2.2.1,z4.2.2.2.2.2.2.1,(z4.2.2.2.2.2.2.2.1+(1:Int)),z4.2.2.2.2.2.2.2.2.2.2.2.2.2.2.1,z4.2.2.2.2.2.2.2.2.2.2.2.2.2.2.2.1,z4.2.2.2.2.2.2.2.2.2.2.2.2.2.2.2.2.1,z4.2.2.2.2.2.2.2.2.2.2.2.2.2.2.2.2.2.1,z4.2.2.2.2.2.2.2.2.2.2.2.2.2.2.2.2.2.2.1,()))))))) (
 .br (!(((v13).getD (Int.toNat v15) ((bs []),(0:Int),(bs []),(bs []),(0:Int))).2.1==(2:Int))) (
 .ni (v15+(1:Int)) <|
 .ret (.inl (v0,(!(((v13).getD (Int.toNat v15) ((bs []),(0:Int),(bs []),(bs []),(0:Int))).2.1==(3:Int))),false,v7,v13,v14,(v15+(1:Int)),c0_0,c0_1,c0_2,c0_3,c0_4,()))) (
 .br (!(seq ((v13).getD (Int.toNat v15) ((bs []),(0:Int),(bs []),(bs []),(0:Int))).2.2.1 c0_2)) (
 .ni (v15+(1:Int)) <|
 .ret (.inl (v0,(!(((v13).getD (Int.toNat v15) ((bs []),(0:Int),(bs []),(bs []),(0:Int))).2.1==(3:Int))),false,v7,v13,v14,(v15+(1:Int)),c0_0,c0_1,c0_2,c0_3,c0_4,()))) (
 .br (seq ((v13).getD (Int.toNat v15) ((bs []),(0:Int),(bs []),(bs []),(0:Int))).1 c0_0) (
 .ni (v15+(1:Int)) <|
 .ret (.inl (v0,(!(((v13).getD (Int.toNat v15) ((bs []),(0:Int),(bs []),(bs []),(0:Int))).2.1==(3:Int))),false,v7,v13,v14,(v15+(1:Int)),c0_0,c0_1,c0_2,c0_3,c0_4,()))) (
 .bd (.it g77_1 (v0,(!(((v13).getD (Int.toNat v15) ((bs []),(0:Int),(bs []),(bs []),(0:Int))).2.1==(3:Int))),false,v7,false,v13,v14,v15,((v13).getD (Int.toNat v15) ((bs []),(0:Int),(bs []),(bs []),(0:Int))).2.2.1,c0_2,(!(seq ((v13).getD (Int.toNat v15) ((bs []),(0:Int),(bs []),(bs []),(0:Int))).2.2.1 c0_2)),((v13).getD (Int.toNat v15) ((bs []),(0:Int),(bs []),(bs []),(0:Int))).1,c0_0,(seq ((v13).getD (Int.toNat v15) ((bs []),(0:Int),(bs []),(bs []),(0:Int))).1 c0_0),v0,(((v0).length:Nat):Int),(0:Int),c0_0,c0_1,c0_2,c0_3,c0_4,((v13).getD (Int.toNat v15) ((bs []),(0:Int),(bs []),(bs []),(0:Int))).1,((v13).getD (Int.toNat v15) ((bs []),(0:Int),(bs []),(bs []),(0:Int))).2.1,((v13).getD (Int.toNat v15) ((bs []),(0:Int),(bs []),(bs []),(0:Int))).2.2.1,((v13).getD (Int.toNat v15) ((bs []),(0:Int),(bs []),(bs []),(0:Int))).2.2.2.1,((v13).getD (Int.toNat v15) ((bs []),(0:Int),(bs []),(bs []),(0:Int))).2.2.2.2,())) fun z5 =>
 .br z5.2.2.2.2.1 (
 .ni (z5.2.2.2.1+(1:Int)) <|
 .ni (z5.2.2.2.2.2.2.2.1+(1:Int)) <|
 .ret (.inl (z5.1,z5.2.1,z5.2.2.1,(z5.2.2.2.1+(1:Int)),z5.2.2.2.2.2.1,z5.2.2.2.2.2.2.1,(z5.2.2.2.2.2.2.2.1+(1:Int)),z5.2.2.2.2.2.2.2.2.2.2.2.2.2.2.1,z5.2.2.2.2.2.2.2.2.2.2.2.2.2.2.2.1,z5.2.2.2.2.2.2.2.2.2.2.2.2.2.2.2.2.1,z5.2.2.2.2.2.2.2.2.2.2.2.2.2.2.2.2.2.1,z5.2.2.2.2.2.2.2.2.2.2.2.2.2.2.2.2.2.2.1,()))) (
 .ni (z5.2.2.2.2.2.2.2.1+(1:Int)) <|
 .ret (.inl (z5.1,z5.2.1,z5.2.2.1,z5.2.2.2.1,z5.2.2.2.2.2.1,z5.2.2.2.2.2.2.1,(z5.2.2.2.2.2.2.2.1+(1:Int)),z5.2.2.2.2.2.2.2.2.2.2.2.2.2.2.1,z5.2.2.2.2.2.2.2.2.2.2.2.2.2.2.2.1,z5.2.2.2.2.2.2.2.2.2.2.2.2.2.2.2.2.1,z5.2.2.2.2.2.2.2.2.2.2.2.2.2.2.2.2.2.1,z5.2.2.2.2.2.2.2.2.2.2.2.2.2.2.2.2.2.2.1,()))))))))) (
 .br v6 (
 .br (!(((v13).getD (Int.toNat v15) ((bs []),(0:Int),(bs []),(bs []),(0:Int))).2.1==(2:Int))) (
 .ni (v15+(1:Int)) <|
 .ret (.inl (v0,false,true,v7,v13,v14,(v15+(1:Int)),c0_0,c0_1,c0_2,c0_3,c0_4,()))) (
 .br (!(seq ((v13).getD (Int.toNat v15) ((bs []),(0:Int),(bs []),(bs []),(0:Int))).2.2.1 c0_2)) (
 .ni (v15+(1:Int)) <|
 .ret (.inl (v0,false,true,v7,v13,v14,(v15+(1:Int)),c0_0,c0_1,c0_2,c0_3,c0_4,()))) (
 .br (seq ((v13).getD (Int.toNat v15) ((bs []),(0:Int),(bs []),(bs []),(0:Int))).1 c0_0) (
 .ni (v15+(1:Int)) <|
 .ret (.inl (v0,false,true,v7,v13,v14,(v15+(1:Int)),c0_0,c0_1,c0_2,c0_3,c0_4,()))) (
 .bd (.it g77_1 (v0,false,true,v7,false,v13,v14,v15,((v13).getD (Int.toNat v15) ((bs []),(0:Int),(bs []),(bs []),(0:Int))).2.2.1,c0_2,(!(seq ((v13).getD (Int.toNat v15) ((bs []),(0:Int),(bs []),(bs []),(0:Int))).2.2.1 c0_2)),((v13).getD (Int.toNat v15) ((bs []),(0:Int),(bs []),(bs []),(0:Int))).1,c0_0,(seq ((v13).getD (Int.toNat v15) ((bs []),(0:Int),(bs []),(bs []),(0:Int))).1 c0_0),v0,(((v0).length:Nat):Int),(0:Int),c0_0,c0_1,c0_2,c0_3,c0_4,((v13).getD (Int.toNat v15) ((bs []),(0:Int),(bs []),(bs []),(0:Int))).1,((v13).getD (Int.toNat v15) ((bs []),(0:Int),(bs []),(bs []),(0:Int))).2.1,((v13).getD (Int.toNat v15) ((bs []),(0:Int),(bs []),(bs []),(0:Int))).2.2.1,((v13).getD (Int.toNat v15) ((bs []),(0:Int),(bs []),(bs []),(0:Int))).2.2.2.1,((v13).getD (Int.toNat v15) ((bs []),(0:Int),(bs []),(bs []),(0:Int))).2.2.2.2,())) fun z6 =>
 .br z6.2.2.2.2.1 (
 .ni (z6.2.2.2.1+(1:Int)) <|
 .ni (z6.2.2.2.2.2.2.2.1+(1:Int)) <|
 .ret (.inl (z6.1,z6.2.1,z6.2.2.1,(z6.2.2.2.1+(1:Int)),z6.2.2.2.2.2.1,z6.2.2.2.2.2.2.1,(z6.2.2.2.2.2.2.2.1+(1:Int)),z6.2.2.2.2.2.2.2.2.2.2.2.2.2.2.1,z6.2.2.2.2.2.2.2.2.2.2.2.2.2.2.2.1,z6.2.2.2.2.2.2.2.2.2.2.2.2.2.2.2.2.1,z6.2.2.2.2.2.2.2.2.2.2.2.2.2.2.2.2.2.1,z6.2.2.2.2.2.2.2.2.2.2.2.2.2.2.2.2.2.2.1,()))) (
 .ni (z6.2.2.2.2.2.2.2.1+(1:Int)) <|
 .ret (.inl (z6.1,z6.2.1,z6.2.2.1,z6.2.2.2.1,z6.2.2.2.2.2.1,z6.2.2.2.2.2.2.1,(z6.2.2.2.2.2.2.2.1+(1:Int)),z6.2.2.2.2.2.2.2.2.2.2.2.2.2.2.1,z6.2.2.2.2.2.2.2.2.2.2.2.2.2.2.2.1,z6.2.2.2.2.2.2.2.2.2.2.2.2.2.2.2.2.1,z6.2.2.2.2.2.2.2.2.2.2.2.2.2.2.2.2.2.1,z6.2.2.2.2.2.2.2.2.2.2.2.2.2.2.2.2.2.2.1,()))))))) (
 .br (((v13).getD (Int.toNat v15) ((bs []),(0:Int),(bs []),(bs []),(0:Int))).2.1==(3:Int)) (
 .br (!(((v13).getD (Int.toNat v15) ((bs []),(0:Int),(bs []),(bs []),(0:Int))).2.1==(2:Int))) (
 .ni (v15+(1:Int)) <|
 .ret (.inl (v0,false,(seq ((v13).getD (Int.toNat v15) ((bs []),(0:Int),(bs []),(bs []),(0:Int))).2.2.1 c0_0),v7,v13,v14,(v15+(1:Int)),c0_0,c0_1,c0_2,c0_3,c0_4,()))) (
 .br (!(seq ((v13).getD (Int.toNat v15) ((bs []),(0:Int),(bs []),(bs []),(0:Int))).2.2.1 c0_2)) (
 .ni (v15+(1:Int)) <|
 .ret (.inl (v0,false,(seq ((v13).getD (Int.toNat v15) ((bs []),(0:Int),(bs []),(bs []),(0:Int))).2.2.1 c0_0),v7,v13,v14,(v15+(1:Int)),c0_0,c0_1,c0_2,c0_3,c0_4,()))) (
 .br (seq ((v13).getD (Int.toNat v15) ((bs []),(0:Int),(bs []),(bs []),(0:Int))).1 c0_0) (
 .ni (v15+(1:Int)) <|
 .ret (.inl (v0,false,(seq ((v13).getD (Int.toNat v15) ((bs []),(0:Int),(bs []),(bs []),(0:Int))).2.2.1 c0_0),v7,v13,v14,(v15+(1:Int)),c0_0,c0_1,c0_2,c0_3,c0_4,()))) (
 .bd (.it g77_1 (v0,false,(seq ((v13).getD (Int.toNat v15) ((bs []),(0:Int),(bs []),(bs []),(0:Int))).2.2.1 c0_0),v7,false,v13,v14,v15,((v13).getD (Int.toNat v15) ((bs []),(0:Int),(bs []),(bs []),(0:Int))).2.2.1,c0_2,(!(seq ((v13).getD (Int.toNat v15) ((bs []),(0:Int),(bs []),(bs []),(0:Int))).2.2.1 c0_2)),((v13).getD (Int.toNat v15) ((bs []),(0:Int),(bs []),(bs []),(0:Int))).1,c0_0,(seq ((v13).getD (Int.toNat v15) ((bs []),(0:Int),(bs []),(bs []),(0:Int))).1 c0_0),v0,(((v0).length:Nat):Int),(0:Int),c0_0,c0_1,c0_2,c0_3,c0_4,((v13).getD (Int.toNat v15) ((bs []),(0:Int),(bs []),(bs []),(0:Int))).1,((v13).getD (Int.toNat v15) ((bs []),(0:Int),(bs []),(bs []),(0:Int))).2.1,((v13).getD (Int.toNat v15) ((bs []),(0:Int),(bs []),(bs []),(0:Int))).2.2.1,((v13).getD (Int.toNat v15) ((bs []),(0:Int),(bs []),(bs []),(0:Int))).2.2.2.1,((v13).getD (Int.toNat v15) ((bs []),(0:Int),(bs []),(bs []),(0:Int))).2.2.2.2,())) fun z7 =>
 .br z7.2.2.2.2.1 (
 .ni (z7.2.2.2.1+(1:Int)) <|
 .ni (z7.2.2.2.2.2.2.2.1+(1:Int)) <|
 .ret (.inl (z7.1,z7.2.1,z7.2.2.1,(z7.2.2.2.1+(1:Int)),z7.2.2.2.2.2.1,z7.2.2.2.2.2.2.1,(z7.2.2.2.2.2.2.2.1+(1:Int)),z7.2.2.2.2.2.2.2.2.2.2.2.2.2.2.1,z7.2.2.2.2.2.2.2.2.2.2.2.2.2.2.2.1,z7.2.2.2.2.2.2.2.2.2.2.2.2.2.2.2.2.1,z7.2.2.2.2.2.2.2.2.2.2.2.2.2.2.2.2.2.1,z7.2.2.2.2.2.2.2.2.2.2.2.2.2.2.2.2.2.2.1,()))) (
 .ni (z7.2.2.2.2.2.2.2.1+(1:Int)) <|
 .ret (.inl (z7.1,z7.2.1,z7.2.2.1,z7.2.2.2.1,z7.2.2.2.2.2.1,z7.2.2.2.2.2.2.1,(z7.2.2.2.2.2.2.2.1+(1:Int)),z7.2.2.2.2.2.2.2.2.2.2.2.2.2.2.1,z7.2.2.2.2.2.2.2.2.2.2.2.2.2.2.2.1,z7.2.2.2.2.2.2.2.2.2.2.2.2.2.2.2.2.1,z7.2.2.2.2.2.2.2.2.2.2.2.2.2.2.2.2.2.1,z7.2.2.2.2.2.2.2.2.2.2.2.2.2.2.2.2.2.2.1,()))))))) (
 .br (!(((v13).getD (Int.toNat v15) ((bs []),(0:Int),(bs []),(bs []),(0:Int))).2.1==(2:Int))) (
 .ni (v15+(1:Int)) <|
 .ret (.inl (v0,false,false,v7,v13,v14,(v15+(1:Int)),c0_0,c0_1,c0_2,c0_3,c0_4,()))) (
 .br (!(seq ((v13).getD (Int.toNat v15) ((bs []),(0:Int),(bs []),(bs []),(0:Int))).2.2.1 c0_2)) (
 .ni (v15+(1:Int)) <|
 .ret (.inl (v0,false,false,v7,v13,v14,(v15+(1:Int)),c0_0,c0_1,c0_2,c0_3,c0_4,()))) (
 .br (seq ((v13).getD (Int.toNat v15) ((bs []),(0:Int),(bs []),(bs []),(0:Int))).1 c0_0) (
 .ni (v15+(1:Int)) <|
 .ret (.inl (v0,false,false,v7,v13,v14,(v15+(1:Int)),c0_0,c0_1,c0_2,c0_3,c0_4,()))) (
 .bd (.it g77_1 (v0,false,false,v7,false,v13,v14,v15,((v13).getD (Int.toNat v15) ((bs []),(0:Int),(bs []),(bs []),(0:Int))).2.2.1,c0_2,(!(seq ((v13).getD (Int.toNat v15) ((bs []),(0:Int),(bs []),(bs []),(0:Int))).2.2.1 c0_2)),((v13).getD (Int.toNat v15) ((bs []),(0:Int),(bs []),(bs []),(0:Int))).1,c0_0,(seq ((v13).getD (Int.toNat v15) ((bs []),(0:Int),(bs []),(bs []),(0:Int))).1 c0_0),v0,(((v0).length:Nat):Int),(0:Int),c0_0,c0_1,c0_2,c0_3,c0_4,((v13).getD (Int.toNat v15) ((bs []),(0:Int),(bs []),(bs []),(0:Int))).1,((v13).getD (Int.toNat v15) ((bs []),(0:Int),(bs []),(bs []),(0:Int))).2.1,((v13).getD (Int.toNat v15) ((bs []),(0:Int),(bs []),(bs []),(0:Int))).2.2.1,((v13).getD (Int.toNat v15) ((bs []),(0:Int),(bs []),(bs []),(0:Int))).2.2.2.1,((v13).getD (Int.toNat v15) ((bs []),(0:Int),(bs []),(bs []),(0:Int))).2.2.2.2,())) fun z8 =>
 .br z8.2.2.2.2.1 (
 .ni (z8.2.2.2.1+(1:Int)) <|
 .ni (z8.2.2.2.2.2.2.2.1+(1:Int)) <|
 .ret (.inl (z8.1,z8.2.1,z8.2.2.1,(z8.2.2.2.1+(1:Int)),z8.2.2.2.2.2.1,z8.2.2.2.2.2.2.1,(z8.2.2.2.2.2.2.2.1+(1:Int)),z8.2.2.2.2.2.2.2.2.2.2.2.2.2.2.1,z8.2.2.2.2.2.2.2.2.2.2.2.2.2.2.2.1,z8.2.2.2.2.2.2.2.2.2.2.2.2.2.2.2.2.1,z8.2.2.2.2.2.2.2.2.2.2.2.2.2.2.2.2.2.1,z8.2.2.2.2.2.2.2.2.2.2.2.2.2.2.2.2.2.2.1,()))) (
 .ni (z8.2.2.2.2.2.2.2.1+(1:Int)) <|
 .ret (.inl (z8.1,z8.2.1,z8.2.2.1,z8.2.2.2.1,z8.2.2.2.2.2.1,z8.2.2.2.2.2.2.1,(z8.2.2.2.2.2.2.2.1+(1:Int)),z8.2.2.2.2.2.2.2.2.2.2.2.2.2.2.1,z8.2.2.2.2.2.2.2.2.2.2.2.2.2.2.2.1,z8.2.2.2.2.2.2.2.2.2.2.2.2.2.2.2.2.1,z8.2.2.2.2.2.2.2.2.2.2.2.2.2.2.2.2.2.1,z8.2.2.2.2.2.2.2.2.2.2.2.2.2.2.2.2.2.2.1,()))))))))))) (
 .ret (.inr (v5,v6,v7,())))
noncomputable def L77_0:LoopS prog 95 none 0:=mkLoop mixed cx77 cx77_ok [] rfl p77_0 x77_0 rfl (b77_0) (fun x=>run0 (g77_0 x)) (fun x=>by kernel_rfl)
noncomputable def dd77:D prog 95 none 0:=dO [.l L77_0] (kd prog f77) 0
noncomputable def F77 (a0:List (GG)) (a1:GG):Tr0 (Bool×Unit) :=
 .bd (.it g77_0 (a0,false,false,(0:Int),a0,(((a0).length:Nat):Int),(0:Int),a1.1,a1.2.1,a1.2.2.1,a1.2.2.2.1,a1.2.2.2.2,())) fun z9 =>
 .br z9.1 (
 .br (!z9.2.1) (
 .ret ((z9.2.2.1==(1:Int)),())) (
 .ret (false,()))) (
 .ret (false,()))
theorem c77_ok:trF prog f77=some ⟨95,2,dd77.er,[.t 4],[some .bool]⟩:=by kernel_rfl
noncomputable def ct77:Ct:=⟨77,[.c (.hole (.list tG)),.c (.hole tG)],.c (.hole .bool),fun x=>run0 (F77 x.1 x.2.1)⟩
theorem ct77_ok:ct77.Ok prog:=ct_ok mixed cx77_ok func77 c77_ok (enters_of func77 rfl rfl) dd77 (by kernel_rfl) rfl (fun x=>by kernel_rfl)

/- 34 -/
noncomputable def cx34:Cx:=(mkCxH [ct77] [])
theorem cx34_ok:cx34.Ok prog:=mkCxH_ok ⟨ct77_ok,trivial⟩ trivial
@[reducible] def p34_1:Pat:=Pat.mk [(0,.c (.hole (.list tG))),(3,.c (.ptr 0 0)),(4,.c (.sl0 1 tG)),(6,.c (.hole .bool)),(7,hI),(8,.c (.tf false)),(32,.c (.hole (.list tG))),(33,hI),(34,hI)] [(0,.cells [.hole .str,.hole tI,.hole .str,.hole .str,.hole tI] false),(1,.arr tG false)] [.slot 3,.slot 4] []
@[reducible] def x34_1:Outs:=[(.exit 2,Pat.mk [(0,.c (.hole (.list tG))),(3,.c (.ptr 0 0)),(4,.c (.sl0 1 tG)),(6,.c (.hole .bool)),(7,hI),(8,.c (.hole .bool))] [(0,.cells [.hole .str,.hole tI,.hole .str,.hole .str,.hole tI] false),(1,.arr tG false)] [.slot 3,.slot 4] [])]
noncomputable def b34_1:D prog 56 none 0:=dO [] (pick (kd prog f34) [(0,false),(0,false)]) 0
noncomputable def g34_1:(List (GG))×Nat×Bool×Int×(List (GG))×Int×Int×ByteArray×Int×ByteArray×ByteArray×Int×(List (GG))×Unit→Tr0 (((List (GG))×Nat×Bool×Int×(List (GG))×Int×Int×ByteArray×Int×ByteArray×ByteArray×Int×(List (GG))×Unit) ⊕ (((List (GG))×Nat×Bool×Int×Bool×ByteArray×Int×ByteArray×ByteArray×Int×(List (GG))×Unit))):=fun (v0,nv4,v6,v7,v32,v33,v34,c0_0,c0_1,c0_2,c0_3,c0_4,b1,_) =>
 .br (decide (v34<v33)) (
 .nb v34 (((v32).length:Nat):Int) <|
 .br (seq ((v32).getD (Int.toNat v34) ((bs []),(0:Int),(bs []),(bs []),(0:Int))).1 c0_2) (
 .br (!(((v32).getD (Int.toNat v34) ((bs []),(0:Int),(bs []),(bs []),(0:Int))).2.1==(3:Int))) (
 .ret (.inr (v0,nv4,v6,v7,true,((v32).getD (Int.toNat v34) ((bs []),(0:Int),(bs []),(bs []),(0:Int))).1,((v32).getD (Int.toNat v34) ((bs []),(0:Int),(bs []),(bs []),(0:Int))).2.1,((v32).getD (Int.toNat v34) ((bs []),(0:Int),(bs []),(bs []),(0:Int))).2.2.1,((v32).getD (Int.toNat v34) ((bs []),(0:Int),(bs []),(bs []),(0:Int))).2.2.2.1,((v32).getD (Int.toNat v34) ((bs []),(0:Int),(bs []),(bs []),(0:Int))).2.2.2.2,b1,()))) (
 .ni (v34+(1:Int)) <|
 .ret (.inl (v0,nv4,v6,v7,v32,v33,(v34+(1:Int)),c0_0,c0_1,c0_2,c0_3,c0_4,b1,())))) (
 .ni (v34+(1:Int)) <|
 .ret (.inl (v0,nv4,v6,v7,v32,v33,(v34+(1:Int)),c0_0,c0_1,c0_2,c0_3,c0_4,b1,())))) (
 .ret (.inr (v0,nv4,v6,v7,false,c0_0,c0_1,c0_2,c0_3,c0_4,b1,())))
noncomputable def L34_1:LoopS prog 56 none 0:=mkLoop mixed cx34 cx34_ok [] rfl p34_1 x34_1 rfl (b34_1) (fun x=>run0 (g34_1 x)) (fun x=>by kernel_rfl)
@[reducible] def p34_0:Pat:=Pat.mk [(0,.c (.hole (.list tG))),(3,.c (.ptr 0 0)),(4,.c (.sl0 1 tG)),(6,.c (.hole .bool)),(7,hI)] [(0,.cells [.hole .str,.hole tI,.hole .str,.hole .str,.hole tI] false),(1,.arr tG false)] [.slot 3,.slot 4] []
@[reducible] def x34_0:Outs:=[(.ret,Pat.mk [(4,.c (.sl0 0 tG)),(5,.c (.hole .bool)),(6,.c (.hole .bool))] [(0,.arr tG false)] [.slot 4] []),(.exit 0,Pat.mk [(4,.c (.sl0 0 tG)),(6,.c (.hole .bool))] [(0,.arr tG false)] [.slot 4] [])]
noncomputable def b34_0:D prog 56 none 0:=dO [.l L34_1] (pick (kd prog f34) [(0,false)]) 0
noncomputable def g34_0:(List (GG))×Nat×Bool×Int×ByteArray×Int×ByteArray×ByteArray×Int×(List (GG))×Unit→Tr0 (((List (GG))×Nat×Bool×Int×ByteArray×Int×ByteArray×ByteArray×Int×(List (GG))×Unit) ⊕ ((Nat×Bool×Bool×(List (GG))×Unit) ⊕ ((Nat×Bool×(List (GG))×Unit)))):=fun (v0,nv4,v6,v7,c0_0,c0_1,c0_2,c0_3,c0_4,b1,_) =>
 .br (decide (v7<(9:Int))) (
 .nd (decide ((nv4+((((((c0_0,c0_1,c0_2,c0_3,c0_4)::[])).drop (0:Nat)).take (1:Nat))).length)<bigL)) <|
 .br (c0_1==(1:Int)) (
 .ret (.inr <| .inl<|((nv4+((((((c0_0,c0_1,c0_2,c0_3,c0_4)::[])).drop (0:Nat)).take (1:Nat))).length),(!v6),v6,((((b1).drop (0:Nat)).take nv4)++(((((c0_0,c0_1,c0_2,c0_3,c0_4)::[])).drop (0:Nat)).take (1:Nat))),()))) (
 .br v6 (
 .bd (.it g34_1 (v0,(nv4+((((((c0_0,c0_1,c0_2,c0_3,c0_4)::[])).drop (0:Nat)).take (1:Nat))).length),true,v7,v0,(((v0).length:Nat):Int),(0:Int),c0_0,c0_1,c0_2,c0_3,c0_4,((((b1).drop (0:Nat)).take nv4)++(((((c0_0,c0_1,c0_2,c0_3,c0_4)::[])).drop (0:Nat)).take (1:Nat))),())) fun z0 =>
 .br (!z0.2.2.2.2.1) (
 .ret (.inr <| .inl<|(z0.2.1,false,z0.2.2.1,z0.2.2.2.2.2.2.2.2.2.2.1,()))) (
 .ni (z0.2.2.2.1+(1:Int)) <|
 .ret (.inl (z0.1,z0.2.1,z0.2.2.1,(z0.2.2.2.1+(1:Int)),z0.2.2.2.2.2.1,z0.2.2.2.2.2.2.1,z0.2.2.2.2.2.2.2.1,z0.2.2.2.2.2.2.2.2.1,z0.2.2.2.2.2.2.2.2.2.1,z0.2.2.2.2.2.2.2.2.2.2.1,())))) (
 .bd (F77 v0 (c0_0,c0_1,c0_2,c0_3,c0_4)) fun y1 =>
 .bd (.it g34_1 (v0,(nv4+((((((c0_0,c0_1,c0_2,c0_3,c0_4)::[])).drop (0:Nat)).take (1:Nat))).length),y1.1,v7,v0,(((v0).length:Nat):Int),(0:Int),c0_0,c0_1,c0_2,c0_3,c0_4,((((b1).drop (0:Nat)).take nv4)++(((((c0_0,c0_1,c0_2,c0_3,c0_4)::[])).drop (0:Nat)).take (1:Nat))),())) fun z2 =>
 .br (!z2.2.2.2.2.1) (
 .ret (.inr <| .inl<|(z2.2.1,false,z2.2.2.1,z2.2.2.2.2.2.2.2.2.2.2.1,()))) (
 .ni (z2.2.2.2.1+(1:Int)) <|
 .ret (.inl (z2.1,z2.2.1,z2.2.2.1,(z2.2.2.2.1+(1:Int)),z2.2.2.2.2.2.1,z2.2.2.2.2.2.2.1,z2.2.2.2.2.2.2.2.1,z2.2.2.2.2.2.2.2.2.1,z2.2.2.2.2.2.2.2.2.2.1,z2.2.2.2.2.2.2.2.2.2.2.1,())))))) (
 .ret (.inr <| .inr<|(nv4,v6,b1,())))
noncomputable def L34_0:LoopS prog 56 none 0:=mkLoop mixed cx34 cx34_ok [] rfl p34_0 x34_0 rfl (b34_0) (fun x=>run0 (g34_0 x)) (fun x=>by kernel_rfl)
noncomputable def dd34:D prog 56 none 0:=dO [.l L34_0] (kd prog f34) 0
noncomputable def F34 (a0:List (GG)) (a1:GG):Tr0 ((List (GG))×Bool×Bool×Unit) :=
 .bd (.it g34_0 (a0,(0:Nat),false,(0:Int),a1.1,a1.2.1,a1.2.2.1,a1.2.2.2.1,a1.2.2.2.2,[],())) fun z3 =>
 .sm z3 (fun z4 =>
 .ret ((((z4.2.2.2.1).drop (0:Nat)).take z4.1),z4.2.1,z4.2.2.1,())) fun z5 =>
 .ret ((((z5.2.2.1).drop (0:Nat)).take z5.1),false,z5.2.1,())
theorem c34_ok:trF prog f34=some ⟨56,2,dd34.er,[.t 4,.t 5,.t 6],[some (.list tG),some .bool,some .bool]⟩:=by kernel_rfl
noncomputable def ct34:Ct:=⟨34,[.c (.hole (.list tG)),.c (.hole tG)],.tup [.hole (.list tG),.hole .bool,.hole .bool],fun x=>run0 (F34 x.1 x.2.1)⟩
theorem ct34_ok:ct34.Ok prog:=ct_ok mixed cx34_ok func34 c34_ok (enters_of func34 rfl rfl) dd34 (by kernel_rfl) rfl (fun x=>by kernel_rfl)

/- 35 -/
noncomputable def cx35:Cx:=(mkCxH [ct34] [])
theorem cx35_ok:cx35.Ok prog:=mkCxH_ok ⟨ct34_ok,trivial⟩ trivial
@[reducible] def p35_0:Pat:=Pat.mk [(0,.c (.hole (.list tG))),(3,.c (.ptr 0 0)),(6,.c (.hole (.list tG))),(7,.c (.hole .bool)),(24,.c (.hole (.list tG))),(25,hI),(26,hI)] [(0,.cells [.hole .str,.hole tI,.hole .str,.hole .str,.hole tI] false)] [.slot 3] []
@[reducible] def x35_0:Outs:=[(.ret,Pat.mk [(4,.c (.hole .str)),(5,.c (.tf false))] [] [] []),(.exit 0,Pat.mk [(6,.c (.hole (.list tG))),(7,.c (.hole .bool))] [] [] [])]
noncomputable def b35_0:D prog 57 none 0:=dO [] (pick (kd prog f35) [(0,false)]) 0
noncomputable def g35_0:(List (GG))×(List (GG))×Bool×(List (GG))×Int×Int×ByteArray×Int×ByteArray×ByteArray×Int×Unit→Tr0 (((List (GG))×(List (GG))×Bool×(List (GG))×Int×Int×ByteArray×Int×ByteArray×ByteArray×Int×Unit) ⊕ ((ByteArray×Unit) ⊕ (((List (GG))×Bool×Unit)))):=fun (v0,v6,v7,v24,v25,v26,c0_0,c0_1,c0_2,c0_3,c0_4,_) =>
 .br (decide (v26<v25)) (
 .nb v26 (((v24).length:Nat):Int) <|
 .br (((v24).getD (Int.toNat v26) ((bs []),(0:Int),(bs []),(bs []),(0:Int))).2.1==(2:Int)) (
 .br (seq ((v24).getD (Int.toNat v26) ((bs []),(0:Int),(bs []),(bs []),(0:Int))).2.2.1 c0_0) (
 .bd (F34 v0 (((v24).getD (Int.toNat v26) ((bs []),(0:Int),(bs []),(bs []),(0:Int))).1,((v24).getD (Int.toNat v26) ((bs []),(0:Int),(bs []),(bs []),(0:Int))).2.1,((v24).getD (Int.toNat v26) ((bs []),(0:Int),(bs []),(bs []),(0:Int))).2.2.1,((v24).getD (Int.toNat v26) ((bs []),(0:Int),(bs []),(bs []),(0:Int))).2.2.2.1,((v24).getD (Int.toNat v26) ((bs []),(0:Int),(bs []),(bs []),(0:Int))).2.2.2.2)) fun y1 =>
 .br y1.2.1 (
 .ret (.inr <| .inl<|((bs []),()))) (
 .ni (v26+(1:Int)) <|
 .ret (.inl (v0,v6,v7,v24,v25,(v26+(1:Int)),c0_0,c0_1,c0_2,c0_3,c0_4,())))) (
 .ni (v26+(1:Int)) <|
 .ret (.inl (v0,v6,v7,v24,v25,(v26+(1:Int)),c0_0,c0_1,c0_2,c0_3,c0_4,())))) (
 .ni (v26+(1:Int)) <|
 .ret (.inl (v0,v6,v7,v24,v25,(v26+(1:Int)),c0_0,c0_1,c0_2,c0_3,c0_4,())))) (
 .ret (.inr <| .inr<|(v6,v7,())))
noncomputable def L35_0:LoopS prog 57 none 0:=mkLoop mixed cx35 cx35_ok [] rfl p35_0 x35_0 rfl (b35_0) (fun x=>run0 (g35_0 x)) (fun x=>by kernel_rfl)
noncomputable def dd35:D prog 57 none 0:=dO [.l L35_0] (kd prog f35) 0
noncomputable def F35 (a0:List (GG)) (a1:GG):Tr0 (ByteArray×Bool×Unit) :=
 .br (a1.2.1==(3:Int)) (
 .ret ((bs []),false,())) (
 .bd (F34 a0 (a1.1,a1.2.1,a1.2.2.1,a1.2.2.2.1,a1.2.2.2.2)) fun y0 =>
 .bd (.it g35_0 (a0,y0.1,y0.2.1,a0,(((a0).length:Nat):Int),(0:Int),a1.1,a1.2.1,a1.2.2.1,a1.2.2.2.1,a1.2.2.2.2,())) fun z2 =>
 .sm z2 (fun z3 =>
 .ret (z3.1,false,())) fun z4 =>
 .ni ((((z4.1).length:Nat):Int) - (1:Int)) <|
 .nb ((((z4.1).length:Nat):Int) - (1:Int)) (((z4.1).length:Nat):Int) <|
 .ret (((z4.1).getD (Int.toNat ((((z4.1).length:Nat):Int) - (1:Int))) ((bs []),(0:Int),(bs []),(bs []),(0:Int))).1,z4.2.1,()))
theorem c35_ok:trF prog f35=some ⟨57,2,dd35.er,[.t 4,.t 5],[some .str,some .bool]⟩:=by kernel_rfl
noncomputable def ct35:Ct:=⟨35,[.c (.hole (.list tG)),.c (.hole tG)],.tup [.hole .str,.hole .bool],fun x=>run0 (F35 x.1 x.2.1)⟩
theorem ct35_ok:ct35.Ok prog:=ct_ok mixed cx35_ok func35 c35_ok (enters_of func35 rfl rfl) dd35 (by kernel_rfl) rfl (fun x=>by kernel_rfl)

/- 5 -/
noncomputable def cx5:Cx:=(mkCxH [ct28,ct30,ct31,ct34,ct35,ct36,ct17] [ht29,ht32,ht33])
theorem cx5_ok:cx5.Ok prog:=mkCxH_ok ⟨ct28_ok,ct30_ok,ct31_ok,ct34_ok,ct35_ok,ct36_ok,ct17_ok,trivial⟩ ⟨⟨ht29_ok,rfl⟩,⟨ht32_ok,rfl⟩,⟨ht33_ok,rfl⟩,trivial⟩
@[reducible] def p5_1:Pat:=Pat.mk [(4,.c (.ptr 0 0)),(5,.c (.hole (.list tG))),(7,.c (.hole .str)),(8,.c (.ptr 1 0)),(39,.c (.hole (.list .str))),(40,hI),(41,hI),(45,.c (.hole (.list tG))),(46,hI),(47,hI)] [(0,.cells [.mp 2] false),(1,.cells [.hole .str,.hole tI,.hole .str,.hole .str,.hole tI] false),(2,.map tG true .bool false)] [.slot 4,.slot 8,.cell 0 0] []
@[reducible] def x5_1:Outs:=[(.exit 2,Pat.mk [(4,.c (.ptr 0 0)),(5,.c (.hole (.list tG))),(7,.c (.hole .str)),(8,.c (.ptr 1 0)),(39,.c (.hole (.list .str))),(40,hI),(41,hI)] [(0,.cells [.mp 2] false),(1,.cells [.hole .str,.hole tI,.hole .str,.hole .str,.hole tI] false),(2,.map tG true .bool false)] [.slot 4,.slot 8,.cell 0 0] [])]
noncomputable def b5_1:D prog 224 none 0:=dO [] (pick (kd prog f5) [(0,false),(0,false)]) 0
noncomputable def g5_1:(List (GG))×ByteArray×List ByteArray×Int×Int×(List (GG))×Int×Int×ByteArray×Int×ByteArray×ByteArray×Int×(List ((GG)×Bool))×Unit→Tr0 (((List (GG))×ByteArray×List ByteArray×Int×Int×(List (GG))×Int×Int×ByteArray×Int×ByteArray×ByteArray×Int×(List ((GG)×Bool))×Unit) ⊕ (((List (GG))×ByteArray×List ByteArray×Int×Int×ByteArray×Int×ByteArray×ByteArray×Int×(List ((GG)×Bool))×Unit))):=fun (v5,v7,v39,v40,v41,v45,v46,v47,c1_0,c1_1,c1_2,c1_3,c1_4,m2,_) =>
 .br (decide (v47<v46)) (
 .nb v47 (((v45).length:Nat):Int) <|
 .br (seq ((v45).getD (Int.toNat v47) ((bs []),(0:Int),(bs []),(bs []),(0:Int))).1 v7) (
 .ni (v47+(1:Int)) <|
 .ret (.inl (v5,v7,v39,v40,v41,v45,v46,(v47+(1:Int)),((v45).getD (Int.toNat v47) ((bs []),(0:Int),(bs []),(bs []),(0:Int))).1,((v45).getD (Int.toNat v47) ((bs []),(0:Int),(bs []),(bs []),(0:Int))).2.1,((v45).getD (Int.toNat v47) ((bs []),(0:Int),(bs []),(bs []),(0:Int))).2.2.1,((v45).getD (Int.toNat v47) ((bs []),(0:Int),(bs []),(bs []),(0:Int))).2.2.2.1,((v45).getD (Int.toNat v47) ((bs []),(0:Int),(bs []),(bs []),(0:Int))).2.2.2.2,m2,()))) (
 .ni (v47+(1:Int)) <|
 .ret (.inl (v5,v7,v39,v40,v41,v45,v46,(v47+(1:Int)),c1_0,c1_1,c1_2,c1_3,c1_4,m2,())))) (
 .ret (.inr (v5,v7,v39,v40,v41,c1_0,c1_1,c1_2,c1_3,c1_4,m2,())))
noncomputable def L5_1:LoopS prog 224 none 0:=mkLoop mixed cx5 cx5_ok [] rfl p5_1 x5_1 rfl (b5_1) (fun x=>run0 (g5_1 x)) (fun x=>by kernel_rfl)
@[reducible] def p5_2:Pat:=Pat.mk [(4,.c (.ptr 0 0)),(5,.c (.hole (.list tG))),(7,.c (.hole .str)),(8,.c (.ptr 1 0)),(11,hI),(12,hI),(13,.c (.sl0 2 .str)),(14,hI),(17,.c (.hole .bool)),(18,.c (.hole .bool)),(19,.c (.hole .str)),(20,.c (.hole .bool)),(21,hI),(22,.c (.sl0 3 .str)),(39,.c (.hole (.list .str))),(40,hI),(41,hI),(73,.c (.ptr 1 1)),(74,hI),(75,.c (.hole .bool)),(116,.c (.hole (.list tG))),(117,hI),(118,hI)] [(0,.cells [.mp 4] false),(1,.cells [.hole .str,.hole tI,.hole .str,.hole .str,.hole tI] false),(2,.arr .str false),(3,.arr .str false),(4,.map tG true .bool false)] [.slot 4,.slot 8,.slot 13,.slot 22,.cell 0 0] []
@[reducible] def x5_2:Outs:=[(.exit 4,Pat.mk [(4,.c (.ptr 0 0)),(5,.c (.hole (.list tG))),(7,.c (.hole .str)),(8,.c (.ptr 1 0)),(11,hI),(12,hI),(13,.c (.sl0 2 .str)),(14,hI),(17,.c (.hole .bool)),(18,.c (.hole .bool)),(20,.c (.hole .bool)),(21,hI),(22,.c (.sl0 3 .str)),(39,.c (.hole (.list .str))),(40,hI),(41,hI),(73,.c (.ptr 1 1)),(74,hI),(75,.c (.hole .bool))] [(0,.cells [.mp 4] false),(1,.cells [.hole .str,.hole tI,.hole .str,.hole .str,.hole tI] false),(2,.arr .str false),(3,.arr .str false),(4,.map tG true .bool false)] [.slot 4,.slot 8,.slot 13,.slot 22,.cell 0 0] [])]
noncomputable def b5_2:D prog 224 none 0:=dO [] (pick (kd prog f5) [(0,false),(1,false)]) 0
noncomputable def g5_2:(List (GG))×ByteArray×Int×Int×Nat×Int×Bool×Bool×ByteArray×Bool×Int×Nat×List ByteArray×Int×Int×Int×Bool×(List (GG))×Int×Int×ByteArray×Int×ByteArray×ByteArray×Int×List ByteArray×List ByteArray×(List ((GG)×Bool))×Unit→Tr0 (((List (GG))×ByteArray×Int×Int×Nat×Int×Bool×Bool×ByteArray×Bool×Int×Nat×List ByteArray×Int×Int×Int×Bool×(List (GG))×Int×Int×ByteArray×Int×ByteArray×ByteArray×Int×List ByteArray×List ByteArray×(List ((GG)×Bool))×Unit) ⊕ (((List (GG))×ByteArray×Int×Int×Nat×Int×Bool×Bool×Bool×Int×Nat×List ByteArray×Int×Int×Int×Bool×ByteArray×Int×ByteArray×ByteArray×Int×List ByteArray×List ByteArray×(List ((GG)×Bool))×Unit))):=fun (v5,v7,v11,v12,nv13,v14,v17,v18,v19,v20,v21,nv22,v39,v40,v41,v74,v75,v116,v117,v118,c1_0,c1_1,c1_2,c1_3,c1_4,b2,b3,m4,_) =>
 .br (decide (v118<v117)) (
 .nb v118 (((v116).length:Nat):Int) <|
 .bd (F35 v5 (((v116).getD (Int.toNat v118) ((bs []),(0:Int),(bs []),(bs []),(0:Int))).1,((v116).getD (Int.toNat v118) ((bs []),(0:Int),(bs []),(bs []),(0:Int))).2.1,((v116).getD (Int.toNat v118) ((bs []),(0:Int),(bs []),(bs []),(0:Int))).2.2.1,((v116).getD (Int.toNat v118) ((bs []),(0:Int),(bs []),(bs []),(0:Int))).2.2.2.1,((v116).getD (Int.toNat v118) ((bs []),(0:Int),(bs []),(bs []),(0:Int))).2.2.2.2)) fun y12 =>
 .br v20 (
 .br y12.2.1 (
 .br (seq y12.1 v19) (
 .nd (decide ((nv22+(((((((v116).getD (Int.toNat v118) ((bs []),(0:Int),(bs []),(bs []),(0:Int))).1::[])).drop (0:Nat)).take (1:Nat))).length)<bigL)) <|
 .ni (v118+(1:Int)) <|
 .ret (.inl (v5,v7,v11,v12,nv13,v14,v17,v18,v19,v20,v21,(nv22+(((((((v116).getD (Int.toNat v118) ((bs []),(0:Int),(bs []),(bs []),(0:Int))).1::[])).drop (0:Nat)).take (1:Nat))).length),v39,v40,v41,v74,v75,v116,v117,(v118+(1:Int)),c1_0,c1_1,c1_2,c1_3,c1_4,b2,((((b3).drop (0:Nat)).take nv22)++((((((v116).getD (Int.toNat v118) ((bs []),(0:Int),(bs []),(bs []),(0:Int))).1::[])).drop (0:Nat)).take (1:Nat))),m4,()))) (
 .ni (v118+(1:Int)) <|
 .ret (.inl (v5,v7,v11,v12,nv13,v14,v17,v18,v19,v20,v21,nv22,v39,v40,v41,v74,v75,v116,v117,(v118+(1:Int)),c1_0,c1_1,c1_2,c1_3,c1_4,b2,b3,m4,())))) (
 .ni (v118+(1:Int)) <|
 .ret (.inl (v5,v7,v11,v12,nv13,v14,v17,v18,v19,v20,v21,nv22,v39,v40,v41,v74,v75,v116,v117,(v118+(1:Int)),c1_0,c1_1,c1_2,c1_3,c1_4,b2,b3,m4,())))) (
 .ni (v118+(1:Int)) <|
 .ret (.inl (v5,v7,v11,v12,nv13,v14,v17,v18,v19,v20,v21,nv22,v39,v40,v41,v74,v75,v116,v117,(v118+(1:Int)),c1_0,c1_1,c1_2,c1_3,c1_4,b2,b3,m4,())))) (
 .ret (.inr (v5,v7,v11,v12,nv13,v14,v17,v18,v20,v21,nv22,v39,v40,v41,v74,v75,c1_0,c1_1,c1_2,c1_3,c1_4,b2,b3,m4,())))
noncomputable def L5_2:LoopS prog 224 none 0:=mkLoop mixed cx5 cx5_ok [] rfl p5_2 x5_2 rfl (b5_2) (fun x=>run0 (g5_2 x)) (fun x=>by kernel_rfl)
@[reducible] def p5_3:Pat:=Pat.mk [(4,.c (.ptr 0 0)),(5,.c (.hole (.list tG))),(7,.c (.hole .str)),(8,.c (.ptr 1 0)),(11,hI),(12,hI),(13,.c (.sl0 2 .str)),(14,hI),(21,hI),(22,.c (.sl0 3 .str)),(39,.c (.hole (.list .str))),(40,hI),(41,hI),(73,.c (.ptr 1 1)),(74,hI),(75,.c (.hole .bool)),(145,.c (.hole .bool)),(148,.c (.hole .bool)),(149,.c (.hole .bool)),(151,.c (.sl0 3 .str)),(152,hI),(153,hI)] [(0,.cells [.mp 4] false),(1,.cells [.hole .str,.hole tI,.hole .str,.hole .str,.hole tI] false),(2,.arr .str false),(3,.arr .str false),(4,.map tG true .bool false)] [.slot 4,.slot 8,.slot 13,.slot 22,.cell 0 0] []
@[reducible] def x5_3:Outs:=[(.exit 6,Pat.mk [(4,.c (.ptr 0 0)),(5,.c (.hole (.list tG))),(7,.c (.hole .str)),(8,.c (.ptr 1 0)),(11,hI),(12,hI),(13,.c (.sl0 2 .str)),(14,hI),(21,hI),(22,.c (.sl0 3 .str)),(39,.c (.hole (.list .str))),(40,hI),(41,hI),(73,.c (.ptr 1 1)),(74,hI),(75,.c (.hole .bool)),(145,.c (.hole .bool)),(148,.c (.hole .bool)),(149,.c (.hole .bool))] [(0,.cells [.mp 4] false),(1,.cells [.hole .str,.hole tI,.hole .str,.hole .str,.hole tI] false),(2,.arr .str false),(3,.arr .str false),(4,.map tG true .bool false)] [.slot 4,.slot 8,.slot 13,.slot 22,.cell 0 0] [])]
noncomputable def b5_3:D prog 224 none 0:=dO [] (pick (kd prog f5) [(0,false),(2,false)]) 0
noncomputable def g5_3:(List (GG))×ByteArray×Int×Int×Nat×Int×Int×Nat×List ByteArray×Int×Int×Int×Bool×Bool×Bool×Bool×Nat×Int×Int×ByteArray×Int×ByteArray×ByteArray×Int×List ByteArray×List ByteArray×(List ((GG)×Bool))×Unit→Tr0 (((List (GG))×ByteArray×Int×Int×Nat×Int×Int×Nat×List ByteArray×Int×Int×Int×Bool×Bool×Bool×Bool×Nat×Int×Int×ByteArray×Int×ByteArray×ByteArray×Int×List ByteArray×List ByteArray×(List ((GG)×Bool))×Unit) ⊕ (((List (GG))×ByteArray×Int×Int×Nat×Int×Int×Nat×List ByteArray×Int×Int×Int×Bool×Bool×Bool×Bool×ByteArray×Int×ByteArray×ByteArray×Int×List ByteArray×List ByteArray×(List ((GG)×Bool))×Unit))):=fun (v5,v7,v11,v12,nv13,v14,v21,nv22,v39,v40,v41,v74,v75,v145,v148,v149,nv151,v152,v153,c1_0,c1_1,c1_2,c1_3,c1_4,b2,b3,m4,_) =>
 .br (decide (v153<v152)) (
 .nb v153 ((nv151:Nat):Int) <|
 .nd (decide (((0:Nat)+(Int.toNat v153))<(b3).length)) <|
 .br (seq ((b3).getD ((0:Nat)+(Int.toNat v153)) (bs [])) v7) (
 .ni (v153+(1:Int)) <|
 .ret (.inl (v5,v7,v11,v12,nv13,v14,(4:Int),nv22,v39,v40,v41,v74,v75,v145,v148,v149,nv151,v152,(v153+(1:Int)),c1_0,c1_1,c1_2,c1_3,c1_4,b2,b3,m4,()))) (
 .ni (v153+(1:Int)) <|
 .ret (.inl (v5,v7,v11,v12,nv13,v14,v21,nv22,v39,v40,v41,v74,v75,v145,v148,v149,nv151,v152,(v153+(1:Int)),c1_0,c1_1,c1_2,c1_3,c1_4,b2,b3,m4,())))) (
 .ret (.inr (v5,v7,v11,v12,nv13,v14,v21,nv22,v39,v40,v41,v74,v75,v145,v148,v149,c1_0,c1_1,c1_2,c1_3,c1_4,b2,b3,m4,())))
noncomputable def L5_3:LoopS prog 224 none 0:=mkLoop mixed cx5 cx5_ok [] rfl p5_3 x5_3 rfl (b5_3) (fun x=>run0 (g5_3 x)) (fun x=>by kernel_rfl)
@[reducible] def p5_4:Pat:=Pat.mk [(4,.c (.ptr 0 0)),(5,.c (.hole (.list tG))),(7,.c (.hole .str)),(13,.c (.sl0 1 .str)),(14,hI),(22,.c (.sl0 2 .str)),(39,.c (.hole (.list .str))),(40,hI),(41,hI),(73,.c (.ptr 3 1)),(74,hI),(75,.c (.hole .bool)),(171,hI),(172,hI),(173,.c (.hole .bool)),(185,.c (.hole (.list tG))),(186,hI),(187,hI)] [(0,.cells [.mp 4] false),(1,.arr .str false),(2,.arr .str false),(3,.cells [.hole .str,.hole tI,.hole .str,.hole .str,.hole tI] false),(4,.map tG true .bool false)] [.slot 4,.slot 13,.slot 22,.slot 73,.cell 0 0] []
@[reducible] def x5_4:Outs:=[(.exit 8,Pat.mk [(4,.c (.ptr 0 0)),(5,.c (.hole (.list tG))),(13,.c (.sl0 1 .str)),(14,hI),(22,.c (.sl0 2 .str)),(39,.c (.hole (.list .str))),(40,hI),(41,hI),(73,.c (.ptr 3 1)),(74,hI),(75,.c (.hole .bool)),(171,hI),(172,hI),(173,.c (.hole .bool))] [(0,.cells [.mp 4] false),(1,.arr .str false),(2,.arr .str false),(3,.cells [.hole .str,.hole tI,.hole .str,.hole .str,.hole tI] false),(4,.map tG true .bool false)] [.slot 4,.slot 13,.slot 22,.slot 73,.cell 0 0] [])]
noncomputable def b5_4:D prog 224 none 0:=dO [] (pick (kd prog f5) [(0,false),(3,false)]) 0
noncomputable def g5_4:(List (GG))×ByteArray×Nat×Int×Nat×List ByteArray×Int×Int×Int×Bool×Int×Int×Bool×(List (GG))×Int×Int×List ByteArray×List ByteArray×ByteArray×Int×ByteArray×ByteArray×Int×(List ((GG)×Bool))×Unit→Tr0 (((List (GG))×ByteArray×Nat×Int×Nat×List ByteArray×Int×Int×Int×Bool×Int×Int×Bool×(List (GG))×Int×Int×List ByteArray×List ByteArray×ByteArray×Int×ByteArray×ByteArray×Int×(List ((GG)×Bool))×Unit) ⊕ (((List (GG))×Nat×Int×Nat×List ByteArray×Int×Int×Int×Bool×Int×Int×Bool×List ByteArray×List ByteArray×ByteArray×Int×ByteArray×ByteArray×Int×(List ((GG)×Bool))×Unit))):=fun (v5,v7,nv13,v14,nv22,v39,v40,v41,v74,v75,v171,v172,v173,v185,v186,v187,b1,b2,c3_0,c3_1,c3_2,c3_3,c3_4,m4,_) =>
 .br (decide (v187<v186)) (
 .nb v187 (((v185).length:Nat):Int) <|
 .bd (F35 v5 (((v185).getD (Int.toNat v187) ((bs []),(0:Int),(bs []),(bs []),(0:Int))).1,((v185).getD (Int.toNat v187) ((bs []),(0:Int),(bs []),(bs []),(0:Int))).2.1,((v185).getD (Int.toNat v187) ((bs []),(0:Int),(bs []),(bs []),(0:Int))).2.2.1,((v185).getD (Int.toNat v187) ((bs []),(0:Int),(bs []),(bs []),(0:Int))).2.2.2.1,((v185).getD (Int.toNat v187) ((bs []),(0:Int),(bs []),(bs []),(0:Int))).2.2.2.2)) fun y17 =>
 .br y17.2.1 (
 .br (seq y17.1 v7) (
 .nd (decide ((nv22+(((((((v185).getD (Int.toNat v187) ((bs []),(0:Int),(bs []),(bs []),(0:Int))).1::[])).drop (0:Nat)).take (1:Nat))).length)<bigL)) <|
 .ni (v187+(1:Int)) <|
 .ret (.inl (v5,v7,nv13,v14,(nv22+(((((((v185).getD (Int.toNat v187) ((bs []),(0:Int),(bs []),(bs []),(0:Int))).1::[])).drop (0:Nat)).take (1:Nat))).length),v39,v40,v41,v74,v75,v171,v172,v173,v185,v186,(v187+(1:Int)),b1,((((b2).drop (0:Nat)).take nv22)++((((((v185).getD (Int.toNat v187) ((bs []),(0:Int),(bs []),(bs []),(0:Int))).1::[])).drop (0:Nat)).take (1:Nat))),c3_0,c3_1,c3_2,c3_3,c3_4,m4,()))) (
 .ni (v187+(1:Int)) <|
 .ret (.inl (v5,v7,nv13,v14,nv22,v39,v40,v41,v74,v75,v171,v172,v173,v185,v186,(v187+(1:Int)),b1,b2,c3_0,c3_1,c3_2,c3_3,c3_4,m4,())))) (
 .ni (v187+(1:Int)) <|
 .ret (.inl (v5,v7,nv13,v14,nv22,v39,v40,v41,v74,v75,v171,v172,v173,v185,v186,(v187+(1:Int)),b1,b2,c3_0,c3_1,c3_2,c3_3,c3_4,m4,())))) (
 .ret (.inr (v5,nv13,v14,nv22,v39,v40,v41,v74,v75,v171,v172,v173,b1,b2,c3_0,c3_1,c3_2,c3_3,c3_4,m4,())))
noncomputable def L5_4:LoopS prog 224 none 0:=mkLoop mixed cx5 cx5_ok [] rfl p5_4 x5_4 rfl (b5_4) (fun x=>run0 (g5_4 x)) (fun x=>by kernel_rfl)
@[reducible] def p5_0:Pat:=Pat.mk [(4,.c (.ptr 0 0)),(5,.c (.hole (.list tG))),(39,.c (.hole (.list .str))),(40,hI),(41,hI)] [(0,.cells [.mp 1] false),(1,.map tG true .bool false)] [.slot 4,.cell 0 0] []
@[reducible] def x5_0:Outs:=[(.ret,Pat.mk [(2,.c (.tf false))] [] [] []),(.exit 0,Pat.mk [] [] [] [])]
noncomputable def b5_0:D prog 224 none 0:=dO [.l L5_1,.l L5_2,.l L5_3,.l L5_4] (pick (kd prog f5) [(0,false)]) 0
noncomputable def g5_0:(List (GG))×List ByteArray×Int×Int×(List ((GG)×Bool))×Unit→Tr0 (((List (GG))×List ByteArray×Int×Int×(List ((GG)×Bool))×Unit) ⊕ ((Unit) ⊕ ((Unit)))):=fun (v5,v39,v40,v41,m1,_) =>
 .br (decide (v41<v40)) (
 .nb v41 (((v39).length:Nat):Int) <|
 .bd (.it g5_1 (v5,((v39).getD (Int.toNat v41) (bs [])),v39,v40,v41,v5,(((v5).length:Nat):Int),(0:Int),(bs []),(0:Int),(bs []),(bs []),(0:Int),m1,())) fun z4 =>
 .bd (FH32 z4.2.1 z4.2.2.2.2.2.2.2.2.2.2.1) fun y5 =>
 .bd (FH33 z4.2.1 y5.2.2.1) fun y6 =>
 .br (z4.2.2.2.2.2.2.1==(0:Int)) (
 .jx (
 .br (z4.2.2.2.2.2.2.1==(3:Int)) (
 .ret (.inl (z4.1,y5.1,y5.2.1,y6.1,y6.2.1,(18:Int),z4.2.2.1,z4.2.2.2.1,z4.2.2.2.2.1,y6.2.2.1,y6.2.2.2.1,()))) (
 .ret (.inl (z4.1,y5.1,y5.2.1,y6.1,y6.2.1,(5:Int),z4.2.2.1,z4.2.2.2.1,z4.2.2.2.2.1,y6.2.2.1,y6.2.2.2.1,())))) fun j7 =>
 .br (!(j7.2.2.1==j7.2.2.2.2.2.1)) (
 .ret (.inr <| .inl<|())) (
 .br (!(j7.2.2.2.2.1==j7.2.2.2.2.2.1)) (
 .ret (.inr <| .inl<|())) (
 .br (!(j7.2.1==(0:Int))) (
 .ret (.inr <| .inl<|())) (
 .br (!(((j7.2.2.2.1:Nat):Int)==(0:Int))) (
 .ret (.inr <| .inl<|())) (
 .ni (j7.2.2.2.2.2.2.2.2.1+(1:Int)) <|
 .ret (.inl (j7.1,j7.2.2.2.2.2.2.1,j7.2.2.2.2.2.2.2.1,(j7.2.2.2.2.2.2.2.2.1+(1:Int)),j7.2.2.2.2.2.2.2.2.2.2.1,()))))))) (
 .br (z4.2.2.2.2.2.2.1==(3:Int)) (
 .jx (
 .br (z4.2.2.2.2.2.2.1==(3:Int)) (
 .ret (.inl (z4.1,y5.1,y5.2.1,y6.1,y6.2.1,(18:Int),z4.2.2.1,z4.2.2.2.1,z4.2.2.2.2.1,z4.2.2.2.2.2.2.1,(z4.2.2.2.2.2.2.1==(3:Int)),y6.2.2.1,z4.2.2.2.2.2.1,z4.2.2.2.2.2.2.1,z4.2.2.2.2.2.2.2.1,z4.2.2.2.2.2.2.2.2.1,z4.2.2.2.2.2.2.2.2.2.1,y6.2.2.2.1,()))) (
 .ret (.inl (z4.1,y5.1,y5.2.1,y6.1,y6.2.1,(5:Int),z4.2.2.1,z4.2.2.2.1,z4.2.2.2.2.1,z4.2.2.2.2.2.2.1,(z4.2.2.2.2.2.2.1==(3:Int)),y6.2.2.1,z4.2.2.2.2.2.1,z4.2.2.2.2.2.2.1,z4.2.2.2.2.2.2.2.1,z4.2.2.2.2.2.2.2.2.1,z4.2.2.2.2.2.2.2.2.2.1,y6.2.2.2.1,())))) fun j8 =>
 .br (!(j8.2.2.1==j8.2.2.2.2.2.1)) (
 .ret (.inr <| .inl<|())) (
 .br (!(j8.2.2.2.2.1==j8.2.2.2.2.2.1)) (
 .ret (.inr <| .inl<|())) (
 .br (!(j8.2.1==(0:Int))) (
 .ret (.inr <| .inl<|())) (
 .br (!(((j8.2.2.2.1:Nat):Int)==(0:Int))) (
 .ret (.inr <| .inl<|())) (
 .ni (j8.2.2.2.2.2.2.2.2.1+(1:Int)) <|
 .ret (.inl (j8.1,j8.2.2.2.2.2.2.1,j8.2.2.2.2.2.2.2.1,(j8.2.2.2.2.2.2.2.2.1+(1:Int)),j8.2.2.2.2.2.2.2.2.2.2.2.2.2.2.2.2.2.1,()))))))) (
 .bd (F34 z4.1 (z4.2.2.2.2.2.1,z4.2.2.2.2.2.2.1,z4.2.2.2.2.2.2.2.1,z4.2.2.2.2.2.2.2.2.1,z4.2.2.2.2.2.2.2.2.2.1)) fun y9 =>
 .bd (F35 z4.1 (z4.2.2.2.2.2.1,z4.2.2.2.2.2.2.1,z4.2.2.2.2.2.2.2.1,z4.2.2.2.2.2.2.2.2.1,z4.2.2.2.2.2.2.2.2.2.1)) fun y10 =>
 .jx (
 .br y9.2.2.1 (
 .ret (.inl (z4.1,z4.2.1,y5.1,y5.2.1,y6.1,y6.2.1,y9.2.1,y9.2.2.1,y10.1,y10.2.1,(2:Int),z4.2.2.1,z4.2.2.2.1,z4.2.2.2.2.1,z4.2.2.2.2.2.2.1,(z4.2.2.2.2.2.2.1==(3:Int)),z4.2.2.2.2.2.1,z4.2.2.2.2.2.2.1,z4.2.2.2.2.2.2.2.1,z4.2.2.2.2.2.2.2.2.1,z4.2.2.2.2.2.2.2.2.2.1,y6.2.2.1,y6.2.2.2.1,()))) (
 .br y9.2.1 (
 .br (!y10.2.1) (
 .ret (.inl (z4.1,z4.2.1,y5.1,y5.2.1,y6.1,y6.2.1,y9.2.1,y9.2.2.1,y10.1,y10.2.1,(3:Int),z4.2.2.1,z4.2.2.2.1,z4.2.2.2.2.1,z4.2.2.2.2.2.2.1,(z4.2.2.2.2.2.2.1==(3:Int)),z4.2.2.2.2.2.1,z4.2.2.2.2.2.2.1,z4.2.2.2.2.2.2.2.1,z4.2.2.2.2.2.2.2.2.1,z4.2.2.2.2.2.2.2.2.2.1,y6.2.2.1,y6.2.2.2.1,()))) (
 .ret (.inl (z4.1,z4.2.1,y5.1,y5.2.1,y6.1,y6.2.1,y9.2.1,y9.2.2.1,y10.1,y10.2.1,(1:Int),z4.2.2.1,z4.2.2.2.1,z4.2.2.2.2.1,z4.2.2.2.2.2.2.1,(z4.2.2.2.2.2.2.1==(3:Int)),z4.2.2.2.2.2.1,z4.2.2.2.2.2.2.1,z4.2.2.2.2.2.2.2.1,z4.2.2.2.2.2.2.2.2.1,z4.2.2.2.2.2.2.2.2.2.1,y6.2.2.1,y6.2.2.2.1,())))) (
 .ret (.inl (z4.1,z4.2.1,y5.1,y5.2.1,y6.1,y6.2.1,y9.2.1,y9.2.2.1,y10.1,y10.2.1,(1:Int),z4.2.2.1,z4.2.2.2.1,z4.2.2.2.2.1,z4.2.2.2.2.2.2.1,(z4.2.2.2.2.2.2.1==(3:Int)),z4.2.2.2.2.2.1,z4.2.2.2.2.2.2.1,z4.2.2.2.2.2.2.2.1,z4.2.2.2.2.2.2.2.2.1,z4.2.2.2.2.2.2.2.2.2.1,y6.2.2.1,y6.2.2.2.1,()))))) fun j11 =>
 .bd (.it g5_2 (j11.1,j11.2.1,j11.2.2.1,j11.2.2.2.1,j11.2.2.2.2.1,j11.2.2.2.2.2.1,j11.2.2.2.2.2.2.1,j11.2.2.2.2.2.2.2.1,j11.2.2.2.2.2.2.2.2.1,j11.2.2.2.2.2.2.2.2.2.1,j11.2.2.2.2.2.2.2.2.2.2.1,(0:Nat),j11.2.2.2.2.2.2.2.2.2.2.2.1,j11.2.2.2.2.2.2.2.2.2.2.2.2.1,j11.2.2.2.2.2.2.2.2.2.2.2.2.2.1,j11.2.2.2.2.2.2.2.2.2.2.2.2.2.2.1,j11.2.2.2.2.2.2.2.2.2.2.2.2.2.2.2.1,j11.1,(((j11.1).length:Nat):Int),(0:Int),j11.2.2.2.2.2.2.2.2.2.2.2.2.2.2.2.2.1,j11.2.2.2.2.2.2.2.2.2.2.2.2.2.2.2.2.2.1,j11.2.2.2.2.2.2.2.2.2.2.2.2.2.2.2.2.2.2.1,j11.2.2.2.2.2.2.2.2.2.2.2.2.2.2.2.2.2.2.2.1,j11.2.2.2.2.2.2.2.2.2.2.2.2.2.2.2.2.2.2.2.2.1,j11.2.2.2.2.2.2.2.2.2.2.2.2.2.2.2.2.2.2.2.2.2.1,[],j11.2.2.2.2.2.2.2.2.2.2.2.2.2.2.2.2.2.2.2.2.2.2.1,())) fun z13 =>
 .jx (
 .br z13.2.2.2.2.2.2.1 (
 .br z13.2.2.2.2.2.2.2.2.1 (
 .br (!z13.2.2.2.2.2.2.2.1) (
 .bd (.it g5_3 (z13.1,z13.2.1,z13.2.2.1,z13.2.2.2.1,z13.2.2.2.2.1,z13.2.2.2.2.2.1,(3:Int),z13.2.2.2.2.2.2.2.2.2.2.1,z13.2.2.2.2.2.2.2.2.2.2.2.1,z13.2.2.2.2.2.2.2.2.2.2.2.2.1,z13.2.2.2.2.2.2.2.2.2.2.2.2.2.1,z13.2.2.2.2.2.2.2.2.2.2.2.2.2.2.1,z13.2.2.2.2.2.2.2.2.2.2.2.2.2.2.2.1,z13.2.2.2.2.2.2.2.2.1,z13.2.2.2.2.2.2.2.1,(!z13.2.2.2.2.2.2.2.1),z13.2.2.2.2.2.2.2.2.2.2.1,((z13.2.2.2.2.2.2.2.2.2.2.1:Nat):Int),(0:Int),z13.2.2.2.2.2.2.2.2.2.2.2.2.2.2.2.2.1,z13.2.2.2.2.2.2.2.2.2.2.2.2.2.2.2.2.2.1,z13.2.2.2.2.2.2.2.2.2.2.2.2.2.2.2.2.2.2.1,z13.2.2.2.2.2.2.2.2.2.2.2.2.2.2.2.2.2.2.2.1,z13.2.2.2.2.2.2.2.2.2.2.2.2.2.2.2.2.2.2.2.2.1,z13.2.2.2.2.2.2.2.2.2.2.2.2.2.2.2.2.2.2.2.2.2.1,z13.2.2.2.2.2.2.2.2.2.2.2.2.2.2.2.2.2.2.2.2.2.2.1,z13.2.2.2.2.2.2.2.2.2.2.2.2.2.2.2.2.2.2.2.2.2.2.2.1,())) fun z16 =>
 .br (z16.2.2.2.2.2.2.1==(4:Int)) (
 .br (decide ((1:Int)<((z16.2.2.2.2.2.2.2.1:Nat):Int))) (
 .ret (.inl (z16.1,z16.2.1,z16.2.2.1,z16.2.2.2.1,z16.2.2.2.2.1,z16.2.2.2.2.2.1,(5:Int),z16.2.2.2.2.2.2.2.2.1,z16.2.2.2.2.2.2.2.2.2.1,z16.2.2.2.2.2.2.2.2.2.2.1,z16.2.2.2.2.2.2.2.2.2.2.2.1,z16.2.2.2.2.2.2.2.2.2.2.2.2.1,z16.2.2.2.2.2.2.2.2.2.2.2.2.2.2.2.2.1,z16.2.2.2.2.2.2.2.2.2.2.2.2.2.2.2.2.2.1,z16.2.2.2.2.2.2.2.2.2.2.2.2.2.2.2.2.2.2.1,z16.2.2.2.2.2.2.2.2.2.2.2.2.2.2.2.2.2.2.2.1,z16.2.2.2.2.2.2.2.2.2.2.2.2.2.2.2.2.2.2.2.2.1,z16.2.2.2.2.2.2.2.2.2.2.2.2.2.2.2.2.2.2.2.2.2.1,z16.2.2.2.2.2.2.2.2.2.2.2.2.2.2.2.2.2.2.2.2.2.2.2.1,()))) (
 .ret (.inl (z16.1,z16.2.1,z16.2.2.1,z16.2.2.2.1,z16.2.2.2.2.1,z16.2.2.2.2.2.1,z16.2.2.2.2.2.2.1,z16.2.2.2.2.2.2.2.2.1,z16.2.2.2.2.2.2.2.2.2.1,z16.2.2.2.2.2.2.2.2.2.2.1,z16.2.2.2.2.2.2.2.2.2.2.2.1,z16.2.2.2.2.2.2.2.2.2.2.2.2.1,z16.2.2.2.2.2.2.2.2.2.2.2.2.2.2.2.2.1,z16.2.2.2.2.2.2.2.2.2.2.2.2.2.2.2.2.2.1,z16.2.2.2.2.2.2.2.2.2.2.2.2.2.2.2.2.2.2.1,z16.2.2.2.2.2.2.2.2.2.2.2.2.2.2.2.2.2.2.2.1,z16.2.2.2.2.2.2.2.2.2.2.2.2.2.2.2.2.2.2.2.2.1,z16.2.2.2.2.2.2.2.2.2.2.2.2.2.2.2.2.2.2.2.2.2.1,z16.2.2.2.2.2.2.2.2.2.2.2.2.2.2.2.2.2.2.2.2.2.2.2.1,())))) (
 .ret (.inl (z16.1,z16.2.1,z16.2.2.1,z16.2.2.2.1,z16.2.2.2.2.1,z16.2.2.2.2.2.1,z16.2.2.2.2.2.2.1,z16.2.2.2.2.2.2.2.2.1,z16.2.2.2.2.2.2.2.2.2.1,z16.2.2.2.2.2.2.2.2.2.2.1,z16.2.2.2.2.2.2.2.2.2.2.2.1,z16.2.2.2.2.2.2.2.2.2.2.2.2.1,z16.2.2.2.2.2.2.2.2.2.2.2.2.2.2.2.2.1,z16.2.2.2.2.2.2.2.2.2.2.2.2.2.2.2.2.2.1,z16.2.2.2.2.2.2.2.2.2.2.2.2.2.2.2.2.2.2.1,z16.2.2.2.2.2.2.2.2.2.2.2.2.2.2.2.2.2.2.2.1,z16.2.2.2.2.2.2.2.2.2.2.2.2.2.2.2.2.2.2.2.2.1,z16.2.2.2.2.2.2.2.2.2.2.2.2.2.2.2.2.2.2.2.2.2.1,z16.2.2.2.2.2.2.2.2.2.2.2.2.2.2.2.2.2.2.2.2.2.2.2.1,())))) (
 .ret (.inl (z13.1,z13.2.1,z13.2.2.1,z13.2.2.2.1,z13.2.2.2.2.1,z13.2.2.2.2.2.1,z13.2.2.2.2.2.2.2.2.2.1,z13.2.2.2.2.2.2.2.2.2.2.2.1,z13.2.2.2.2.2.2.2.2.2.2.2.2.1,z13.2.2.2.2.2.2.2.2.2.2.2.2.2.1,z13.2.2.2.2.2.2.2.2.2.2.2.2.2.2.1,z13.2.2.2.2.2.2.2.2.2.2.2.2.2.2.2.1,z13.2.2.2.2.2.2.2.2.2.2.2.2.2.2.2.2.1,z13.2.2.2.2.2.2.2.2.2.2.2.2.2.2.2.2.2.1,z13.2.2.2.2.2.2.2.2.2.2.2.2.2.2.2.2.2.2.1,z13.2.2.2.2.2.2.2.2.2.2.2.2.2.2.2.2.2.2.2.1,z13.2.2.2.2.2.2.2.2.2.2.2.2.2.2.2.2.2.2.2.2.1,z13.2.2.2.2.2.2.2.2.2.2.2.2.2.2.2.2.2.2.2.2.2.1,z13.2.2.2.2.2.2.2.2.2.2.2.2.2.2.2.2.2.2.2.2.2.2.2.1,())))) (
 .ret (.inl (z13.1,z13.2.1,z13.2.2.1,z13.2.2.2.1,z13.2.2.2.2.1,z13.2.2.2.2.2.1,z13.2.2.2.2.2.2.2.2.2.1,z13.2.2.2.2.2.2.2.2.2.2.2.1,z13.2.2.2.2.2.2.2.2.2.2.2.2.1,z13.2.2.2.2.2.2.2.2.2.2.2.2.2.1,z13.2.2.2.2.2.2.2.2.2.2.2.2.2.2.1,z13.2.2.2.2.2.2.2.2.2.2.2.2.2.2.2.1,z13.2.2.2.2.2.2.2.2.2.2.2.2.2.2.2.2.1,z13.2.2.2.2.2.2.2.2.2.2.2.2.2.2.2.2.2.1,z13.2.2.2.2.2.2.2.2.2.2.2.2.2.2.2.2.2.2.1,z13.2.2.2.2.2.2.2.2.2.2.2.2.2.2.2.2.2.2.2.1,z13.2.2.2.2.2.2.2.2.2.2.2.2.2.2.2.2.2.2.2.2.1,z13.2.2.2.2.2.2.2.2.2.2.2.2.2.2.2.2.2.2.2.2.2.1,z13.2.2.2.2.2.2.2.2.2.2.2.2.2.2.2.2.2.2.2.2.2.2.2.1,())))) (
 .ret (.inl (z13.1,z13.2.1,z13.2.2.1,z13.2.2.2.1,z13.2.2.2.2.1,z13.2.2.2.2.2.1,z13.2.2.2.2.2.2.2.2.2.1,z13.2.2.2.2.2.2.2.2.2.2.2.1,z13.2.2.2.2.2.2.2.2.2.2.2.2.1,z13.2.2.2.2.2.2.2.2.2.2.2.2.2.1,z13.2.2.2.2.2.2.2.2.2.2.2.2.2.2.1,z13.2.2.2.2.2.2.2.2.2.2.2.2.2.2.2.1,z13.2.2.2.2.2.2.2.2.2.2.2.2.2.2.2.2.1,z13.2.2.2.2.2.2.2.2.2.2.2.2.2.2.2.2.2.1,z13.2.2.2.2.2.2.2.2.2.2.2.2.2.2.2.2.2.2.1,z13.2.2.2.2.2.2.2.2.2.2.2.2.2.2.2.2.2.2.2.1,z13.2.2.2.2.2.2.2.2.2.2.2.2.2.2.2.2.2.2.2.2.1,z13.2.2.2.2.2.2.2.2.2.2.2.2.2.2.2.2.2.2.2.2.2.1,z13.2.2.2.2.2.2.2.2.2.2.2.2.2.2.2.2.2.2.2.2.2.2.2.1,())))) fun j15 =>
 .br (!(j15.2.2.2.1==(0:Int))) (
 .ret (.inr <| .inl<|())) (
 .br (!(j15.2.2.1==j15.2.2.2.2.2.2.1)) (
 .ret (.inr <| .inl<|())) (
 .br (!(j15.2.2.2.2.2.2.2.2.2.2.2.2.2.1==(1:Int))) (
 .br (!(j15.2.2.2.2.2.1==(18:Int))) (
 .ret (.inr <| .inl<|())) (
 .br (!(((j15.2.2.2.2.1:Nat):Int)==(0:Int))) (
 .ret (.inr <| .inl<|())) (
 .ni (j15.2.2.2.2.2.2.2.2.2.1+(1:Int)) <|
 .ret (.inl (j15.1,j15.2.2.2.2.2.2.2.1,j15.2.2.2.2.2.2.2.2.1,(j15.2.2.2.2.2.2.2.2.2.1+(1:Int)),j15.2.2.2.2.2.2.2.2.2.2.2.2.2.2.2.2.2.2.1,()))))) (
 .bd (.it g5_4 (j15.1,j15.2.1,j15.2.2.2.2.1,j15.2.2.2.2.2.1,(0:Nat),j15.2.2.2.2.2.2.2.1,j15.2.2.2.2.2.2.2.2.1,j15.2.2.2.2.2.2.2.2.2.1,j15.2.2.2.2.2.2.2.2.2.2.1,j15.2.2.2.2.2.2.2.2.2.2.2.1,j15.2.2.1,j15.2.2.2.2.2.2.1,(!(j15.2.2.1==j15.2.2.2.2.2.2.1)),j15.1,(((j15.1).length:Nat):Int),(0:Int),j15.2.2.2.2.2.2.2.2.2.2.2.2.2.2.2.2.2.1,[],j15.2.2.2.2.2.2.2.2.2.2.2.2.1,j15.2.2.2.2.2.2.2.2.2.2.2.2.2.1,j15.2.2.2.2.2.2.2.2.2.2.2.2.2.2.1,j15.2.2.2.2.2.2.2.2.2.2.2.2.2.2.2.1,j15.2.2.2.2.2.2.2.2.2.2.2.2.2.2.2.2.1,j15.2.2.2.2.2.2.2.2.2.2.2.2.2.2.2.2.2.2.1,())) fun z18 =>
 .br (!(z18.2.2.1==(0:Int))) (
 .ret (.inr <| .inl<|())) (
 .br (((z18.2.2.2.1:Nat):Int)==(0:Int)) (
 .ret (.inr <| .inl<|())) (
 .bd (F36 (((z18.2.2.2.2.2.2.2.2.2.2.2.2.1).drop (0:Nat)).take z18.2.1) (((z18.2.2.2.2.2.2.2.2.2.2.2.2.2.1).drop (0:Nat)).take z18.2.2.2.1)) fun y19 =>
 .br (!y19.1) (
 .ret (.inr <| .inl<|())) (
 .ni (z18.2.2.2.2.2.2.1+(1:Int)) <|
 .ret (.inl (z18.1,z18.2.2.2.2.1,z18.2.2.2.2.2.1,(z18.2.2.2.2.2.2.1+(1:Int)),z18.2.2.2.2.2.2.2.2.2.2.2.2.2.2.2.2.2.2.2.1,()))))))))))) (
 .ret (.inr <| .inr<|()))
theorem s5_0:∀x,roundE (kzO (p5_0.T ⊕ x5_0.T)) cx5 ar0 [] p5_0 x5_0 (b5_0) (fun y=>some (.inl y)) (fun b=>some (.inr b)) x=run0 (g5_0 x):=fun x=>Eq.trans (b:=run0 (flat (g5_0 x))) (by kernel_rfl) run_flat
noncomputable def L5_0:LoopS prog 224 none 0:=mkLoop mixed cx5 cx5_ok [] rfl p5_0 x5_0 rfl (b5_0) (fun x=>run0 (g5_0 x)) (s5_0)
noncomputable def dd5:D prog 224 none 0:=dO [.l L5_0] (kd prog f5) 0
noncomputable def F5 (a0:List (Int×Int×Int×Int)):Tr0 (Bool×Unit) :=
 .bd (F28 a0) fun y0 =>
 .bd (FH29 y0.1) fun y1 =>
 .bd (F30 y0.1) fun y2 =>
 .bd (F31) fun y3 =>
 .bd (.it g5_0 (y2.1,y3.1,(((y3.1).length:Nat):Int),(0:Int),y1.1,())) fun z20 =>
 .sm z20 (fun z21 =>
 .ret (false,())) fun z22 =>
 .bd (F17) fun y23 =>
 .ret (y23.1,())
theorem c5_ok:trF prog f5=some ⟨224,1,dd5.er,[.t 2],[some .bool]⟩:=by kernel_rfl
noncomputable def ct5:Ct:=⟨5,[.c (.hole (.list (.prod (.int .u8) (.prod (.int .u8) (.prod (.int .u8) (.int .u8))))))],.c (.hole .bool),fun x=>run0 (F5 x.1)⟩
theorem ct5_ok:ct5.Ok prog:=ct_ok mixed cx5_ok func5 c5_ok (enters_of func5 rfl rfl) dd5 (by kernel_rfl) rfl (fun x=>by kernel_rfl)

/- 29, lent -/
@[reducible] def pH29_v1:Pat:=Pat.mk [(0,.c (.sl0 0 tG))] [(0,.arr tG false)] [.slot 0] []
@[reducible] def qH29_v1:Pat:=Pat.mk [(0,.c (.ptr 1 0))] [(1,.cells [.mp 2] false),(0,.arr tG false),(2,.map tG true .bool false)] [.slot 0,.cell 1 0] []
noncomputable def cxH29_v1:Cx:=(mkCxH [] [ht18,ht20])
theorem cxH29_v1_ok:cxH29_v1.Ok prog:=mkCxH_ok trivial ⟨⟨ht18_ok,rfl⟩,⟨ht20_ok,rfl⟩,trivial⟩
@[reducible] def pH29_v1_0:Pat:=Pat.mk [(0,.c (.sl0 0 tG)),(3,.c (.ptr 1 0)),(4,hI)] [(0,.arr tG false),(1,.cells [.mp 2] false),(2,.map tG true .bool false)] [.slot 3,.cell 1 0] []
@[reducible] def xH29_v1_0:Outs:=[(.exit 0,Pat.mk [(3,.c (.ptr 1 0))] [(1,.cells [.mp 2] false),(0,.arr tG false),(2,.map tG true .bool false)] [.slot 3,.cell 1 0] [])]
noncomputable def bH29_v1_0:D prog 19 none 1:=dO [] (pick (kd prog f29) [(0,false)]) 0
noncomputable def gH29_v1_0:Nat×Int×(List (GG))×(List ((GG)×Bool))×Unit→Tr0 ((Nat×Int×(List (GG))×(List ((GG)×Bool))×Unit) ⊕ (((List (GG))×(List ((GG)×Bool))×Unit))):=fun (nv0,v4,b0,m2,_) =>
 .br (decide (v4<((nv0:Nat):Int))) (
 .nb v4 ((nv0:Nat):Int) <|
 .nd (decide (((0:Nat)+(Int.toNat v4))<(b0).length)) <|
 .bd (FH20 (((b0).getD ((0:Nat)+(Int.toNat v4)) ((bs []),(0:Int),(bs []),(bs []),(0:Int))).1,((b0).getD ((0:Nat)+(Int.toNat v4)) ((bs []),(0:Int),(bs []),(bs []),(0:Int))).2.1,((b0).getD ((0:Nat)+(Int.toNat v4)) ((bs []),(0:Int),(bs []),(bs []),(0:Int))).2.2.1,((b0).getD ((0:Nat)+(Int.toNat v4)) ((bs []),(0:Int),(bs []),(bs []),(0:Int))).2.2.2.1,((b0).getD ((0:Nat)+(Int.toNat v4)) ((bs []),(0:Int),(bs []),(bs []),(0:Int))).2.2.2.2) m2) fun y1 =>
 .ni (v4+(1:Int)) <|
 .ret (.inl (nv0,(v4+(1:Int)),b0,y1.2.1,()))) (
 .ret (.inr (b0,m2,())))
noncomputable def LH29_v1_0:LoopS prog 19 none 1:=mkLoop mixed cxH29_v1 cxH29_v1_ok [0] rfl pH29_v1_0 xH29_v1_0 rfl (bH29_v1_0) (fun x=>run0 (gH29_v1_0 x)) (fun x=>by kernel_rfl)
noncomputable def ddH29_v1:D prog 19 none 1:=dO [.l LH29_v1_0] (kd prog f29) 0
noncomputable def FH29_v1 (nv0:Nat) (b0:List (GG)):Tr0 ((List (GG))×(List ((GG)×Bool))×Unit) :=
 .bd (FH18) fun y0 =>
 .bd (.it gH29_v1_0 (nv0,(0:Int),b0,y0.1,())) fun z2 =>
 .ret (z2.1,z2.2.1,())
theorem cH29_v1_ok:trF prog f29=some ⟨19,1,ddH29_v1.er,[.t 2],[none]⟩:=by kernel_rfl
noncomputable def ht29_v1:Ht:=⟨29,pH29_v1,qH29_v1,(fun x=>run0 (FH29_v1 x.1 x.2.1))⟩
theorem ht29_v1_ok:ht29_v1.Ok prog:=ht_ok mixed cxH29_v1_ok rfl func29 cH29_v1_ok (enters_of func29 rfl rfl) ddH29_v1 (by kernel_rfl) rfl rfl ⟨_,rfl⟩ rfl (pre:=[0]) rfl (fun x=>by kernel_rfl)

/- 7 -/
noncomputable def cx7:Cx:=(mkCxH [ct28,ct17] [ht29_v1,ht37])
theorem cx7_ok:cx7.Ok prog:=mkCxH_ok ⟨ct28_ok,ct17_ok,trivial⟩ ⟨⟨ht29_v1_ok,rfl⟩,⟨ht37_ok,rfl⟩,trivial⟩
@[reducible] def p7_0:Pat:=Pat.mk [(4,hI),(5,.c (.mp 0)),(6,.c (.sl0 1 tG)),(14,.c (.hole (.list tG))),(15,hI),(16,hI)] [(0,.map .str false .bool false),(1,.arr tG false)] [.slot 5,.slot 6] []
@[reducible] def x7_0:Outs:=[(.exit 0,Pat.mk [(4,hI),(6,.c (.sl0 0 tG))] [(0,.arr tG false)] [.slot 6] [])]
noncomputable def b7_0:D prog 59 none 0:=dO [] (pick (kd prog f7) [(0,false)]) 0
noncomputable def g7_0:Int×Nat×(List (GG))×Int×Int×Tdb×(List (GG))×Unit→Tr0 ((Int×Nat×(List (GG))×Int×Int×Tdb×(List (GG))×Unit) ⊕ ((Int×Nat×(List (GG))×Unit))):=fun (v4,nv6,v14,v15,v16,m0,b1,_) =>
 .br (decide (v16<v15)) (
 .nb v16 (((v14).length:Nat):Int) <|
 .br (mgetL .str false m0 ((v14).getD (Int.toNat v16) ((bs []),(0:Int),(bs []),(bs []),(0:Int))).1) (
 .ni (v16+(1:Int)) <|
 .ret (.inl (v4,nv6,v14,v15,(v16+(1:Int)),m0,b1,()))) (
 .jx (
 .br (!(((v14).getD (Int.toNat v16) ((bs []),(0:Int),(bs []),(bs []),(0:Int))).2.1==(3:Int))) (
 .ret (.inl (v4,nv6,v14,v15,v16,(msetL .str m0 ((v14).getD (Int.toNat v16) ((bs []),(0:Int),(bs []),(bs []),(0:Int))).1 true),b1,((v14).getD (Int.toNat v16) ((bs []),(0:Int),(bs []),(bs []),(0:Int))).1,((v14).getD (Int.toNat v16) ((bs []),(0:Int),(bs []),(bs []),(0:Int))).2.1,((v14).getD (Int.toNat v16) ((bs []),(0:Int),(bs []),(bs []),(0:Int))).2.2.1,((v14).getD (Int.toNat v16) ((bs []),(0:Int),(bs []),(bs []),(0:Int))).2.2.2.1,(7:Int),()))) (
 .ret (.inl (v4,nv6,v14,v15,v16,(msetL .str m0 ((v14).getD (Int.toNat v16) ((bs []),(0:Int),(bs []),(bs []),(0:Int))).1 true),b1,((v14).getD (Int.toNat v16) ((bs []),(0:Int),(bs []),(bs []),(0:Int))).1,((v14).getD (Int.toNat v16) ((bs []),(0:Int),(bs []),(bs []),(0:Int))).2.1,((v14).getD (Int.toNat v16) ((bs []),(0:Int),(bs []),(bs []),(0:Int))).2.2.1,((v14).getD (Int.toNat v16) ((bs []),(0:Int),(bs []),(bs []),(0:Int))).2.2.2.1,((v14).getD (Int.toNat v16) ((bs []),(0:Int),(bs []),(bs []),(0:Int))).2.2.2.2,())))) fun j1 =>
 .jx (
 .br (j1.2.2.2.2.2.2.2.2.1==(1:Int)) (
 .ni (j1.1+(7:Int)) <|
 .ret (.inl ((j1.1+(7:Int)),j1.2.1,j1.2.2.1,j1.2.2.2.1,j1.2.2.2.2.1,j1.2.2.2.2.2.1,j1.2.2.2.2.2.2.1,j1.2.2.2.2.2.2.2.1,j1.2.2.2.2.2.2.2.2.1,j1.2.2.2.2.2.2.2.2.2.1,j1.2.2.2.2.2.2.2.2.2.2.1,j1.2.2.2.2.2.2.2.2.2.2.2.1,()))) (
 .ret (.inl (j1.1,j1.2.1,j1.2.2.1,j1.2.2.2.1,j1.2.2.2.2.1,j1.2.2.2.2.2.1,j1.2.2.2.2.2.2.1,j1.2.2.2.2.2.2.2.1,j1.2.2.2.2.2.2.2.2.1,j1.2.2.2.2.2.2.2.2.2.1,j1.2.2.2.2.2.2.2.2.2.2.1,j1.2.2.2.2.2.2.2.2.2.2.2.1,())))) fun j2 =>
 .nd (decide ((j2.2.1+((((((j2.2.2.2.2.2.2.2.1,j2.2.2.2.2.2.2.2.2.1,j2.2.2.2.2.2.2.2.2.2.1,j2.2.2.2.2.2.2.2.2.2.2.1,j2.2.2.2.2.2.2.2.2.2.2.2.1)::[])).drop (0:Nat)).take (1:Nat))).length)<bigL)) <|
 .ni (j2.2.2.2.2.1+(1:Int)) <|
 .ret (.inl (j2.1,(j2.2.1+((((((j2.2.2.2.2.2.2.2.1,j2.2.2.2.2.2.2.2.2.1,j2.2.2.2.2.2.2.2.2.2.1,j2.2.2.2.2.2.2.2.2.2.2.1,j2.2.2.2.2.2.2.2.2.2.2.2.1)::[])).drop (0:Nat)).take (1:Nat))).length),j2.2.2.1,j2.2.2.2.1,(j2.2.2.2.2.1+(1:Int)),j2.2.2.2.2.2.1,((((j2.2.2.2.2.2.2.1).drop (0:Nat)).take j2.2.1)++(((((j2.2.2.2.2.2.2.2.1,j2.2.2.2.2.2.2.2.2.1,j2.2.2.2.2.2.2.2.2.2.1,j2.2.2.2.2.2.2.2.2.2.2.1,j2.2.2.2.2.2.2.2.2.2.2.2.1)::[])).drop (0:Nat)).take (1:Nat))),())))) (
 .ret (.inr (v4,nv6,b1,())))
theorem s7_0:∀x,roundE (kzO (p7_0.T ⊕ x7_0.T)) cx7 ar0 [] p7_0 x7_0 (b7_0) (fun y=>some (.inl y)) (fun b=>some (.inr b)) x=run0 (g7_0 x):=fun x=>Eq.trans (b:=run0 (flat (g7_0 x))) (by kernel_rfl) run_flat
noncomputable def L7_0:LoopS prog 59 none 0:=mkLoop mixed cx7 cx7_ok [] rfl p7_0 x7_0 rfl (b7_0) (fun x=>run0 (g7_0 x)) (s7_0)
noncomputable def dd7:D prog 59 none 0:=dO [.l L7_0] (kd prog f7) 0
noncomputable def F7 (a0:List (Int×Int×Int×Int)):Tr0 (Bool×Unit) :=
 .bd (F28 a0) fun y0 =>
 .bd (.it g7_0 ((0:Int),(0:Nat),y0.1,(((y0.1).length:Nat):Int),(0:Int),[],[],())) fun z3 =>
 .bd (FH29_v1 z3.2.1 z3.2.2.1) fun y4 =>
 .bd (FH37 y4.2.1) fun y5 =>
 .br (y5.2.1==(0:Int)) (
 .br ((y5.1.1==z3.1)&&((y5.1.2==z3.1)&&true)) (
 .bd (F17) fun y6 =>
 .ret (y6.1,())) (
 .ret (false,()))) (
 .ret (false,()))
theorem c7_ok:trF prog f7=some ⟨59,1,dd7.er,[.t 2],[some .bool]⟩:=by kernel_rfl
noncomputable def ct7:Ct:=⟨7,[.c (.hole (.list (.prod (.int .u8) (.prod (.int .u8) (.prod (.int .u8) (.int .u8))))))],.c (.hole .bool),fun x=>run0 (F7 x.1)⟩
theorem ct7_ok:ct7.Ok prog:=ct_ok mixed cx7_ok func7 c7_ok (enters_of func7 rfl rfl) dd7 (by kernel_rfl) rfl (fun x=>by kernel_rfl)

end Go.Proofs.Tryz

