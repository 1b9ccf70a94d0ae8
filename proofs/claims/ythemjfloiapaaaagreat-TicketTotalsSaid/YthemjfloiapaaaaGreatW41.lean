/- Functions of the program as functions of data, part 2; printed by a program of mine. -/
import Derived.Test.YthemjfloiapaaaaGreatW40
import Derived.Test.YthemjfloiapaaaaGreatProg
set_option linter.unusedSectionVars false
set_option linter.unusedVariables false
set_option linter.unusedSimpArgs false
open Go.AM
namespace Go.Proofs.Tryz
set_option maxRecDepth 100000
set_option synthInstance.maxSize 4000
set_option synthInstance.maxHeartbeats 400000


/- 92 -/
noncomputable def u5:Cx:=(aL [WM,WQ] [ht94])
theorem gX:u5.Ok prog:=av ⟨PJ,PK,trivial⟩ ⟨⟨Uw,rfl⟩,trivial⟩
@[reducible] def ae6:ax:=ax.mk [(0,.c (.hole (.list tG))),(3,.c (.bN 0 tI)),(4,hI)] [(0,.arr tI false)] [.slot 3] []
@[reducible] def ae7:aT:=[(.exit 0,ax.mk [(0,.c (.hole (.list tG))),(3,.c (.bN 0 tI))] [(0,.arr tI false)] [.slot 3] [])]
noncomputable def ae8:D prog 294 none 0:=dO [] (pick (kd prog f92) [(0,false)]) 0
noncomputable def g92_0:(List (GG))×Nat×Int×List Int×Unit→bJ (((List (GG))×Nat×Int×List Int×Unit) ⊕ (((List (GG))×Nat×List Int×Unit))):=fun (v0,fI,v4,b0,_) =>
 .br (decide (v4<(((v0).length:Nat):Int))) (
 .nb v4 ((fI:Nat):Int) <|
 .nd (decide (((0:Nat)+(Int.toNat v4))<(b0).length)) <|
 .ni (v4+(1:Int)) <|
 .ret (.inl (v0,fI,(v4+(1:Int)),((b0).set ((0:Nat)+(Int.toNat v4)) (1:Int)),()))) (
 .ret (.inr (v0,fI,b0,())))
noncomputable def ae9:bD prog 294 none 0:=aZ mixed u5 gX [] rfl ae6 ae7 rfl (ae8) (fun x=>ah (g92_0 x)) (fun x=>by kernel_rfl)
@[reducible] def afa:ax:=ax.mk [(0,.c (.hole (.list tG))),(3,.c (.bN 0 tI)),(5,hI),(6,hI),(7,hI),(42,.c (.hole (.list tG))),(43,.c (.hole (.list tG))),(44,hI),(47,.c (.hole .str)),(48,.c (.hole .bool)),(49,.c (.hole .bool))] [(0,.arr tI false)] [.slot 3] []
@[reducible] def afb:aT:=[(.exit 4,ax.mk [(0,.c (.hole (.list tG))),(3,.c (.bN 0 tI)),(5,hI),(6,hI),(42,.c (.hole (.list tG))),(43,.c (.hole (.list tG))),(44,hI),(47,.c (.hole .str)),(48,.c (.hole .bool)),(49,.c (.hole .bool))] [(0,.arr tI false)] [.slot 3] [])]
noncomputable def afc:D prog 294 none 0:=dO [] (pick (kd prog f92) [(1,false),(0,false)]) 0
noncomputable def g92_2:(List (GG))×Nat×Int×Int×Int×(List (GG))×(List (GG))×Int×ByteArray×Bool×Bool×List Int×Unit→bJ (((List (GG))×Nat×Int×Int×Int×(List (GG))×(List (GG))×Int×ByteArray×Bool×Bool×List Int×Unit) ⊕ (((List (GG))×Nat×Int×Int×(List (GG))×(List (GG))×Int×ByteArray×Bool×Bool×List Int×Unit))):=fun (v0,fI,v5,v6,v7,PN,PO,v44,PR,PS,v49,b0,_) =>
 .br (decide (v7<(((v0).length:Nat):Int))) (
 .br (!(v7==v5)) (
 .nb v7 (((v0).length:Nat):Int) <|
 .br (((v0).getD (Int.toNat v7) ((bs []),(0:Int),(bs []),(bs []),(0:Int))).2.1==(2:Int)) (
 .nb v7 (((v0).length:Nat):Int) <|
 .nb v5 (((v0).length:Nat):Int) <|
 .br (seq ((v0).getD (Int.toNat v7) ((bs []),(0:Int),(bs []),(bs []),(0:Int))).2.2.1 ((v0).getD (Int.toNat v5) ((bs []),(0:Int),(bs []),(bs []),(0:Int))).2.2.1) (
 .nb v7 (((v0).length:Nat):Int) <|
 .bd (F117 v0 ((v0).getD (Int.toNat v7) ((bs []),(0:Int),(bs []),(bs []),(0:Int))).1) fun y2 =>
 .br y2.1 (
 .ni (v6+(1:Int)) <|
 .ni (v7+(1:Int)) <|
 .ret (.inl (v0,fI,v5,(v6+(1:Int)),(v7+(1:Int)),PN,PO,v44,PR,PS,v49,b0,()))) (
 .ni (v7+(1:Int)) <|
 .ret (.inl (v0,fI,v5,v6,(v7+(1:Int)),PN,PO,v44,PR,PS,v49,b0,())))) (
 .ni (v7+(1:Int)) <|
 .ret (.inl (v0,fI,v5,v6,(v7+(1:Int)),PN,PO,v44,PR,PS,v49,b0,())))) (
 .ni (v7+(1:Int)) <|
 .ret (.inl (v0,fI,v5,v6,(v7+(1:Int)),PN,PO,v44,PR,PS,v49,b0,())))) (
 .ni (v7+(1:Int)) <|
 .ret (.inl (v0,fI,v5,v6,(v7+(1:Int)),PN,PO,v44,PR,PS,v49,b0,())))) (
 .ret (.inr (v0,fI,v5,v6,PN,PO,v44,PR,PS,v49,b0,())))
noncomputable def afd:bD prog 294 none 0:=aZ mixed u5 gX [] rfl afa afb rfl (afc) (fun x=>ah (g92_2 x)) (fun x=>by kernel_rfl)
@[reducible] def afe:ax:=ax.mk [(0,.c (.hole (.list tG))),(3,.c (.bN 0 tI)),(5,hI)] [(0,.arr tI false)] [.slot 3] []
@[reducible] def aff:aT:=[(.exit 2,ax.mk [(0,.c (.hole (.list tG))),(3,.c (.bN 0 tI))] [(0,.arr tI false)] [.slot 3] [])]
noncomputable def afg:D prog 294 none 0:=dO [.l afd] (pick (kd prog f92) [(1,false)]) 0
noncomputable def g92_1:(List (GG))×Nat×Int×List Int×Unit→bJ (((List (GG))×Nat×Int×List Int×Unit) ⊕ (((List (GG))×Nat×List Int×Unit))):=fun (v0,fI,v5,b0,_) =>
 .br (decide (v5<(((v0).length:Nat):Int))) (
 .nb v5 (((v0).length:Nat):Int) <|
 .br (!(((v0).getD (Int.toNat v5) ((bs []),(0:Int),(bs []),(bs []),(0:Int))).2.1==(2:Int))) (
 .ni (v5+(1:Int)) <|
 .ret (.inl (v0,fI,(v5+(1:Int)),b0,()))) (
 .nb v5 (((v0).length:Nat):Int) <|
 .bd (F116 v0 ((v0).getD (Int.toNat v5) ((bs []),(0:Int),(bs []),(bs []),(0:Int))).2.2.1) fun y1 =>
 .br (!y1.1) (
 .ni (v5+(1:Int)) <|
 .ret (.inl (v0,fI,(v5+(1:Int)),b0,()))) (
 .bd (.it g92_2 (v0,fI,v5,(0:Int),(0:Int),v0,v0,v5,((v0).getD (Int.toNat v5) ((bs []),(0:Int),(bs []),(bs []),(0:Int))).2.2.1,y1.1,(!y1.1),b0,())) fun z3 =>
 .br (z3.2.2.2.1==(1:Int)) (
 .nb z3.2.2.1 (((z3.1).length:Nat):Int) <|
 .bd (F117 z3.1 ((z3.1).getD (Int.toNat z3.2.2.1) ((bs []),(0:Int),(bs []),(bs []),(0:Int))).1) fun y4 =>
 .br (!y4.1) (
 .nb z3.2.2.1 ((z3.2.1:Nat):Int) <|
 .nd (decide (((0:Nat)+(Int.toNat z3.2.2.1))<(z3.2.2.2.2.2.2.2.2.2.2.1).length)) <|
 .ni (z3.2.2.1+(1:Int)) <|
 .ret (.inl (z3.1,z3.2.1,(z3.2.2.1+(1:Int)),((z3.2.2.2.2.2.2.2.2.2.2.1).set ((0:Nat)+(Int.toNat z3.2.2.1)) (2:Int)),()))) (
 .ni (z3.2.2.1+(1:Int)) <|
 .ret (.inl (z3.1,z3.2.1,(z3.2.2.1+(1:Int)),z3.2.2.2.2.2.2.2.2.2.2.1,())))) (
 .ni (z3.2.2.1+(1:Int)) <|
 .ret (.inl (z3.1,z3.2.1,(z3.2.2.1+(1:Int)),z3.2.2.2.2.2.2.2.2.2.2.1,())))))) (
 .ret (.inr (v0,fI,b0,())))
noncomputable def afh:bD prog 294 none 0:=aZ mixed u5 gX [] rfl afe aff rfl (afg) (fun x=>ah (g92_1 x)) (fun x=>by kernel_rfl)
@[reducible] def PT:ax:=ax.mk [(0,.c (.hole (.list tG))),(3,.c (.bN 0 tI)),(8,.c (.bN 1 .bool)),(9,hI),(10,hI),(11,hI)] [(0,.arr tI false),(1,.arr .bool false)] [.slot 3,.slot 8] []
@[reducible] def PU:aT:=[(.exit 10,ax.mk [(0,.c (.hole (.list tG))),(3,.c (.bN 0 tI)),(8,.c (.bN 1 .bool)),(9,hI),(10,hI)] [(0,.arr tI false),(1,.arr .bool false)] [.slot 3,.slot 8] [])]
noncomputable def WS:D prog 294 none 0:=dO [] (pick (kd prog f92) [(2,false),(0,false),(0,false)]) 0
noncomputable def g92_5:(List (GG))×Nat×Nat×Int×Int×Int×List Int×List Bool×Unit→bJ (((List (GG))×Nat×Nat×Int×Int×Int×List Int×List Bool×Unit) ⊕ (((List (GG))×Nat×Nat×Int×Int×List Int×List Bool×Unit))):=fun (v0,fI,nj,v9,v10,v11,b0,b1,_) =>
 .br (decide (v11<(((v0).length:Nat):Int))) (
 .nb v10 (((v0).length:Nat):Int) <|
 .br (!(((v0).getD (Int.toNat v10) ((bs []),(0:Int),(bs []),(bs []),(0:Int))).2.1==(2:Int))) (
 .ni (v11+(1:Int)) <|
 .ret (.inl (v0,fI,nj,v9,v10,(v11+(1:Int)),b0,b1,()))) (
 .nb v11 (((v0).length:Nat):Int) <|
 .br (((v0).getD (Int.toNat v11) ((bs []),(0:Int),(bs []),(bs []),(0:Int))).2.1==(3:Int)) (
 .ni (v11+(1:Int)) <|
 .ret (.inl (v0,fI,nj,v9,v10,(v11+(1:Int)),b0,b1,()))) (
 .nb v11 (((v0).length:Nat):Int) <|
 .nb v10 (((v0).length:Nat):Int) <|
 .br (!(seq ((v0).getD (Int.toNat v11) ((bs []),(0:Int),(bs []),(bs []),(0:Int))).1 ((v0).getD (Int.toNat v10) ((bs []),(0:Int),(bs []),(bs []),(0:Int))).2.2.1)) (
 .ni (v11+(1:Int)) <|
 .ret (.inl (v0,fI,nj,v9,v10,(v11+(1:Int)),b0,b1,()))) (
 .jx (
 .nb v11 ((fI:Nat):Int) <|
 .nd (decide (((0:Nat)+(Int.toNat v11))<(b0).length)) <|
 .br (((b0).getD ((0:Nat)+(Int.toNat v11)) (0:Int))==(2:Int)) (
 .nb v10 ((fI:Nat):Int) <|
 .nd (decide (((0:Nat)+(Int.toNat v10))<(b0).length)) <|
 .ret (.inl (v0,fI,nj,v9,v10,v11,v0,v11,((v0).getD (Int.toNat v11) ((bs []),(0:Int),(bs []),(bs []),(0:Int))).2.1,(((v0).getD (Int.toNat v11) ((bs []),(0:Int),(bs []),(bs []),(0:Int))).2.1==(3:Int)),v0,v11,((v0).getD (Int.toNat v11) ((bs []),(0:Int),(bs []),(bs []),(0:Int))).1,v0,v10,((v0).getD (Int.toNat v10) ((bs []),(0:Int),(bs []),(bs []),(0:Int))).2.2.1,(!(seq ((v0).getD (Int.toNat v11) ((bs []),(0:Int),(bs []),(bs []),(0:Int))).1 ((v0).getD (Int.toNat v10) ((bs []),(0:Int),(bs []),(bs []),(0:Int))).2.2.1)),((b0).set ((0:Nat)+(Int.toNat v10)) (2:Int)),b1,()))) (
 .ret (.inl (v0,fI,nj,v9,v10,v11,v0,v11,((v0).getD (Int.toNat v11) ((bs []),(0:Int),(bs []),(bs []),(0:Int))).2.1,(((v0).getD (Int.toNat v11) ((bs []),(0:Int),(bs []),(bs []),(0:Int))).2.1==(3:Int)),v0,v11,((v0).getD (Int.toNat v11) ((bs []),(0:Int),(bs []),(bs []),(0:Int))).1,v0,v10,((v0).getD (Int.toNat v10) ((bs []),(0:Int),(bs []),(bs []),(0:Int))).2.2.1,(!(seq ((v0).getD (Int.toNat v11) ((bs []),(0:Int),(bs []),(bs []),(0:Int))).1 ((v0).getD (Int.toNat v10) ((bs []),(0:Int),(bs []),(bs []),(0:Int))).2.2.1)),b0,b1,())))) fun j6 =>
 .nb j6.2.2.2.2.1 ((j6.2.2.1:Nat):Int) <|
 .nd (decide (((0:Nat)+(Int.toNat j6.2.2.2.2.1))<(j6.2.2.2.2.2.2.2.2.2.2.2.2.2.2.2.2.2.2.1).length)) <|
 .br ((j6.2.2.2.2.2.2.2.2.2.2.2.2.2.2.2.2.2.2.1).getD ((0:Nat)+(Int.toNat j6.2.2.2.2.1)) false) (
 .nb j6.2.2.2.2.1 ((j6.2.2.1:Nat):Int) <|
 .nd (decide (((0:Nat)+(Int.toNat j6.2.2.2.2.1))<(j6.2.2.2.2.2.2.2.2.2.2.2.2.2.2.2.2.2.2.1).length)) <|
 .ni (j6.2.2.2.2.2.1+(1:Int)) <|
 .ret (.inl (j6.1,j6.2.1,j6.2.2.1,j6.2.2.2.1,j6.2.2.2.2.1,(j6.2.2.2.2.2.1+(1:Int)),j6.2.2.2.2.2.2.2.2.2.2.2.2.2.2.2.2.2.1,((j6.2.2.2.2.2.2.2.2.2.2.2.2.2.2.2.2.2.2.1).set ((0:Nat)+(Int.toNat j6.2.2.2.2.1)) true),()))) (
 .nb j6.2.2.2.2.2.1 ((j6.2.2.1:Nat):Int) <|
 .nd (decide (((0:Nat)+(Int.toNat j6.2.2.2.2.2.1))<(j6.2.2.2.2.2.2.2.2.2.2.2.2.2.2.2.2.2.2.1).length)) <|
 .br ((j6.2.2.2.2.2.2.2.2.2.2.2.2.2.2.2.2.2.2.1).getD ((0:Nat)+(Int.toNat j6.2.2.2.2.2.1)) false) (
 .nb j6.2.2.2.2.1 ((j6.2.1:Nat):Int) <|
 .nd (decide (((0:Nat)+(Int.toNat j6.2.2.2.2.1))<(j6.2.2.2.2.2.2.2.2.2.2.2.2.2.2.2.2.2.1).length)) <|
 .nb j6.2.2.2.2.1 ((j6.2.2.1:Nat):Int) <|
 .nd (decide (((0:Nat)+(Int.toNat j6.2.2.2.2.1))<(j6.2.2.2.2.2.2.2.2.2.2.2.2.2.2.2.2.2.2.1).length)) <|
 .ni (j6.2.2.2.2.2.1+(1:Int)) <|
 .ret (.inl (j6.1,j6.2.1,j6.2.2.1,j6.2.2.2.1,j6.2.2.2.2.1,(j6.2.2.2.2.2.1+(1:Int)),j6.2.2.2.2.2.2.2.2.2.2.2.2.2.2.2.2.2.1,((j6.2.2.2.2.2.2.2.2.2.2.2.2.2.2.2.2.2.2.1).set ((0:Nat)+(Int.toNat j6.2.2.2.2.1)) (!(((j6.2.2.2.2.2.2.2.2.2.2.2.2.2.2.2.2.2.1).getD ((0:Nat)+(Int.toNat j6.2.2.2.2.1)) (0:Int))==(2:Int)))),()))) (
 .nb j6.2.2.2.2.1 ((j6.2.2.1:Nat):Int) <|
 .nd (decide (((0:Nat)+(Int.toNat j6.2.2.2.2.1))<(j6.2.2.2.2.2.2.2.2.2.2.2.2.2.2.2.2.2.2.1).length)) <|
 .ni (j6.2.2.2.2.2.1+(1:Int)) <|
 .ret (.inl (j6.1,j6.2.1,j6.2.2.1,j6.2.2.2.1,j6.2.2.2.2.1,(j6.2.2.2.2.2.1+(1:Int)),j6.2.2.2.2.2.2.2.2.2.2.2.2.2.2.2.2.2.1,((j6.2.2.2.2.2.2.2.2.2.2.2.2.2.2.2.2.2.2.1).set ((0:Nat)+(Int.toNat j6.2.2.2.2.1)) false),())))))))) (
 .ret (.inr (v0,fI,nj,v9,v10,b0,b1,())))
theorem afi:∀x,oe (iu (PT.T ⊕ PU.T)) u5 dN [] PT PU (WS) (fun y=>some (.inl y)) (fun b=>some (.inr b)) x=ah (g92_5 x):=fun x=>Eq.trans (b:=ah (flat (g92_5 x))) (by kernel_rfl) xB
noncomputable def afj:bD prog 294 none 0:=aZ mixed u5 gX [] rfl PT PU rfl (WS) (fun x=>ah (g92_5 x)) (afi)
@[reducible] def afk:ax:=ax.mk [(0,.c (.hole (.list tG))),(3,.c (.bN 0 tI)),(8,.c (.bN 1 .bool)),(9,hI),(10,hI)] [(0,.arr tI false),(1,.arr .bool false)] [.slot 3,.slot 8] []
@[reducible] def afl:aT:=[(.exit 8,ax.mk [(0,.c (.hole (.list tG))),(3,.c (.bN 0 tI)),(8,.c (.bN 1 .bool)),(9,hI)] [(0,.arr tI false),(1,.arr .bool false)] [.slot 3,.slot 8] [])]
noncomputable def afm:D prog 294 none 0:=dO [.l afj] (pick (kd prog f92) [(2,false),(0,false)]) 0
noncomputable def g92_4:(List (GG))×Nat×Nat×Int×Int×List Int×List Bool×Unit→bJ (((List (GG))×Nat×Nat×Int×Int×List Int×List Bool×Unit) ⊕ (((List (GG))×Nat×Nat×Int×List Int×List Bool×Unit))):=fun (v0,fI,nj,v9,v10,b0,b1,_) =>
 .br (decide (v10<(((v0).length:Nat):Int))) (
 .nb v10 ((nj:Nat):Int) <|
 .nd (decide (((0:Nat)+(Int.toNat v10))<(b1).length)) <|
 .br ((b1).getD ((0:Nat)+(Int.toNat v10)) false) (
 .nb v10 ((nj:Nat):Int) <|
 .nd (decide (((0:Nat)+(Int.toNat v10))<(b1).length)) <|
 .bd (.it g92_5 (v0,fI,nj,v9,v10,(0:Int),b0,((b1).set ((0:Nat)+(Int.toNat v10)) true),())) fun z7 =>
 .ni (z7.2.2.2.2.1+(1:Int)) <|
 .ret (.inl (z7.1,z7.2.1,z7.2.2.1,z7.2.2.2.1,(z7.2.2.2.2.1+(1:Int)),z7.2.2.2.2.2.1,z7.2.2.2.2.2.2.1,()))) (
 .nb v10 (((v0).length:Nat):Int) <|
 .nb v10 ((nj:Nat):Int) <|
 .nd (decide (((0:Nat)+(Int.toNat v10))<(b1).length)) <|
 .bd (.it g92_5 (v0,fI,nj,v9,v10,(0:Int),b0,((b1).set ((0:Nat)+(Int.toNat v10)) (((v0).getD (Int.toNat v10) ((bs []),(0:Int),(bs []),(bs []),(0:Int))).2.1==(1:Int))),())) fun z8 =>
 .ni (z8.2.2.2.2.1+(1:Int)) <|
 .ret (.inl (z8.1,z8.2.1,z8.2.2.1,z8.2.2.2.1,(z8.2.2.2.2.1+(1:Int)),z8.2.2.2.2.2.1,z8.2.2.2.2.2.2.1,())))) (
 .ret (.inr (v0,fI,nj,v9,b0,b1,())))
noncomputable def afn:bD prog 294 none 0:=aZ mixed u5 gX [] rfl afk afl rfl (afm) (fun x=>ah (g92_4 x)) (fun x=>by kernel_rfl)
@[reducible] def afo:ax:=ax.mk [(0,.c (.hole (.list tG))),(3,.c (.bN 0 tI)),(8,.c (.bN 1 .bool)),(9,hI)] [(0,.arr tI false),(1,.arr .bool false)] [.slot 3,.slot 8] []
@[reducible] def afp:aT:=[(.exit 6,ax.mk [(0,.c (.hole (.list tG))),(3,.c (.bN 0 tI)),(8,.c (.bN 1 .bool))] [(0,.arr tI false),(1,.arr .bool false)] [.slot 3,.slot 8] [])]
noncomputable def afq:D prog 294 none 0:=dO [.l afn] (pick (kd prog f92) [(2,false)]) 0
noncomputable def g92_3:(List (GG))×Nat×Nat×Int×List Int×List Bool×Unit→bJ (((List (GG))×Nat×Nat×Int×List Int×List Bool×Unit) ⊕ (((List (GG))×Nat×Nat×List Int×List Bool×Unit))):=fun (v0,fI,nj,v9,b0,b1,_) =>
 .br (decide (v9≤(((v0).length:Nat):Int))) (
 .bd (.it g92_4 (v0,fI,nj,v9,(0:Int),b0,b1,())) fun z9 =>
 .ni (z9.2.2.2.1+(1:Int)) <|
 .ret (.inl (z9.1,z9.2.1,z9.2.2.1,(z9.2.2.2.1+(1:Int)),z9.2.2.2.2.1,z9.2.2.2.2.2.1,()))) (
 .ret (.inr (v0,fI,nj,b0,b1,())))
noncomputable def afr:bD prog 294 none 0:=aZ mixed u5 gX [] rfl afo afp rfl (afq) (fun x=>ah (g92_3 x)) (fun x=>by kernel_rfl)
@[reducible] def afs:ax:=ax.mk [(0,.c (.hole (.list tG))),(3,.c (.bN 0 tI)),(8,.c (.bN 1 .bool)),(12,hI),(13,hI),(210,.c (.bN 0 tI)),(211,hI),(213,hI),(214,.c (.hole .bool))] [(0,.arr tI false),(1,.arr .bool false)] [.slot 3,.slot 8] []
@[reducible] def aft:aT:=[(.exit 14,ax.mk [(0,.c (.hole (.list tG))),(3,.c (.bN 0 tI)),(8,.c (.bN 1 .bool)),(12,hI),(210,.c (.bN 0 tI)),(211,hI),(213,hI),(214,.c (.hole .bool))] [(0,.arr tI false),(1,.arr .bool false)] [.slot 3,.slot 8] [])]
noncomputable def afu:D prog 294 none 0:=dO [] (pick (kd prog f92) [(3,false),(0,false)]) 0
noncomputable def g92_7:(List (GG))×Nat×Nat×Int×Int×Nat×Int×Int×Bool×List Int×List Bool×Unit→bJ (((List (GG))×Nat×Nat×Int×Int×Nat×Int×Int×Bool×List Int×List Bool×Unit) ⊕ (((List (GG))×Nat×Nat×Int×Nat×Int×Int×Bool×List Int×List Bool×Unit))):=fun (v0,fI,nj,v12,zj,AA,tJ,tK,tN,b0,b1,_) =>
 .br (decide (zj<(((v0).length:Nat):Int))) (
 .nb zj ((nj:Nat):Int) <|
 .nd (decide (((0:Nat)+(Int.toNat zj))<(b1).length)) <|
 .br ((b1).getD ((0:Nat)+(Int.toNat zj)) false) (
 .nb zj ((fI:Nat):Int) <|
 .nd (decide (((0:Nat)+(Int.toNat zj))<(b0).length)) <|
 .br (!(((b0).getD ((0:Nat)+(Int.toNat zj)) (0:Int))==(2:Int))) (
 .nb zj (((v0).length:Nat):Int) <|
 .br (((v0).getD (Int.toNat zj) ((bs []),(0:Int),(bs []),(bs []),(0:Int))).2.1==(2:Int)) (
 .nb zj (((v0).length:Nat):Int) <|
 .nb v12 (((v0).length:Nat):Int) <|
 .br (seq ((v0).getD (Int.toNat zj) ((bs []),(0:Int),(bs []),(bs []),(0:Int))).2.2.1 ((v0).getD (Int.toNat v12) ((bs []),(0:Int),(bs []),(bs []),(0:Int))).1) (
 .nb v12 ((fI:Nat):Int) <|
 .nd (decide (((0:Nat)+(Int.toNat v12))<(b0).length)) <|
 .ni (zj+(1:Int)) <|
 .ret (.inl (v0,fI,nj,v12,(zj+(1:Int)),AA,tJ,tK,tN,((b0).set ((0:Nat)+(Int.toNat v12)) (3:Int)),b1,()))) (
 .ni (zj+(1:Int)) <|
 .ret (.inl (v0,fI,nj,v12,(zj+(1:Int)),AA,tJ,tK,tN,b0,b1,())))) (
 .ni (zj+(1:Int)) <|
 .ret (.inl (v0,fI,nj,v12,(zj+(1:Int)),AA,tJ,tK,tN,b0,b1,())))) (
 .ni (zj+(1:Int)) <|
 .ret (.inl (v0,fI,nj,v12,(zj+(1:Int)),AA,tJ,tK,tN,b0,b1,())))) (
 .ni (zj+(1:Int)) <|
 .ret (.inl (v0,fI,nj,v12,(zj+(1:Int)),AA,tJ,tK,tN,b0,b1,())))) (
 .ret (.inr (v0,fI,nj,v12,AA,tJ,tK,tN,b0,b1,())))
noncomputable def afv:bD prog 294 none 0:=aZ mixed u5 gX [] rfl afs aft rfl (afu) (fun x=>ah (g92_7 x)) (fun x=>by kernel_rfl)
@[reducible] def afw:ax:=ax.mk [(0,.c (.hole (.list tG))),(3,.c (.bN 0 tI)),(8,.c (.bN 1 .bool)),(12,hI)] [(0,.arr tI false),(1,.arr .bool false)] [.slot 3,.slot 8] []
@[reducible] def afx:aT:=[(.exit 12,ax.mk [(0,.c (.hole (.list tG))),(3,.c (.bN 0 tI))] [(0,.arr tI false)] [.slot 3] [])]
noncomputable def afy:D prog 294 none 0:=dO [.l afv] (pick (kd prog f92) [(3,false)]) 0
noncomputable def g92_6:(List (GG))×Nat×Nat×Int×List Int×List Bool×Unit→bJ (((List (GG))×Nat×Nat×Int×List Int×List Bool×Unit) ⊕ (((List (GG))×Nat×List Int×Unit))):=fun (v0,fI,nj,v12,b0,b1,_) =>
 .br (decide (v12<(((v0).length:Nat):Int))) (
 .nb v12 ((nj:Nat):Int) <|
 .nd (decide (((0:Nat)+(Int.toNat v12))<(b1).length)) <|
 .br (!((b1).getD ((0:Nat)+(Int.toNat v12)) false)) (
 .ni (v12+(1:Int)) <|
 .ret (.inl (v0,fI,nj,(v12+(1:Int)),b0,b1,()))) (
 .nb v12 ((fI:Nat):Int) <|
 .nd (decide (((0:Nat)+(Int.toNat v12))<(b0).length)) <|
 .br (((b0).getD ((0:Nat)+(Int.toNat v12)) (0:Int))==(2:Int)) (
 .ni (v12+(1:Int)) <|
 .ret (.inl (v0,fI,nj,(v12+(1:Int)),b0,b1,()))) (
 .nb v12 ((fI:Nat):Int) <|
 .nd (decide (((0:Nat)+(Int.toNat v12))<(b0).length)) <|
 .bd (.it g92_7 (v0,fI,nj,v12,(0:Int),fI,v12,((b0).getD ((0:Nat)+(Int.toNat v12)) (0:Int)),(((b0).getD ((0:Nat)+(Int.toNat v12)) (0:Int))==(2:Int)),((b0).set ((0:Nat)+(Int.toNat v12)) (4:Int)),b1,())) fun Az =>
 .ni (Az.2.2.2.1+(1:Int)) <|
 .ret (.inl (Az.1,Az.2.1,Az.2.2.1,(Az.2.2.2.1+(1:Int)),Az.2.2.2.2.2.2.2.2.1,Az.2.2.2.2.2.2.2.2.2.1,()))))) (
 .ret (.inr (v0,fI,b0,())))
noncomputable def afz:bD prog 294 none 0:=aZ mixed u5 gX [] rfl afw afx rfl (afy) (fun x=>ah (g92_6 x)) (fun x=>by kernel_rfl)
@[reducible] def afA:ax:=ax.mk [(0,.c (.hole (.list tG))),(3,.c (.bN 0 tI)),(14,hI),(15,.c (.bN 1 tI)),(16,hI)] [(0,.arr tI false),(1,.arr tI false)] [.slot 3,.slot 15] []
@[reducible] def afB:aT:=[(.exit 18,ax.mk [(0,.c (.hole (.list tG))),(3,.c (.bN 0 tI)),(14,hI)] [(0,.arr tI false)] [.slot 3] [])]
noncomputable def afC:D prog 294 none 0:=dO [] (pick (kd prog f92) [(4,false),(0,false)]) 0
noncomputable def g92_9:(List (GG))×Nat×Int×Nat×Int×List Int×List Int×Unit→bJ (((List (GG))×Nat×Int×Nat×Int×List Int×List Int×Unit) ⊕ (((List (GG))×Nat×Int×List Int×Unit))):=fun (v0,fI,vH,Ux,BS,b0,b1,_) =>
 .br (decide (BS<((Ux:Nat):Int))) (
 .br (decide ((1:Int)<((Ux:Nat):Int))) (
 .nb BS ((Ux:Nat):Int) <|
 .nd (decide (((0:Nat)+(Int.toNat BS))<(b1).length)) <|
 .nb ((b1).getD ((0:Nat)+(Int.toNat BS)) (0:Int)) ((fI:Nat):Int) <|
 .nd (decide (((0:Nat)+(Int.toNat ((b1).getD ((0:Nat)+(Int.toNat BS)) (0:Int))))<(b0).length)) <|
 .ni (BS+(1:Int)) <|
 .ret (.inl (v0,fI,vH,Ux,(BS+(1:Int)),((b0).set ((0:Nat)+(Int.toNat ((b1).getD ((0:Nat)+(Int.toNat BS)) (0:Int)))) (5:Int)),b1,()))) (
 .ret (.inr (v0,fI,vH,b0,())))) (
 .ret (.inr (v0,fI,vH,b0,())))
noncomputable def afD:bD prog 294 none 0:=aZ mixed u5 gX [] rfl afA afB rfl (afC) (fun x=>ah (g92_9 x)) (fun x=>by kernel_rfl)
@[reducible] def afE:ax:=ax.mk [(0,.c (.hole (.list tG))),(3,.c (.bN 0 tI)),(14,hI)] [(0,.arr tI false)] [.slot 3] []
@[reducible] def afF:aT:=[(.exit 16,ax.mk [(3,.c (.bN 0 tI))] [(0,.arr tI false)] [.slot 3] [])]
noncomputable def afG:D prog 294 none 0:=dO [.l afD] (pick (kd prog f92) [(4,false)]) 0
noncomputable def g92_8:(List (GG))×Nat×Int×List Int×Unit→bJ (((List (GG))×Nat×Int×List Int×Unit) ⊕ ((Nat×List Int×Unit))):=fun (v0,fI,vH,b0,_) =>
 .br (decide (vH<(((v0).length:Nat):Int))) (
 .nb vH (((v0).length:Nat):Int) <|
 .br (!(((v0).getD (Int.toNat vH) ((bs []),(0:Int),(bs []),(bs []),(0:Int))).2.1==(1:Int))) (
 .ni (vH+(1:Int)) <|
 .ret (.inl (v0,fI,(vH+(1:Int)),b0,()))) (
 .bd (FH94fix v0 fI vH b0) fun Jc =>
 .bd (.it g92_9 (v0,fI,vH,Jc.1,(0:Int),Jc.2.2.1,Jc.2.1,())) fun z14 =>
 .ni (z14.2.2.1+(1:Int)) <|
 .ret (.inl (z14.1,z14.2.1,(z14.2.2.1+(1:Int)),z14.2.2.2.1,())))) (
 .ret (.inr (fI,b0,())))
noncomputable def afI:bD prog 294 none 0:=aZ mixed u5 gX [] rfl afE afF rfl (afG) (fun x=>ah (g92_8 x)) (fun x=>by kernel_rfl)
noncomputable def dd92:D prog 294 none 0:=dO [.l ae9,.l afh,.l afr,.l afz,.l afI] (kd prog f92) 0
noncomputable def F92 (a0:List (GG)):bJ (List Int×Unit) :=
 .nb (((a0).length:Nat):Int) ((bI:Nat):Int) <|
 .bd (.it g92_0 (a0,(Int.toNat (((a0).length:Nat):Int)),(0:Int),(List.replicate (Int.toNat (((a0).length:Nat):Int)) (0:Int)),())) fun z0 =>
 .bd (.it g92_1 (z0.1,z0.2.1,(0:Int),z0.2.2.1,())) fun z5 =>
 .nb (((z5.1).length:Nat):Int) ((bI:Nat):Int) <|
 .bd (.it g92_3 (z5.1,z5.2.1,(Int.toNat (((z5.1).length:Nat):Int)),(0:Int),z5.2.2.1,(List.replicate (Int.toNat (((z5.1).length:Nat):Int)) false),())) fun Ay =>
 .bd (.it g92_6 (Ay.1,Ay.2.1,Ay.2.2.1,(0:Int),Ay.2.2.2.1,Ay.2.2.2.2.1,())) fun z12 =>
 .bd (.it g92_8 (z12.1,z12.2.1,(0:Int),z12.2.2.1,())) fun z15 =>
 .ret ((((z15.2.1).drop (0:Nat)).take z15.1),())
theorem aah:cw prog f92=some ⟨294,1,dd92.er,[.t 2],[some tL]⟩:=by kernel_rfl
noncomputable def ct92:Ct:=⟨92,[.c (.hole (.list tG))],hL,fun x=>ah (F92 x.1)⟩
theorem Uy:ct92.Ok prog:=cB mixed gX func92 aah (enters_of func92 rfl rfl) dd92 (by kernel_rfl) rfl (fun x=>by kernel_rfl)

/- 94, lent -/
@[reducible] def b8:ax:=ax.mk [(0,.c (.hole (.list tG))),(1,hL),(2,hI)] [] [] []
@[reducible] def cg:ax:=ax.mk [(0,.c (.bN 0 tI))] [(0,.arr tI false)] [.slot 0] []
noncomputable def yh (rec:b8.T→Option cg.T):Cx:=(aL [] [⟨94,b8,cg,rec⟩])
theorem uD (rec:b8.T→Option cg.T) (h:Ht.Ok prog ⟨94,b8,cg,rec⟩):(yh rec).Ok prog:=av trivial ⟨⟨h,rfl⟩,trivial⟩
@[reducible] def tO:ax:=ax.mk [(0,.c (.hole (.list tG))),(1,hL),(2,hI),(7,.c (.bN 0 tI)),(8,hI)] [(0,.arr tI false)] [.slot 7] []
@[reducible] def tP:aT:=[(.exit 0,ax.mk [(7,.c (.bN 0 tI))] [(0,.arr tI false)] [.slot 7] [])]
noncomputable def AB (rec:b8.T→Option cg.T) (h:Ht.Ok prog ⟨94,b8,cg,rec⟩):D prog 62 none 0:=dO [] (pick (kd prog f94) [(0,false)]) 0
noncomputable def gH94_v1_0:(List (GG))×List Int×Int×Nat×Int×List Int×Unit→Tr b8.T cg.T (((List (GG))×List Int×Int×Nat×Int×List Int×Unit) ⊕ ((Nat×List Int×Unit))):=fun (v0,v1,v2,Hg,v8,b0,_) =>
 .br (decide (v8<(((v0).length:Nat):Int))) (
 .nb v8 (((v0).length:Nat):Int) <|
 .br (((v0).getD (Int.toNat v8) ((bs []),(0:Int),(bs []),(bs []),(0:Int))).2.1==(2:Int)) (
 .nb v8 (((v0).length:Nat):Int) <|
 .nb v2 (((v0).length:Nat):Int) <|
 .br (seq ((v0).getD (Int.toNat v8) ((bs []),(0:Int),(bs []),(bs []),(0:Int))).2.2.1 ((v0).getD (Int.toNat v2) ((bs []),(0:Int),(bs []),(bs []),(0:Int))).1) (
 .nb v8 (((v1).length:Nat):Int) <|
 .br (decide ((2:Int)<((v1).getD (Int.toNat v8) (0:Int)))) (
 .bd (.rc (v0,v1,v8,())) fun y0 =>
 .nd (decide ((Hg+((((y0.2.1).drop (0:Nat)).take y0.1)).length)<bI)) <|
 .ni (v8+(1:Int)) <|
 .ret (.inl (v0,v1,v2,(Hg+((((y0.2.1).drop (0:Nat)).take y0.1)).length),(v8+(1:Int)),((((b0).drop (0:Nat)).take Hg)++(((y0.2.1).drop (0:Nat)).take y0.1)),()))) (
 .ni (v8+(1:Int)) <|
 .ret (.inl (v0,v1,v2,Hg,(v8+(1:Int)),b0,())))) (
 .ni (v8+(1:Int)) <|
 .ret (.inl (v0,v1,v2,Hg,(v8+(1:Int)),b0,())))) (
 .ni (v8+(1:Int)) <|
 .ret (.inl (v0,v1,v2,Hg,(v8+(1:Int)),b0,())))) (
 .ret (.inr (Hg,b0,())))
theorem Lv (rec:b8.T→Option cg.T) (h:Ht.Ok prog ⟨94,b8,cg,rec⟩):∀x,oe (iu (tO.T ⊕ tP.T)) (yh rec) dN [] tO tP (AB rec h) (fun y=>some (.inl y)) (fun b=>some (.inr b)) x=run rec (gH94_v1_0 x):=fun x=>by kernel_rfl
noncomputable def Lw (rec:b8.T→Option cg.T) (h:Ht.Ok prog ⟨94,b8,cg,rec⟩):bD prog 62 none 0:=aZ mixed (yh rec) (uD rec h) [] rfl tO tP rfl (AB rec h) (fun x=>run rec (gH94_v1_0 x)) (Lv rec h)
noncomputable def EO (rec:b8.T→Option cg.T) (h:Ht.Ok prog ⟨94,b8,cg,rec⟩):D prog 62 none 0:=dO [.l (Lw rec h)] (kd prog f94) 0
noncomputable def FH94_v1 (v0:List (GG)) (v1:List Int) (v2:Int):Tr b8.T cg.T (Nat×List Int×Unit) :=
 .nb v2 (((v1).length:Nat):Int) <|
 .br (((v1).getD (Int.toNat v2) (0:Int))==(4:Int)) (
 .ret ((1:Nat),(v2::[]),())) (
 .nb v2 (((v1).length:Nat):Int) <|
 .br (((v1).getD (Int.toNat v2) (0:Int))==(5:Int)) (
 .ret ((1:Nat),(v2::[]),())) (
 .bd (.it gH94_v1_0 (v0,v1,v2,(0:Nat),(0:Int),[],())) fun z1 =>
 .ret (z1.1,z1.2.1,())))
theorem Hi (rec:b8.T→Option cg.T) (h:Ht.Ok prog ⟨94,b8,cg,rec⟩):cw prog f94=some ⟨62,3,(EO rec h).er,[.t 6],[some tL]⟩:=by kernel_rfl
theorem Ch (rec:b8.T→Option cg.T) (h:Ht.Ok prog ⟨94,b8,cg,rec⟩):Ht.Ok prog ⟨94,b8,cg,(fun x=>run rec (FH94_v1 x.1 x.2.1 x.2.2.1))⟩:=bG mixed (uD rec h) rfl func94 (Hi rec h) (enters_of func94 rfl rfl) (EO rec h) (by kernel_rfl) rfl rfl ⟨_,rfl⟩ rfl (pre:=[]) rfl (fun x=>by kernel_rfl)
noncomputable def FH94_v1fix (v0:List (GG)) (v1:List Int) (v2:Int):bJ (Nat×List Int×Unit):=.fx (A1:=b8.T) (B1:=cg.T) (fun x=>FH94_v1 x.1 x.2.1 x.2.2.1) (v0,v1,v2,())
noncomputable def Jt:Ht:=⟨94,b8,cg,fun x=>ah (FH94_v1fix x.1 x.2.1 x.2.2.1)⟩
theorem Hj:Jt.Ok prog:=BJ (F:=fun rec x=>run rec (FH94_v1 x.1 x.2.1 x.2.2.1)) (fun rec h=>Ch rec h)

/- 70 -/
noncomputable def Lx:Cx:=(aL [ct92] [Jt])
theorem sn:Lx.Ok prog:=av ⟨Uy,trivial⟩ ⟨⟨Hj,rfl⟩,trivial⟩
@[reducible] def afL:ax:=ax.mk [(0,.c (.hole (.list tG))),(1,.c (.hole .str)),(5,hL),(6,.c (.bN 0 .bool)),(7,hI),(8,.c (.bN 1 .bool)),(9,.c (.bN 2 tI)),(10,hI),(11,hI),(12,hI)] [(0,.arr .bool false),(1,.arr .bool false),(2,.arr tI false)] [.slot 6,.slot 8,.slot 9] []
@[reducible] def afM:aT:=[(.exit 4,ax.mk [(0,.c (.hole (.list tG))),(1,.c (.hole .str)),(5,hL),(6,.c (.bN 0 .bool)),(7,hI),(8,.c (.bN 1 .bool)),(9,.c (.bN 2 tI)),(10,hI)] [(0,.arr .bool false),(1,.arr .bool false),(2,.arr tI false)] [.slot 6,.slot 8,.slot 9] [])]
noncomputable def afN:D prog 99 none 0:=dO [] (pick (kd prog f70) [(0,false),(0,false),(0,false)]) 0
noncomputable def g70_2:(List (GG))×ByteArray×List Int×Nat×Int×Nat×Nat×Int×Int×Int×List Bool×List Bool×List Int×Unit→bJ (((List (GG))×ByteArray×List Int×Nat×Int×Nat×Nat×Int×Int×Int×List Bool×List Bool×List Int×Unit) ⊕ (((List (GG))×ByteArray×List Int×Nat×Int×Nat×Nat×Int×List Bool×List Bool×List Int×Unit))):=fun (v0,v1,v5,uA,v7,nj,CF,v10,v11,v12,b0,b1,b2,_) =>
 .br (decide (v12<((uA:Nat):Int))) (
 .nb v12 ((uA:Nat):Int) <|
 .nd (decide (((0:Nat)+(Int.toNat v12))<(b0).length)) <|
 .br ((b0).getD ((0:Nat)+(Int.toNat v12)) false) (
 .ni (v12+v11) <|
 .nb (v12+v11) ((nj:Nat):Int) <|
 .nd (decide (((0:Nat)+(Int.toNat (v12+v11)))<(b1).length)) <|
 .ni (v12+(1:Int)) <|
 .ret (.inl (v0,v1,v5,uA,v7,nj,CF,v10,v11,(v12+(1:Int)),b0,((b1).set ((0:Nat)+(Int.toNat (v12+v11))) true),b2,()))) (
 .ni (v12+(1:Int)) <|
 .ret (.inl (v0,v1,v5,uA,v7,nj,CF,v10,v11,(v12+(1:Int)),b0,b1,b2,())))) (
 .ret (.inr (v0,v1,v5,uA,v7,nj,CF,v10,b0,b1,b2,())))
noncomputable def afO:bD prog 99 none 0:=aZ mixed Lx sn [] rfl afL afM rfl (afN) (fun x=>ah (g70_2 x)) (fun x=>by kernel_rfl)
@[reducible] def PV:ax:=ax.mk [(0,.c (.hole (.list tG))),(1,.c (.hole .str)),(5,hL),(6,.c (.bN 0 .bool)),(7,hI),(8,.c (.bN 1 .bool)),(9,.c (.bN 2 tI)),(10,hI)] [(0,.arr .bool false),(1,.arr .bool false),(2,.arr tI false)] [.slot 6,.slot 8,.slot 9] []
@[reducible] def PW:aT:=[(.exit 2,ax.mk [(0,.c (.hole (.list tG))),(1,.c (.hole .str)),(5,hL),(7,hI),(8,.c (.bN 0 .bool))] [(0,.arr .bool false)] [.slot 8] [])]
noncomputable def WT:D prog 99 none 0:=dO [.l afO] (pick (kd prog f70) [(0,false),(0,false)]) 0
noncomputable def g70_1:(List (GG))×ByteArray×List Int×Nat×Int×Nat×Nat×Int×List Bool×List Bool×List Int×Unit→bJ (((List (GG))×ByteArray×List Int×Nat×Int×Nat×Nat×Int×List Bool×List Bool×List Int×Unit) ⊕ (((List (GG))×ByteArray×List Int×Int×Nat×List Bool×Unit))):=fun (v0,v1,v5,uA,v7,nj,CF,v10,b0,b1,b2,_) =>
 .br (decide (v10<((CF:Nat):Int))) (
 .jx (
 .br (seq v1 (bs [])) (
 .nb v10 ((CF:Nat):Int) <|
 .nd (decide (((0:Nat)+(Int.toNat v10))<(b2).length)) <|
 .nb ((b2).getD ((0:Nat)+(Int.toNat v10)) (0:Int)) (((v0).length:Nat):Int) <|
 .ret (.inl (v0,v1,v5,uA,v7,nj,CF,v10,((v0).getD (Int.toNat ((b2).getD ((0:Nat)+(Int.toNat v10)) (0:Int))) ((bs []),(0:Int),(bs []),(bs []),(0:Int))).2.2.2.2,b0,b1,b2,()))) (
 .nb v10 ((CF:Nat):Int) <|
 .nd (decide (((0:Nat)+(Int.toNat v10))<(b2).length)) <|
 .nb ((b2).getD ((0:Nat)+(Int.toNat v10)) (0:Int)) (((v0).length:Nat):Int) <|
 .br (seq ((v0).getD (Int.toNat ((b2).getD ((0:Nat)+(Int.toNat v10)) (0:Int))) ((bs []),(0:Int),(bs []),(bs []),(0:Int))).2.2.2.1 v1) (
 .nb v10 ((CF:Nat):Int) <|
 .nd (decide (((0:Nat)+(Int.toNat v10))<(b2).length)) <|
 .nb ((b2).getD ((0:Nat)+(Int.toNat v10)) (0:Int)) (((v0).length:Nat):Int) <|
 .ret (.inl (v0,v1,v5,uA,v7,nj,CF,v10,((v0).getD (Int.toNat ((b2).getD ((0:Nat)+(Int.toNat v10)) (0:Int))) ((bs []),(0:Int),(bs []),(bs []),(0:Int))).2.2.2.2,b0,b1,b2,()))) (
 .ret (.inl (v0,v1,v5,uA,v7,nj,CF,v10,(0:Int),b0,b1,b2,()))))) fun j2 =>
 .bd (.it g70_2 (j2.1,j2.2.1,j2.2.2.1,j2.2.2.2.1,j2.2.2.2.2.1,j2.2.2.2.2.2.1,j2.2.2.2.2.2.2.1,j2.2.2.2.2.2.2.2.1,j2.2.2.2.2.2.2.2.2.1,(0:Int),j2.2.2.2.2.2.2.2.2.2.1,j2.2.2.2.2.2.2.2.2.2.2.1,j2.2.2.2.2.2.2.2.2.2.2.2.1,())) fun z3 =>
 .ni (z3.2.2.2.2.2.2.2.1+(1:Int)) <|
 .ret (.inl (z3.1,z3.2.1,z3.2.2.1,z3.2.2.2.1,z3.2.2.2.2.1,z3.2.2.2.2.2.1,z3.2.2.2.2.2.2.1,(z3.2.2.2.2.2.2.2.1+(1:Int)),z3.2.2.2.2.2.2.2.2.1,z3.2.2.2.2.2.2.2.2.2.1,z3.2.2.2.2.2.2.2.2.2.2.1,()))) (
 .ret (.inr (v0,v1,v5,v7,nj,b1,())))
theorem afP:∀x,oe (iu (PV.T ⊕ PW.T)) Lx dN [] PV PW (WT) (fun y=>some (.inl y)) (fun b=>some (.inr b)) x=ah (g70_1 x):=fun x=>Eq.trans (b:=ah (flat (g70_1 x))) (by kernel_rfl) xB
noncomputable def afQ:bD prog 99 none 0:=aZ mixed Lx sn [] rfl PV PW rfl (WT) (fun x=>ah (g70_1 x)) (afP)
@[reducible] def afR:ax:=ax.mk [(0,.c (.hole (.list tG))),(1,.c (.hole .str)),(5,hL),(6,.c (.bN 0 .bool)),(7,hI)] [(0,.arr .bool false)] [.slot 6] []
@[reducible] def afS:aT:=[(.exit 0,ax.mk [(6,.c (.bN 0 .bool))] [(0,.arr .bool false)] [.slot 6] [])]
noncomputable def afT:D prog 99 none 0:=dO [.l afQ] (pick (kd prog f70) [(0,false)]) 0
noncomputable def g70_0:(List (GG))×ByteArray×List Int×Nat×Int×List Bool×Unit→bJ (((List (GG))×ByteArray×List Int×Nat×Int×List Bool×Unit) ⊕ ((Nat×List Bool×Unit))):=fun (v0,v1,v5,uA,v7,b0,_) =>
 .br (decide (v7<(((v0).length:Nat):Int))) (
 .nb v7 (((v0).length:Nat):Int) <|
 .br (!(((v0).getD (Int.toNat v7) ((bs []),(0:Int),(bs []),(bs []),(0:Int))).2.1==(1:Int))) (
 .ni (v7+(1:Int)) <|
 .ret (.inl (v0,v1,v5,uA,(v7+(1:Int)),b0,()))) (
 .nb ((uA:Nat):Int) ((bI:Nat):Int) <|
 .bd (FH94_v1fix v0 v5 v7) fun y1 =>
 .bd (.it g70_1 (v0,v1,v5,uA,v7,(Int.toNat ((uA:Nat):Int)),y1.1,(0:Int),b0,(List.replicate (Int.toNat ((uA:Nat):Int)) false),y1.2.1,())) fun z4 =>
 .ni (z4.2.2.2.1+(1:Int)) <|
 .ret (.inl (z4.1,z4.2.1,z4.2.2.1,z4.2.2.2.2.1,(z4.2.2.2.1+(1:Int)),z4.2.2.2.2.2.1,())))) (
 .ret (.inr (uA,b0,())))
noncomputable def afU:bD prog 99 none 0:=aZ mixed Lx sn [] rfl afR afS rfl (afT) (fun x=>ah (g70_0 x)) (fun x=>by kernel_rfl)
@[reducible] def afV:ax:=ax.mk [(6,.c (.bN 0 .bool)),(13,.c (.bN 1 tI)),(14,hI)] [(0,.arr .bool false),(1,.arr tI false)] [.slot 6,.slot 13] []
@[reducible] def afW:aT:=[(.exit 6,ax.mk [(13,.c (.bN 0 tI))] [(0,.arr tI false)] [.slot 13] [])]
noncomputable def afX:D prog 99 none 0:=dO [] (pick (kd prog f70) [(1,false)]) 0
noncomputable def g70_3:Nat×Nat×Int×List Bool×List Int×Unit→bJ ((Nat×Nat×Int×List Bool×List Int×Unit) ⊕ ((Nat×List Int×Unit))):=fun (uA,PX,vH,b0,b1,_) =>
 .br (decide (vH<((uA:Nat):Int))) (
 .nb vH ((uA:Nat):Int) <|
 .nd (decide (((0:Nat)+(Int.toNat vH))<(b0).length)) <|
 .br ((b0).getD ((0:Nat)+(Int.toNat vH)) false) (
 .ni (vH - (60000:Int)) <|
 .nd (decide ((PX+((((((vH - (60000:Int))::[])).drop (0:Nat)).take (1:Nat))).length)<bI)) <|
 .ni (vH+(1:Int)) <|
 .ret (.inl (uA,(PX+((((((vH - (60000:Int))::[])).drop (0:Nat)).take (1:Nat))).length),(vH+(1:Int)),b0,((((b1).drop (0:Nat)).take PX)++(((((vH - (60000:Int))::[])).drop (0:Nat)).take (1:Nat))),()))) (
 .ni (vH+(1:Int)) <|
 .ret (.inl (uA,PX,(vH+(1:Int)),b0,b1,())))) (
 .ret (.inr (PX,b1,())))
noncomputable def afY:bD prog 99 none 0:=aZ mixed Lx sn [] rfl afV afW rfl (afX) (fun x=>ah (g70_3 x)) (fun x=>by kernel_rfl)
noncomputable def dd70:D prog 99 none 0:=dO [.l afU,.l afY] (kd prog f70) 0
noncomputable def F70 (a0:List (GG)) (a1:ByteArray):bJ (List Int×Unit) :=
 .bd (F92 a0) fun y0 =>
 .nb (120001:Int) ((bI:Nat):Int) <|
 .nb (60000:Int) (((Int.toNat (120001:Int)):Nat):Int) <|
 .nd (decide (((0:Nat)+(Int.toNat (60000:Int)))<((List.replicate (Int.toNat (120001:Int)) false)).length)) <|
 .bd (.it g70_0 (a0,a1,y0.1,(Int.toNat (120001:Int)),(0:Int),(((List.replicate (Int.toNat (120001:Int)) false)).set ((0:Nat)+(Int.toNat (60000:Int))) true),())) fun z5 =>
 .bd (.it g70_3 (z5.1,(0:Nat),(0:Int),z5.2.1,[],())) fun z6 =>
 .ret ((((z6.2.1).drop (0:Nat)).take z6.1),())
theorem aai:cw prog f70=some ⟨99,2,dd70.er,[.t 4],[some tL]⟩:=by kernel_rfl
noncomputable def ct70:Ct:=⟨70,[.c (.hole (.list tG)),.c (.hole .str)],hL,fun x=>ah (F70 x.1 x.2.1)⟩
theorem Uz:ct70.Ok prog:=cB mixed sn func70 aai (enters_of func70 rfl rfl) dd70 (by kernel_rfl) rfl (fun x=>by kernel_rfl)

/- 57, lent -/
@[reducible] def UA:ax:=ax.mk [(0,.c (.ptr 0 0))] [(0,.cells [.tf true,.hole (.list tG)] false)] [.slot 0] []
@[reducible] def UB:ax:=ax.mk [(0,.c (.hole .bool))] [(0,.cells [.tf true,.hole (.list tG)] false)] [] []
noncomputable def PY:Cx:=(aL [] [])
theorem EP:PY.Ok prog:=av trivial trivial
noncomputable def ER:D prog 12 none 1:=dO [] (kd prog f57) 0
noncomputable def FH57_v1 (uZ:List (GG)):bJ (Bool×(List (GG))×Unit) :=
 .ret (false,uZ,())
theorem Hl:cw prog f57=some ⟨12,1,ER.er,[.t 2],[some .bool]⟩:=by kernel_rfl
noncomputable def Ci:Ht:=⟨57,UA,UB,(fun x=>ah (FH57_v1 x.1))⟩
theorem yj:Ci.Ok prog:=bG mixed EP rfl func57 Hl (enters_of func57 rfl rfl) ER (by kernel_rfl) rfl rfl ⟨_,rfl⟩ rfl (pre:=[0]) rfl (fun x=>by kernel_rfl)

/- 21, lent -/
@[reducible] def UC:ax:=ax.mk [(0,.c (.ptr 0 0)),(1,.c (.hole tG))] [(0,.cells [.tf true,.hole (.list tG)] false)] [.slot 0] []
@[reducible] def UD:ax:=ax.mk [(0,hI)] [(0,.cells [.tf true,.hole (.list tG)] false)] [] []
noncomputable def PZ:Cx:=(aL [ct58,ct59] [Ci])
theorem ET:PZ.Ok prog:=av ⟨Uj,Ur,trivial⟩ ⟨⟨yj,rfl⟩,trivial⟩
noncomputable def EU:D prog 27 none 1:=dO [] (kd prog f21) 0
noncomputable def FH21_v1 (v1:GG) (uZ:List (GG)):bJ (Int×(List (GG))×Unit) :=
 .bd (FH57_v1 uZ) fun y0 =>
 .br y0.1 (
 .ret ((9:Int),y0.2.1,())) (
 .bd (F58 (v1.1,v1.2.1,v1.2.2.1,v1.2.2.2.1,v1.2.2.2.2)) fun y1 =>
 .br (!(y1.1==(0:Int))) (
 .ret (y1.1,y0.2.1,())) (
 .bd (F59 y0.2.1 (v1.1,v1.2.1,v1.2.2.1,v1.2.2.2.1,v1.2.2.2.2)) fun y2 =>
 .br (decide ((60:Int)<(((y2.1).length:Nat):Int))) (
 .ret ((15:Int),y0.2.1,())) (
 .ret ((0:Int),y2.1,()))))
theorem Ho:cw prog f21=some ⟨27,2,EU.er,[.t 4],[some tI]⟩:=by kernel_rfl
noncomputable def Ju:Ht:=⟨21,UC,UD,(fun x=>ah (FH21_v1 x.1 x.2.1))⟩
theorem Hp:Ju.Ok prog:=bG mixed ET rfl func21 Ho (enters_of func21 rfl rfl) EU (by kernel_rfl) rfl rfl ⟨_,rfl⟩ rfl (pre:=[0]) rfl (fun x=>by kernel_rfl)

/- 24, lent -/
@[reducible] def UE:ax:=ax.mk [(0,.c (.ptr 0 0)),(1,.c (.hole .str))] [(0,.cells [.tf true,.hole (.list tG)] false)] [.slot 0] []
@[reducible] def UF:ax:=ax.mk [(0,.cK [.hole tL,.hole tI])] [(0,.cells [.tf true,.hole (.list tG)] false)] [] []
noncomputable def P0:Cx:=(aL [Z2,ct71,ct70] [Ci])
theorem EW:P0.Ok prog:=av ⟨Jq,Us,Uz,trivial⟩ ⟨⟨yj,rfl⟩,trivial⟩
noncomputable def EX:D prog 18 none 1:=dO [] (kd prog f24) 0
noncomputable def FH24_v1 (v1:ByteArray) (uZ:List (GG)):bJ (List Int×Int×(List (GG))×Unit) :=
 .bd (FH57_v1 uZ) fun y0 =>
 .br y0.1 (
 .ret ([],(9:Int),y0.2.1,())) (
 .bd (F69 v1) fun y1 =>
 .br (!y1.1) (
 .ret ([],(8:Int),y0.2.1,())) (
 .bd (F71 y0.2.1) fun y2 =>
 .bd (F70 y2.1 v1) fun y3 =>
 .ret (y3.1,(0:Int),y0.2.1,())))
theorem Hq:cw prog f24=some ⟨18,2,EX.er,[.t 4,.t 5],[some tL,some tI]⟩:=by kernel_rfl
noncomputable def Cj:Ht:=⟨24,UE,UF,(fun x=>ah (FH24_v1 x.1 x.2.1))⟩
theorem ym:Cj.Ok prog:=bG mixed EW rfl func24 Hq (enters_of func24 rfl rfl) EX (by kernel_rfl) rfl rfl ⟨_,rfl⟩ rfl (pre:=[0]) rfl (fun x=>by kernel_rfl)

/- 26, lent -/
@[reducible] def UG:ax:=ax.mk [(0,.c (.ptr 0 0)),(1,.c (.hole .str))] [(0,.cells [.tf true,.hole (.list tG)] false)] [.slot 0] []
@[reducible] def UH:ax:=ax.mk [(0,.cK [.hole (.prod tI tI),.hole tI])] [(0,.cells [.tf true,.hole (.list tG)] false)] [] []
noncomputable def P3:Cx:=(aL [] [Cj])
theorem EY:P3.Ok prog:=av trivial ⟨⟨ym,rfl⟩,trivial⟩
noncomputable def EZ:D prog 28 none 1:=dO [] (kd prog f26) 0
noncomputable def FH26_v1 (v1:ByteArray) (uZ:List (GG)):bJ ((Int×Int)×Int×(List (GG))×Unit) :=
 .bd (FH24_v1 v1 uZ) fun y0 =>
 .br (!(y0.2.1==(0:Int))) (
 .ret (((0:Int),(0:Int)),y0.2.1,y0.2.2.1,())) (
 .nb (0:Int) (((y0.1).length:Nat):Int) <|
 .ni ((((y0.1).length:Nat):Int) - (1:Int)) <|
 .nb ((((y0.1).length:Nat):Int) - (1:Int)) (((y0.1).length:Nat):Int) <|
 .ret ((((y0.1).getD (Int.toNat (0:Int)) (0:Int)),((y0.1).getD (Int.toNat ((((y0.1).length:Nat):Int) - (1:Int))) (0:Int))),(0:Int),y0.2.2.1,()))
theorem Hr:cw prog f26=some ⟨28,2,EZ.er,[.cell 4 true 2,.t 5],[some (.prod tI tI),some tI]⟩:=by kernel_rfl
noncomputable def Jv:Ht:=⟨26,UG,UH,(fun x=>ah (FH26_v1 x.1 x.2.1))⟩
theorem Hs:Jv.Ok prog:=bG mixed EY rfl func26 Hr (enters_of func26 rfl rfl) EZ (by kernel_rfl) rfl rfl ⟨_,rfl⟩ rfl (pre:=[0]) rfl (fun x=>by kernel_rfl)

/- 4 -/
noncomputable def cx4:Cx:=(aL [ct17,ct16,ZT] [YF,ht19,YQ,Ju,TS,Cj,ZQ,Jv])
theorem Hu:cx4.Ok prog:=av ⟨Uc,Ud,Ji,trivial⟩ ⟨⟨IL,rfl⟩,⟨Uf,rfl⟩,⟨IQ,rfl⟩,⟨Hp,rfl⟩,⟨B5,rfl⟩,⟨ym,rfl⟩,⟨Jf,rfl⟩,⟨Hs,rfl⟩,trivial⟩
@[reducible] def p4_0:ax:=ax.mk [(0,.c (.hole (.list tG))),(1,.c (.hole (.list .str))),(5,.c (.ptr 0 0)),(6,.c (.ptr 1 0)),(7,hI)] [(0,.cells [.mp 2] false),(1,.cells [.tf true,.hole (.list tG)] false),(2,.map tG true .bool false)] [.slot 5,.slot 6,.cell 0 0] []
@[reducible] def x4_0:aT:=[(.exit 0,ax.mk [(1,.c (.hole (.list .str))),(5,.c (.ptr 0 0)),(6,.c (.ptr 1 0))] [(0,.cells [.mp 2] false),(1,.cells [.tf true,.hole (.list tG)] false),(2,.map tG true .bool false)] [.slot 5,.slot 6,.cell 0 0] [])]
noncomputable def b4_0:D prog 119 none 0:=dO [] (pick (kd prog f4) [(0,false)]) 0
noncomputable def g4_0:(List (GG))×List ByteArray×Int×(List (GG))×(List ((GG)×Bool))×Unit→bJ (((List (GG))×List ByteArray×Int×(List (GG))×(List ((GG)×Bool))×Unit) ⊕ ((List ByteArray×(List (GG))×(List ((GG)×Bool))×Unit))):=fun (v0,v1,v7,UI,m2,_) =>
 .br (decide (v7<(((v0).length:Nat):Int))) (
 .nb v7 (((v0).length:Nat):Int) <|
 .bd (FH20 (((v0).getD (Int.toNat v7) ((bs []),(0:Int),(bs []),(bs []),(0:Int))).1,((v0).getD (Int.toNat v7) ((bs []),(0:Int),(bs []),(bs []),(0:Int))).2.1,((v0).getD (Int.toNat v7) ((bs []),(0:Int),(bs []),(bs []),(0:Int))).2.2.1,((v0).getD (Int.toNat v7) ((bs []),(0:Int),(bs []),(bs []),(0:Int))).2.2.2.1,((v0).getD (Int.toNat v7) ((bs []),(0:Int),(bs []),(bs []),(0:Int))).2.2.2.2) m2) fun y6 =>
 .nb v7 (((v0).length:Nat):Int) <|
 .bd (FH21_v1 (((v0).getD (Int.toNat v7) ((bs []),(0:Int),(bs []),(bs []),(0:Int))).1,((v0).getD (Int.toNat v7) ((bs []),(0:Int),(bs []),(bs []),(0:Int))).2.1,((v0).getD (Int.toNat v7) ((bs []),(0:Int),(bs []),(bs []),(0:Int))).2.2.1,((v0).getD (Int.toNat v7) ((bs []),(0:Int),(bs []),(bs []),(0:Int))).2.2.2.1,((v0).getD (Int.toNat v7) ((bs []),(0:Int),(bs []),(bs []),(0:Int))).2.2.2.2) UI) fun y7 =>
 .ni (v7+(1:Int)) <|
 .ret (.inl (v0,v1,(v7+(1:Int)),y7.2.1,y6.2.1,()))) (
 .ret (.inr (v1,UI,m2,())))
noncomputable def L4_0:bD prog 119 none 0:=aZ mixed cx4 Hu [] rfl p4_0 x4_0 rfl (b4_0) (fun x=>ah (g4_0 x)) (fun x=>by kernel_rfl)
@[reducible] def p4_1:ax:=ax.mk [(1,.c (.hole (.list .str))),(5,.c (.ptr 0 0)),(6,.c (.ptr 1 0)),(8,hI)] [(0,.cells [.mp 2] false),(1,.cells [.tf true,.hole (.list tG)] false),(2,.map tG true .bool false)] [.slot 5,.slot 6,.cell 0 0] []
@[reducible] def x4_1:aT:=[(.ret,ax.mk [(4,.c (.hole .bool))] [] [] []),(.exit 2,ax.mk [] [] [] [])]
noncomputable def b4_1:D prog 119 none 0:=dO [] (pick (kd prog f4) [(1,false)]) 0
noncomputable def g4_1:List ByteArray×Int×(List (GG))×(List ((GG)×Bool))×Unit→bJ ((List ByteArray×Int×(List (GG))×(List ((GG)×Bool))×Unit) ⊕ ((Bool×Unit) ⊕ ((Unit)))):=fun (v1,v8,UI,m2,_) =>
 .br (decide (v8<(((v1).length:Nat):Int))) (
 .nb v8 (((v1).length:Nat):Int) <|
 .br (decide ((60:Int)<((((v1).getD (Int.toNat v8) (bs [])).size:Nat):Int))) (
 .bd (F17) fun y9 =>
 .ret (.inr <| .inl<|(y9.1,()))) (
 .nb v8 (((v1).length:Nat):Int) <|
 .bd (FH23 ((v1).getD (Int.toNat v8) (bs [])) m2) fun PG =>
 .nb v8 (((v1).length:Nat):Int) <|
 .bd (FH24_v1 ((v1).getD (Int.toNat v8) (bs [])) UI) fun WI =>
 .nb v8 (((v1).length:Nat):Int) <|
 .bd (FH25 ((v1).getD (Int.toNat v8) (bs [])) PG.2.2.2.1) fun y12 =>
 .nb v8 (((v1).length:Nat):Int) <|
 .bd (FH26_v1 ((v1).getD (Int.toNat v8) (bs [])) WI.2.2.1) fun Jc =>
 .bd (F27 (((PG.2.2.1).drop (0:Nat)).take PG.1) WI.1) fun Pw =>
 .br (!Pw.1) (
 .ret (.inr <| .inl<|(false,()))) (
 .br (!(PG.2.1==WI.2.1)) (
 .ret (.inr <| .inl<|(false,()))) (
 .br (!((y12.1.1==Jc.1.1)&&((y12.1.2==Jc.1.2)&&true))) (
 .ret (.inr <| .inl<|(false,()))) (
 .br (!(y12.2.1==Jc.2.1)) (
 .ret (.inr <| .inl<|(false,()))) (
 .ni (v8+(1:Int)) <|
 .ret (.inl (v1,(v8+(1:Int)),Jc.2.2.1,y12.2.2.1,())))))))) (
 .ret (.inr <| .inr<|()))
noncomputable def L4_1:bD prog 119 none 0:=aZ mixed cx4 Hu [] rfl p4_1 x4_1 rfl (b4_1) (fun x=>ah (g4_1 x)) (fun x=>by kernel_rfl)
noncomputable def dd4:D prog 119 none 0:=dO [.l L4_0,.l L4_1] (kd prog f4) 0
noncomputable def F4 (a0:List (GG)) (a1:List ByteArray):bJ (Bool×Unit) :=
 .br (decide ((30:Int)<(((a0).length:Nat):Int))) (
 .bd (F17) fun y0 =>
 .ret (y0.1,())) (
 .br (decide ((4:Int)<(((a1).length:Nat):Int))) (
 .bd (F17) fun y1 =>
 .ret (y1.1,())) (
 .bd (F16 a0) fun y2 =>
 .br y2.1 (
 .bd (F17) fun y3 =>
 .ret (y3.1,())) (
 .bd (FH18) fun y4 =>
 .bd (FH19) fun y5 =>
 .bd (.it g4_0 (a0,a1,(0:Int),[],y4.1,())) fun z8 =>
 .bd (.it g4_1 (z8.1,(0:Int),z8.2.1,z8.2.2.1,())) fun z15 =>
 .sm z15 (fun z16 =>
 .ret (z16.1,())) fun z17 =>
 .bd (F17) fun y18 =>
 .ret (y18.1,()))))
theorem af1:cw prog f4=some ⟨119,2,dd4.er,[.t 4],[some .bool]⟩:=by kernel_rfl
noncomputable def ct4:Ct:=⟨4,[.c (.hole (.list tG)),.c (.hole (.list .str))],.c (.hole .bool),fun x=>ah (F4 x.1 x.2.1)⟩
theorem aaj:ct4.Ok prog:=cB mixed Hu func4 af1 (enters_of func4 rfl rfl) dd4 (by kernel_rfl) rfl (fun x=>by kernel_rfl)

end Go.Proofs.Tryz

