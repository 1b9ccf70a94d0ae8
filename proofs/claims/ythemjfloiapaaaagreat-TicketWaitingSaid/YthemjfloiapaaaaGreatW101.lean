/- Functions of the program as functions of data, part 2; printed by a program of mine. -/
import Derived.Test.YthemjfloiapaaaaGreatW100
import Derived.Test.YthemjfloiapaaaaGreatProg
set_option linter.unusedSectionVars false
set_option linter.unusedVariables false
set_option linter.unusedSimpArgs false
open Go.AM
namespace Go.Proofs.Tryz
set_option maxRecDepth 100000
set_option synthInstance.maxSize 4000
set_option synthInstance.maxHeartbeats 400000


/- 34 -/
noncomputable def ZB:Cx:=(aK [ct77] [])
theorem Cn:ZB.Ok prog:=av ⟨T0,trivial⟩ trivial
@[reducible] def aej:az:=az.mk [(0,.c (.hole (.list tG))),(3,.c (.ptr 0 0)),(4,.c (.cQ 1 tG)),(6,.c (.hole .bool)),(7,hI),(8,.c (.tf false)),(32,.c (.hole (.list tG))),(33,hI),(34,hI)] [(0,.cells [.hole .str,.hole tI,.hole .str,.hole .str,.hole tI] false),(1,.arr tG false)] [.slot 3,.slot 4] []
@[reducible] def aek:aX:=[(.exit 2,az.mk [(0,.c (.hole (.list tG))),(3,.c (.ptr 0 0)),(4,.c (.cQ 1 tG)),(6,.c (.hole .bool)),(7,hI),(8,.c (.hole .bool))] [(0,.cells [.hole .str,.hole tI,.hole .str,.hole .str,.hole tI] false),(1,.arr tG false)] [.slot 3,.slot 4] [])]
noncomputable def ael:D prog 56 none 0:=dO [] (pick (kd prog f34) [(0,false),(0,false)]) 0
noncomputable def g34_1:(List (GG))×Nat×Bool×Int×(List (GG))×Int×Int×ByteArray×Int×ByteArray×ByteArray×Int×(List (GG))×Unit→bU (((List (GG))×Nat×Bool×Int×(List (GG))×Int×Int×ByteArray×Int×ByteArray×ByteArray×Int×(List (GG))×Unit) ⊕ (((List (GG))×Nat×Bool×Int×Bool×ByteArray×Int×ByteArray×ByteArray×Int×(List (GG))×Unit))):=fun (v0,zo,v6,v7,v32,v33,Lk,aT,bZ,bh,b7,b8,b1,_) =>
 .br (decide (Lk<v33)) (
 .nb Lk (((v32).length:Nat):Int) <|
 .br (seq ((v32).getD (Int.toNat Lk) ((bs []),(0:Int),(bs []),(bs []),(0:Int))).1 bh) (
 .br (!(((v32).getD (Int.toNat Lk) ((bs []),(0:Int),(bs []),(bs []),(0:Int))).2.1==(3:Int))) (
 .ret (.inr (v0,zo,v6,v7,true,((v32).getD (Int.toNat Lk) ((bs []),(0:Int),(bs []),(bs []),(0:Int))).1,((v32).getD (Int.toNat Lk) ((bs []),(0:Int),(bs []),(bs []),(0:Int))).2.1,((v32).getD (Int.toNat Lk) ((bs []),(0:Int),(bs []),(bs []),(0:Int))).2.2.1,((v32).getD (Int.toNat Lk) ((bs []),(0:Int),(bs []),(bs []),(0:Int))).2.2.2.1,((v32).getD (Int.toNat Lk) ((bs []),(0:Int),(bs []),(bs []),(0:Int))).2.2.2.2,b1,()))) (
 .ni (Lk+(1:Int)) <|
 .ret (.inl (v0,zo,v6,v7,v32,v33,(Lk+(1:Int)),aT,bZ,bh,b7,b8,b1,())))) (
 .ni (Lk+(1:Int)) <|
 .ret (.inl (v0,zo,v6,v7,v32,v33,(Lk+(1:Int)),aT,bZ,bh,b7,b8,b1,())))) (
 .ret (.inr (v0,zo,v6,v7,false,aT,bZ,bh,b7,b8,b1,())))
noncomputable def aem:cn prog 56 none 0:=bR mixed ZB Cn [] rfl aej aek rfl (ael) (fun x=>ak (g34_1 x)) (fun x=>by kernel_rfl)
@[reducible] def aen:az:=az.mk [(0,.c (.hole (.list tG))),(3,.c (.ptr 0 0)),(4,.c (.cQ 1 tG)),(6,.c (.hole .bool)),(7,hI)] [(0,.cells [.hole .str,.hole tI,.hole .str,.hole .str,.hole tI] false),(1,.arr tG false)] [.slot 3,.slot 4] []
@[reducible] def aeo:aX:=[(.ret,az.mk [(4,.c (.cQ 0 tG)),(5,.c (.hole .bool)),(6,.c (.hole .bool))] [(0,.arr tG false)] [.slot 4] []),(.exit 0,az.mk [(4,.c (.cQ 0 tG)),(6,.c (.hole .bool))] [(0,.arr tG false)] [.slot 4] [])]
noncomputable def aep:D prog 56 none 0:=dO [.l aem] (pick (kd prog f34) [(0,false)]) 0
noncomputable def g34_0:(List (GG))×Nat×Bool×Int×ByteArray×Int×ByteArray×ByteArray×Int×(List (GG))×Unit→bU (((List (GG))×Nat×Bool×Int×ByteArray×Int×ByteArray×ByteArray×Int×(List (GG))×Unit) ⊕ ((Nat×Bool×Bool×(List (GG))×Unit) ⊕ ((Nat×Bool×(List (GG))×Unit)))):=fun (v0,zo,v6,v7,aT,bZ,bh,b7,b8,b1,_) =>
 .br (decide (v7<(9:Int))) (
 .nd (decide ((zo+((((((aT,bZ,bh,b7,b8)::[])).drop (0:Nat)).take (1:Nat))).length)<cu)) <|
 .br (bZ==(1:Int)) (
 .ret (.inr <| .inl<|((zo+((((((aT,bZ,bh,b7,b8)::[])).drop (0:Nat)).take (1:Nat))).length),(!v6),v6,((((b1).drop (0:Nat)).take zo)++(((((aT,bZ,bh,b7,b8)::[])).drop (0:Nat)).take (1:Nat))),()))) (
 .br v6 (
 .bd (.it g34_1 (v0,(zo+((((((aT,bZ,bh,b7,b8)::[])).drop (0:Nat)).take (1:Nat))).length),true,v7,v0,(((v0).length:Nat):Int),(0:Int),aT,bZ,bh,b7,b8,((((b1).drop (0:Nat)).take zo)++(((((aT,bZ,bh,b7,b8)::[])).drop (0:Nat)).take (1:Nat))),())) fun z0 =>
 .br (!z0.2.2.2.2.1) (
 .ret (.inr <| .inl<|(z0.2.1,false,z0.2.2.1,z0.2.2.2.2.2.2.2.2.2.2.1,()))) (
 .ni (z0.2.2.2.1+(1:Int)) <|
 .ret (.inl (z0.1,z0.2.1,z0.2.2.1,(z0.2.2.2.1+(1:Int)),z0.2.2.2.2.2.1,z0.2.2.2.2.2.2.1,z0.2.2.2.2.2.2.2.1,z0.2.2.2.2.2.2.2.2.1,z0.2.2.2.2.2.2.2.2.2.1,z0.2.2.2.2.2.2.2.2.2.2.1,())))) (
 .bd (F77 v0 (aT,bZ,bh,b7,b8)) fun y1 =>
 .bd (.it g34_1 (v0,(zo+((((((aT,bZ,bh,b7,b8)::[])).drop (0:Nat)).take (1:Nat))).length),y1.1,v7,v0,(((v0).length:Nat):Int),(0:Int),aT,bZ,bh,b7,b8,((((b1).drop (0:Nat)).take zo)++(((((aT,bZ,bh,b7,b8)::[])).drop (0:Nat)).take (1:Nat))),())) fun z2 =>
 .br (!z2.2.2.2.2.1) (
 .ret (.inr <| .inl<|(z2.2.1,false,z2.2.2.1,z2.2.2.2.2.2.2.2.2.2.2.1,()))) (
 .ni (z2.2.2.2.1+(1:Int)) <|
 .ret (.inl (z2.1,z2.2.1,z2.2.2.1,(z2.2.2.2.1+(1:Int)),z2.2.2.2.2.2.1,z2.2.2.2.2.2.2.1,z2.2.2.2.2.2.2.2.1,z2.2.2.2.2.2.2.2.2.1,z2.2.2.2.2.2.2.2.2.2.1,z2.2.2.2.2.2.2.2.2.2.2.1,())))))) (
 .ret (.inr <| .inr<|(zo,v6,b1,())))
noncomputable def aeq:cn prog 56 none 0:=bR mixed ZB Cn [] rfl aen aeo rfl (aep) (fun x=>ak (g34_0 x)) (fun x=>by kernel_rfl)
noncomputable def dd34:D prog 56 none 0:=dO [.l aeq] (kd prog f34) 0
noncomputable def F34 (a0:List (GG)) (a1:GG):bU ((List (GG))×Bool×Bool×Unit) :=
 .bd (.it g34_0 (a0,(0:Nat),false,(0:Int),a1.1,a1.2.1,a1.2.2.1,a1.2.2.2.1,a1.2.2.2.2,[],())) fun z3 =>
 .sm z3 (fun z4 =>
 .ret ((((z4.2.2.2.1).drop (0:Nat)).take z4.1),z4.2.1,z4.2.2.1,())) fun z5 =>
 .ret ((((z5.2.2.1).drop (0:Nat)).take z5.1),false,z5.2.1,())
theorem ZC:cM prog f34=some ⟨56,2,dd34.er,[.t 4,.t 5,.t 6],[some (.list tG),some .bool,some .bool]⟩:=by kernel_rfl
noncomputable def ct34:Ct:=⟨34,[.c (.hole (.list tG)),.c (.hole tG)],.cK [.hole (.list tG),.hole .bool,.hole .bool],fun x=>ak (F34 x.1 x.2.1)⟩
theorem T1:ct34.Ok prog:=cT mixed Cn func34 ZC (enters_of func34 rfl rfl) dd34 (by kernel_rfl) rfl (fun x=>by kernel_rfl)

/- 38 -/
noncomputable def cx38:Cx:=(aK [] [])
theorem T2:cx38.Ok prog:=av trivial trivial
noncomputable def dd38:D prog 2 none 0:=dO [] (kd prog f38) 0
noncomputable def F38:bU (List ByteArray×Unit) :=
 .ret ((((((bs [120])::((bs [121])::((bs [122])::[])))).drop (0:Nat)).take (3:Nat)),())
theorem ZD:cM prog f38=some ⟨2,0,dd38.er,[.t 0],[some (.list .str)]⟩:=by kernel_rfl
noncomputable def ct38:Ct:=⟨38,[],.c (.hole (.list .str)),fun x=>ak (F38)⟩
theorem T3:ct38.Ok prog:=cT mixed T2 func38 ZD (enters_of func38 rfl rfl) dd38 (by kernel_rfl) rfl (fun x=>by kernel_rfl)

/- 41, lent -/
@[reducible] def pH41:az:=az.mk [(0,.c (.ptr 0 0)),(1,.c (.ptr 1 0))] [(0,.cells [.mp 2] false),(1,.cells [.mp 3] false),(2,.map tG true .bool false),(3,.map tG true .bool false)] [.slot 0,.slot 1,.cell 0 0,.cell 1 0] []
@[reducible] def qH41:az:=az.mk [(0,.c (.hole .bool))] [(0,.cells [.mp 2] false),(2,.map tG true .bool false),(1,.cells [.mp 3] false),(3,.map tG true .bool false)] [] []
noncomputable def V7:Cx:=(aK [ct38,Zi] [TA,Ze])
theorem EO:V7.Ok prog:=av ⟨T3,I8,trivial⟩ ⟨⟨Ca,rfl⟩,⟨I4,rfl⟩,trivial⟩
@[reducible] def ZE:az:=az.mk [(0,.c (.ptr 0 0)),(1,.c (.ptr 1 0)),(15,.c (.hole (.list .str))),(16,hI),(17,hI)] [(0,.cells [.mp 2] false),(1,.cells [.mp 3] false),(2,.map tG true .bool false),(3,.map tG true .bool false)] [] []
@[reducible] def ZF:aX:=[(.ret,az.mk [(4,.c (.tf false))] [(0,.cells [.mp 2] false),(2,.map tG true .bool false),(1,.cells [.mp 3] false),(3,.map tG true .bool false)] [] []),(.exit 0,az.mk [(0,.c (.ptr 0 0)),(1,.c (.ptr 1 0))] [(0,.cells [.mp 2] false),(1,.cells [.mp 3] false),(2,.map tG true .bool false),(3,.map tG true .bool false)] [] [])]
noncomputable def ZG:D prog 61 none 4:=dO [] (pick (kd prog f41) [(0,false)]) 0
noncomputable def gH41_0:List ByteArray×Int×Int×(List ((GG)×Bool))×(List ((GG)×Bool))×Unit→bU ((List ByteArray×Int×Int×(List ((GG)×Bool))×(List ((GG)×Bool))×Unit) ⊕ (((List ((GG)×Bool))×(List ((GG)×Bool))×Unit) ⊕ (((List ((GG)×Bool))×(List ((GG)×Bool))×Unit)))):=fun (aI,uK,v17,m2,m3,_) =>
 .br (decide (v17<uK)) (
 .nb v17 (((aI).length:Nat):Int) <|
 .bd (FH23 ((aI).getD (Int.toNat v17) (bs [])) m2) fun y1 =>
 .bd (FH23 ((aI).getD (Int.toNat v17) (bs [])) m3) fun y2 =>
 .bd (F27 (((y1.2.2.1).drop (0:Nat)).take y1.1) (((y2.2.2.1).drop (0:Nat)).take y2.1)) fun y3 =>
 .br (!y3.1) (
 .ret (.inr <| .inl<|(y1.2.2.2.1,y2.2.2.2.1,()))) (
 .br (!(y1.2.1==y2.2.1)) (
 .ret (.inr <| .inl<|(y1.2.2.2.1,y2.2.2.2.1,()))) (
 .ni (v17+(1:Int)) <|
 .ret (.inl (aI,uK,(v17+(1:Int)),y1.2.2.2.1,y2.2.2.2.1,()))))) (
 .ret (.inr <| .inr<|(m2,m3,())))
noncomputable def ZH:cn prog 61 none 4:=bR mixed V7 EO [0,1,2,3] rfl ZE ZF rfl (ZG) (fun x=>ak (gH41_0 x)) (fun x=>by kernel_rfl)
noncomputable def V8:D prog 61 none 4:=dO [.l ZH] (kd prog f41) 0
noncomputable def FH41 (m2:List ((GG)×Bool)) (m3:List ((GG)×Bool)):bU (Bool×(List ((GG)×Bool))×(List ((GG)×Bool))×Unit) :=
 .bd (F38) fun y0 =>
 .bd (.it gH41_0 (y0.1,(((y0.1).length:Nat):Int),(0:Int),m2,m3,())) fun z4 =>
 .sm z4 (fun z5 =>
 .ret (false,z5.1,z5.2.1,())) fun z6 =>
 .bd (FH37 z6.1) fun y7 =>
 .bd (FH37 z6.2.1) fun y8 =>
 .br ((y7.1.1==y8.1.1)&&((y7.1.2==y8.1.2)&&true)) (
 .ret ((y7.2.1==y8.2.1),y7.2.2.1,y8.2.2.1,())) (
 .ret (false,y7.2.2.1,y8.2.2.1,()))
theorem T4:cM prog f41=some ⟨61,2,V8.er,[.t 4],[some .bool]⟩:=by kernel_rfl
noncomputable def ht41:Ht:=⟨41,pH41,qH41,(fun x=>ak (FH41 x.1 x.2.1))⟩
theorem T5:ht41.Ok prog:=bL mixed EO rfl func41 T4 (enters_of func41 rfl rfl) V8 (by kernel_rfl) rfl rfl ⟨_,rfl⟩ rfl (pre:=[0,1,2,3]) rfl (fun x=>by kernel_rfl)

/- 30, lent -/
@[reducible] def pH30:az:=az.mk [(0,.c (.hole (.list tG)))] [] [] []
@[reducible] def qH30:az:=az.mk [(0,.c (.cQ 0 tG))] [(0,.arr tG false)] [.slot 0] []
noncomputable def PA:Cx:=(aK [Zy] [])
theorem yj:PA.Ok prog:=av ⟨Ji,trivial⟩ trivial
@[reducible] def ZI:az:=az.mk [(0,.c (.hole (.list tG))),(3,.c (.cQ 0 tG)),(5,.c (.hole .str)),(6,.c (.ptr 1 0)),(9,.c (.hole (.list .str))),(10,hI),(11,hI),(15,.c (.hole (.list tG))),(16,hI),(17,hI)] [(0,.arr tG false),(1,.cells [.hole .str,.hole tI,.hole .str,.hole .str,.hole tI] false)] [.slot 3,.slot 6] []
@[reducible] def ZJ:aX:=[(.exit 2,az.mk [(0,.c (.hole (.list tG))),(3,.c (.cQ 0 tG)),(6,.c (.ptr 1 0)),(9,.c (.hole (.list .str))),(10,hI),(11,hI)] [(0,.arr tG false),(1,.cells [.hole .str,.hole tI,.hole .str,.hole .str,.hole tI] false)] [.slot 3,.slot 6] [])]
noncomputable def ZK:D prog 90 none 0:=dO [] (pick (kd prog f30) [(0,false),(0,false)]) 0
noncomputable def gH30_1:(List (GG))×Nat×ByteArray×List ByteArray×Int×Int×(List (GG))×Int×Int×(List (GG))×ByteArray×Int×ByteArray×ByteArray×Int×Unit→bU (((List (GG))×Nat×ByteArray×List ByteArray×Int×Int×(List (GG))×Int×Int×(List (GG))×ByteArray×Int×ByteArray×ByteArray×Int×Unit) ⊕ (((List (GG))×Nat×List ByteArray×Int×Int×(List (GG))×ByteArray×Int×ByteArray×ByteArray×Int×Unit))):=fun (v0,AE,v5,v9,v10,v11,aI,uK,v17,b0,iK,tF,uS,uT,yh,_) =>
 .br (decide (v17<uK)) (
 .nb v17 (((aI).length:Nat):Int) <|
 .br (seq ((aI).getD (Int.toNat v17) ((bs []),(0:Int),(bs []),(bs []),(0:Int))).1 v5) (
 .br (tF==(0:Int)) (
 .ni (v17+(1:Int)) <|
 .ret (.inl (v0,AE,v5,v9,v10,v11,aI,uK,(v17+(1:Int)),b0,((aI).getD (Int.toNat v17) ((bs []),(0:Int),(bs []),(bs []),(0:Int))).1,((aI).getD (Int.toNat v17) ((bs []),(0:Int),(bs []),(bs []),(0:Int))).2.1,((aI).getD (Int.toNat v17) ((bs []),(0:Int),(bs []),(bs []),(0:Int))).2.2.1,((aI).getD (Int.toNat v17) ((bs []),(0:Int),(bs []),(bs []),(0:Int))).2.2.2.1,((aI).getD (Int.toNat v17) ((bs []),(0:Int),(bs []),(bs []),(0:Int))).2.2.2.2,()))) (
 .br (decide (((aI).getD (Int.toNat v17) ((bs []),(0:Int),(bs []),(bs []),(0:Int))).2.1<tF)) (
 .ni (v17+(1:Int)) <|
 .ret (.inl (v0,AE,v5,v9,v10,v11,aI,uK,(v17+(1:Int)),b0,((aI).getD (Int.toNat v17) ((bs []),(0:Int),(bs []),(bs []),(0:Int))).1,((aI).getD (Int.toNat v17) ((bs []),(0:Int),(bs []),(bs []),(0:Int))).2.1,((aI).getD (Int.toNat v17) ((bs []),(0:Int),(bs []),(bs []),(0:Int))).2.2.1,((aI).getD (Int.toNat v17) ((bs []),(0:Int),(bs []),(bs []),(0:Int))).2.2.2.1,((aI).getD (Int.toNat v17) ((bs []),(0:Int),(bs []),(bs []),(0:Int))).2.2.2.2,()))) (
 .br (((aI).getD (Int.toNat v17) ((bs []),(0:Int),(bs []),(bs []),(0:Int))).2.1==tF) (
 .br (slt ((aI).getD (Int.toNat v17) ((bs []),(0:Int),(bs []),(bs []),(0:Int))).2.2.1 uS) (
 .ni (v17+(1:Int)) <|
 .ret (.inl (v0,AE,v5,v9,v10,v11,aI,uK,(v17+(1:Int)),b0,((aI).getD (Int.toNat v17) ((bs []),(0:Int),(bs []),(bs []),(0:Int))).1,((aI).getD (Int.toNat v17) ((bs []),(0:Int),(bs []),(bs []),(0:Int))).2.1,((aI).getD (Int.toNat v17) ((bs []),(0:Int),(bs []),(bs []),(0:Int))).2.2.1,((aI).getD (Int.toNat v17) ((bs []),(0:Int),(bs []),(bs []),(0:Int))).2.2.2.1,((aI).getD (Int.toNat v17) ((bs []),(0:Int),(bs []),(bs []),(0:Int))).2.2.2.2,()))) (
 .br (seq ((aI).getD (Int.toNat v17) ((bs []),(0:Int),(bs []),(bs []),(0:Int))).2.2.1 uS) (
 .br (slt ((aI).getD (Int.toNat v17) ((bs []),(0:Int),(bs []),(bs []),(0:Int))).2.2.2.1 uT) (
 .ni (v17+(1:Int)) <|
 .ret (.inl (v0,AE,v5,v9,v10,v11,aI,uK,(v17+(1:Int)),b0,((aI).getD (Int.toNat v17) ((bs []),(0:Int),(bs []),(bs []),(0:Int))).1,((aI).getD (Int.toNat v17) ((bs []),(0:Int),(bs []),(bs []),(0:Int))).2.1,((aI).getD (Int.toNat v17) ((bs []),(0:Int),(bs []),(bs []),(0:Int))).2.2.1,((aI).getD (Int.toNat v17) ((bs []),(0:Int),(bs []),(bs []),(0:Int))).2.2.2.1,((aI).getD (Int.toNat v17) ((bs []),(0:Int),(bs []),(bs []),(0:Int))).2.2.2.2,()))) (
 .br (seq ((aI).getD (Int.toNat v17) ((bs []),(0:Int),(bs []),(bs []),(0:Int))).2.2.2.1 uT) (
 .br (decide (((aI).getD (Int.toNat v17) ((bs []),(0:Int),(bs []),(bs []),(0:Int))).2.2.2.2<yh)) (
 .ni (v17+(1:Int)) <|
 .ret (.inl (v0,AE,v5,v9,v10,v11,aI,uK,(v17+(1:Int)),b0,((aI).getD (Int.toNat v17) ((bs []),(0:Int),(bs []),(bs []),(0:Int))).1,((aI).getD (Int.toNat v17) ((bs []),(0:Int),(bs []),(bs []),(0:Int))).2.1,((aI).getD (Int.toNat v17) ((bs []),(0:Int),(bs []),(bs []),(0:Int))).2.2.1,((aI).getD (Int.toNat v17) ((bs []),(0:Int),(bs []),(bs []),(0:Int))).2.2.2.1,((aI).getD (Int.toNat v17) ((bs []),(0:Int),(bs []),(bs []),(0:Int))).2.2.2.2,()))) (
 .ni (v17+(1:Int)) <|
 .ret (.inl (v0,AE,v5,v9,v10,v11,aI,uK,(v17+(1:Int)),b0,iK,tF,uS,uT,yh,())))) (
 .ni (v17+(1:Int)) <|
 .ret (.inl (v0,AE,v5,v9,v10,v11,aI,uK,(v17+(1:Int)),b0,iK,tF,uS,uT,yh,()))))) (
 .ni (v17+(1:Int)) <|
 .ret (.inl (v0,AE,v5,v9,v10,v11,aI,uK,(v17+(1:Int)),b0,iK,tF,uS,uT,yh,()))))) (
 .ni (v17+(1:Int)) <|
 .ret (.inl (v0,AE,v5,v9,v10,v11,aI,uK,(v17+(1:Int)),b0,iK,tF,uS,uT,yh,())))))) (
 .ni (v17+(1:Int)) <|
 .ret (.inl (v0,AE,v5,v9,v10,v11,aI,uK,(v17+(1:Int)),b0,iK,tF,uS,uT,yh,())))) (
 .ret (.inr (v0,AE,v9,v10,v11,b0,iK,tF,uS,uT,yh,())))
noncomputable def ZL:cn prog 90 none 0:=bR mixed PA yj [] rfl ZI ZJ rfl (ZK) (fun x=>ak (gH30_1 x)) (fun x=>by kernel_rfl)
@[reducible] def ZM:az:=az.mk [(0,.c (.hole (.list tG))),(3,.c (.cQ 0 tG)),(9,.c (.hole (.list .str))),(10,hI),(11,hI)] [(0,.arr tG false)] [.slot 3] []
@[reducible] def ZN:aX:=[(.exit 0,az.mk [(3,.c (.cQ 0 tG))] [(0,.arr tG false)] [.slot 3] [])]
noncomputable def ZO:D prog 90 none 0:=dO [.l ZL] (pick (kd prog f30) [(0,false)]) 0
noncomputable def gH30_0:(List (GG))×Nat×List ByteArray×Int×Int×(List (GG))×Unit→bU (((List (GG))×Nat×List ByteArray×Int×Int×(List (GG))×Unit) ⊕ ((Nat×(List (GG))×Unit))):=fun (v0,AE,v9,v10,v11,b0,_) =>
 .br (decide (v11<v10)) (
 .nb v11 (((v9).length:Nat):Int) <|
 .bd (.it gH30_1 (v0,AE,((v9).getD (Int.toNat v11) (bs [])),v9,v10,v11,v0,(((v0).length:Nat):Int),(0:Int),b0,(bs []),(0:Int),(bs []),(bs []),(0:Int),())) fun z1 =>
 .br (decide ((0:Int)<z1.2.2.2.2.2.2.2.1)) (
 .nd (decide ((z1.2.1+((((((z1.2.2.2.2.2.2.1,z1.2.2.2.2.2.2.2.1,z1.2.2.2.2.2.2.2.2.1,z1.2.2.2.2.2.2.2.2.2.1,z1.2.2.2.2.2.2.2.2.2.2.1)::[])).drop (0:Nat)).take (1:Nat))).length)<cu)) <|
 .ni (z1.2.2.2.2.1+(1:Int)) <|
 .ret (.inl (z1.1,(z1.2.1+((((((z1.2.2.2.2.2.2.1,z1.2.2.2.2.2.2.2.1,z1.2.2.2.2.2.2.2.2.1,z1.2.2.2.2.2.2.2.2.2.1,z1.2.2.2.2.2.2.2.2.2.2.1)::[])).drop (0:Nat)).take (1:Nat))).length),z1.2.2.1,z1.2.2.2.1,(z1.2.2.2.2.1+(1:Int)),((((z1.2.2.2.2.2.1).drop (0:Nat)).take z1.2.1)++(((((z1.2.2.2.2.2.2.1,z1.2.2.2.2.2.2.2.1,z1.2.2.2.2.2.2.2.2.1,z1.2.2.2.2.2.2.2.2.2.1,z1.2.2.2.2.2.2.2.2.2.2.1)::[])).drop (0:Nat)).take (1:Nat))),()))) (
 .ni (z1.2.2.2.2.1+(1:Int)) <|
 .ret (.inl (z1.1,z1.2.1,z1.2.2.1,z1.2.2.2.1,(z1.2.2.2.2.1+(1:Int)),z1.2.2.2.2.2.1,())))) (
 .ret (.inr (AE,b0,())))
noncomputable def ZP:cn prog 90 none 0:=bR mixed PA yj [] rfl ZM ZN rfl (ZO) (fun x=>ak (gH30_0 x)) (fun x=>by kernel_rfl)
noncomputable def V9:D prog 90 none 0:=dO [.l ZP] (kd prog f30) 0
noncomputable def FH30 (v0:List (GG)):bU (Nat×(List (GG))×Unit) :=
 .bd (F31) fun y0 =>
 .bd (.it gH30_0 (v0,(0:Nat),y0.1,(((y0.1).length:Nat):Int),(0:Int),[],())) fun z2 =>
 .ret (z2.1,z2.2.1,())
theorem T6:cM prog f30=some ⟨90,1,V9.er,[.t 2],[some (.list tG)]⟩:=by kernel_rfl
noncomputable def ht30:Ht:=⟨30,pH30,qH30,(fun x=>ak (FH30 x.1))⟩
theorem T7:ht30.Ok prog:=bL mixed yj rfl func30 T6 (enters_of func30 rfl rfl) V9 (by kernel_rfl) rfl rfl ⟨_,rfl⟩ rfl (pre:=[]) rfl (fun x=>by kernel_rfl)

/- 10 -/
noncomputable def cx10:Cx:=(aK [ct28,Zv,XX,Zt,ct34,ct17,Zg,Zy] [ht30,Yg,X9,Zo,YV,ht41,YW])
theorem Jj:cx10.Ok prog:=av ⟨TW,Jg,Iv,Jf,T1,TT,I6,Ji,trivial⟩ ⟨⟨T7,rfl⟩,⟨IA,rfl⟩,⟨Iz,rfl⟩,⟨Je,rfl⟩,⟨IV,rfl⟩,⟨T5,rfl⟩,⟨IW,rfl⟩,trivial⟩
@[reducible] def aey:az:=az.mk [(2,.c (.hole .bool)),(13,.c (.ptr 0 0)),(14,.c (.ptr 1 0)),(69,.c (.hole (.list .str))),(70,hI),(71,hI)] [(0,.cells [.mp 2] false),(1,.cells [.mp 3] false),(2,.map tG true .bool false),(3,.map tG true .bool false)] [.slot 13,.slot 14,.cell 0 0,.cell 1 0] []
@[reducible] def aez:aX:=[(.ret,az.mk [(6,.c (.tf false))] [] [] []),(.exit 0,az.mk [(2,.c (.hole .bool)),(13,.c (.ptr 0 0)),(14,.c (.ptr 1 0))] [(0,.cells [.mp 2] false),(1,.cells [.mp 3] false),(2,.map tG true .bool false),(3,.map tG true .bool false)] [.slot 13,.slot 14,.cell 0 0,.cell 1 0] [])]
noncomputable def aeA:D prog 110 none 0:=dO [] (pick (kd prog f10) [(0,false)]) 0
noncomputable def g10_0:Bool×List ByteArray×Int×Int×(List ((GG)×Bool))×(List ((GG)×Bool))×Unit→bU ((Bool×List ByteArray×Int×Int×(List ((GG)×Bool))×(List ((GG)×Bool))×Unit) ⊕ ((Unit) ⊕ ((Bool×(List ((GG)×Bool))×(List ((GG)×Bool))×Unit)))):=fun (v2,v69,v70,v71,m2,m3,_) =>
 .br (decide (v71<v70)) (
 .nb v71 (((v69).length:Nat):Int) <|
 .bd (FH33 ((v69).getD (Int.toNat v71) (bs [])) m3) fun y21 =>
 .bd (FH33 ((v69).getD (Int.toNat v71) (bs [])) m2) fun Zp =>
 .bd (F36 (((y21.2.2.1).drop (0:Nat)).take y21.1) (((Zp.2.2.1).drop (0:Nat)).take Zp.1)) fun y23 =>
 .br (!y23.1) (
 .ret (.inr <| .inl<|())) (
 .br (!(y21.2.1==Zp.2.1)) (
 .ret (.inr <| .inl<|())) (
 .ni (v71+(1:Int)) <|
 .ret (.inl (v2,v69,v70,(v71+(1:Int)),Zp.2.2.2.1,y21.2.2.2.1,()))))) (
 .ret (.inr <| .inr<|(v2,m2,m3,())))
noncomputable def aeB:cn prog 110 none 0:=bR mixed cx10 Jj [] rfl aey aez rfl (aeA) (fun x=>ak (g10_0 x)) (fun x=>by kernel_rfl)
noncomputable def dd10:D prog 110 none 0:=dO [.l aeB] (kd prog f10) 0
noncomputable def F10 (a0:List (Int×Int×Int×Int)) (a1:Int×Int×Int×Int) (a2:Bool):bU (Bool×Unit) :=
 .bd (F28 a0) fun y0 =>
 .bd (FH30 y0.1) fun y1 =>
 .bd (F44 ((((a1.1::(a1.2.1::(a1.2.2.1::(a1.2.2.2::[]))))).getD (0:Nat) (0:Int)),(((a1.1::(a1.2.1::(a1.2.2.1::(a1.2.2.2::[]))))).getD (1:Nat) (0:Int)),(((a1.1::(a1.2.1::(a1.2.2.1::(a1.2.2.2::[]))))).getD (2:Nat) (0:Int)),(((a1.1::(a1.2.1::(a1.2.2.1::(a1.2.2.2::[]))))).getD (3:Nat) (0:Int)))) fun y2 =>
 .jx (
 .br a2 (
 .bd (F39 (bs [110,101,119]) (bs [110,111,110,101])) fun y9 =>
 .ret (.inl (a2,y0.1,y9.1.1,y9.1.2.1,y9.1.2.2.1,y9.1.2.2.2.1,y9.1.2.2.2.2,()))) (
 .nd (decide ((1:Nat)<((a1.1::(a1.2.1::(a1.2.2.1::(a1.2.2.2::[]))))).length)) <|
 .ni (((a1.1::(a1.2.1::(a1.2.2.1::(a1.2.2.2::[]))))).getD (1:Nat) (0:Int)) <|
 .nd (!((8:Int)==(0:Int))) <|
 .bd (F43 (97:Int) (Int.tmod (((a1.1::(a1.2.1::(a1.2.2.1::(a1.2.2.2::[]))))).getD (1:Nat) (0:Int)) (8:Int))) fun LL =>
 .nd (decide ((y1.1+(((((((bs [110,101,119]),(2:Int),LL.1,(bs [120]),y2.1.2.2.2.2)::[])).drop (0:Nat)).take (1:Nat))).length)<cu)) <|
 .bd (F34 (((((((y1.2.1).drop (0:Nat)).take y1.1)++((((((bs [110,101,119]),(2:Int),LL.1,(bs [120]),y2.1.2.2.2.2)::[])).drop (0:Nat)).take (1:Nat)))).drop (0:Nat)).take (y1.1+(((((((bs [110,101,119]),(2:Int),LL.1,(bs [120]),y2.1.2.2.2.2)::[])).drop (0:Nat)).take (1:Nat))).length)) ((bs [110,101,119]),(2:Int),LL.1,(bs [120]),y2.1.2.2.2.2)) fun Zn =>
 .br Zn.2.1 (
 .bd (F17) fun y12 =>
 .ret (.inr (y12.1,()))) (
 .br Zn.2.2.1 (
 .bd (F17) fun Za =>
 .ret (.inr (Za.1,()))) (
 .ret (.inl (a2,y0.1,(bs [110,101,119]),(2:Int),LL.1,(bs [120]),y2.1.2.2.2.2,())))))) fun j8 =>
 .bd (FH29 j8.2.1) fun K3 =>
 .bd (FH29 j8.2.1) fun y15 =>
 .bd (FH20 (j8.2.2.1,j8.2.2.2.1,j8.2.2.2.2.1,j8.2.2.2.2.2.1,j8.2.2.2.2.2.2.1) K3.1) fun V5 =>
 .br (!(V5.1==(0:Int))) (
 .ret (false,())) (
 .bd (FH45 V5.2.1) fun Qy =>
 .bd (FH45 y15.1) fun Qz =>
 .bd (F36 (((Qy.2.1).drop (0:Nat)).take Qy.1) (((Qz.2.1).drop (0:Nat)).take Qz.1)) fun y19 =>
 .br (!y19.1) (
 .ret (false,())) (
 .bd (F31) fun V6 =>
 .bd (.it g10_0 (j8.1,V6.1,(((V6.1).length:Nat):Int),(0:Int),Qy.2.2.1,Qz.2.2.1,())) fun z24 =>
 .sm z24 (fun z25 =>
 .ret (false,())) fun z26 =>
 .br z26.1 (
 .bd (FH41 z26.2.1 z26.2.2.1) fun y27 =>
 .br y27.1 (
 .bd (F17) fun y28 =>
 .ret (y28.1,())) (
 .ret (false,()))) (
 .bd (FH40 (bs [110,101,119]) (1:Int) z26.2.1) fun y29 =>
 .br y29.1 (
 .bd (FH41 y29.2.1 z26.2.2.1) fun y30 =>
 .br y30.1 (
 .bd (F17) fun y31 =>
 .ret (y31.1,())) (
 .ret (false,()))) (
 .ret (false,())))))
theorem ZQ:cM prog f10=some ⟨110,3,dd10.er,[.t 6],[some .bool]⟩:=by kernel_rfl
noncomputable def ct10:Ct:=⟨10,[.c (.hole (.list (.prod (.int .u8) (.prod (.int .u8) (.prod (.int .u8) (.int .u8)))))),.c (.hole (.prod (.int .u8) (.prod (.int .u8) (.prod (.int .u8) (.int .u8))))),.c (.hole .bool)],.c (.hole .bool),fun x=>ak (F10 x.1 x.2.1 x.2.2.1)⟩
theorem T8:ct10.Ok prog:=cT mixed Jj func10 ZQ (enters_of func10 rfl rfl) dd10 (by kernel_rfl) rfl (fun x=>Eq.trans (b:=ak (flat (F10 x.1 x.2.1 x.2.2.1))) (by kernel_rfl) NJ)

end Go.Proofs.Tryz

