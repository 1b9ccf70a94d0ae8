/- Functions of the program as functions of data, part 2; printed by a program of mine. -/
import Derived.Test.YthemjfloiapaaaaGreatW30
import Derived.Test.YthemjfloiapaaaaGreatProg
set_option linter.unusedSectionVars false
set_option linter.unusedVariables false
set_option linter.unusedSimpArgs false
open Go.AM
namespace Go.Proofs.Tryz
set_option maxRecDepth 100000
set_option synthInstance.maxSize 4000
set_option synthInstance.maxHeartbeats 400000


/- 94, lent -/
abbrev cn:av:=av.mk [(0,.c (.hole (.list tG))),(1,hL),(2,hI)] [] [] []
abbrev cq:av:=av.mk [(0,.c (.bH 0 tI))] [(0,.arr tI false)] [.slot 0] []
noncomputable def zn (rec:cn.T->Option cq.T):Cx:=(aL [] [⟨94,cn,cq,rec⟩])
theorem vw (rec:cn.T->Option cq.T) (h:Ht.Ok prog ⟨94,cn,cq,rec⟩):(zn rec).Ok prog:=au trivial ⟨⟨h,rfl⟩,trivial⟩
abbrev uK:av:=av.mk [(0,.c (.hole (.list tG))),(1,hL),(2,hI),(7,.c (.bH 0 tI)),(8,hI)] [(0,.arr tI false)] [.slot 7] []
abbrev uL:aU:=[(.exit 0,av.mk [(7,.c (.bH 0 tI))] [(0,.arr tI false)] [.slot 7] [])]
noncomputable def Bs (rec:cn.T->Option cq.T) (h:Ht.Ok prog ⟨94,cn,cq,rec⟩):D prog 62 none 0:=dO [] (pick (kd prog f94) [(0,false)]) 0
noncomputable def gH94_v1_0:bJ×List Int×Int×Nat×Int×List Int×Unit->Tr cn.T cq.T ((bJ×List Int×Int×Nat×Int×List Int×Unit) ⊕ ((Nat×List Int×Unit))):=fun (v0,v1,v2,C4,v8,b0,_) =>
 .br (decide (v8<(((v0).length:Nat):Int))) (
 .nb v8 (((v0).length:Nat):Int) <|
 .br (((v0).getD (Int.toNat v8) ((bs []),(0:Int),(bs []),(bs []),(0:Int))).2.1==(2:Int)) (
 .nb v8 (((v0).length:Nat):Int) <|
 .nb v2 (((v0).length:Nat):Int) <|
 .br (seq ((v0).getD (Int.toNat v8) ((bs []),(0:Int),(bs []),(bs []),(0:Int))).2.2.1 ((v0).getD (Int.toNat v2) ((bs []),(0:Int),(bs []),(bs []),(0:Int))).1) (
 .nb v8 (((v1).length:Nat):Int) <|
 .br (decide ((2:Int)<((v1).getD (Int.toNat v8) (0:Int)))) (
 .bd (.rc (v0,v1,v8,())) fun y0 =>
 .nd (decide ((C4+((((y0.2.1).drop (0:Nat)).take y0.1)).length)<bp)) <|
 .ni (v8+(1:Int)) <|
 .ret (.inl (v0,v1,v2,(C4+((((y0.2.1).drop (0:Nat)).take y0.1)).length),(v8+(1:Int)),((((b0).drop (0:Nat)).take C4)++(((y0.2.1).drop (0:Nat)).take y0.1)),()))) (
 .ni (v8+(1:Int)) <|
 .ret (.inl (v0,v1,v2,C4,(v8+(1:Int)),b0,())))) (
 .ni (v8+(1:Int)) <|
 .ret (.inl (v0,v1,v2,C4,(v8+(1:Int)),b0,())))) (
 .ni (v8+(1:Int)) <|
 .ret (.inl (v0,v1,v2,C4,(v8+(1:Int)),b0,())))) (
 .ret (.inr (C4,b0,())))
theorem MS (rec:cn.T->Option cq.T) (h:Ht.Ok prog ⟨94,cn,cq,rec⟩):∀x,oV (iK (uK.T ⊕ uL.T)) (zn rec) eu [] uK uL (Bs rec h) (fun y=>some (.inl y)) (fun b=>some (.inr b)) x=run rec (gH94_v1_0 x):=fun x=>by kernel_rfl
noncomputable def MT (rec:cn.T->Option cq.T) (h:Ht.Ok prog ⟨94,cn,cq,rec⟩):bw prog 62 none 0:=aW mixed (zn rec) (vw rec h) [] rfl uK uL rfl (Bs rec h) (fun x=>run rec (gH94_v1_0 x)) (MS rec h)
noncomputable def FC (rec:cn.T->Option cq.T) (h:Ht.Ok prog ⟨94,cn,cq,rec⟩):D prog 62 none 0:=dO [.l (MT rec h)] (kd prog f94) 0
noncomputable def FH94_v1 (v0:bJ) (v1:List Int) (v2:Int):Tr cn.T cq.T (Nat×List Int×Unit) :=
 .nb v2 (((v1).length:Nat):Int) <|
 .br (((v1).getD (Int.toNat v2) (0:Int))==(4:Int)) (
 .ret ((1:Nat),(v2::[]),())) (
 .nb v2 (((v1).length:Nat):Int) <|
 .br (((v1).getD (Int.toNat v2) (0:Int))==(5:Int)) (
 .ret ((1:Nat),(v2::[]),())) (
 .bd (.it gH94_v1_0 (v0,v1,v2,(0:Nat),(0:Int),[],())) fun z1 =>
 .ret (z1.1,z1.2.1,())))
theorem Ig (rec:cn.T->Option cq.T) (h:Ht.Ok prog ⟨94,cn,cq,rec⟩):cw prog f94=some ⟨62,3,(FC rec h).er,[.t 6],[some tL]⟩:=by kernel_rfl
theorem C5 (rec:cn.T->Option cq.T) (h:Ht.Ok prog ⟨94,cn,cq,rec⟩):Ht.Ok prog ⟨94,cn,cq,(fun x=>run rec (FH94_v1 x.1 x.2.1 x.2.2.1))⟩:=bE mixed (vw rec h) rfl func94 (Ig rec h) (enters_of func94 rfl rfl) (FC rec h) (by kernel_rfl) rfl rfl ⟨_,rfl⟩ rfl (pre:=[]) rfl (fun x=>by kernel_rfl)
noncomputable def FH94_v1fix (v0:bJ) (v1:List Int) (v2:Int):bG (Nat×List Int×Unit):=.fx (A1:=cn.T) (B1:=cq.T) (fun x=>FH94_v1 x.1 x.2.1 x.2.2.1) (v0,v1,v2,())
noncomputable def C6:Ht:=⟨94,cn,cq,fun x=>ai (FH94_v1fix x.1 x.2.1 x.2.2.1)⟩
theorem zo:C6.Ok prog:=CA (F:=fun rec x=>run rec (FH94_v1 x.1 x.2.1 x.2.2.1)) (fun rec h=>C5 rec h)

/- 70 -/
noncomputable def MU:Cx:=(aL [RH] [C6])
theorem tq:MU.Ok prog:=au ⟨wM,trivial⟩ ⟨⟨zo,rfl⟩,trivial⟩
abbrev ahJ:av:=av.mk [(0,.c (.hole (.list tG))),(1,.c (.hole .str)),(5,hL),(6,.c (.bH 0 .bool)),(7,hI),(8,.c (.bH 1 .bool)),(9,.c (.bH 2 tI)),(10,hI),(11,hI),(12,hI)] [(0,.arr .bool false),(1,.arr .bool false),(2,.arr tI false)] [.slot 6,.slot 8,.slot 9] []
abbrev ahK:aU:=[(.exit 4,av.mk [(0,.c (.hole (.list tG))),(1,.c (.hole .str)),(5,hL),(6,.c (.bH 0 .bool)),(7,hI),(8,.c (.bH 1 .bool)),(9,.c (.bH 2 tI)),(10,hI)] [(0,.arr .bool false),(1,.arr .bool false),(2,.arr tI false)] [.slot 6,.slot 8,.slot 9] [])]
noncomputable def ahL:D prog 99 none 0:=dO [] (pick (kd prog f70) [(0,false),(0,false),(0,false)]) 0
noncomputable def g70_2:bJ×ByteArray×List Int×Nat×Int×Nat×Nat×Int×Int×Int×List Bool×List Bool×List Int×Unit->bG ((bJ×ByteArray×List Int×Nat×Int×Nat×Nat×Int×Int×Int×List Bool×List Bool×List Int×Unit) ⊕ ((bJ×ByteArray×List Int×Nat×Int×Nat×Nat×Int×List Bool×List Bool×List Int×Unit))):=fun (v0,v1,v5,vq,v7,mA,vz,v10,v11,v12,b0,b1,b2,_) =>
 .br (decide (v12<((vq:Nat):Int))) (
 .nb v12 ((vq:Nat):Int) <|
 .nd (decide (((0:Nat)+(Int.toNat v12))<(b0).length)) <|
 .br ((b0).getD ((0:Nat)+(Int.toNat v12)) false) (
 .ni (v12+v11) <|
 .nb (v12+v11) ((mA:Nat):Int) <|
 .nd (decide (((0:Nat)+(Int.toNat (v12+v11)))<(b1).length)) <|
 .ni (v12+(1:Int)) <|
 .ret (.inl (v0,v1,v5,vq,v7,mA,vz,v10,v11,(v12+(1:Int)),b0,((b1).set ((0:Nat)+(Int.toNat (v12+v11))) true),b2,()))) (
 .ni (v12+(1:Int)) <|
 .ret (.inl (v0,v1,v5,vq,v7,mA,vz,v10,v11,(v12+(1:Int)),b0,b1,b2,())))) (
 .ret (.inr (v0,v1,v5,vq,v7,mA,vz,v10,b0,b1,b2,())))
noncomputable def ahM:bw prog 99 none 0:=aW mixed MU tq [] rfl ahJ ahK rfl (ahL) (fun x=>ai (g70_2 x)) (fun x=>by kernel_rfl)
abbrev RI:av:=av.mk [(0,.c (.hole (.list tG))),(1,.c (.hole .str)),(5,hL),(6,.c (.bH 0 .bool)),(7,hI),(8,.c (.bH 1 .bool)),(9,.c (.bH 2 tI)),(10,hI)] [(0,.arr .bool false),(1,.arr .bool false),(2,.arr tI false)] [.slot 6,.slot 8,.slot 9] []
abbrev RJ:aU:=[(.exit 2,av.mk [(0,.c (.hole (.list tG))),(1,.c (.hole .str)),(5,hL),(7,hI),(8,.c (.bH 0 .bool))] [(0,.arr .bool false)] [.slot 8] [])]
noncomputable def YV:D prog 99 none 0:=dO [.l ahM] (pick (kd prog f70) [(0,false),(0,false)]) 0
noncomputable def g70_1:bJ×ByteArray×List Int×Nat×Int×Nat×Nat×Int×List Bool×List Bool×List Int×Unit->bG ((bJ×ByteArray×List Int×Nat×Int×Nat×Nat×Int×List Bool×List Bool×List Int×Unit) ⊕ ((bJ×ByteArray×List Int×Int×Nat×List Bool×Unit))):=fun (v0,v1,v5,vq,v7,mA,vz,v10,b0,b1,b2,_) =>
 .br (decide (v10<((vz:Nat):Int))) (
 .jx (
 .br (seq v1 (bs [])) (
 .nb v10 ((vz:Nat):Int) <|
 .nd (decide (((0:Nat)+(Int.toNat v10))<(b2).length)) <|
 .nb ((b2).getD ((0:Nat)+(Int.toNat v10)) (0:Int)) (((v0).length:Nat):Int) <|
 .ret (.inl (v0,v1,v5,vq,v7,mA,vz,v10,((v0).getD (Int.toNat ((b2).getD ((0:Nat)+(Int.toNat v10)) (0:Int))) ((bs []),(0:Int),(bs []),(bs []),(0:Int))).2.2.2.2,b0,b1,b2,()))) (
 .nb v10 ((vz:Nat):Int) <|
 .nd (decide (((0:Nat)+(Int.toNat v10))<(b2).length)) <|
 .nb ((b2).getD ((0:Nat)+(Int.toNat v10)) (0:Int)) (((v0).length:Nat):Int) <|
 .br (seq ((v0).getD (Int.toNat ((b2).getD ((0:Nat)+(Int.toNat v10)) (0:Int))) ((bs []),(0:Int),(bs []),(bs []),(0:Int))).2.2.2.1 v1) (
 .nb v10 ((vz:Nat):Int) <|
 .nd (decide (((0:Nat)+(Int.toNat v10))<(b2).length)) <|
 .nb ((b2).getD ((0:Nat)+(Int.toNat v10)) (0:Int)) (((v0).length:Nat):Int) <|
 .ret (.inl (v0,v1,v5,vq,v7,mA,vz,v10,((v0).getD (Int.toNat ((b2).getD ((0:Nat)+(Int.toNat v10)) (0:Int))) ((bs []),(0:Int),(bs []),(bs []),(0:Int))).2.2.2.2,b0,b1,b2,()))) (
 .ret (.inl (v0,v1,v5,vq,v7,mA,vz,v10,(0:Int),b0,b1,b2,()))))) fun j2 =>
 .bd (.it g70_2 (j2.1,j2.2.1,j2.2.2.1,j2.2.2.2.1,j2.2.2.2.2.1,j2.2.2.2.2.2.1,j2.2.2.2.2.2.2.1,j2.2.2.2.2.2.2.2.1,j2.2.2.2.2.2.2.2.2.1,(0:Int),j2.2.2.2.2.2.2.2.2.2.1,j2.2.2.2.2.2.2.2.2.2.2.1,j2.2.2.2.2.2.2.2.2.2.2.2.1,())) fun z3 =>
 .ni (z3.2.2.2.2.2.2.2.1+(1:Int)) <|
 .ret (.inl (z3.1,z3.2.1,z3.2.2.1,z3.2.2.2.1,z3.2.2.2.2.1,z3.2.2.2.2.2.1,z3.2.2.2.2.2.2.1,(z3.2.2.2.2.2.2.2.1+(1:Int)),z3.2.2.2.2.2.2.2.2.1,z3.2.2.2.2.2.2.2.2.2.1,z3.2.2.2.2.2.2.2.2.2.2.1,()))) (
 .ret (.inr (v0,v1,v5,v7,mA,b1,())))
theorem ahN:∀x,oV (iK (RI.T ⊕ RJ.T)) MU eu [] RI RJ (YV) (fun y=>some (.inl y)) (fun b=>some (.inr b)) x=ai (g70_1 x):=fun x=>Eq.trans (b:=ai (flat (g70_1 x))) (by kernel_rfl) yF
noncomputable def ahO:bw prog 99 none 0:=aW mixed MU tq [] rfl RI RJ rfl (YV) (fun x=>ai (g70_1 x)) (ahN)
abbrev ahP:av:=av.mk [(0,.c (.hole (.list tG))),(1,.c (.hole .str)),(5,hL),(6,.c (.bH 0 .bool)),(7,hI)] [(0,.arr .bool false)] [.slot 6] []
abbrev ahQ:aU:=[(.exit 0,av.mk [(6,.c (.bH 0 .bool))] [(0,.arr .bool false)] [.slot 6] [])]
noncomputable def ahR:D prog 99 none 0:=dO [.l ahO] (pick (kd prog f70) [(0,false)]) 0
noncomputable def g70_0:bJ×ByteArray×List Int×Nat×Int×List Bool×Unit->bG ((bJ×ByteArray×List Int×Nat×Int×List Bool×Unit) ⊕ ((Nat×List Bool×Unit))):=fun (v0,v1,v5,vq,v7,b0,_) =>
 .br (decide (v7<(((v0).length:Nat):Int))) (
 .nb v7 (((v0).length:Nat):Int) <|
 .br (!(((v0).getD (Int.toNat v7) ((bs []),(0:Int),(bs []),(bs []),(0:Int))).2.1==(1:Int))) (
 .ni (v7+(1:Int)) <|
 .ret (.inl (v0,v1,v5,vq,(v7+(1:Int)),b0,()))) (
 .nb ((vq:Nat):Int) ((bp:Nat):Int) <|
 .bd (FH94_v1fix v0 v5 v7) fun y1 =>
 .bd (.it g70_1 (v0,v1,v5,vq,v7,(Int.toNat ((vq:Nat):Int)),y1.1,(0:Int),b0,(List.replicate (Int.toNat ((vq:Nat):Int)) false),y1.2.1,())) fun z4 =>
 .ni (z4.2.2.2.1+(1:Int)) <|
 .ret (.inl (z4.1,z4.2.1,z4.2.2.1,z4.2.2.2.2.1,(z4.2.2.2.1+(1:Int)),z4.2.2.2.2.2.1,())))) (
 .ret (.inr (vq,b0,())))
noncomputable def ahS:bw prog 99 none 0:=aW mixed MU tq [] rfl ahP ahQ rfl (ahR) (fun x=>ai (g70_0 x)) (fun x=>by kernel_rfl)
abbrev ahT:av:=av.mk [(6,.c (.bH 0 .bool)),(13,.c (.bH 1 tI)),(14,hI)] [(0,.arr .bool false),(1,.arr tI false)] [.slot 6,.slot 13] []
abbrev ahU:aU:=[(.exit 6,av.mk [(13,.c (.bH 0 tI))] [(0,.arr tI false)] [.slot 13] [])]
noncomputable def ahV:D prog 99 none 0:=dO [] (pick (kd prog f70) [(1,false)]) 0
noncomputable def g70_3:Nat×Nat×Int×List Bool×List Int×Unit->bG ((Nat×Nat×Int×List Bool×List Int×Unit) ⊕ ((Nat×List Int×Unit))):=fun (vq,RK,oz,b0,b1,_) =>
 .br (decide (oz<((vq:Nat):Int))) (
 .nb oz ((vq:Nat):Int) <|
 .nd (decide (((0:Nat)+(Int.toNat oz))<(b0).length)) <|
 .br ((b0).getD ((0:Nat)+(Int.toNat oz)) false) (
 .ni (oz - (60000:Int)) <|
 .nd (decide ((RK+((((((oz - (60000:Int))::[])).drop (0:Nat)).take (1:Nat))).length)<bp)) <|
 .ni (oz+(1:Int)) <|
 .ret (.inl (vq,(RK+((((((oz - (60000:Int))::[])).drop (0:Nat)).take (1:Nat))).length),(oz+(1:Int)),b0,((((b1).drop (0:Nat)).take RK)++(((((oz - (60000:Int))::[])).drop (0:Nat)).take (1:Nat))),()))) (
 .ni (oz+(1:Int)) <|
 .ret (.inl (vq,RK,(oz+(1:Int)),b0,b1,())))) (
 .ret (.inr (RK,b1,())))
noncomputable def ahW:bw prog 99 none 0:=aW mixed MU tq [] rfl ahT ahU rfl (ahV) (fun x=>ai (g70_3 x)) (fun x=>by kernel_rfl)
noncomputable def dd70:D prog 99 none 0:=dO [.l ahS,.l ahW] (kd prog f70) 0
noncomputable def F70 (a0:bJ) (a1:ByteArray):bG (List Int×Unit) :=
 .bd (F92 a0) fun y0 =>
 .nb (120001:Int) ((bp:Nat):Int) <|
 .nb (60000:Int) (((Int.toNat (120001:Int)):Nat):Int) <|
 .nd (decide (((0:Nat)+(Int.toNat (60000:Int)))<((List.replicate (Int.toNat (120001:Int)) false)).length)) <|
 .bd (.it g70_0 (a0,a1,y0.1,(Int.toNat (120001:Int)),(0:Int),(((List.replicate (Int.toNat (120001:Int)) false)).set ((0:Nat)+(Int.toNat (60000:Int))) true),())) fun z5 =>
 .bd (.it g70_3 (z5.1,(0:Nat),(0:Int),z5.2.1,[],())) fun z6 =>
 .ret ((((z6.2.1).drop (0:Nat)).take z6.1),())
theorem aci:cw prog f70=some ⟨99,2,dd70.er,[.t 4],[some tL]⟩:=by kernel_rfl
noncomputable def ct70:Ct:=⟨70,[.c (.hole (.list tG)),.c (.hole .str)],hL,fun x=>ai (F70 x.1 x.2.1)⟩
theorem Wn:ct70.Ok prog:=cE mixed tq func70 aci (enters_of func70 rfl rfl) dd70 (by kernel_rfl) rfl (fun x=>by kernel_rfl)

/- 57, lent -/
abbrev Wo:av:=av.mk [(0,.c (.ptr 0 0))] [(0,.cells [.tf true,.hole (.list tG)] false)] [.slot 0] []
abbrev Wp:av:=av.mk [(0,.c (.hole .bool))] [(0,.cells [.tf true,.hole (.list tG)] false)] [] []
noncomputable def RL:Cx:=(aL [] [])
theorem FD:RL.Ok prog:=au trivial trivial
noncomputable def FE:D prog 12 none 1:=dO [] (kd prog f57) 0
noncomputable def FH57_v1 (fC:bJ):bG (Bool×bJ×Unit) :=
 .ret (false,fC,())
theorem Ih:cw prog f57=some ⟨12,1,FE.er,[.t 2],[some .bool]⟩:=by kernel_rfl
noncomputable def nY:Ht:=⟨57,Wo,Wp,(fun x=>ai (FH57_v1 x.1))⟩
theorem iZ:nY.Ok prog:=bE mixed FD rfl func57 Ih (enters_of func57 rfl rfl) FE (by kernel_rfl) rfl rfl ⟨_,rfl⟩ rfl (pre:=[0]) rfl (fun x=>by kernel_rfl)

/- 21, lent -/
abbrev Wq:av:=av.mk [(0,.c (.ptr 0 0)),(1,.c (.hole tG))] [(0,.cells [.tf true,.hole (.list tG)] false)] [.slot 0] []
abbrev Wr:av:=av.mk [(0,hI)] [(0,.cells [.tf true,.hole (.list tG)] false)] [] []
noncomputable def RM:Cx:=(aL [ct58,ct59] [nY])
theorem FF:RM.Ok prog:=au ⟨V8,Wg,trivial⟩ ⟨⟨iZ,rfl⟩,trivial⟩
noncomputable def FG:D prog 27 none 1:=dO [] (kd prog f21) 0
noncomputable def FH21_v1 (v1:GG) (fC:bJ):bG (Int×bJ×Unit) :=
 .bd (FH57_v1 fC) fun y0 =>
 .br y0.1 (
 .ret ((9:Int),y0.2.1,())) (
 .bd (F58 (v1.1,v1.2.1,v1.2.2.1,v1.2.2.2.1,v1.2.2.2.2)) fun y1 =>
 .br (!(y1.1==(0:Int))) (
 .ret (y1.1,y0.2.1,())) (
 .bd (F59 y0.2.1 (v1.1,v1.2.1,v1.2.2.1,v1.2.2.2.1,v1.2.2.2.2)) fun y2 =>
 .br (decide ((60:Int)<(((y2.1).length:Nat):Int))) (
 .ret ((15:Int),y0.2.1,())) (
 .ret ((0:Int),y2.1,()))))
theorem Ii:cw prog f21=some ⟨27,2,FG.er,[.t 4],[some tI]⟩:=by kernel_rfl
noncomputable def Kt:Ht:=⟨21,Wq,Wr,(fun x=>ai (FH21_v1 x.1 x.2.1))⟩
theorem Ij:Kt.Ok prog:=bE mixed FF rfl func21 Ii (enters_of func21 rfl rfl) FG (by kernel_rfl) rfl rfl ⟨_,rfl⟩ rfl (pre:=[0]) rfl (fun x=>by kernel_rfl)

/- 93 -/
noncomputable def cx93:Cx:=(aL [] [])
theorem Ku:cx93.Ok prog:=au trivial trivial
abbrev ah0:av:=av.mk [(0,.c (.hole (.list tG))),(1,.c (.hole .str)),(6,hI)] [] [] []
abbrev ah1:aU:=[(.ret,av.mk [(4,hI),(5,hI)] [] [] []),(.exit 0,av.mk [] [] [] [])]
noncomputable def ah2:D prog 21 none 0:=dO [] (pick (kd prog f93) [(0,false)]) 0
noncomputable def g93_0:bJ×ByteArray×Int×Unit->bG ((bJ×ByteArray×Int×Unit) ⊕ ((Int×Int×Unit) ⊕ ((Unit)))):=fun (v0,v1,v6,_) =>
 .br (decide (v6<(((v0).length:Nat):Int))) (
 .nb v6 (((v0).length:Nat):Int) <|
 .br (seq ((v0).getD (Int.toNat v6) ((bs []),(0:Int),(bs []),(bs []),(0:Int))).1 v1) (
 .ret (.inr <| .inl<|(v6,(0:Int),()))) (
 .ni (v6+(1:Int)) <|
 .ret (.inl (v0,v1,(v6+(1:Int)),())))) (
 .ret (.inr <| .inr<|()))
noncomputable def ah3:bw prog 21 none 0:=aW mixed cx93 Ku [] rfl ah0 ah1 rfl (ah2) (fun x=>ai (g93_0 x)) (fun x=>by kernel_rfl)
noncomputable def dd93:D prog 21 none 0:=dO [.l ah3] (kd prog f93) 0
noncomputable def F93 (a0:bJ) (a1:ByteArray):bG (Int×Int×Unit) :=
 .bd (.it g93_0 (a0,a1,(0:Int),())) fun z0 =>
 .sm z0 (fun z1 =>
 .ret (z1.1,z1.2.1,())) fun z2 =>
 .ret ((0:Int),(5:Int),())
theorem acj:cw prog f93=some ⟨21,2,dd93.er,[.t 4,.t 5],[some tI,some tI]⟩:=by kernel_rfl
noncomputable def ack:Ct:=⟨93,[.c (.hole (.list tG)),.c (.hole .str)],.cS [.hole tI,.hole tI],fun x=>ai (F93 x.1 x.2.1)⟩
theorem Kv:ack.Ok prog:=cE mixed Ku func93 acj (enters_of func93 rfl rfl) dd93 (by kernel_rfl) rfl (fun x=>by kernel_rfl)

/- 60, lent -/
abbrev Ws:av:=av.mk [(0,.c (.ptr 0 0))] [(0,.cells [.tf true,.hole (.list tG)] false)] [.slot 0] []
abbrev Wt:av:=av.mk [(0,.c (.bH 1 tG))] [(1,.arr tG false),(0,.cells [.tf true,.hole (.list tG)] false)] [.slot 0] []
noncomputable def RN:Cx:=(aL [] [nY])
theorem FH:RN.Ok prog:=au trivial ⟨⟨iZ,rfl⟩,trivial⟩
noncomputable def FI:D prog 11 none 1:=dO [] (kd prog f60) 0
noncomputable def FH60_v1 (fC:bJ):bG (Nat×bJ×bJ×Unit) :=
 .bd (FH57_v1 fC) fun y0 =>
 .br y0.1 (
 .ret ((0:Nat),[],y0.2.1,())) (
 .nd (decide (((0:Nat)+(y0.2.1).length)<bp)) <|
 .ret (((0:Nat)+(y0.2.1).length),(((([]).drop (0:Nat)).take (0:Nat))++y0.2.1),y0.2.1,()))
theorem Ik:cw prog f60=some ⟨11,1,FI.er,[.t 2],[some (.list tG)]⟩:=by kernel_rfl
noncomputable def Kw:Ht:=⟨60,Ws,Wt,(fun x=>ai (FH60_v1 x.1))⟩
theorem Il:Kw.Ok prog:=bE mixed FH rfl func60 Ik (enters_of func60 rfl rfl) FI (by kernel_rfl) rfl rfl ⟨_,rfl⟩ rfl (pre:=[0]) rfl (fun x=>by kernel_rfl)

/- 61, lent -/
abbrev Wu:av:=av.mk [(0,.c (.ptr 0 0))] [(0,.cells [.tf true,.hole (.list tG)] false)] [.slot 0] []
abbrev Wv:av:=av.mk [(0,.c (.bH 1 .str))] [(1,.arr .str false),(0,.cells [.tf true,.hole (.list tG)] false)] [.slot 0] []
noncomputable def zq:Cx:=(aL [Rv,RH] [nY])
theorem pJ:zq.Ok prog:=au ⟨wL,wM,trivial⟩ ⟨⟨iZ,rfl⟩,trivial⟩
abbrev MV:av:=av.mk [(3,.c (.hole (.list tG))),(4,hL),(5,.c (.bH 1 .str)),(6,hI),(7,hI),(36,.c (.hole (.list tG))),(37,hI),(40,hI),(41,.c (.hole .bool))] [(1,.arr .str false),(0,.cells [.tf true,.hole (.list tG)] false)] [.slot 5] []
abbrev MW:aU:=[(.exit 2,av.mk [(3,.c (.hole (.list tG))),(4,hL),(5,.c (.bH 1 .str)),(6,hI),(7,hI),(36,.c (.hole (.list tG))),(37,hI),(40,hI),(41,.c (.hole .bool))] [(1,.arr .str false),(0,.cells [.tf true,.hole (.list tG)] false)] [.slot 5] [])]
noncomputable def MX:D prog 94 none 1:=dO [] (pick (kd prog f61) [(0,false),(0,false)]) 0
noncomputable def gH61_v1_1:bJ×List Int×Nat×Int×Int×bJ×Int×Int×Bool×List ByteArray×bJ×Unit->bG ((bJ×List Int×Nat×Int×Int×bJ×Int×Int×Bool×List ByteArray×bJ×Unit) ⊕ ((bJ×List Int×Nat×Int×Int×bJ×Int×Int×Bool×List ByteArray×bJ×Unit))):=fun (v3,v4,NI,v6,v7,Ww,v37,v40,v41,b1,fC,_) =>
 .br (decide (v7<((NI:Nat):Int))) (
 .nb v7 ((NI:Nat):Int) <|
 .nd (decide (((0:Nat)+(Int.toNat v7))<(b1).length)) <|
 .nb v6 (((v3).length:Nat):Int) <|
 .br (slt ((b1).getD ((0:Nat)+(Int.toNat v7)) (bs [])) ((v3).getD (Int.toNat v6) ((bs []),(0:Int),(bs []),(bs []),(0:Int))).2.2.2.1) (
 .ni (v7+(1:Int)) <|
 .ret (.inl (v3,v4,NI,v6,(v7+(1:Int)),Ww,v37,v40,v41,b1,fC,()))) (
 .ret (.inr (v3,v4,NI,v6,v7,Ww,v37,v40,v41,b1,fC,())))) (
 .ret (.inr (v3,v4,NI,v6,v7,Ww,v37,v40,v41,b1,fC,())))
noncomputable def MY:bw prog 94 none 1:=aW mixed zq pJ [0] rfl MV MW rfl (MX) (fun x=>ai (gH61_v1_1 x)) (fun x=>by kernel_rfl)
abbrev MZ:av:=av.mk [(3,.c (.hole (.list tG))),(4,hL),(5,.c (.bH 1 .str)),(6,hI)] [(1,.arr .str false),(0,.cells [.tf true,.hole (.list tG)] false)] [.slot 5] []
abbrev M0:aU:=[(.exit 0,av.mk [(5,.c (.bH 1 .str))] [(1,.arr .str false),(0,.cells [.tf true,.hole (.list tG)] false)] [.slot 5] [])]
noncomputable def M1:D prog 94 none 1:=dO [.l MY] (pick (kd prog f61) [(0,false)]) 0
noncomputable def gH61_v1_0:bJ×List Int×Nat×Int×List ByteArray×bJ×Unit->bG ((bJ×List Int×Nat×Int×List ByteArray×bJ×Unit) ⊕ ((Nat×List ByteArray×bJ×Unit))):=fun (v3,v4,NI,v6,b1,fC,_) =>
 .br (decide (v6<(((v3).length:Nat):Int))) (
 .nb v6 (((v4).length:Nat):Int) <|
 .br (!(((v4).getD (Int.toNat v6) (0:Int))==(4:Int))) (
 .nb v6 (((v4).length:Nat):Int) <|
 .br (!(((v4).getD (Int.toNat v6) (0:Int))==(5:Int))) (
 .ni (v6+(1:Int)) <|
 .ret (.inl (v3,v4,NI,(v6+(1:Int)),b1,fC,()))) (
 .nb v6 (((v3).length:Nat):Int) <|
 .br (((v3).getD (Int.toNat v6) ((bs []),(0:Int),(bs []),(bs []),(0:Int))).2.1==(3:Int)) (
 .ni (v6+(1:Int)) <|
 .ret (.inl (v3,v4,NI,(v6+(1:Int)),b1,fC,()))) (
 .bd (.it gH61_v1_1 (v3,v4,NI,v6,(0:Int),v3,v6,((v3).getD (Int.toNat v6) ((bs []),(0:Int),(bs []),(bs []),(0:Int))).2.1,(((v3).getD (Int.toNat v6) ((bs []),(0:Int),(bs []),(bs []),(0:Int))).2.1==(3:Int)),b1,fC,())) fun z3 =>
 .br (z3.2.2.2.2.1==((z3.2.2.1:Nat):Int)) (
 .nd (decide ((0:Int)<=(0:Int))) <|
 .nd (decide ((0:Int)<=z3.2.2.2.2.1)) <|
 .nd (decide (z3.2.2.2.2.1<=((z3.2.2.1:Nat):Int))) <|
 .nd (decide (((0:Nat)+((((z3.2.2.2.2.2.2.2.2.2.1).drop ((0:Nat)+(Int.toNat (0:Int)))).take ((Int.toNat z3.2.2.2.2.1) - (Int.toNat (0:Int))))).length)<bp)) <|
 .nb z3.2.2.2.1 (((z3.1).length:Nat):Int) <|
 .nd (decide ((((0:Nat)+((((z3.2.2.2.2.2.2.2.2.2.1).drop ((0:Nat)+(Int.toNat (0:Int)))).take ((Int.toNat z3.2.2.2.2.1) - (Int.toNat (0:Int))))).length)+(((((((z3.1).getD (Int.toNat z3.2.2.2.1) ((bs []),(0:Int),(bs []),(bs []),(0:Int))).2.2.2.1::[])).drop (0:Nat)).take (1:Nat))).length)<bp)) <|
 .nd (decide ((0:Int)<=z3.2.2.2.2.1)) <|
 .nd (decide (z3.2.2.2.2.1<=((z3.2.2.1:Nat):Int))) <|
 .nd (decide (((z3.2.2.1:Nat):Int)<=((z3.2.2.1:Nat):Int))) <|
 .nd (decide (((((0:Nat)+((((z3.2.2.2.2.2.2.2.2.2.1).drop ((0:Nat)+(Int.toNat (0:Int)))).take ((Int.toNat z3.2.2.2.2.1) - (Int.toNat (0:Int))))).length)+(((((((z3.1).getD (Int.toNat z3.2.2.2.1) ((bs []),(0:Int),(bs []),(bs []),(0:Int))).2.2.2.1::[])).drop (0:Nat)).take (1:Nat))).length)+((((z3.2.2.2.2.2.2.2.2.2.1).drop ((0:Nat)+(Int.toNat z3.2.2.2.2.1))).take ((Int.toNat ((z3.2.2.1:Nat):Int)) - (Int.toNat z3.2.2.2.2.1)))).length)<bp)) <|
 .ni (z3.2.2.2.1+(1:Int)) <|
 .ret (.inl (z3.1,z3.2.1,((((0:Nat)+((((z3.2.2.2.2.2.2.2.2.2.1).drop ((0:Nat)+(Int.toNat (0:Int)))).take ((Int.toNat z3.2.2.2.2.1) - (Int.toNat (0:Int))))).length)+(((((((z3.1).getD (Int.toNat z3.2.2.2.1) ((bs []),(0:Int),(bs []),(bs []),(0:Int))).2.2.2.1::[])).drop (0:Nat)).take (1:Nat))).length)+((((z3.2.2.2.2.2.2.2.2.2.1).drop ((0:Nat)+(Int.toNat z3.2.2.2.2.1))).take ((Int.toNat ((z3.2.2.1:Nat):Int)) - (Int.toNat z3.2.2.2.2.1)))).length),(z3.2.2.2.1+(1:Int)),(((((((((((([]).drop (0:Nat)).take (0:Nat))++(((z3.2.2.2.2.2.2.2.2.2.1).drop ((0:Nat)+(Int.toNat (0:Int)))).take ((Int.toNat z3.2.2.2.2.1) - (Int.toNat (0:Int)))))).drop (0:Nat)).take ((0:Nat)+((((z3.2.2.2.2.2.2.2.2.2.1).drop ((0:Nat)+(Int.toNat (0:Int)))).take ((Int.toNat z3.2.2.2.2.1) - (Int.toNat (0:Int))))).length))++((((((z3.1).getD (Int.toNat z3.2.2.2.1) ((bs []),(0:Int),(bs []),(bs []),(0:Int))).2.2.2.1::[])).drop (0:Nat)).take (1:Nat)))).drop (0:Nat)).take (((0:Nat)+((((z3.2.2.2.2.2.2.2.2.2.1).drop ((0:Nat)+(Int.toNat (0:Int)))).take ((Int.toNat z3.2.2.2.2.1) - (Int.toNat (0:Int))))).length)+(((((((z3.1).getD (Int.toNat z3.2.2.2.1) ((bs []),(0:Int),(bs []),(bs []),(0:Int))).2.2.2.1::[])).drop (0:Nat)).take (1:Nat))).length))++(((z3.2.2.2.2.2.2.2.2.2.1).drop ((0:Nat)+(Int.toNat z3.2.2.2.2.1))).take ((Int.toNat ((z3.2.2.1:Nat):Int)) - (Int.toNat z3.2.2.2.2.1)))),z3.2.2.2.2.2.2.2.2.2.2.1,()))) (
 .nb z3.2.2.2.2.1 ((z3.2.2.1:Nat):Int) <|
 .nd (decide (((0:Nat)+(Int.toNat z3.2.2.2.2.1))<(z3.2.2.2.2.2.2.2.2.2.1).length)) <|
 .nb z3.2.2.2.1 (((z3.1).length:Nat):Int) <|
 .br (!(seq ((z3.2.2.2.2.2.2.2.2.2.1).getD ((0:Nat)+(Int.toNat z3.2.2.2.2.1)) (bs [])) ((z3.1).getD (Int.toNat z3.2.2.2.1) ((bs []),(0:Int),(bs []),(bs []),(0:Int))).2.2.2.1)) (
 .nd (decide ((0:Int)<=(0:Int))) <|
 .nd (decide ((0:Int)<=z3.2.2.2.2.1)) <|
 .nd (decide (z3.2.2.2.2.1<=((z3.2.2.1:Nat):Int))) <|
 .nd (decide (((0:Nat)+((((z3.2.2.2.2.2.2.2.2.2.1).drop ((0:Nat)+(Int.toNat (0:Int)))).take ((Int.toNat z3.2.2.2.2.1) - (Int.toNat (0:Int))))).length)<bp)) <|
 .nb z3.2.2.2.1 (((z3.1).length:Nat):Int) <|
 .nd (decide ((((0:Nat)+((((z3.2.2.2.2.2.2.2.2.2.1).drop ((0:Nat)+(Int.toNat (0:Int)))).take ((Int.toNat z3.2.2.2.2.1) - (Int.toNat (0:Int))))).length)+(((((((z3.1).getD (Int.toNat z3.2.2.2.1) ((bs []),(0:Int),(bs []),(bs []),(0:Int))).2.2.2.1::[])).drop (0:Nat)).take (1:Nat))).length)<bp)) <|
 .nd (decide ((0:Int)<=z3.2.2.2.2.1)) <|
 .nd (decide (z3.2.2.2.2.1<=((z3.2.2.1:Nat):Int))) <|
 .nd (decide (((z3.2.2.1:Nat):Int)<=((z3.2.2.1:Nat):Int))) <|
 .nd (decide (((((0:Nat)+((((z3.2.2.2.2.2.2.2.2.2.1).drop ((0:Nat)+(Int.toNat (0:Int)))).take ((Int.toNat z3.2.2.2.2.1) - (Int.toNat (0:Int))))).length)+(((((((z3.1).getD (Int.toNat z3.2.2.2.1) ((bs []),(0:Int),(bs []),(bs []),(0:Int))).2.2.2.1::[])).drop (0:Nat)).take (1:Nat))).length)+((((z3.2.2.2.2.2.2.2.2.2.1).drop ((0:Nat)+(Int.toNat z3.2.2.2.2.1))).take ((Int.toNat ((z3.2.2.1:Nat):Int)) - (Int.toNat z3.2.2.2.2.1)))).length)<bp)) <|
 .ni (z3.2.2.2.1+(1:Int)) <|
 .ret (.inl (z3.1,z3.2.1,((((0:Nat)+((((z3.2.2.2.2.2.2.2.2.2.1).drop ((0:Nat)+(Int.toNat (0:Int)))).take ((Int.toNat z3.2.2.2.2.1) - (Int.toNat (0:Int))))).length)+(((((((z3.1).getD (Int.toNat z3.2.2.2.1) ((bs []),(0:Int),(bs []),(bs []),(0:Int))).2.2.2.1::[])).drop (0:Nat)).take (1:Nat))).length)+((((z3.2.2.2.2.2.2.2.2.2.1).drop ((0:Nat)+(Int.toNat z3.2.2.2.2.1))).take ((Int.toNat ((z3.2.2.1:Nat):Int)) - (Int.toNat z3.2.2.2.2.1)))).length),(z3.2.2.2.1+(1:Int)),(((((((((((([]).drop (0:Nat)).take (0:Nat))++(((z3.2.2.2.2.2.2.2.2.2.1).drop ((0:Nat)+(Int.toNat (0:Int)))).take ((Int.toNat z3.2.2.2.2.1) - (Int.toNat (0:Int)))))).drop (0:Nat)).take ((0:Nat)+((((z3.2.2.2.2.2.2.2.2.2.1).drop ((0:Nat)+(Int.toNat (0:Int)))).take ((Int.toNat z3.2.2.2.2.1) - (Int.toNat (0:Int))))).length))++((((((z3.1).getD (Int.toNat z3.2.2.2.1) ((bs []),(0:Int),(bs []),(bs []),(0:Int))).2.2.2.1::[])).drop (0:Nat)).take (1:Nat)))).drop (0:Nat)).take (((0:Nat)+((((z3.2.2.2.2.2.2.2.2.2.1).drop ((0:Nat)+(Int.toNat (0:Int)))).take ((Int.toNat z3.2.2.2.2.1) - (Int.toNat (0:Int))))).length)+(((((((z3.1).getD (Int.toNat z3.2.2.2.1) ((bs []),(0:Int),(bs []),(bs []),(0:Int))).2.2.2.1::[])).drop (0:Nat)).take (1:Nat))).length))++(((z3.2.2.2.2.2.2.2.2.2.1).drop ((0:Nat)+(Int.toNat z3.2.2.2.2.1))).take ((Int.toNat ((z3.2.2.1:Nat):Int)) - (Int.toNat z3.2.2.2.2.1)))),z3.2.2.2.2.2.2.2.2.2.2.1,()))) (
 .ni (z3.2.2.2.1+(1:Int)) <|
 .ret (.inl (z3.1,z3.2.1,z3.2.2.1,(z3.2.2.2.1+(1:Int)),z3.2.2.2.2.2.2.2.2.2.1,z3.2.2.2.2.2.2.2.2.2.2.1,()))))))) (
 .nb v6 (((v3).length:Nat):Int) <|
 .br (((v3).getD (Int.toNat v6) ((bs []),(0:Int),(bs []),(bs []),(0:Int))).2.1==(3:Int)) (
 .ni (v6+(1:Int)) <|
 .ret (.inl (v3,v4,NI,(v6+(1:Int)),b1,fC,()))) (
 .bd (.it gH61_v1_1 (v3,v4,NI,v6,(0:Int),v3,v6,((v3).getD (Int.toNat v6) ((bs []),(0:Int),(bs []),(bs []),(0:Int))).2.1,(((v3).getD (Int.toNat v6) ((bs []),(0:Int),(bs []),(bs []),(0:Int))).2.1==(3:Int)),b1,fC,())) fun z4 =>
 .br (z4.2.2.2.2.1==((z4.2.2.1:Nat):Int)) (
 .nd (decide ((0:Int)<=(0:Int))) <|
 .nd (decide ((0:Int)<=z4.2.2.2.2.1)) <|
 .nd (decide (z4.2.2.2.2.1<=((z4.2.2.1:Nat):Int))) <|
 .nd (decide (((0:Nat)+((((z4.2.2.2.2.2.2.2.2.2.1).drop ((0:Nat)+(Int.toNat (0:Int)))).take ((Int.toNat z4.2.2.2.2.1) - (Int.toNat (0:Int))))).length)<bp)) <|
 .nb z4.2.2.2.1 (((z4.1).length:Nat):Int) <|
 .nd (decide ((((0:Nat)+((((z4.2.2.2.2.2.2.2.2.2.1).drop ((0:Nat)+(Int.toNat (0:Int)))).take ((Int.toNat z4.2.2.2.2.1) - (Int.toNat (0:Int))))).length)+(((((((z4.1).getD (Int.toNat z4.2.2.2.1) ((bs []),(0:Int),(bs []),(bs []),(0:Int))).2.2.2.1::[])).drop (0:Nat)).take (1:Nat))).length)<bp)) <|
 .nd (decide ((0:Int)<=z4.2.2.2.2.1)) <|
 .nd (decide (z4.2.2.2.2.1<=((z4.2.2.1:Nat):Int))) <|
 .nd (decide (((z4.2.2.1:Nat):Int)<=((z4.2.2.1:Nat):Int))) <|
 .nd (decide (((((0:Nat)+((((z4.2.2.2.2.2.2.2.2.2.1).drop ((0:Nat)+(Int.toNat (0:Int)))).take ((Int.toNat z4.2.2.2.2.1) - (Int.toNat (0:Int))))).length)+(((((((z4.1).getD (Int.toNat z4.2.2.2.1) ((bs []),(0:Int),(bs []),(bs []),(0:Int))).2.2.2.1::[])).drop (0:Nat)).take (1:Nat))).length)+((((z4.2.2.2.2.2.2.2.2.2.1).drop ((0:Nat)+(Int.toNat z4.2.2.2.2.1))).take ((Int.toNat ((z4.2.2.1:Nat):Int)) - (Int.toNat z4.2.2.2.2.1)))).length)<bp)) <|
 .ni (z4.2.2.2.1+(1:Int)) <|
 .ret (.inl (z4.1,z4.2.1,((((0:Nat)+((((z4.2.2.2.2.2.2.2.2.2.1).drop ((0:Nat)+(Int.toNat (0:Int)))).take ((Int.toNat z4.2.2.2.2.1) - (Int.toNat (0:Int))))).length)+(((((((z4.1).getD (Int.toNat z4.2.2.2.1) ((bs []),(0:Int),(bs []),(bs []),(0:Int))).2.2.2.1::[])).drop (0:Nat)).take (1:Nat))).length)+((((z4.2.2.2.2.2.2.2.2.2.1).drop ((0:Nat)+(Int.toNat z4.2.2.2.2.1))).take ((Int.toNat ((z4.2.2.1:Nat):Int)) - (Int.toNat z4.2.2.2.2.1)))).length),(z4.2.2.2.1+(1:Int)),(((((((((((([]).drop (0:Nat)).take (0:Nat))++(((z4.2.2.2.2.2.2.2.2.2.1).drop ((0:Nat)+(Int.toNat (0:Int)))).take ((Int.toNat z4.2.2.2.2.1) - (Int.toNat (0:Int)))))).drop (0:Nat)).take ((0:Nat)+((((z4.2.2.2.2.2.2.2.2.2.1).drop ((0:Nat)+(Int.toNat (0:Int)))).take ((Int.toNat z4.2.2.2.2.1) - (Int.toNat (0:Int))))).length))++((((((z4.1).getD (Int.toNat z4.2.2.2.1) ((bs []),(0:Int),(bs []),(bs []),(0:Int))).2.2.2.1::[])).drop (0:Nat)).take (1:Nat)))).drop (0:Nat)).take (((0:Nat)+((((z4.2.2.2.2.2.2.2.2.2.1).drop ((0:Nat)+(Int.toNat (0:Int)))).take ((Int.toNat z4.2.2.2.2.1) - (Int.toNat (0:Int))))).length)+(((((((z4.1).getD (Int.toNat z4.2.2.2.1) ((bs []),(0:Int),(bs []),(bs []),(0:Int))).2.2.2.1::[])).drop (0:Nat)).take (1:Nat))).length))++(((z4.2.2.2.2.2.2.2.2.2.1).drop ((0:Nat)+(Int.toNat z4.2.2.2.2.1))).take ((Int.toNat ((z4.2.2.1:Nat):Int)) - (Int.toNat z4.2.2.2.2.1)))),z4.2.2.2.2.2.2.2.2.2.2.1,()))) (
 .nb z4.2.2.2.2.1 ((z4.2.2.1:Nat):Int) <|
 .nd (decide (((0:Nat)+(Int.toNat z4.2.2.2.2.1))<(z4.2.2.2.2.2.2.2.2.2.1).length)) <|
 .nb z4.2.2.2.1 (((z4.1).length:Nat):Int) <|
 .br (!(seq ((z4.2.2.2.2.2.2.2.2.2.1).getD ((0:Nat)+(Int.toNat z4.2.2.2.2.1)) (bs [])) ((z4.1).getD (Int.toNat z4.2.2.2.1) ((bs []),(0:Int),(bs []),(bs []),(0:Int))).2.2.2.1)) (
 .nd (decide ((0:Int)<=(0:Int))) <|
 .nd (decide ((0:Int)<=z4.2.2.2.2.1)) <|
 .nd (decide (z4.2.2.2.2.1<=((z4.2.2.1:Nat):Int))) <|
 .nd (decide (((0:Nat)+((((z4.2.2.2.2.2.2.2.2.2.1).drop ((0:Nat)+(Int.toNat (0:Int)))).take ((Int.toNat z4.2.2.2.2.1) - (Int.toNat (0:Int))))).length)<bp)) <|
 .nb z4.2.2.2.1 (((z4.1).length:Nat):Int) <|
 .nd (decide ((((0:Nat)+((((z4.2.2.2.2.2.2.2.2.2.1).drop ((0:Nat)+(Int.toNat (0:Int)))).take ((Int.toNat z4.2.2.2.2.1) - (Int.toNat (0:Int))))).length)+(((((((z4.1).getD (Int.toNat z4.2.2.2.1) ((bs []),(0:Int),(bs []),(bs []),(0:Int))).2.2.2.1::[])).drop (0:Nat)).take (1:Nat))).length)<bp)) <|
 .nd (decide ((0:Int)<=z4.2.2.2.2.1)) <|
 .nd (decide (z4.2.2.2.2.1<=((z4.2.2.1:Nat):Int))) <|
 .nd (decide (((z4.2.2.1:Nat):Int)<=((z4.2.2.1:Nat):Int))) <|
 .nd (decide (((((0:Nat)+((((z4.2.2.2.2.2.2.2.2.2.1).drop ((0:Nat)+(Int.toNat (0:Int)))).take ((Int.toNat z4.2.2.2.2.1) - (Int.toNat (0:Int))))).length)+(((((((z4.1).getD (Int.toNat z4.2.2.2.1) ((bs []),(0:Int),(bs []),(bs []),(0:Int))).2.2.2.1::[])).drop (0:Nat)).take (1:Nat))).length)+((((z4.2.2.2.2.2.2.2.2.2.1).drop ((0:Nat)+(Int.toNat z4.2.2.2.2.1))).take ((Int.toNat ((z4.2.2.1:Nat):Int)) - (Int.toNat z4.2.2.2.2.1)))).length)<bp)) <|
 .ni (z4.2.2.2.1+(1:Int)) <|
 .ret (.inl (z4.1,z4.2.1,((((0:Nat)+((((z4.2.2.2.2.2.2.2.2.2.1).drop ((0:Nat)+(Int.toNat (0:Int)))).take ((Int.toNat z4.2.2.2.2.1) - (Int.toNat (0:Int))))).length)+(((((((z4.1).getD (Int.toNat z4.2.2.2.1) ((bs []),(0:Int),(bs []),(bs []),(0:Int))).2.2.2.1::[])).drop (0:Nat)).take (1:Nat))).length)+((((z4.2.2.2.2.2.2.2.2.2.1).drop ((0:Nat)+(Int.toNat z4.2.2.2.2.1))).take ((Int.toNat ((z4.2.2.1:Nat):Int)) - (Int.toNat z4.2.2.2.2.1)))).length),(z4.2.2.2.1+(1:Int)),(((((((((((([]).drop (0:Nat)).take (0:Nat))++(((z4.2.2.2.2.2.2.2.2.2.1).drop ((0:Nat)+(Int.toNat (0:Int)))).take ((Int.toNat z4.2.2.2.2.1) - (Int.toNat (0:Int)))))).drop (0:Nat)).take ((0:Nat)+((((z4.2.2.2.2.2.2.2.2.2.1).drop ((0:Nat)+(Int.toNat (0:Int)))).take ((Int.toNat z4.2.2.2.2.1) - (Int.toNat (0:Int))))).length))++((((((z4.1).getD (Int.toNat z4.2.2.2.1) ((bs []),(0:Int),(bs []),(bs []),(0:Int))).2.2.2.1::[])).drop (0:Nat)).take (1:Nat)))).drop (0:Nat)).take (((0:Nat)+((((z4.2.2.2.2.2.2.2.2.2.1).drop ((0:Nat)+(Int.toNat (0:Int)))).take ((Int.toNat z4.2.2.2.2.1) - (Int.toNat (0:Int))))).length)+(((((((z4.1).getD (Int.toNat z4.2.2.2.1) ((bs []),(0:Int),(bs []),(bs []),(0:Int))).2.2.2.1::[])).drop (0:Nat)).take (1:Nat))).length))++(((z4.2.2.2.2.2.2.2.2.2.1).drop ((0:Nat)+(Int.toNat z4.2.2.2.2.1))).take ((Int.toNat ((z4.2.2.1:Nat):Int)) - (Int.toNat z4.2.2.2.2.1)))),z4.2.2.2.2.2.2.2.2.2.2.1,()))) (
 .ni (z4.2.2.2.1+(1:Int)) <|
 .ret (.inl (z4.1,z4.2.1,z4.2.2.1,(z4.2.2.2.1+(1:Int)),z4.2.2.2.2.2.2.2.2.2.1,z4.2.2.2.2.2.2.2.2.2.2.1,()))))))) (
 .ret (.inr (NI,b1,fC,())))
noncomputable def M3:bw prog 94 none 1:=aW mixed zq pJ [0] rfl MZ M0 rfl (M1) (fun x=>ai (gH61_v1_0 x)) (fun x=>by kernel_rfl)
noncomputable def FJ:D prog 94 none 1:=dO [.l M3] (kd prog f61) 0
noncomputable def FH61_v1 (fC:bJ):bG (Nat×List ByteArray×bJ×Unit) :=
 .bd (FH57_v1 fC) fun y0 =>
 .br y0.1 (
 .ret ((0:Nat),[],y0.2.1,())) (
 .bd (F71 y0.2.1) fun y1 =>
 .bd (F92 y1.1) fun y2 =>
 .bd (.it gH61_v1_0 (y1.1,y2.1,(0:Nat),(0:Int),[],y0.2.1,())) fun z5 =>
 .ret (z5.1,z5.2.1,z5.2.2.1,()))
theorem Im:cw prog f61=some ⟨94,1,FJ.er,[.t 2],[some (.list .str)]⟩:=by kernel_rfl
noncomputable def Kx:Ht:=⟨61,Wu,Wv,(fun x=>ai (FH61_v1 x.1))⟩
theorem Io:Kx.Ok prog:=bE mixed pJ rfl func61 Im (enters_of func61 rfl rfl) FJ (by kernel_rfl) rfl rfl ⟨_,rfl⟩ rfl (pre:=[0]) rfl (fun x=>by kernel_rfl)

/- 62, lent -/
abbrev Wx:av:=av.mk [(0,.c (.ptr 0 0))] [(0,.cells [.tf true,.hole (.list tG)] false)] [.slot 0] []
abbrev Wy:av:=av.mk [(0,.cS [.hole (.prod tI tI),.hole tI])] [(0,.cells [.tf true,.hole (.list tG)] false)] [] []
noncomputable def RO:Cx:=(aL [Rv,ct70] [nY])
theorem FK:RO.Ok prog:=au ⟨wL,Wn,trivial⟩ ⟨⟨iZ,rfl⟩,trivial⟩
noncomputable def FL:D prog 24 none 1:=dO [] (kd prog f62) 0
noncomputable def FH62_v1 (fC:bJ):bG ((Int×Int)×Int×bJ×Unit) :=
 .bd (FH57_v1 fC) fun y0 =>
 .br y0.1 (
 .ret (((0:Int),(0:Int)),(9:Int),y0.2.1,())) (
 .bd (F71 y0.2.1) fun y1 =>
 .bd (F70 y1.1 (bs [])) fun y2 =>
 .nb (0:Int) (((y2.1).length:Nat):Int) <|
 .ni ((((y2.1).length:Nat):Int) - (1:Int)) <|
 .nb ((((y2.1).length:Nat):Int) - (1:Int)) (((y2.1).length:Nat):Int) <|
 .ret ((((y2.1).getD (Int.toNat (0:Int)) (0:Int)),((y2.1).getD (Int.toNat ((((y2.1).length:Nat):Int) - (1:Int))) (0:Int))),(0:Int),y0.2.1,()))
theorem Ip:cw prog f62=some ⟨24,1,FL.er,[.cell 2 true 2,.t 3],[some (.prod tI tI),some tI]⟩:=by kernel_rfl
noncomputable def Ky:Ht:=⟨62,Wx,Wy,(fun x=>ai (FH62_v1 x.1))⟩
theorem Iq:Ky.Ok prog:=bE mixed FK rfl func62 Ip (enters_of func62 rfl rfl) FL (by kernel_rfl) rfl rfl ⟨_,rfl⟩ rfl (pre:=[0]) rfl (fun x=>by kernel_rfl)

/- 63, lent -/
abbrev Wz:av:=av.mk [(0,.c (.ptr 0 0)),(1,.c (.hole .str))] [(0,.cells [.tf true,.hole (.list tG)] false)] [.slot 0] []
abbrev WA:av:=av.mk [(0,.cS [.hole tI,.hole tI])] [(0,.cells [.tf true,.hole (.list tG)] false)] [] []
noncomputable def RP:Cx:=(aL [Rv,ack,RH] [nY])
theorem FM:RP.Ok prog:=au ⟨wL,Kv,wM,trivial⟩ ⟨⟨iZ,rfl⟩,trivial⟩
noncomputable def FN:D prog 36 none 1:=dO [] (kd prog f63) 0
noncomputable def FH63_v1 (v1:ByteArray) (fC:bJ):bG (Int×Int×bJ×Unit) :=
 .bd (FH57_v1 fC) fun y0 =>
 .br y0.1 (
 .ret ((0:Int),(9:Int),y0.2.1,())) (
 .bd (F71 y0.2.1) fun y1 =>
 .bd (F93 y1.1 v1) fun y2 =>
 .br (!(y2.2.1==(0:Int))) (
 .ret ((0:Int),y2.2.1,y0.2.1,())) (
 .nb y2.1 (((y1.1).length:Nat):Int) <|
 .br (((y1.1).getD (Int.toNat y2.1) ((bs []),(0:Int),(bs []),(bs []),(0:Int))).2.1==(3:Int)) (
 .ret ((0:Int),(18:Int),y0.2.1,())) (
 .bd (F92 y1.1) fun y3 =>
 .nb y2.1 (((y3.1).length:Nat):Int) <|
 .ret (((y3.1).getD (Int.toNat y2.1) (0:Int)),(0:Int),y0.2.1,()))))
theorem Ir:cw prog f63=some ⟨36,2,FN.er,[.t 4,.t 5],[some tI,some tI]⟩:=by kernel_rfl
noncomputable def KA:Ht:=⟨63,Wz,WA,(fun x=>ai (FH63_v1 x.1 x.2.1))⟩
theorem Is:KA.Ok prog:=bE mixed FM rfl func63 Ir (enters_of func63 rfl rfl) FN (by kernel_rfl) rfl rfl ⟨_,rfl⟩ rfl (pre:=[0]) rfl (fun x=>by kernel_rfl)

/- 64, lent -/
abbrev WB:av:=av.mk [(0,.c (.ptr 0 0)),(1,.c (.hole .str))] [(0,.cells [.tf true,.hole (.list tG)] false)] [.slot 0] []
abbrev WC:av:=av.mk [(0,.cS [.bH 1 .str,.hole tI])] [(1,.arr .str false),(0,.cells [.tf true,.hole (.list tG)] false)] [.part 0 0] []
noncomputable def zu:Cx:=(aL [Rv,ack,RH] [nY,C6])
theorem pK:zu.Ok prog:=au ⟨wL,Kv,wM,trivial⟩ ⟨⟨iZ,rfl⟩,⟨zo,rfl⟩,trivial⟩
abbrev M4:av:=av.mk [(6,.c (.hole (.list tG))),(9,.c (.bH 1 tI)),(10,.c (.bH 2 .str)),(11,hI),(12,hI)] [(1,.arr tI false),(2,.arr .str false),(0,.cells [.tf true,.hole (.list tG)] false)] [.slot 9,.slot 10] []
abbrev M5:aU:=[(.exit 2,av.mk [(6,.c (.hole (.list tG))),(9,.c (.bH 1 tI)),(10,.c (.bH 2 .str)),(11,hI)] [(1,.arr tI false),(2,.arr .str false),(0,.cells [.tf true,.hole (.list tG)] false)] [.slot 9,.slot 10] [])]
noncomputable def M6:D prog 67 none 1:=dO [] (pick (kd prog f64) [(0,false),(0,false)]) 0
noncomputable def gH64_v1_1:bJ×Nat×Nat×Int×Int×List Int×List ByteArray×bJ×Unit->bG ((bJ×Nat×Nat×Int×Int×List Int×List ByteArray×bJ×Unit) ⊕ ((bJ×Nat×Nat×Int×List Int×List ByteArray×bJ×Unit))):=fun (v6,vz,mW,v11,v12,b1,b2,fC,_) =>
 .br (decide (v12<((vz:Nat):Int))) (
 .nb v12 ((vz:Nat):Int) <|
 .nd (decide (((0:Nat)+(Int.toNat v12))<(b1).length)) <|
 .br (((b1).getD ((0:Nat)+(Int.toNat v12)) (0:Int))==v11) (
 .nb v11 (((v6).length:Nat):Int) <|
 .nd (decide ((mW+(((((((v6).getD (Int.toNat v11) ((bs []),(0:Int),(bs []),(bs []),(0:Int))).1::[])).drop (0:Nat)).take (1:Nat))).length)<bp)) <|
 .ni (v12+(1:Int)) <|
 .ret (.inl (v6,vz,(mW+(((((((v6).getD (Int.toNat v11) ((bs []),(0:Int),(bs []),(bs []),(0:Int))).1::[])).drop (0:Nat)).take (1:Nat))).length),v11,(v12+(1:Int)),b1,((((b2).drop (0:Nat)).take mW)++((((((v6).getD (Int.toNat v11) ((bs []),(0:Int),(bs []),(bs []),(0:Int))).1::[])).drop (0:Nat)).take (1:Nat))),fC,()))) (
 .ni (v12+(1:Int)) <|
 .ret (.inl (v6,vz,mW,v11,(v12+(1:Int)),b1,b2,fC,())))) (
 .ret (.inr (v6,vz,mW,v11,b1,b2,fC,())))
noncomputable def M7:bw prog 67 none 1:=aW mixed zu pK [0] rfl M4 M5 rfl (M6) (fun x=>ai (gH64_v1_1 x)) (fun x=>by kernel_rfl)
abbrev M8:av:=av.mk [(6,.c (.hole (.list tG))),(9,.c (.bH 1 tI)),(10,.c (.bH 2 .str)),(11,hI)] [(1,.arr tI false),(2,.arr .str false),(0,.cells [.tf true,.hole (.list tG)] false)] [.slot 9,.slot 10] []
abbrev M9:aU:=[(.exit 0,av.mk [(10,.c (.bH 1 .str))] [(1,.arr .str false),(0,.cells [.tf true,.hole (.list tG)] false)] [.slot 10] [])]
noncomputable def Na:D prog 67 none 1:=dO [.l M7] (pick (kd prog f64) [(0,false)]) 0
noncomputable def gH64_v1_0:bJ×Nat×Nat×Int×List Int×List ByteArray×bJ×Unit->bG ((bJ×Nat×Nat×Int×List Int×List ByteArray×bJ×Unit) ⊕ ((Nat×List ByteArray×bJ×Unit))):=fun (v6,vz,mW,v11,b1,b2,fC,_) =>
 .br (decide (v11<(((v6).length:Nat):Int))) (
 .bd (.it gH64_v1_1 (v6,vz,mW,v11,(0:Int),b1,b2,fC,())) fun z5 =>
 .ni (z5.2.2.2.1+(1:Int)) <|
 .ret (.inl (z5.1,z5.2.1,z5.2.2.1,(z5.2.2.2.1+(1:Int)),z5.2.2.2.2.1,z5.2.2.2.2.2.1,z5.2.2.2.2.2.2.1,()))) (
 .ret (.inr (mW,b2,fC,())))
noncomputable def Nb:bw prog 67 none 1:=aW mixed zu pK [0] rfl M8 M9 rfl (Na) (fun x=>ai (gH64_v1_0 x)) (fun x=>by kernel_rfl)
noncomputable def FO:D prog 67 none 1:=dO [.l Nb] (kd prog f64) 0
noncomputable def FH64_v1 (v1:ByteArray) (fC:bJ):bG (Nat×Int×List ByteArray×bJ×Unit) :=
 .bd (FH57_v1 fC) fun y0 =>
 .br y0.1 (
 .ret ((0:Nat),(9:Int),[],y0.2.1,())) (
 .bd (F71 y0.2.1) fun y1 =>
 .bd (F93 y1.1 v1) fun y2 =>
 .br (!(y2.2.1==(0:Int))) (
 .ret ((0:Nat),y2.2.1,[],y0.2.1,())) (
 .nb y2.1 (((y1.1).length:Nat):Int) <|
 .br (!(((y1.1).getD (Int.toNat y2.1) ((bs []),(0:Int),(bs []),(bs []),(0:Int))).2.1==(1:Int))) (
 .ret ((0:Nat),(18:Int),[],y0.2.1,())) (
 .bd (F92 y1.1) fun y3 =>
 .bd (FH94_v1fix y1.1 y3.1 y2.1) fun y4 =>
 .bd (.it gH64_v1_0 (y1.1,y4.1,(0:Nat),(0:Int),y4.2.1,[],y0.2.1,())) fun z6 =>
 .ret (z6.1,(0:Int),z6.2.1,z6.2.2.1,()))))
theorem It:cw prog f64=some ⟨67,2,FO.er,[.t 4,.t 5],[some (.list .str),some tI]⟩:=by kernel_rfl
noncomputable def KB:Ht:=⟨64,WB,WC,(fun x=>ai (FH64_v1 x.1 x.2.1))⟩
theorem Iu:KB.Ok prog:=bE mixed pK rfl func64 It (enters_of func64 rfl rfl) FO (by kernel_rfl) rfl rfl ⟨_,rfl⟩ rfl (pre:=[0]) rfl (fun x=>by kernel_rfl)

/- 22, lent -/
abbrev WD:av:=av.mk [(0,.c (.ptr 0 0)),(1,.c (.ptr 1 0)),(2,.c (.hole (.list .str)))] [(0,.cells [.mp 2] false),(1,.cells [.tf true,.hole (.list tG)] false),(2,gq)] [.slot 0,.slot 1,.cell 0 0] []
abbrev WE:av:=av.mk [(0,.c (.hole .bool))] [(0,.cells [.mp 2] false),(2,gq),(1,.cells [.tf true,.hole (.list tG)] false)] [] []
noncomputable def zw:Cx:=(aL [abP] [U2,Kw,abV,Kx,abN,Ky,aby,KA,abz,KB])
theorem pL:zw.Ok prog:=au ⟨Kg,trivial⟩ ⟨⟨CK,rfl⟩,⟨Il,rfl⟩,⟨Kn,rfl⟩,⟨Io,rfl⟩,⟨Ke,rfl⟩,⟨Iq,rfl⟩,⟨J2,rfl⟩,⟨Is,rfl⟩,⟨J5,rfl⟩,⟨Iu,rfl⟩,trivial⟩
abbrev Nc:av:=av.mk [(0,.c (.ptr 0 0)),(1,.c (.ptr 1 0)),(2,.c (.hole (.list .str))),(7,.c (.bH 3 tG)),(8,.c (.bH 4 tG)),(9,hI)] [(0,.cells [.mp 2] false),(1,.cells [.tf true,.hole (.list tG)] false),(3,.arr tG false),(4,.arr tG false),(2,gq)] [.slot 7,.slot 8] []
abbrev Nd:aU:=[(.ret,av.mk [(6,.c (.tf false))] [(0,.cells [.mp 2] false),(2,gq),(1,.cells [.tf true,.hole (.list tG)] false)] [] []),(.exit 0,av.mk [(0,.c (.ptr 0 0)),(1,.c (.ptr 1 0)),(2,.c (.hole (.list .str)))] [(0,.cells [.mp 2] false),(1,.cells [.tf true,.hole (.list tG)] false),(2,gq)] [] [])]
noncomputable def Nf:D prog 134 none 3:=dO [] (pick (kd prog f22) [(0,false)]) 0
noncomputable def gH22_v1_0:List ByteArray×Nat×Nat×Int×bJ×bJ×bJ×eR×Unit->bG ((List ByteArray×Nat×Nat×Int×bJ×bJ×bJ×eR×Unit) ⊕ ((eR×bJ×Unit) ⊕ ((List ByteArray×bJ×eR×Unit)))):=fun (v2,C4,mA,v9,tr,b3,b4,m2,_) =>
 .br (decide (v9<((C4:Nat):Int))) (
 .nb v9 ((C4:Nat):Int) <|
 .nd (decide (((0:Nat)+(Int.toNat v9))<(b3).length)) <|
 .nb v9 ((mA:Nat):Int) <|
 .nd (decide (((0:Nat)+(Int.toNat v9))<(b4).length)) <|
 .br (!((seq ((b3).getD ((0:Nat)+(Int.toNat v9)) ((bs []),(0:Int),(bs []),(bs []),(0:Int))).1 ((b4).getD ((0:Nat)+(Int.toNat v9)) ((bs []),(0:Int),(bs []),(bs []),(0:Int))).1)&&((((b3).getD ((0:Nat)+(Int.toNat v9)) ((bs []),(0:Int),(bs []),(bs []),(0:Int))).2.1==((b4).getD ((0:Nat)+(Int.toNat v9)) ((bs []),(0:Int),(bs []),(bs []),(0:Int))).2.1)&&((seq ((b3).getD ((0:Nat)+(Int.toNat v9)) ((bs []),(0:Int),(bs []),(bs []),(0:Int))).2.2.1 ((b4).getD ((0:Nat)+(Int.toNat v9)) ((bs []),(0:Int),(bs []),(bs []),(0:Int))).2.2.1)&&((seq ((b3).getD ((0:Nat)+(Int.toNat v9)) ((bs []),(0:Int),(bs []),(bs []),(0:Int))).2.2.2.1 ((b4).getD ((0:Nat)+(Int.toNat v9)) ((bs []),(0:Int),(bs []),(bs []),(0:Int))).2.2.2.1)&&((((b3).getD ((0:Nat)+(Int.toNat v9)) ((bs []),(0:Int),(bs []),(bs []),(0:Int))).2.2.2.2==((b4).getD ((0:Nat)+(Int.toNat v9)) ((bs []),(0:Int),(bs []),(bs []),(0:Int))).2.2.2.2)&&true)))))) (
 .ret (.inr <| .inl<|(m2,tr,()))) (
 .ni (v9+(1:Int)) <|
 .ret (.inl (v2,C4,mA,(v9+(1:Int)),tr,b3,b4,m2,())))) (
 .ret (.inr <| .inr<|(v2,tr,m2,())))
noncomputable def Ng:bw prog 134 none 3:=aW mixed zw pL [0,1,2] rfl Nc Nd rfl (Nf) (fun x=>ai (gH22_v1_0 x)) (fun x=>by kernel_rfl)
abbrev Nh:av:=av.mk [(0,.c (.ptr 0 0)),(1,.c (.ptr 1 0)),(2,.c (.hole (.list .str))),(14,hI)] [(0,.cells [.mp 2] false),(1,.cells [.tf true,.hole (.list tG)] false),(2,gq)] [] []
abbrev Ni:aU:=[(.ret,av.mk [(6,.c (.tf false))] [(0,.cells [.mp 2] false),(2,gq),(1,.cells [.tf true,.hole (.list tG)] false)] [] []),(.exit 2,av.mk [] [(0,.cells [.mp 2] false),(2,gq),(1,.cells [.tf true,.hole (.list tG)] false)] [] [])]
noncomputable def Nj:D prog 134 none 3:=dO [] (pick (kd prog f22) [(1,false)]) 0
noncomputable def gH22_v1_1:List ByteArray×Int×bJ×eR×Unit->bG ((List ByteArray×Int×bJ×eR×Unit) ⊕ ((eR×bJ×Unit) ⊕ ((eR×bJ×Unit)))):=fun (v2,oz,tr,m2,_) =>
 .br (decide (oz<(((v2).length:Nat):Int))) (
 .nb oz (((v2).length:Nat):Int) <|
 .bd (FH32 ((v2).getD (Int.toNat oz) (bs [])) m2) fun SN =>
 .nb oz (((v2).length:Nat):Int) <|
 .bd (FH63_v1 ((v2).getD (Int.toNat oz) (bs [])) tr) fun SO =>
 .nb oz (((v2).length:Nat):Int) <|
 .bd (FH33 ((v2).getD (Int.toNat oz) (bs [])) SN.2.2.1) fun SQ =>
 .nb oz (((v2).length:Nat):Int) <|
 .bd (FH64_v1 ((v2).getD (Int.toNat oz) (bs [])) SO.2.2.1) fun Dz =>
 .br (!(SN.1==SO.1)) (
 .ret (.inr <| .inl<|(SQ.2.2.2.1,Dz.2.2.2.1,()))) (
 .br (!(SN.2.1==SO.2.1)) (
 .ret (.inr <| .inl<|(SQ.2.2.2.1,Dz.2.2.2.1,()))) (
 .bd (F36 (((SQ.2.2.1).drop (0:Nat)).take SQ.1) (((Dz.2.2.1).drop (0:Nat)).take Dz.1)) fun Rk =>
 .br (!Rk.1) (
 .ret (.inr <| .inl<|(SQ.2.2.2.1,Dz.2.2.2.1,()))) (
 .br (!(SQ.2.1==Dz.2.1)) (
 .ret (.inr <| .inl<|(SQ.2.2.2.1,Dz.2.2.2.1,()))) (
 .ni (oz+(1:Int)) <|
 .ret (.inl (v2,(oz+(1:Int)),Dz.2.2.2.1,SQ.2.2.2.1,()))))))) (
 .ret (.inr <| .inr<|(m2,tr,())))
noncomputable def Nk:bw prog 134 none 3:=aW mixed zw pL [0,1,2] rfl Nh Ni rfl (Nj) (fun x=>ai (gH22_v1_1 x)) (fun x=>by kernel_rfl)
noncomputable def FP:D prog 134 none 3:=dO [.l Ng,.l Nk] (kd prog f22) 0
noncomputable def FH22_v1 (v2:List ByteArray) (tr:bJ) (m2:eR):bG (Bool×eR×bJ×Unit) :=
 .bd (FH47 m2) fun y0 =>
 .bd (FH60_v1 tr) fun y1 =>
 .br (!(((y0.1:Nat):Int)==((y1.1:Nat):Int))) (
 .ret (false,y0.2.2.1,y1.2.2.1,())) (
 .bd (FH45 y0.2.2.1) fun y2 =>
 .bd (FH61_v1 y1.2.2.1) fun y3 =>
 .bd (F36 (((y2.2.1).drop (0:Nat)).take y2.1) (((y3.2.1).drop (0:Nat)).take y3.1)) fun y4 =>
 .br (!y4.1) (
 .ret (false,y2.2.2.1,y3.2.2.1,())) (
 .bd (.it gH22_v1_0 (v2,y0.1,y1.1,(0:Int),y3.2.2.1,y0.2.1,y1.2.1,y2.2.2.1,())) fun z5 =>
 .sm z5 (fun z6 =>
 .ret (false,z6.1,z6.2.1,())) fun z7 =>
 .bd (FH37 z7.2.2.1) fun y8 =>
 .bd (FH62_v1 z7.2.1) fun y9 =>
 .br (!((y8.1.1==y9.1.1)&&((y8.1.2==y9.1.2)&&true))) (
 .ret (false,y8.2.2.1,y9.2.2.1,())) (
 .br (!(y8.2.1==y9.2.1)) (
 .ret (false,y8.2.2.1,y9.2.2.1,())) (
 .bd (.it gH22_v1_1 (z7.1,(0:Int),y9.2.2.1,y8.2.2.1,())) fun z15 =>
 .sm z15 (fun z16 =>
 .ret (false,z16.1,z16.2.1,())) fun z17 =>
 .ret (true,z17.1,z17.2.1,())))))
theorem Iv:cw prog f22=some ⟨134,3,FP.er,[.t 6],[some .bool]⟩:=by kernel_rfl
noncomputable def KC:Ht:=⟨22,WD,WE,(fun x=>ai (FH22_v1 x.1 x.2.1 x.2.2.1))⟩
theorem Iw:KC.Ok prog:=bE mixed pL rfl func22 Iv (enters_of func22 rfl rfl) FP (by kernel_rfl) rfl rfl ⟨_,rfl⟩ rfl (pre:=[0,1,2]) rfl (fun x=>by kernel_rfl)

/- 3 -/
noncomputable def cx3:Cx:=(aL [ct17,ct16] [aaE,ht19,aaP,Kt,KC])
theorem Iy:cx3.Ok prog:=au ⟨V0,V1,trivial⟩ ⟨⟨JM,rfl⟩,⟨V3,rfl⟩,⟨JP,rfl⟩,⟨Ij,rfl⟩,⟨Iw,rfl⟩,trivial⟩
abbrev p3_0:av:=av.mk [(0,.c (.hole (.list tG))),(1,.c (.hole (.list .str))),(5,.c (.ptr 0 0)),(6,.c (.ptr 1 0)),(7,hI)] [(0,.cells [.mp 2] false),(1,.cells [.tf true,.hole (.list tG)] false),(2,gq)] [.slot 5,.slot 6,.cell 0 0] []
abbrev x3_0:aU:=[(.ret,av.mk [(4,.c (.tf false))] [] [] []),(.exit 0,av.mk [(1,.c (.hole (.list .str))),(5,.c (.ptr 0 0)),(6,.c (.ptr 1 0))] [(0,.cells [.mp 2] false),(1,.cells [.tf true,.hole (.list tG)] false),(2,gq)] [.slot 5,.slot 6,.cell 0 0] [])]
noncomputable def b3_0:D prog 63 none 0:=dO [] (pick (kd prog f3) [(0,false)]) 0
noncomputable def g3_0:bJ×List ByteArray×Int×bJ×eR×Unit->bG ((bJ×List ByteArray×Int×bJ×eR×Unit) ⊕ ((Unit) ⊕ ((List ByteArray×bJ×eR×Unit)))):=fun (v0,v1,v7,tr,m2,_) =>
 .br (decide (v7<(((v0).length:Nat):Int))) (
 .nb v7 (((v0).length:Nat):Int) <|
 .nb v7 (((v0).length:Nat):Int) <|
 .bd (FH20 (((v0).getD (Int.toNat v7) ((bs []),(0:Int),(bs []),(bs []),(0:Int))).1,((v0).getD (Int.toNat v7) ((bs []),(0:Int),(bs []),(bs []),(0:Int))).2.1,((v0).getD (Int.toNat v7) ((bs []),(0:Int),(bs []),(bs []),(0:Int))).2.2.1,((v0).getD (Int.toNat v7) ((bs []),(0:Int),(bs []),(bs []),(0:Int))).2.2.2.1,((v0).getD (Int.toNat v7) ((bs []),(0:Int),(bs []),(bs []),(0:Int))).2.2.2.2) m2) fun y6 =>
 .bd (FH21_v1 (((v0).getD (Int.toNat v7) ((bs []),(0:Int),(bs []),(bs []),(0:Int))).1,((v0).getD (Int.toNat v7) ((bs []),(0:Int),(bs []),(bs []),(0:Int))).2.1,((v0).getD (Int.toNat v7) ((bs []),(0:Int),(bs []),(bs []),(0:Int))).2.2.1,((v0).getD (Int.toNat v7) ((bs []),(0:Int),(bs []),(bs []),(0:Int))).2.2.2.1,((v0).getD (Int.toNat v7) ((bs []),(0:Int),(bs []),(bs []),(0:Int))).2.2.2.2) tr) fun y7 =>
 .br (!(y6.1==y7.1)) (
 .ret (.inr <| .inl<|())) (
 .ni (v7+(1:Int)) <|
 .ret (.inl (v0,v1,(v7+(1:Int)),y7.2.1,y6.2.1,())))) (
 .ret (.inr <| .inr<|(v1,tr,m2,())))
noncomputable def L3_0:bw prog 63 none 0:=aW mixed cx3 Iy [] rfl p3_0 x3_0 rfl (b3_0) (fun x=>ai (g3_0 x)) (fun x=>by kernel_rfl)
abbrev p3_1:av:=av.mk [(1,.c (.hole (.list .str))),(5,.c (.ptr 0 0)),(6,.c (.ptr 1 0)),(8,hI)] [(0,.cells [.mp 2] false),(1,.cells [.tf true,.hole (.list tG)] false),(2,gq)] [.slot 5,.slot 6,.cell 0 0] []
abbrev x3_1:aU:=[(.ret,av.mk [(4,.c (.hole .bool))] [] [] []),(.exit 2,av.mk [(1,.c (.hole (.list .str))),(5,.c (.ptr 0 0)),(6,.c (.ptr 1 0))] [(0,.cells [.mp 2] false),(1,.cells [.tf true,.hole (.list tG)] false),(2,gq)] [.slot 5,.slot 6,.cell 0 0] [])]
noncomputable def b3_1:D prog 63 none 0:=dO [] (pick (kd prog f3) [(1,false)]) 0
noncomputable def g3_1:List ByteArray×Int×bJ×eR×Unit->bG ((List ByteArray×Int×bJ×eR×Unit) ⊕ ((Bool×Unit) ⊕ ((List ByteArray×bJ×eR×Unit)))):=fun (v1,v8,tr,m2,_) =>
 .br (decide (v8<(((v1).length:Nat):Int))) (
 .nb v8 (((v1).length:Nat):Int) <|
 .br (decide ((60:Int)<((((v1).getD (Int.toNat v8) (bs [])).size:Nat):Int))) (
 .bd (F17) fun SO =>
 .ret (.inr <| .inl<|(SO.1,()))) (
 .ni (v8+(1:Int)) <|
 .ret (.inl (v1,(v8+(1:Int)),tr,m2,())))) (
 .ret (.inr <| .inr<|(v1,tr,m2,())))
noncomputable def L3_1:bw prog 63 none 0:=aW mixed cx3 Iy [] rfl p3_1 x3_1 rfl (b3_1) (fun x=>ai (g3_1 x)) (fun x=>by kernel_rfl)
noncomputable def dd3:D prog 63 none 0:=dO [.l L3_0,.l L3_1] (kd prog f3) 0
noncomputable def F3 (a0:bJ) (a1:List ByteArray):bG (Bool×Unit) :=
 .br (decide ((30:Int)<(((a0).length:Nat):Int))) (
 .bd (F17) fun y0 =>
 .ret (y0.1,())) (
 .br (decide ((30:Int)<(((a1).length:Nat):Int))) (
 .bd (F17) fun y1 =>
 .ret (y1.1,())) (
 .bd (F16 a0) fun y2 =>
 .br y2.1 (
 .bd (F17) fun y3 =>
 .ret (y3.1,())) (
 .bd (FH18) fun y4 =>
 .bd (FH19) fun y5 =>
 .bd (.it g3_0 (a0,a1,(0:Int),[],y4.1,())) fun z8 =>
 .sm z8 (fun z9 =>
 .ret (false,())) fun wK =>
 .bd (.it g3_1 (wK.1,(0:Int),wK.2.1,wK.2.2.1,())) fun z12 =>
 .sm z12 (fun z13 =>
 .ret (z13.1,())) fun Wm =>
 .bd (FH22_v1 Wm.1 Wm.2.1 Wm.2.2.1) fun y15 =>
 .br y15.1 (
 .bd (F17) fun y16 =>
 .ret (y16.1,())) (
 .ret (false,())))))
theorem ah5:cw prog f3=some ⟨63,2,dd3.er,[.t 4],[some .bool]⟩:=by kernel_rfl
noncomputable def ct3:Ct:=⟨3,[.c (.hole (.list tG)),.c (.hole (.list .str))],.c (.hole .bool),fun x=>ai (F3 x.1 x.2.1)⟩
theorem acm:ct3.Ok prog:=cE mixed Iy func3 ah5 (enters_of func3 rfl rfl) dd3 (by kernel_rfl) rfl (fun x=>by kernel_rfl)

end Go.Proofs.Tryz

