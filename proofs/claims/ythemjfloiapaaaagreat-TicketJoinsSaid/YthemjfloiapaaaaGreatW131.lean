/- Functions of the program as functions of data, part 2; printed by a program of mine. -/
import Derived.Test.YthemjfloiapaaaaGreatW130
import Derived.Test.YthemjfloiapaaaaGreatProg
set_option linter.unusedSectionVars false
set_option linter.unusedVariables false
set_option linter.unusedSimpArgs false
open Go.AM
namespace Go.Proofs.Tryz
set_option maxRecDepth 100000
set_option synthInstance.maxSize 4000
set_option synthInstance.maxHeartbeats 400000


/- 94, lent -/
abbrev cg:au:=au.mk [(0,.c (.hole (.list tG))),(1,hL),(2,hI)] [] [] []
abbrev cm:au:=au.mk [(0,.c (.bI 0 tI))] [(0,.arr tI false)] [.slot 0] []
noncomputable def yV (rec:cg.T->Option cm.T):Cx:=(aK [] [⟨94,cg,cm,rec⟩])
theorem uX (rec:cg.T->Option cm.T) (h:Ht.Ok prog ⟨94,cg,cm,rec⟩):(yV rec).Ok prog:=aq trivial ⟨⟨h,rfl⟩,trivial⟩
abbrev um:au:=au.mk [(0,.c (.hole (.list tG))),(1,hL),(2,hI),(7,.c (.bI 0 tI)),(8,hI)] [(0,.arr tI false)] [.slot 7] []
abbrev uo:aU:=[(.exit 0,au.mk [(7,.c (.bI 0 tI))] [(0,.arr tI false)] [.slot 7] [])]
noncomputable def Be (rec:cg.T->Option cm.T) (h:Ht.Ok prog ⟨94,cg,cm,rec⟩):D prog 62 none 0:=dO [] (pick (kd prog f94) [(0,false)]) 0
noncomputable def gH94_v1_0:bq×List Int×Int×Nat×Int×List Int×Unit->Tr cg.T cm.T ((bq×List Int×Int×Nat×Int×List Int×Unit) ⊕ ((Nat×List Int×Unit))):=fun (v0,v1,v2,CO,v8,b0,_) =>
 .br (decide (v8<(((v0).length:Nat):Int))) (
 .nb v8 (((v0).length:Nat):Int) <|
 .br (((v0).getD (Int.toNat v8) ((bs []),(0:Int),(bs []),(bs []),(0:Int))).2.1==(2:Int)) (
 .nb v8 (((v0).length:Nat):Int) <|
 .nb v2 (((v0).length:Nat):Int) <|
 .br (seq ((v0).getD (Int.toNat v8) ((bs []),(0:Int),(bs []),(bs []),(0:Int))).2.2.1 ((v0).getD (Int.toNat v2) ((bs []),(0:Int),(bs []),(bs []),(0:Int))).1) (
 .nb v8 (((v1).length:Nat):Int) <|
 .br (decide ((2:Int)<((v1).getD (Int.toNat v8) (0:Int)))) (
 .bd (.rc (v0,v1,v8,())) fun y0 =>
 .nd (decide ((CO+((((y0.2.1).drop (0:Nat)).take y0.1)).length)<bp)) <|
 .ni (v8+(1:Int)) <|
 .ret (.inl (v0,v1,v2,(CO+((((y0.2.1).drop (0:Nat)).take y0.1)).length),(v8+(1:Int)),((((b0).drop (0:Nat)).take CO)++(((y0.2.1).drop (0:Nat)).take y0.1)),()))) (
 .ni (v8+(1:Int)) <|
 .ret (.inl (v0,v1,v2,CO,(v8+(1:Int)),b0,())))) (
 .ni (v8+(1:Int)) <|
 .ret (.inl (v0,v1,v2,CO,(v8+(1:Int)),b0,())))) (
 .ni (v8+(1:Int)) <|
 .ret (.inl (v0,v1,v2,CO,(v8+(1:Int)),b0,())))) (
 .ret (.inr (CO,b0,())))
theorem MF (rec:cg.T->Option cm.T) (h:Ht.Ok prog ⟨94,cg,cm,rec⟩):∀x,oF (iL (um.T ⊕ uo.T)) (yV rec) dZ [] um uo (Be rec h) (fun y=>some (.inl y)) (fun b=>some (.inr b)) x=run rec (gH94_v1_0 x):=fun x=>by kernel_rfl
noncomputable def MG (rec:cg.T->Option cm.T) (h:Ht.Ok prog ⟨94,cg,cm,rec⟩):bu prog 62 none 0:=aV mixed (yV rec) (uX rec h) [] rfl um uo rfl (Be rec h) (fun x=>run rec (gH94_v1_0 x)) (MF rec h)
noncomputable def Fo (rec:cg.T->Option cm.T) (h:Ht.Ok prog ⟨94,cg,cm,rec⟩):D prog 62 none 0:=dO [.l (MG rec h)] (kd prog f94) 0
noncomputable def FH94_v1 (v0:bq) (v1:List Int) (v2:Int):Tr cg.T cm.T (Nat×List Int×Unit) :=
 .nb v2 (((v1).length:Nat):Int) <|
 .br (((v1).getD (Int.toNat v2) (0:Int))==(4:Int)) (
 .ret ((1:Nat),(v2::[]),())) (
 .nb v2 (((v1).length:Nat):Int) <|
 .br (((v1).getD (Int.toNat v2) (0:Int))==(5:Int)) (
 .ret ((1:Nat),(v2::[]),())) (
 .bd (.it gH94_v1_0 (v0,v1,v2,(0:Nat),(0:Int),[],())) fun z1 =>
 .ret (z1.1,z1.2.1,())))
theorem H6 (rec:cg.T->Option cm.T) (h:Ht.Ok prog ⟨94,cg,cm,rec⟩):cn prog f94=some ⟨62,3,(Fo rec h).er,[.t 6],[some tL]⟩:=by kernel_rfl
theorem CQ (rec:cg.T->Option cm.T) (h:Ht.Ok prog ⟨94,cg,cm,rec⟩):Ht.Ok prog ⟨94,cg,cm,(fun x=>run rec (FH94_v1 x.1 x.2.1 x.2.2.1))⟩:=bA mixed (uX rec h) rfl func94 (H6 rec h) (enters_of func94 rfl rfl) (Fo rec h) (by kernel_rfl) rfl rfl ⟨_,rfl⟩ rfl (pre:=[]) rfl (fun x=>by kernel_rfl)
noncomputable def FH94_v1fix (v0:bq) (v1:List Int) (v2:Int):bG (Nat×List Int×Unit):=.fx (A1:=cg.T) (B1:=cm.T) (fun x=>FH94_v1 x.1 x.2.1 x.2.2.1) (v0,v1,v2,())
noncomputable def CR:Ht:=⟨94,cg,cm,fun x=>ai (FH94_v1fix x.1 x.2.1 x.2.2.1)⟩
theorem yW:CR.Ok prog:=Cm (F:=fun rec x=>run rec (FH94_v1 x.1 x.2.1 x.2.2.1)) (fun rec h=>CQ rec h)

/- 70 -/
noncomputable def MH:Cx:=(aK [RG] [CR])
theorem sI:MH.Ok prog:=aq ⟨wq,trivial⟩ ⟨⟨yW,rfl⟩,trivial⟩
abbrev ahP:au:=au.mk [(0,.c (.hole (.list tG))),(1,.c (.hole .str)),(5,hL),(6,.c (.bI 0 .bool)),(7,hI),(8,.c (.bI 1 .bool)),(9,.c (.bI 2 tI)),(10,hI),(11,hI),(12,hI)] [(0,.arr .bool false),(1,.arr .bool false),(2,.arr tI false)] [.slot 6,.slot 8,.slot 9] []
abbrev ahQ:aU:=[(.exit 4,au.mk [(0,.c (.hole (.list tG))),(1,.c (.hole .str)),(5,hL),(6,.c (.bI 0 .bool)),(7,hI),(8,.c (.bI 1 .bool)),(9,.c (.bI 2 tI)),(10,hI)] [(0,.arr .bool false),(1,.arr .bool false),(2,.arr tI false)] [.slot 6,.slot 8,.slot 9] [])]
noncomputable def ahR:D prog 99 none 0:=dO [] (pick (kd prog f70) [(0,false),(0,false),(0,false)]) 0
noncomputable def g70_2:bq×ByteArray×List Int×Nat×Int×Nat×Nat×Int×Int×Int×List Bool×List Bool×List Int×Unit->bG ((bq×ByteArray×List Int×Nat×Int×Nat×Nat×Int×Int×Int×List Bool×List Bool×List Int×Unit) ⊕ ((bq×ByteArray×List Int×Nat×Int×Nat×Nat×Int×List Bool×List Bool×List Int×Unit))):=fun (v0,v1,v5,uU,v7,l7,uY,v10,v11,v12,b0,b1,b2,_) =>
 .br (decide (v12<((uU:Nat):Int))) (
 .nb v12 ((uU:Nat):Int) <|
 .nd (decide (((0:Nat)+(Int.toNat v12))<(b0).length)) <|
 .br ((b0).getD ((0:Nat)+(Int.toNat v12)) false) (
 .ni (v12+v11) <|
 .nb (v12+v11) ((l7:Nat):Int) <|
 .nd (decide (((0:Nat)+(Int.toNat (v12+v11)))<(b1).length)) <|
 .ni (v12+(1:Int)) <|
 .ret (.inl (v0,v1,v5,uU,v7,l7,uY,v10,v11,(v12+(1:Int)),b0,((b1).set ((0:Nat)+(Int.toNat (v12+v11))) true),b2,()))) (
 .ni (v12+(1:Int)) <|
 .ret (.inl (v0,v1,v5,uU,v7,l7,uY,v10,v11,(v12+(1:Int)),b0,b1,b2,())))) (
 .ret (.inr (v0,v1,v5,uU,v7,l7,uY,v10,b0,b1,b2,())))
noncomputable def ahS:bu prog 99 none 0:=aV mixed MH sI [] rfl ahP ahQ rfl (ahR) (fun x=>ai (g70_2 x)) (fun x=>by kernel_rfl)
abbrev RH:au:=au.mk [(0,.c (.hole (.list tG))),(1,.c (.hole .str)),(5,hL),(6,.c (.bI 0 .bool)),(7,hI),(8,.c (.bI 1 .bool)),(9,.c (.bI 2 tI)),(10,hI)] [(0,.arr .bool false),(1,.arr .bool false),(2,.arr tI false)] [.slot 6,.slot 8,.slot 9] []
abbrev RI:aU:=[(.exit 2,au.mk [(0,.c (.hole (.list tG))),(1,.c (.hole .str)),(5,hL),(7,hI),(8,.c (.bI 0 .bool))] [(0,.arr .bool false)] [.slot 8] [])]
noncomputable def YY:D prog 99 none 0:=dO [.l ahS] (pick (kd prog f70) [(0,false),(0,false)]) 0
noncomputable def g70_1:bq×ByteArray×List Int×Nat×Int×Nat×Nat×Int×List Bool×List Bool×List Int×Unit->bG ((bq×ByteArray×List Int×Nat×Int×Nat×Nat×Int×List Bool×List Bool×List Int×Unit) ⊕ ((bq×ByteArray×List Int×Int×Nat×List Bool×Unit))):=fun (v0,v1,v5,uU,v7,l7,uY,v10,b0,b1,b2,_) =>
 .br (decide (v10<((uY:Nat):Int))) (
 .jx (
 .br (seq v1 (bs [])) (
 .nb v10 ((uY:Nat):Int) <|
 .nd (decide (((0:Nat)+(Int.toNat v10))<(b2).length)) <|
 .nb ((b2).getD ((0:Nat)+(Int.toNat v10)) (0:Int)) (((v0).length:Nat):Int) <|
 .ret (.inl (v0,v1,v5,uU,v7,l7,uY,v10,((v0).getD (Int.toNat ((b2).getD ((0:Nat)+(Int.toNat v10)) (0:Int))) ((bs []),(0:Int),(bs []),(bs []),(0:Int))).2.2.2.2,b0,b1,b2,()))) (
 .nb v10 ((uY:Nat):Int) <|
 .nd (decide (((0:Nat)+(Int.toNat v10))<(b2).length)) <|
 .nb ((b2).getD ((0:Nat)+(Int.toNat v10)) (0:Int)) (((v0).length:Nat):Int) <|
 .br (seq ((v0).getD (Int.toNat ((b2).getD ((0:Nat)+(Int.toNat v10)) (0:Int))) ((bs []),(0:Int),(bs []),(bs []),(0:Int))).2.2.2.1 v1) (
 .nb v10 ((uY:Nat):Int) <|
 .nd (decide (((0:Nat)+(Int.toNat v10))<(b2).length)) <|
 .nb ((b2).getD ((0:Nat)+(Int.toNat v10)) (0:Int)) (((v0).length:Nat):Int) <|
 .ret (.inl (v0,v1,v5,uU,v7,l7,uY,v10,((v0).getD (Int.toNat ((b2).getD ((0:Nat)+(Int.toNat v10)) (0:Int))) ((bs []),(0:Int),(bs []),(bs []),(0:Int))).2.2.2.2,b0,b1,b2,()))) (
 .ret (.inl (v0,v1,v5,uU,v7,l7,uY,v10,(0:Int),b0,b1,b2,()))))) fun j2 =>
 .bd (.it g70_2 (j2.1,j2.2.1,j2.2.2.1,j2.2.2.2.1,j2.2.2.2.2.1,j2.2.2.2.2.2.1,j2.2.2.2.2.2.2.1,j2.2.2.2.2.2.2.2.1,j2.2.2.2.2.2.2.2.2.1,(0:Int),j2.2.2.2.2.2.2.2.2.2.1,j2.2.2.2.2.2.2.2.2.2.2.1,j2.2.2.2.2.2.2.2.2.2.2.2.1,())) fun z3 =>
 .ni (z3.2.2.2.2.2.2.2.1+(1:Int)) <|
 .ret (.inl (z3.1,z3.2.1,z3.2.2.1,z3.2.2.2.1,z3.2.2.2.2.1,z3.2.2.2.2.2.1,z3.2.2.2.2.2.2.1,(z3.2.2.2.2.2.2.2.1+(1:Int)),z3.2.2.2.2.2.2.2.2.1,z3.2.2.2.2.2.2.2.2.2.1,z3.2.2.2.2.2.2.2.2.2.2.1,()))) (
 .ret (.inr (v0,v1,v5,v7,l7,b1,())))
theorem ahT:∀x,oF (iL (RH.T ⊕ RI.T)) MH dZ [] RH RI (YY) (fun y=>some (.inl y)) (fun b=>some (.inr b)) x=ai (g70_1 x):=fun x=>Eq.trans (b:=ai (flat (g70_1 x))) (by kernel_rfl) ym
noncomputable def ahU:bu prog 99 none 0:=aV mixed MH sI [] rfl RH RI rfl (YY) (fun x=>ai (g70_1 x)) (ahT)
abbrev ahV:au:=au.mk [(0,.c (.hole (.list tG))),(1,.c (.hole .str)),(5,hL),(6,.c (.bI 0 .bool)),(7,hI)] [(0,.arr .bool false)] [.slot 6] []
abbrev ahW:aU:=[(.exit 0,au.mk [(6,.c (.bI 0 .bool))] [(0,.arr .bool false)] [.slot 6] [])]
noncomputable def ahX:D prog 99 none 0:=dO [.l ahU] (pick (kd prog f70) [(0,false)]) 0
noncomputable def g70_0:bq×ByteArray×List Int×Nat×Int×List Bool×Unit->bG ((bq×ByteArray×List Int×Nat×Int×List Bool×Unit) ⊕ ((Nat×List Bool×Unit))):=fun (v0,v1,v5,uU,v7,b0,_) =>
 .br (decide (v7<(((v0).length:Nat):Int))) (
 .nb v7 (((v0).length:Nat):Int) <|
 .br (!(((v0).getD (Int.toNat v7) ((bs []),(0:Int),(bs []),(bs []),(0:Int))).2.1==(1:Int))) (
 .ni (v7+(1:Int)) <|
 .ret (.inl (v0,v1,v5,uU,(v7+(1:Int)),b0,()))) (
 .nb ((uU:Nat):Int) ((bp:Nat):Int) <|
 .bd (FH94_v1fix v0 v5 v7) fun y1 =>
 .bd (.it g70_1 (v0,v1,v5,uU,v7,(Int.toNat ((uU:Nat):Int)),y1.1,(0:Int),b0,(List.replicate (Int.toNat ((uU:Nat):Int)) false),y1.2.1,())) fun z4 =>
 .ni (z4.2.2.2.1+(1:Int)) <|
 .ret (.inl (z4.1,z4.2.1,z4.2.2.1,z4.2.2.2.2.1,(z4.2.2.2.1+(1:Int)),z4.2.2.2.2.2.1,())))) (
 .ret (.inr (uU,b0,())))
noncomputable def ahY:bu prog 99 none 0:=aV mixed MH sI [] rfl ahV ahW rfl (ahX) (fun x=>ai (g70_0 x)) (fun x=>by kernel_rfl)
abbrev ahZ:au:=au.mk [(6,.c (.bI 0 .bool)),(13,.c (.bI 1 tI)),(14,hI)] [(0,.arr .bool false),(1,.arr tI false)] [.slot 6,.slot 13] []
abbrev ah0:aU:=[(.exit 6,au.mk [(13,.c (.bI 0 tI))] [(0,.arr tI false)] [.slot 13] [])]
noncomputable def ah1:D prog 99 none 0:=dO [] (pick (kd prog f70) [(1,false)]) 0
noncomputable def g70_3:Nat×Nat×Int×List Bool×List Int×Unit->bG ((Nat×Nat×Int×List Bool×List Int×Unit) ⊕ ((Nat×List Int×Unit))):=fun (uU,RJ,nY,b0,b1,_) =>
 .br (decide (nY<((uU:Nat):Int))) (
 .nb nY ((uU:Nat):Int) <|
 .nd (decide (((0:Nat)+(Int.toNat nY))<(b0).length)) <|
 .br ((b0).getD ((0:Nat)+(Int.toNat nY)) false) (
 .ni (nY - (60000:Int)) <|
 .nd (decide ((RJ+((((((nY - (60000:Int))::[])).drop (0:Nat)).take (1:Nat))).length)<bp)) <|
 .ni (nY+(1:Int)) <|
 .ret (.inl (uU,(RJ+((((((nY - (60000:Int))::[])).drop (0:Nat)).take (1:Nat))).length),(nY+(1:Int)),b0,((((b1).drop (0:Nat)).take RJ)++(((((nY - (60000:Int))::[])).drop (0:Nat)).take (1:Nat))),()))) (
 .ni (nY+(1:Int)) <|
 .ret (.inl (uU,RJ,(nY+(1:Int)),b0,b1,())))) (
 .ret (.inr (RJ,b1,())))
noncomputable def ah2:bu prog 99 none 0:=aV mixed MH sI [] rfl ahZ ah0 rfl (ah1) (fun x=>ai (g70_3 x)) (fun x=>by kernel_rfl)
noncomputable def dd70:D prog 99 none 0:=dO [.l ahY,.l ah2] (kd prog f70) 0
noncomputable def F70 (a0:bq) (a1:ByteArray):bG (List Int×Unit) :=
 .bd (F92 a0) fun y0 =>
 .nb (120001:Int) ((bp:Nat):Int) <|
 .nb (60000:Int) (((Int.toNat (120001:Int)):Nat):Int) <|
 .nd (decide (((0:Nat)+(Int.toNat (60000:Int)))<((List.replicate (Int.toNat (120001:Int)) false)).length)) <|
 .bd (.it g70_0 (a0,a1,y0.1,(Int.toNat (120001:Int)),(0:Int),(((List.replicate (Int.toNat (120001:Int)) false)).set ((0:Nat)+(Int.toNat (60000:Int))) true),())) fun z5 =>
 .bd (.it g70_3 (z5.1,(0:Nat),(0:Int),z5.2.1,[],())) fun z6 =>
 .ret ((((z6.2.1).drop (0:Nat)).take z6.1),())
theorem acq:cn prog f70=some ⟨99,2,dd70.er,[.t 4],[some tL]⟩:=by kernel_rfl
noncomputable def ct70:Ct:=⟨70,[.c (.hole (.list tG)),.c (.hole .str)],hL,fun x=>ai (F70 x.1 x.2.1)⟩
theorem Wl:ct70.Ok prog:=cA mixed sI func70 acq (enters_of func70 rfl rfl) dd70 (by kernel_rfl) rfl (fun x=>by kernel_rfl)

/- 57, lent -/
abbrev Wm:au:=au.mk [(0,.c (.ptr 0 0))] [(0,.cells [.tf true,.hole (.list tG)] false)] [.slot 0] []
abbrev Wn:au:=au.mk [(0,.c (.hole .bool))] [(0,.cells [.tf true,.hole (.list tG)] false)] [] []
noncomputable def RK:Cx:=(aK [] [])
theorem Fp:RK.Ok prog:=aq trivial trivial
noncomputable def Fq:D prog 12 none 1:=dO [] (kd prog f57) 0
noncomputable def FH57_v1 (dX:bq):bG (Bool×bq×Unit) :=
 .ret (false,dX,())
theorem H7:cn prog f57=some ⟨12,1,Fq.er,[.t 2],[some .bool]⟩:=by kernel_rfl
noncomputable def lK:Ht:=⟨57,Wm,Wn,(fun x=>ai (FH57_v1 x.1))⟩
theorem gI:lK.Ok prog:=bA mixed Fp rfl func57 H7 (enters_of func57 rfl rfl) Fq (by kernel_rfl) rfl rfl ⟨_,rfl⟩ rfl (pre:=[0]) rfl (fun x=>by kernel_rfl)

/- 21, lent -/
abbrev Wo:au:=au.mk [(0,.c (.ptr 0 0)),(1,.c (.hole tG))] [(0,.cells [.tf true,.hole (.list tG)] false)] [.slot 0] []
abbrev Wp:au:=au.mk [(0,hI)] [(0,.cells [.tf true,.hole (.list tG)] false)] [] []
noncomputable def RL:Cx:=(aK [ct58,ab9] [lK])
theorem Fs:RL.Ok prog:=aq ⟨V8,Kh,trivial⟩ ⟨⟨gI,rfl⟩,trivial⟩
noncomputable def Ft:D prog 27 none 1:=dO [] (kd prog f21) 0
noncomputable def FH21_v1 (v1:GG) (dX:bq):bG (Int×bq×Unit) :=
 .bd (FH57_v1 dX) fun y0 =>
 .br y0.1 (
 .ret ((9:Int),y0.2.1,())) (
 .bd (F58 (v1.1,v1.2.1,v1.2.2.1,v1.2.2.2.1,v1.2.2.2.2)) fun y1 =>
 .br (!(y1.1==(0:Int))) (
 .ret (y1.1,y0.2.1,())) (
 .bd (F59 y0.2.1 (v1.1,v1.2.1,v1.2.2.1,v1.2.2.2.1,v1.2.2.2.2)) fun y2 =>
 .br (decide ((60:Int)<(((y2.1).length:Nat):Int))) (
 .ret ((15:Int),y0.2.1,())) (
 .ret ((0:Int),y2.1,()))))
theorem H8:cn prog f21=some ⟨27,2,Ft.er,[.t 4],[some tI]⟩:=by kernel_rfl
noncomputable def Kj:Ht:=⟨21,Wo,Wp,(fun x=>ai (FH21_v1 x.1 x.2.1))⟩
theorem H9:Kj.Ok prog:=bA mixed Fs rfl func21 H8 (enters_of func21 rfl rfl) Ft (by kernel_rfl) rfl rfl ⟨_,rfl⟩ rfl (pre:=[0]) rfl (fun x=>by kernel_rfl)

/- 192, lent -/
abbrev ah5:au:=au.mk [(0,.c (.ptr 0 0))] [(0,.cells [.mp 1] false),(1,dy)] [.slot 0,.cell 0 0] []
abbrev ah6:au:=au.mk [(0,.c (.bI 2 tG))] [(2,.arr tG false),(0,.cells [.mp 1] false),(1,dy)] [.slot 0] []
noncomputable def acr:Cx:=(aK [] [Qj])
theorem MJ:acr.Ok prog:=aq trivial ⟨⟨wh,rfl⟩,trivial⟩
noncomputable def RM:D prog 5 none 2:=dO [] (kd prog f192) 0
noncomputable def FH192 (m1:cB):bG (Nat×bq×cB×Unit) :=
 .bd (FH47 m1) fun y0 =>
 .ret (y0.1,y0.2.1,y0.2.2.1,())
theorem RN:cn prog f192=some ⟨5,1,RM.er,[.t 2],[some (.list tG)]⟩:=by kernel_rfl
noncomputable def YZ:Ht:=⟨192,ah5,ah6,(fun x=>ai (FH192 x.1))⟩
theorem RO:YZ.Ok prog:=bA mixed MJ rfl func192 RN (enters_of func192 rfl rfl) RM (by kernel_rfl) rfl rfl ⟨_,rfl⟩ rfl (pre:=[0,1]) rfl (fun x=>by kernel_rfl)

/- 56, lent -/
abbrev Wq:au:=au.mk [(0,.c (.ptr 0 0)),(1,.c (.D6 26 false (.cons (.ptr 1 0) .nil)))] [(0,.cells [.mp 2] false),(1,.cells [.mp 3] false),(2,dy),(3,dy)] [.slot 0,.slot 1,.cell 0 0,.cell 1 0] []
abbrev Wr:au:=au.mk [(0,hI)] [(0,.cells [.mp 4] false),(1,.cells [.mp 5] false),(4,dy),(5,dy)] [.cell 0 0,.cell 1 0] []
noncomputable def Fu:Cx:=(aK [] [aaP,YZ])
theorem uZ:Fu.Ok prog:=aq trivial ⟨⟨JE,rfl⟩,⟨RO,rfl⟩,trivial⟩
abbrev MK:au:=au.mk [(0,.c (.ptr 0 0)),(5,.c (.mp 4)),(14,.c (.bI 5 tG)),(15,hI),(16,hI)] [(0,.cells [.mp 2] false),(4,dy),(5,.arr tG false),(2,dy),(1,.cells [.mp 3] false),(3,dy)] [.slot 5,.slot 14] []
abbrev ML:aU:=[(.exit 0,au.mk [(0,.c (.ptr 0 0)),(5,.c (.mp 4))] [(0,.cells [.mp 2] false),(4,dy),(2,dy),(1,.cells [.mp 3] false),(3,dy)] [.slot 5] [])]
noncomputable def MM:D prog 30 none 4:=dO [] (pick (kd prog f56) [(0,false)]) 0
noncomputable def gH56_v1_0:Nat×Int×Int×cB×bq×cB×cB×Unit->bG ((Nat×Int×Int×cB×bq×cB×cB×Unit) ⊕ ((cB×cB×cB×Unit))):=fun (Qb,v15,qY,m4,b5,m2,m3,_) =>
 .br (decide (qY<v15)) (
 .nb qY ((Qb:Nat):Int) <|
 .nd (decide (((0:Nat)+(Int.toNat qY))<(b5).length)) <|
 .ni (qY+(1:Int)) <|
 .ret (.inl (Qb,v15,(qY+(1:Int)),(bn (.prod .str (.prod (.int .i64) (.prod .str (.prod .str (.int .i64))))) m4 (((b5).getD ((0:Nat)+(Int.toNat qY)) ((bs []),(0:Int),(bs []),(bs []),(0:Int))).1,((b5).getD ((0:Nat)+(Int.toNat qY)) ((bs []),(0:Int),(bs []),(bs []),(0:Int))).2.1,((b5).getD ((0:Nat)+(Int.toNat qY)) ((bs []),(0:Int),(bs []),(bs []),(0:Int))).2.2.1,((b5).getD ((0:Nat)+(Int.toNat qY)) ((bs []),(0:Int),(bs []),(bs []),(0:Int))).2.2.2.1,((b5).getD ((0:Nat)+(Int.toNat qY)) ((bs []),(0:Int),(bs []),(bs []),(0:Int))).2.2.2.2) true),b5,m2,m3,()))) (
 .ret (.inr (m4,m2,m3,())))
noncomputable def MN:bu prog 30 none 4:=aV mixed Fu uZ [0,1,2,3] rfl MK ML rfl (MM) (fun x=>ai (gH56_v1_0 x)) (fun x=>by kernel_rfl)
noncomputable def Fv:D prog 30 none 4:=dO [.l MN] (kd prog f56) 0
noncomputable def FH56_v1 (m2:cB) (m3:cB):bG (Int×cB×cB×Unit) :=
 .bd (FH89 m2) fun y0 =>
 .bd (FH192 m3) fun y1 =>
 .bd (.it gH56_v1_0 (y1.1,((y1.1:Nat):Int),(0:Int),y0.1,y1.2.1,y0.2.1,y1.2.2.1,())) fun z2 =>
 .br (decide ((60:Int)<(((z2.1).length:Nat):Int))) (
 .ret ((15:Int),z2.2.1,z2.2.2.1,())) (
 .ret ((0:Int),z2.1,z2.2.2.1,()))
theorem Ia:cn prog f56=some ⟨30,2,Fv.er,[.t 4],[some tI]⟩:=by kernel_rfl
noncomputable def Kk:Ht:=⟨56,Wq,Wr,(fun x=>ai (FH56_v1 x.1 x.2.1))⟩
theorem Ib:Kk.Ok prog:=bA mixed uZ rfl func56 Ia (enters_of func56 rfl rfl) Fv (by kernel_rfl) rfl rfl ⟨_,rfl⟩ rfl (pre:=[0,1,2,3]) rfl (fun x=>by kernel_rfl)

/- 48, lent -/
abbrev pH48:au:=au.mk [(0,.c (.ptr 0 0)),(1,.c (.ptr 1 0))] [(0,.cells [.mp 2] false),(1,.cells [.mp 3] false),(2,dy),(3,dy)] [.slot 0,.slot 1,.cell 0 0,.cell 1 0] []
abbrev qH48:au:=au.mk [(0,hI)] [(0,.cells [.mp 4] false),(1,.cells [.mp 5] false),(4,dy),(5,dy)] [.cell 0 0,.cell 1 0] []
noncomputable def ah7:Cx:=(aK [] [yB,Kk])
theorem RP:ah7.Ok prog:=aq trivial ⟨⟨lH,rfl⟩,⟨Ib,rfl⟩,trivial⟩
noncomputable def Y4:D prog 15 none 4:=dO [] (kd prog f48) 0
noncomputable def FH48 (m2:cB) (m3:cB):bG (Int×cB×cB×Unit) :=
 .bd (FH54 m2) fun y0 =>
 .br y0.1 (
 .ret ((9:Int),y0.2.1,m3,())) (
 .bd (FH54 m3) fun y1 =>
 .br y1.1 (
 .ret ((9:Int),y0.2.1,y1.2.1,())) (
 .bd (FH56_v1 y0.2.1 y1.2.1) fun y2 =>
 .ret (y2.1,y2.2.1,y2.2.2.1,())))
theorem Ws:cn prog f48=some ⟨15,2,Y4.er,[.t 4],[some tI]⟩:=by kernel_rfl
noncomputable def ht48:Ht:=⟨48,pH48,qH48,(fun x=>ai (FH48 x.1 x.2.1))⟩
theorem Wt:ht48.Ok prog:=bA mixed RP rfl func48 Ws (enters_of func48 rfl rfl) Y4 (by kernel_rfl) rfl rfl ⟨_,rfl⟩ rfl (pre:=[0,1,2,3]) rfl (fun x=>by kernel_rfl)

/- 93 -/
noncomputable def cx93:Cx:=(aK [] [])
theorem Kl:cx93.Ok prog:=aq trivial trivial
abbrev aia:au:=au.mk [(0,.c (.hole (.list tG))),(1,.c (.hole .str)),(6,hI)] [] [] []
abbrev aib:aU:=[(.ret,au.mk [(4,hI),(5,hI)] [] [] []),(.exit 0,au.mk [] [] [] [])]
noncomputable def aic:D prog 21 none 0:=dO [] (pick (kd prog f93) [(0,false)]) 0
noncomputable def g93_0:bq×ByteArray×Int×Unit->bG ((bq×ByteArray×Int×Unit) ⊕ ((Int×Int×Unit) ⊕ ((Unit)))):=fun (v0,v1,v6,_) =>
 .br (decide (v6<(((v0).length:Nat):Int))) (
 .nb v6 (((v0).length:Nat):Int) <|
 .br (seq ((v0).getD (Int.toNat v6) ((bs []),(0:Int),(bs []),(bs []),(0:Int))).1 v1) (
 .ret (.inr <| .inl<|(v6,(0:Int),()))) (
 .ni (v6+(1:Int)) <|
 .ret (.inl (v0,v1,(v6+(1:Int)),())))) (
 .ret (.inr <| .inr<|()))
noncomputable def aid:bu prog 21 none 0:=aV mixed cx93 Kl [] rfl aia aib rfl (aic) (fun x=>ai (g93_0 x)) (fun x=>by kernel_rfl)
noncomputable def dd93:D prog 21 none 0:=dO [.l aid] (kd prog f93) 0
noncomputable def F93 (a0:bq) (a1:ByteArray):bG (Int×Int×Unit) :=
 .bd (.it g93_0 (a0,a1,(0:Int),())) fun z0 =>
 .sm z0 (fun z1 =>
 .ret (z1.1,z1.2.1,())) fun z2 =>
 .ret ((0:Int),(5:Int),())
theorem acs:cn prog f93=some ⟨21,2,dd93.er,[.t 4,.t 5],[some tI,some tI]⟩:=by kernel_rfl
noncomputable def acu:Ct:=⟨93,[.c (.hole (.list tG)),.c (.hole .str)],.cQ [.hole tI,.hole tI],fun x=>ai (F93 x.1 x.2.1)⟩
theorem Km:acu.Ok prog:=cA mixed Kl func93 acs (enters_of func93 rfl rfl) dd93 (by kernel_rfl) rfl (fun x=>by kernel_rfl)

/- 49, lent -/
abbrev Wu:au:=au.mk [(0,.c (.ptr 0 0)),(1,.c (.ptr 1 0))] [(0,.cells [.tf true,.hole (.list tG)] false),(1,.cells [.tf true,.hole (.list tG)] false)] [.slot 0,.slot 1] []
abbrev Wv:au:=au.mk [(0,hI)] [(0,.cells [.tf true,.hole (.list tG)] false),(1,.cells [.tf true,.hole (.list tG)] false)] [] []
noncomputable def Fw:Cx:=(aK [ab9] [lK])
theorem u5:Fw.Ok prog:=aq ⟨Kh,trivial⟩ ⟨⟨gI,rfl⟩,trivial⟩
abbrev MO:au:=au.mk [(0,.c (.ptr 0 0)),(1,.c (.ptr 1 0)),(5,.c (.hole (.list tG))),(6,hI)] [(0,.cells [.tf true,.hole (.list tG)] false),(1,.cells [.tf true,.hole (.list tG)] false)] [] []
abbrev MP:aU:=[(.exit 0,au.mk [(0,.c (.ptr 0 0)),(5,.c (.hole (.list tG)))] [(0,.cells [.tf true,.hole (.list tG)] false),(1,.cells [.tf true,.hole (.list tG)] false)] [] [])]
noncomputable def MQ:D prog 42 none 2:=dO [] (pick (kd prog f49) [(0,false)]) 0
noncomputable def gH49_v1_0:bq×Int×bq×bq×Unit->bG ((bq×Int×bq×bq×Unit) ⊕ ((bq×bq×bq×Unit))):=fun (v5,v6,dX,lZ,_) =>
 .br (decide (v6<(((lZ).length:Nat):Int))) (
 .nb v6 (((lZ).length:Nat):Int) <|
 .bd (F59 v5 (((lZ).getD (Int.toNat v6) ((bs []),(0:Int),(bs []),(bs []),(0:Int))).1,((lZ).getD (Int.toNat v6) ((bs []),(0:Int),(bs []),(bs []),(0:Int))).2.1,((lZ).getD (Int.toNat v6) ((bs []),(0:Int),(bs []),(bs []),(0:Int))).2.2.1,((lZ).getD (Int.toNat v6) ((bs []),(0:Int),(bs []),(bs []),(0:Int))).2.2.2.1,((lZ).getD (Int.toNat v6) ((bs []),(0:Int),(bs []),(bs []),(0:Int))).2.2.2.2)) fun y2 =>
 .ni (v6+(1:Int)) <|
 .ret (.inl (y2.1,(v6+(1:Int)),dX,lZ,()))) (
 .ret (.inr (v5,dX,lZ,())))
noncomputable def MR:bu prog 42 none 2:=aV mixed Fw u5 [0,1] rfl MO MP rfl (MQ) (fun x=>ai (gH49_v1_0 x)) (fun x=>by kernel_rfl)
noncomputable def Fx:D prog 42 none 2:=dO [.l MR] (kd prog f49) 0
noncomputable def FH49_v1 (dX:bq) (lZ:bq):bG (Int×bq×bq×Unit) :=
 .bd (FH57_v1 dX) fun y0 =>
 .br y0.1 (
 .ret ((9:Int),y0.2.1,lZ,())) (
 .bd (FH57_v1 lZ) fun y1 =>
 .br y1.1 (
 .ret ((9:Int),y0.2.1,y1.2.1,())) (
 .bd (.it gH49_v1_0 (y0.2.1,(0:Int),y0.2.1,y1.2.1,())) fun z3 =>
 .br (decide ((60:Int)<(((z3.1).length:Nat):Int))) (
 .ret ((15:Int),z3.2.1,z3.2.2.1,())) (
 .ret ((0:Int),z3.1,z3.2.2.1,()))))
theorem Ic:cn prog f49=some ⟨42,2,Fx.er,[.t 4],[some tI]⟩:=by kernel_rfl
noncomputable def Kn:Ht:=⟨49,Wu,Wv,(fun x=>ai (FH49_v1 x.1 x.2.1))⟩
theorem Ie:Kn.Ok prog:=bA mixed u5 rfl func49 Ic (enters_of func49 rfl rfl) Fx (by kernel_rfl) rfl rfl ⟨_,rfl⟩ rfl (pre:=[0,1]) rfl (fun x=>by kernel_rfl)

/- 60, lent -/
abbrev Ww:au:=au.mk [(0,.c (.ptr 0 0))] [(0,.cells [.tf true,.hole (.list tG)] false)] [.slot 0] []
abbrev Wx:au:=au.mk [(0,.c (.bI 1 tG))] [(1,.arr tG false),(0,.cells [.tf true,.hole (.list tG)] false)] [.slot 0] []
noncomputable def RQ:Cx:=(aK [] [lK])
theorem Fy:RQ.Ok prog:=aq trivial ⟨⟨gI,rfl⟩,trivial⟩
noncomputable def Fz:D prog 11 none 1:=dO [] (kd prog f60) 0
noncomputable def FH60_v1 (dX:bq):bG (Nat×bq×bq×Unit) :=
 .bd (FH57_v1 dX) fun y0 =>
 .br y0.1 (
 .ret ((0:Nat),[],y0.2.1,())) (
 .nd (decide (((0:Nat)+(y0.2.1).length)<bp)) <|
 .ret (((0:Nat)+(y0.2.1).length),(((([]).drop (0:Nat)).take (0:Nat))++y0.2.1),y0.2.1,()))
theorem Ig:cn prog f60=some ⟨11,1,Fz.er,[.t 2],[some (.list tG)]⟩:=by kernel_rfl
noncomputable def Ko:Ht:=⟨60,Ww,Wx,(fun x=>ai (FH60_v1 x.1))⟩
theorem Ih:Ko.Ok prog:=bA mixed Fy rfl func60 Ig (enters_of func60 rfl rfl) Fz (by kernel_rfl) rfl rfl ⟨_,rfl⟩ rfl (pre:=[0]) rfl (fun x=>by kernel_rfl)

/- 61, lent -/
abbrev Wy:au:=au.mk [(0,.c (.ptr 0 0))] [(0,.cells [.tf true,.hole (.list tG)] false)] [.slot 0] []
abbrev Wz:au:=au.mk [(0,.c (.bI 1 .str))] [(1,.arr .str false),(0,.cells [.tf true,.hole (.list tG)] false)] [.slot 0] []
noncomputable def yX:Cx:=(aK [Rt,RG] [lK])
theorem oT:yX.Ok prog:=aq ⟨wo,wq,trivial⟩ ⟨⟨gI,rfl⟩,trivial⟩
abbrev MS:au:=au.mk [(3,.c (.hole (.list tG))),(4,hL),(5,.c (.bI 1 .str)),(6,hI),(7,hI),(36,.c (.hole (.list tG))),(37,hI),(40,hI),(41,.c (.hole .bool))] [(1,.arr .str false),(0,.cells [.tf true,.hole (.list tG)] false)] [.slot 5] []
abbrev MT:aU:=[(.exit 2,au.mk [(3,.c (.hole (.list tG))),(4,hL),(5,.c (.bI 1 .str)),(6,hI),(7,hI),(36,.c (.hole (.list tG))),(37,hI),(40,hI),(41,.c (.hole .bool))] [(1,.arr .str false),(0,.cells [.tf true,.hole (.list tG)] false)] [.slot 5] [])]
noncomputable def MU:D prog 94 none 1:=dO [] (pick (kd prog f61) [(0,false),(0,false)]) 0
noncomputable def gH61_v1_1:bq×List Int×Nat×Int×Int×bq×Int×Int×Bool×List ByteArray×bq×Unit->bG ((bq×List Int×Nat×Int×Int×bq×Int×Int×Bool×List ByteArray×bq×Unit) ⊕ ((bq×List Int×Nat×Int×Int×bq×Int×Int×Bool×List ByteArray×bq×Unit))):=fun (v3,v4,NF,v6,v7,WA,v37,v40,v41,b1,dX,_) =>
 .br (decide (v7<((NF:Nat):Int))) (
 .nb v7 ((NF:Nat):Int) <|
 .nd (decide (((0:Nat)+(Int.toNat v7))<(b1).length)) <|
 .nb v6 (((v3).length:Nat):Int) <|
 .br (slt ((b1).getD ((0:Nat)+(Int.toNat v7)) (bs [])) ((v3).getD (Int.toNat v6) ((bs []),(0:Int),(bs []),(bs []),(0:Int))).2.2.2.1) (
 .ni (v7+(1:Int)) <|
 .ret (.inl (v3,v4,NF,v6,(v7+(1:Int)),WA,v37,v40,v41,b1,dX,()))) (
 .ret (.inr (v3,v4,NF,v6,v7,WA,v37,v40,v41,b1,dX,())))) (
 .ret (.inr (v3,v4,NF,v6,v7,WA,v37,v40,v41,b1,dX,())))
noncomputable def MV:bu prog 94 none 1:=aV mixed yX oT [0] rfl MS MT rfl (MU) (fun x=>ai (gH61_v1_1 x)) (fun x=>by kernel_rfl)
abbrev MW:au:=au.mk [(3,.c (.hole (.list tG))),(4,hL),(5,.c (.bI 1 .str)),(6,hI)] [(1,.arr .str false),(0,.cells [.tf true,.hole (.list tG)] false)] [.slot 5] []
abbrev MX:aU:=[(.exit 0,au.mk [(5,.c (.bI 1 .str))] [(1,.arr .str false),(0,.cells [.tf true,.hole (.list tG)] false)] [.slot 5] [])]
noncomputable def MY:D prog 94 none 1:=dO [.l MV] (pick (kd prog f61) [(0,false)]) 0
noncomputable def gH61_v1_0:bq×List Int×Nat×Int×List ByteArray×bq×Unit->bG ((bq×List Int×Nat×Int×List ByteArray×bq×Unit) ⊕ ((Nat×List ByteArray×bq×Unit))):=fun (v3,v4,NF,v6,b1,dX,_) =>
 .br (decide (v6<(((v3).length:Nat):Int))) (
 .nb v6 (((v4).length:Nat):Int) <|
 .br (!(((v4).getD (Int.toNat v6) (0:Int))==(4:Int))) (
 .nb v6 (((v4).length:Nat):Int) <|
 .br (!(((v4).getD (Int.toNat v6) (0:Int))==(5:Int))) (
 .ni (v6+(1:Int)) <|
 .ret (.inl (v3,v4,NF,(v6+(1:Int)),b1,dX,()))) (
 .nb v6 (((v3).length:Nat):Int) <|
 .br (((v3).getD (Int.toNat v6) ((bs []),(0:Int),(bs []),(bs []),(0:Int))).2.1==(3:Int)) (
 .ni (v6+(1:Int)) <|
 .ret (.inl (v3,v4,NF,(v6+(1:Int)),b1,dX,()))) (
 .bd (.it gH61_v1_1 (v3,v4,NF,v6,(0:Int),v3,v6,((v3).getD (Int.toNat v6) ((bs []),(0:Int),(bs []),(bs []),(0:Int))).2.1,(((v3).getD (Int.toNat v6) ((bs []),(0:Int),(bs []),(bs []),(0:Int))).2.1==(3:Int)),b1,dX,())) fun z3 =>
 .br (z3.2.2.2.2.1==((z3.2.2.1:Nat):Int)) (
 .nd (decide ((0:Int)<=(0:Int))) <|
 .nd (decide ((0:Int)<=z3.2.2.2.2.1)) <|
 .nd (decide (z3.2.2.2.2.1<=((z3.2.2.1:Nat):Int))) <|
 .nd (decide (((0:Nat)+((((z3.2.2.2.2.2.2.2.2.2.1).drop ((0:Nat)+(Int.toNat (0:Int)))).take ((Int.toNat z3.2.2.2.2.1) - (Int.toNat (0:Int))))).length)<bp)) <|
 .nb z3.2.2.2.1 (((z3.1).length:Nat):Int) <|
 .nd (decide ((((0:Nat)+((((z3.2.2.2.2.2.2.2.2.2.1).drop ((0:Nat)+(Int.toNat (0:Int)))).take ((Int.toNat z3.2.2.2.2.1) - (Int.toNat (0:Int))))).length)+(((((((z3.1).getD (Int.toNat z3.2.2.2.1) ((bs []),(0:Int),(bs []),(bs []),(0:Int))).2.2.2.1::[])).drop (0:Nat)).take (1:Nat))).length)<bp)) <|
 .nd (decide ((0:Int)<=z3.2.2.2.2.1)) <|
 .nd (decide (z3.2.2.2.2.1<=((z3.2.2.1:Nat):Int))) <|
 .nd (decide (((z3.2.2.1:Nat):Int)<=((z3.2.2.1:Nat):Int))) <|
 .nd (decide (((((0:Nat)+((((z3.2.2.2.2.2.2.2.2.2.1).drop ((0:Nat)+(Int.toNat (0:Int)))).take ((Int.toNat z3.2.2.2.2.1) - (Int.toNat (0:Int))))).length)+(((((((z3.1).getD (Int.toNat z3.2.2.2.1) ((bs []),(0:Int),(bs []),(bs []),(0:Int))).2.2.2.1::[])).drop (0:Nat)).take (1:Nat))).length)+((((z3.2.2.2.2.2.2.2.2.2.1).drop ((0:Nat)+(Int.toNat z3.2.2.2.2.1))).take ((Int.toNat ((z3.2.2.1:Nat):Int)) - (Int.toNat z3.2.2.2.2.1)))).length)<bp)) <|
 .ni (z3.2.2.2.1+(1:Int)) <|
 .ret (.inl (z3.1,z3.2.1,((((0:Nat)+((((z3.2.2.2.2.2.2.2.2.2.1).drop ((0:Nat)+(Int.toNat (0:Int)))).take ((Int.toNat z3.2.2.2.2.1) - (Int.toNat (0:Int))))).length)+(((((((z3.1).getD (Int.toNat z3.2.2.2.1) ((bs []),(0:Int),(bs []),(bs []),(0:Int))).2.2.2.1::[])).drop (0:Nat)).take (1:Nat))).length)+((((z3.2.2.2.2.2.2.2.2.2.1).drop ((0:Nat)+(Int.toNat z3.2.2.2.2.1))).take ((Int.toNat ((z3.2.2.1:Nat):Int)) - (Int.toNat z3.2.2.2.2.1)))).length),(z3.2.2.2.1+(1:Int)),(((((((((((([]).drop (0:Nat)).take (0:Nat))++(((z3.2.2.2.2.2.2.2.2.2.1).drop ((0:Nat)+(Int.toNat (0:Int)))).take ((Int.toNat z3.2.2.2.2.1) - (Int.toNat (0:Int)))))).drop (0:Nat)).take ((0:Nat)+((((z3.2.2.2.2.2.2.2.2.2.1).drop ((0:Nat)+(Int.toNat (0:Int)))).take ((Int.toNat z3.2.2.2.2.1) - (Int.toNat (0:Int))))).length))++((((((z3.1).getD (Int.toNat z3.2.2.2.1) ((bs []),(0:Int),(bs []),(bs []),(0:Int))).2.2.2.1::[])).drop (0:Nat)).take (1:Nat)))).drop (0:Nat)).take (((0:Nat)+((((z3.2.2.2.2.2.2.2.2.2.1).drop ((0:Nat)+(Int.toNat (0:Int)))).take ((Int.toNat z3.2.2.2.2.1) - (Int.toNat (0:Int))))).length)+(((((((z3.1).getD (Int.toNat z3.2.2.2.1) ((bs []),(0:Int),(bs []),(bs []),(0:Int))).2.2.2.1::[])).drop (0:Nat)).take (1:Nat))).length))++(((z3.2.2.2.2.2.2.2.2.2.1).drop ((0:Nat)+(Int.toNat z3.2.2.2.2.1))).take ((Int.toNat ((z3.2.2.1:Nat):Int)) - (Int.toNat z3.2.2.2.2.1)))),z3.2.2.2.2.2.2.2.2.2.2.1,()))) (
 .nb z3.2.2.2.2.1 ((z3.2.2.1:Nat):Int) <|
 .nd (decide (((0:Nat)+(Int.toNat z3.2.2.2.2.1))<(z3.2.2.2.2.2.2.2.2.2.1).length)) <|
 .nb z3.2.2.2.1 (((z3.1).length:Nat):Int) <|
 .br (!(seq ((z3.2.2.2.2.2.2.2.2.2.1).getD ((0:Nat)+(Int.toNat z3.2.2.2.2.1)) (bs [])) ((z3.1).getD (Int.toNat z3.2.2.2.1) ((bs []),(0:Int),(bs []),(bs []),(0:Int))).2.2.2.1)) (
 .nd (decide ((0:Int)<=(0:Int))) <|
 .nd (decide ((0:Int)<=z3.2.2.2.2.1)) <|
 .nd (decide (z3.2.2.2.2.1<=((z3.2.2.1:Nat):Int))) <|
 .nd (decide (((0:Nat)+((((z3.2.2.2.2.2.2.2.2.2.1).drop ((0:Nat)+(Int.toNat (0:Int)))).take ((Int.toNat z3.2.2.2.2.1) - (Int.toNat (0:Int))))).length)<bp)) <|
 .nb z3.2.2.2.1 (((z3.1).length:Nat):Int) <|
 .nd (decide ((((0:Nat)+((((z3.2.2.2.2.2.2.2.2.2.1).drop ((0:Nat)+(Int.toNat (0:Int)))).take ((Int.toNat z3.2.2.2.2.1) - (Int.toNat (0:Int))))).length)+(((((((z3.1).getD (Int.toNat z3.2.2.2.1) ((bs []),(0:Int),(bs []),(bs []),(0:Int))).2.2.2.1::[])).drop (0:Nat)).take (1:Nat))).length)<bp)) <|
 .nd (decide ((0:Int)<=z3.2.2.2.2.1)) <|
 .nd (decide (z3.2.2.2.2.1<=((z3.2.2.1:Nat):Int))) <|
 .nd (decide (((z3.2.2.1:Nat):Int)<=((z3.2.2.1:Nat):Int))) <|
 .nd (decide (((((0:Nat)+((((z3.2.2.2.2.2.2.2.2.2.1).drop ((0:Nat)+(Int.toNat (0:Int)))).take ((Int.toNat z3.2.2.2.2.1) - (Int.toNat (0:Int))))).length)+(((((((z3.1).getD (Int.toNat z3.2.2.2.1) ((bs []),(0:Int),(bs []),(bs []),(0:Int))).2.2.2.1::[])).drop (0:Nat)).take (1:Nat))).length)+((((z3.2.2.2.2.2.2.2.2.2.1).drop ((0:Nat)+(Int.toNat z3.2.2.2.2.1))).take ((Int.toNat ((z3.2.2.1:Nat):Int)) - (Int.toNat z3.2.2.2.2.1)))).length)<bp)) <|
 .ni (z3.2.2.2.1+(1:Int)) <|
 .ret (.inl (z3.1,z3.2.1,((((0:Nat)+((((z3.2.2.2.2.2.2.2.2.2.1).drop ((0:Nat)+(Int.toNat (0:Int)))).take ((Int.toNat z3.2.2.2.2.1) - (Int.toNat (0:Int))))).length)+(((((((z3.1).getD (Int.toNat z3.2.2.2.1) ((bs []),(0:Int),(bs []),(bs []),(0:Int))).2.2.2.1::[])).drop (0:Nat)).take (1:Nat))).length)+((((z3.2.2.2.2.2.2.2.2.2.1).drop ((0:Nat)+(Int.toNat z3.2.2.2.2.1))).take ((Int.toNat ((z3.2.2.1:Nat):Int)) - (Int.toNat z3.2.2.2.2.1)))).length),(z3.2.2.2.1+(1:Int)),(((((((((((([]).drop (0:Nat)).take (0:Nat))++(((z3.2.2.2.2.2.2.2.2.2.1).drop ((0:Nat)+(Int.toNat (0:Int)))).take ((Int.toNat z3.2.2.2.2.1) - (Int.toNat (0:Int)))))).drop (0:Nat)).take ((0:Nat)+((((z3.2.2.2.2.2.2.2.2.2.1).drop ((0:Nat)+(Int.toNat (0:Int)))).take ((Int.toNat z3.2.2.2.2.1) - (Int.toNat (0:Int))))).length))++((((((z3.1).getD (Int.toNat z3.2.2.2.1) ((bs []),(0:Int),(bs []),(bs []),(0:Int))).2.2.2.1::[])).drop (0:Nat)).take (1:Nat)))).drop (0:Nat)).take (((0:Nat)+((((z3.2.2.2.2.2.2.2.2.2.1).drop ((0:Nat)+(Int.toNat (0:Int)))).take ((Int.toNat z3.2.2.2.2.1) - (Int.toNat (0:Int))))).length)+(((((((z3.1).getD (Int.toNat z3.2.2.2.1) ((bs []),(0:Int),(bs []),(bs []),(0:Int))).2.2.2.1::[])).drop (0:Nat)).take (1:Nat))).length))++(((z3.2.2.2.2.2.2.2.2.2.1).drop ((0:Nat)+(Int.toNat z3.2.2.2.2.1))).take ((Int.toNat ((z3.2.2.1:Nat):Int)) - (Int.toNat z3.2.2.2.2.1)))),z3.2.2.2.2.2.2.2.2.2.2.1,()))) (
 .ni (z3.2.2.2.1+(1:Int)) <|
 .ret (.inl (z3.1,z3.2.1,z3.2.2.1,(z3.2.2.2.1+(1:Int)),z3.2.2.2.2.2.2.2.2.2.1,z3.2.2.2.2.2.2.2.2.2.2.1,()))))))) (
 .nb v6 (((v3).length:Nat):Int) <|
 .br (((v3).getD (Int.toNat v6) ((bs []),(0:Int),(bs []),(bs []),(0:Int))).2.1==(3:Int)) (
 .ni (v6+(1:Int)) <|
 .ret (.inl (v3,v4,NF,(v6+(1:Int)),b1,dX,()))) (
 .bd (.it gH61_v1_1 (v3,v4,NF,v6,(0:Int),v3,v6,((v3).getD (Int.toNat v6) ((bs []),(0:Int),(bs []),(bs []),(0:Int))).2.1,(((v3).getD (Int.toNat v6) ((bs []),(0:Int),(bs []),(bs []),(0:Int))).2.1==(3:Int)),b1,dX,())) fun z4 =>
 .br (z4.2.2.2.2.1==((z4.2.2.1:Nat):Int)) (
 .nd (decide ((0:Int)<=(0:Int))) <|
 .nd (decide ((0:Int)<=z4.2.2.2.2.1)) <|
 .nd (decide (z4.2.2.2.2.1<=((z4.2.2.1:Nat):Int))) <|
 .nd (decide (((0:Nat)+((((z4.2.2.2.2.2.2.2.2.2.1).drop ((0:Nat)+(Int.toNat (0:Int)))).take ((Int.toNat z4.2.2.2.2.1) - (Int.toNat (0:Int))))).length)<bp)) <|
 .nb z4.2.2.2.1 (((z4.1).length:Nat):Int) <|
 .nd (decide ((((0:Nat)+((((z4.2.2.2.2.2.2.2.2.2.1).drop ((0:Nat)+(Int.toNat (0:Int)))).take ((Int.toNat z4.2.2.2.2.1) - (Int.toNat (0:Int))))).length)+(((((((z4.1).getD (Int.toNat z4.2.2.2.1) ((bs []),(0:Int),(bs []),(bs []),(0:Int))).2.2.2.1::[])).drop (0:Nat)).take (1:Nat))).length)<bp)) <|
 .nd (decide ((0:Int)<=z4.2.2.2.2.1)) <|
 .nd (decide (z4.2.2.2.2.1<=((z4.2.2.1:Nat):Int))) <|
 .nd (decide (((z4.2.2.1:Nat):Int)<=((z4.2.2.1:Nat):Int))) <|
 .nd (decide (((((0:Nat)+((((z4.2.2.2.2.2.2.2.2.2.1).drop ((0:Nat)+(Int.toNat (0:Int)))).take ((Int.toNat z4.2.2.2.2.1) - (Int.toNat (0:Int))))).length)+(((((((z4.1).getD (Int.toNat z4.2.2.2.1) ((bs []),(0:Int),(bs []),(bs []),(0:Int))).2.2.2.1::[])).drop (0:Nat)).take (1:Nat))).length)+((((z4.2.2.2.2.2.2.2.2.2.1).drop ((0:Nat)+(Int.toNat z4.2.2.2.2.1))).take ((Int.toNat ((z4.2.2.1:Nat):Int)) - (Int.toNat z4.2.2.2.2.1)))).length)<bp)) <|
 .ni (z4.2.2.2.1+(1:Int)) <|
 .ret (.inl (z4.1,z4.2.1,((((0:Nat)+((((z4.2.2.2.2.2.2.2.2.2.1).drop ((0:Nat)+(Int.toNat (0:Int)))).take ((Int.toNat z4.2.2.2.2.1) - (Int.toNat (0:Int))))).length)+(((((((z4.1).getD (Int.toNat z4.2.2.2.1) ((bs []),(0:Int),(bs []),(bs []),(0:Int))).2.2.2.1::[])).drop (0:Nat)).take (1:Nat))).length)+((((z4.2.2.2.2.2.2.2.2.2.1).drop ((0:Nat)+(Int.toNat z4.2.2.2.2.1))).take ((Int.toNat ((z4.2.2.1:Nat):Int)) - (Int.toNat z4.2.2.2.2.1)))).length),(z4.2.2.2.1+(1:Int)),(((((((((((([]).drop (0:Nat)).take (0:Nat))++(((z4.2.2.2.2.2.2.2.2.2.1).drop ((0:Nat)+(Int.toNat (0:Int)))).take ((Int.toNat z4.2.2.2.2.1) - (Int.toNat (0:Int)))))).drop (0:Nat)).take ((0:Nat)+((((z4.2.2.2.2.2.2.2.2.2.1).drop ((0:Nat)+(Int.toNat (0:Int)))).take ((Int.toNat z4.2.2.2.2.1) - (Int.toNat (0:Int))))).length))++((((((z4.1).getD (Int.toNat z4.2.2.2.1) ((bs []),(0:Int),(bs []),(bs []),(0:Int))).2.2.2.1::[])).drop (0:Nat)).take (1:Nat)))).drop (0:Nat)).take (((0:Nat)+((((z4.2.2.2.2.2.2.2.2.2.1).drop ((0:Nat)+(Int.toNat (0:Int)))).take ((Int.toNat z4.2.2.2.2.1) - (Int.toNat (0:Int))))).length)+(((((((z4.1).getD (Int.toNat z4.2.2.2.1) ((bs []),(0:Int),(bs []),(bs []),(0:Int))).2.2.2.1::[])).drop (0:Nat)).take (1:Nat))).length))++(((z4.2.2.2.2.2.2.2.2.2.1).drop ((0:Nat)+(Int.toNat z4.2.2.2.2.1))).take ((Int.toNat ((z4.2.2.1:Nat):Int)) - (Int.toNat z4.2.2.2.2.1)))),z4.2.2.2.2.2.2.2.2.2.2.1,()))) (
 .nb z4.2.2.2.2.1 ((z4.2.2.1:Nat):Int) <|
 .nd (decide (((0:Nat)+(Int.toNat z4.2.2.2.2.1))<(z4.2.2.2.2.2.2.2.2.2.1).length)) <|
 .nb z4.2.2.2.1 (((z4.1).length:Nat):Int) <|
 .br (!(seq ((z4.2.2.2.2.2.2.2.2.2.1).getD ((0:Nat)+(Int.toNat z4.2.2.2.2.1)) (bs [])) ((z4.1).getD (Int.toNat z4.2.2.2.1) ((bs []),(0:Int),(bs []),(bs []),(0:Int))).2.2.2.1)) (
 .nd (decide ((0:Int)<=(0:Int))) <|
 .nd (decide ((0:Int)<=z4.2.2.2.2.1)) <|
 .nd (decide (z4.2.2.2.2.1<=((z4.2.2.1:Nat):Int))) <|
 .nd (decide (((0:Nat)+((((z4.2.2.2.2.2.2.2.2.2.1).drop ((0:Nat)+(Int.toNat (0:Int)))).take ((Int.toNat z4.2.2.2.2.1) - (Int.toNat (0:Int))))).length)<bp)) <|
 .nb z4.2.2.2.1 (((z4.1).length:Nat):Int) <|
 .nd (decide ((((0:Nat)+((((z4.2.2.2.2.2.2.2.2.2.1).drop ((0:Nat)+(Int.toNat (0:Int)))).take ((Int.toNat z4.2.2.2.2.1) - (Int.toNat (0:Int))))).length)+(((((((z4.1).getD (Int.toNat z4.2.2.2.1) ((bs []),(0:Int),(bs []),(bs []),(0:Int))).2.2.2.1::[])).drop (0:Nat)).take (1:Nat))).length)<bp)) <|
 .nd (decide ((0:Int)<=z4.2.2.2.2.1)) <|
 .nd (decide (z4.2.2.2.2.1<=((z4.2.2.1:Nat):Int))) <|
 .nd (decide (((z4.2.2.1:Nat):Int)<=((z4.2.2.1:Nat):Int))) <|
 .nd (decide (((((0:Nat)+((((z4.2.2.2.2.2.2.2.2.2.1).drop ((0:Nat)+(Int.toNat (0:Int)))).take ((Int.toNat z4.2.2.2.2.1) - (Int.toNat (0:Int))))).length)+(((((((z4.1).getD (Int.toNat z4.2.2.2.1) ((bs []),(0:Int),(bs []),(bs []),(0:Int))).2.2.2.1::[])).drop (0:Nat)).take (1:Nat))).length)+((((z4.2.2.2.2.2.2.2.2.2.1).drop ((0:Nat)+(Int.toNat z4.2.2.2.2.1))).take ((Int.toNat ((z4.2.2.1:Nat):Int)) - (Int.toNat z4.2.2.2.2.1)))).length)<bp)) <|
 .ni (z4.2.2.2.1+(1:Int)) <|
 .ret (.inl (z4.1,z4.2.1,((((0:Nat)+((((z4.2.2.2.2.2.2.2.2.2.1).drop ((0:Nat)+(Int.toNat (0:Int)))).take ((Int.toNat z4.2.2.2.2.1) - (Int.toNat (0:Int))))).length)+(((((((z4.1).getD (Int.toNat z4.2.2.2.1) ((bs []),(0:Int),(bs []),(bs []),(0:Int))).2.2.2.1::[])).drop (0:Nat)).take (1:Nat))).length)+((((z4.2.2.2.2.2.2.2.2.2.1).drop ((0:Nat)+(Int.toNat z4.2.2.2.2.1))).take ((Int.toNat ((z4.2.2.1:Nat):Int)) - (Int.toNat z4.2.2.2.2.1)))).length),(z4.2.2.2.1+(1:Int)),(((((((((((([]).drop (0:Nat)).take (0:Nat))++(((z4.2.2.2.2.2.2.2.2.2.1).drop ((0:Nat)+(Int.toNat (0:Int)))).take ((Int.toNat z4.2.2.2.2.1) - (Int.toNat (0:Int)))))).drop (0:Nat)).take ((0:Nat)+((((z4.2.2.2.2.2.2.2.2.2.1).drop ((0:Nat)+(Int.toNat (0:Int)))).take ((Int.toNat z4.2.2.2.2.1) - (Int.toNat (0:Int))))).length))++((((((z4.1).getD (Int.toNat z4.2.2.2.1) ((bs []),(0:Int),(bs []),(bs []),(0:Int))).2.2.2.1::[])).drop (0:Nat)).take (1:Nat)))).drop (0:Nat)).take (((0:Nat)+((((z4.2.2.2.2.2.2.2.2.2.1).drop ((0:Nat)+(Int.toNat (0:Int)))).take ((Int.toNat z4.2.2.2.2.1) - (Int.toNat (0:Int))))).length)+(((((((z4.1).getD (Int.toNat z4.2.2.2.1) ((bs []),(0:Int),(bs []),(bs []),(0:Int))).2.2.2.1::[])).drop (0:Nat)).take (1:Nat))).length))++(((z4.2.2.2.2.2.2.2.2.2.1).drop ((0:Nat)+(Int.toNat z4.2.2.2.2.1))).take ((Int.toNat ((z4.2.2.1:Nat):Int)) - (Int.toNat z4.2.2.2.2.1)))),z4.2.2.2.2.2.2.2.2.2.2.1,()))) (
 .ni (z4.2.2.2.1+(1:Int)) <|
 .ret (.inl (z4.1,z4.2.1,z4.2.2.1,(z4.2.2.2.1+(1:Int)),z4.2.2.2.2.2.2.2.2.2.1,z4.2.2.2.2.2.2.2.2.2.2.1,()))))))) (
 .ret (.inr (NF,b1,dX,())))
noncomputable def MZ:bu prog 94 none 1:=aV mixed yX oT [0] rfl MW MX rfl (MY) (fun x=>ai (gH61_v1_0 x)) (fun x=>by kernel_rfl)
noncomputable def FA:D prog 94 none 1:=dO [.l MZ] (kd prog f61) 0
noncomputable def FH61_v1 (dX:bq):bG (Nat×List ByteArray×bq×Unit) :=
 .bd (FH57_v1 dX) fun y0 =>
 .br y0.1 (
 .ret ((0:Nat),[],y0.2.1,())) (
 .bd (F71 y0.2.1) fun y1 =>
 .bd (F92 y1.1) fun y2 =>
 .bd (.it gH61_v1_0 (y1.1,y2.1,(0:Nat),(0:Int),[],y0.2.1,())) fun z5 =>
 .ret (z5.1,z5.2.1,z5.2.2.1,()))
theorem Ii:cn prog f61=some ⟨94,1,FA.er,[.t 2],[some (.list .str)]⟩:=by kernel_rfl
noncomputable def Kq:Ht:=⟨61,Wy,Wz,(fun x=>ai (FH61_v1 x.1))⟩
theorem Ij:Kq.Ok prog:=bA mixed oT rfl func61 Ii (enters_of func61 rfl rfl) FA (by kernel_rfl) rfl rfl ⟨_,rfl⟩ rfl (pre:=[0]) rfl (fun x=>by kernel_rfl)

/- 62, lent -/
abbrev WB:au:=au.mk [(0,.c (.ptr 0 0))] [(0,.cells [.tf true,.hole (.list tG)] false)] [.slot 0] []
abbrev WC:au:=au.mk [(0,.cQ [.hole (.prod tI tI),.hole tI])] [(0,.cells [.tf true,.hole (.list tG)] false)] [] []
noncomputable def RR:Cx:=(aK [Rt,ct70] [lK])
theorem FB:RR.Ok prog:=aq ⟨wo,Wl,trivial⟩ ⟨⟨gI,rfl⟩,trivial⟩
noncomputable def FC:D prog 24 none 1:=dO [] (kd prog f62) 0
noncomputable def FH62_v1 (dX:bq):bG ((Int×Int)×Int×bq×Unit) :=
 .bd (FH57_v1 dX) fun y0 =>
 .br y0.1 (
 .ret (((0:Int),(0:Int)),(9:Int),y0.2.1,())) (
 .bd (F71 y0.2.1) fun y1 =>
 .bd (F70 y1.1 (bs [])) fun y2 =>
 .nb (0:Int) (((y2.1).length:Nat):Int) <|
 .ni ((((y2.1).length:Nat):Int) - (1:Int)) <|
 .nb ((((y2.1).length:Nat):Int) - (1:Int)) (((y2.1).length:Nat):Int) <|
 .ret ((((y2.1).getD (Int.toNat (0:Int)) (0:Int)),((y2.1).getD (Int.toNat ((((y2.1).length:Nat):Int) - (1:Int))) (0:Int))),(0:Int),y0.2.1,()))
theorem Ik:cn prog f62=some ⟨24,1,FC.er,[.cell 2 true 2,.t 3],[some (.prod tI tI),some tI]⟩:=by kernel_rfl
noncomputable def Kr:Ht:=⟨62,WB,WC,(fun x=>ai (FH62_v1 x.1))⟩
theorem Il:Kr.Ok prog:=bA mixed FB rfl func62 Ik (enters_of func62 rfl rfl) FC (by kernel_rfl) rfl rfl ⟨_,rfl⟩ rfl (pre:=[0]) rfl (fun x=>by kernel_rfl)

/- 63, lent -/
abbrev WD:au:=au.mk [(0,.c (.ptr 0 0)),(1,.c (.hole .str))] [(0,.cells [.tf true,.hole (.list tG)] false)] [.slot 0] []
abbrev WE:au:=au.mk [(0,.cQ [.hole tI,.hole tI])] [(0,.cells [.tf true,.hole (.list tG)] false)] [] []
noncomputable def RT:Cx:=(aK [Rt,acu,RG] [lK])
theorem FD:RT.Ok prog:=aq ⟨wo,Km,wq,trivial⟩ ⟨⟨gI,rfl⟩,trivial⟩
noncomputable def FE:D prog 36 none 1:=dO [] (kd prog f63) 0
noncomputable def FH63_v1 (v1:ByteArray) (dX:bq):bG (Int×Int×bq×Unit) :=
 .bd (FH57_v1 dX) fun y0 =>
 .br y0.1 (
 .ret ((0:Int),(9:Int),y0.2.1,())) (
 .bd (F71 y0.2.1) fun y1 =>
 .bd (F93 y1.1 v1) fun y2 =>
 .br (!(y2.2.1==(0:Int))) (
 .ret ((0:Int),y2.2.1,y0.2.1,())) (
 .nb y2.1 (((y1.1).length:Nat):Int) <|
 .br (((y1.1).getD (Int.toNat y2.1) ((bs []),(0:Int),(bs []),(bs []),(0:Int))).2.1==(3:Int)) (
 .ret ((0:Int),(18:Int),y0.2.1,())) (
 .bd (F92 y1.1) fun y3 =>
 .nb y2.1 (((y3.1).length:Nat):Int) <|
 .ret (((y3.1).getD (Int.toNat y2.1) (0:Int)),(0:Int),y0.2.1,()))))
theorem Im:cn prog f63=some ⟨36,2,FE.er,[.t 4,.t 5],[some tI,some tI]⟩:=by kernel_rfl
noncomputable def Ks:Ht:=⟨63,WD,WE,(fun x=>ai (FH63_v1 x.1 x.2.1))⟩
theorem Io:Ks.Ok prog:=bA mixed FD rfl func63 Im (enters_of func63 rfl rfl) FE (by kernel_rfl) rfl rfl ⟨_,rfl⟩ rfl (pre:=[0]) rfl (fun x=>by kernel_rfl)

/- 64, lent -/
abbrev WG:au:=au.mk [(0,.c (.ptr 0 0)),(1,.c (.hole .str))] [(0,.cells [.tf true,.hole (.list tG)] false)] [.slot 0] []
abbrev WH:au:=au.mk [(0,.cQ [.bI 1 .str,.hole tI])] [(1,.arr .str false),(0,.cells [.tf true,.hole (.list tG)] false)] [.part 0 0] []
noncomputable def yY:Cx:=(aK [Rt,acu,RG] [lK,CR])
theorem oU:yY.Ok prog:=aq ⟨wo,Km,wq,trivial⟩ ⟨⟨gI,rfl⟩,⟨yW,rfl⟩,trivial⟩
abbrev M0:au:=au.mk [(6,.c (.hole (.list tG))),(9,.c (.bI 1 tI)),(10,.c (.bI 2 .str)),(11,hI),(12,hI)] [(1,.arr tI false),(2,.arr .str false),(0,.cells [.tf true,.hole (.list tG)] false)] [.slot 9,.slot 10] []
abbrev M1:aU:=[(.exit 2,au.mk [(6,.c (.hole (.list tG))),(9,.c (.bI 1 tI)),(10,.c (.bI 2 .str)),(11,hI)] [(1,.arr tI false),(2,.arr .str false),(0,.cells [.tf true,.hole (.list tG)] false)] [.slot 9,.slot 10] [])]
noncomputable def M3:D prog 67 none 1:=dO [] (pick (kd prog f64) [(0,false),(0,false)]) 0
noncomputable def gH64_v1_1:bq×Nat×Nat×Int×Int×List Int×List ByteArray×bq×Unit->bG ((bq×Nat×Nat×Int×Int×List Int×List ByteArray×bq×Unit) ⊕ ((bq×Nat×Nat×Int×List Int×List ByteArray×bq×Unit))):=fun (v6,uY,mI,v11,v12,b1,b2,dX,_) =>
 .br (decide (v12<((uY:Nat):Int))) (
 .nb v12 ((uY:Nat):Int) <|
 .nd (decide (((0:Nat)+(Int.toNat v12))<(b1).length)) <|
 .br (((b1).getD ((0:Nat)+(Int.toNat v12)) (0:Int))==v11) (
 .nb v11 (((v6).length:Nat):Int) <|
 .nd (decide ((mI+(((((((v6).getD (Int.toNat v11) ((bs []),(0:Int),(bs []),(bs []),(0:Int))).1::[])).drop (0:Nat)).take (1:Nat))).length)<bp)) <|
 .ni (v12+(1:Int)) <|
 .ret (.inl (v6,uY,(mI+(((((((v6).getD (Int.toNat v11) ((bs []),(0:Int),(bs []),(bs []),(0:Int))).1::[])).drop (0:Nat)).take (1:Nat))).length),v11,(v12+(1:Int)),b1,((((b2).drop (0:Nat)).take mI)++((((((v6).getD (Int.toNat v11) ((bs []),(0:Int),(bs []),(bs []),(0:Int))).1::[])).drop (0:Nat)).take (1:Nat))),dX,()))) (
 .ni (v12+(1:Int)) <|
 .ret (.inl (v6,uY,mI,v11,(v12+(1:Int)),b1,b2,dX,())))) (
 .ret (.inr (v6,uY,mI,v11,b1,b2,dX,())))
noncomputable def M4:bu prog 67 none 1:=aV mixed yY oU [0] rfl M0 M1 rfl (M3) (fun x=>ai (gH64_v1_1 x)) (fun x=>by kernel_rfl)
abbrev M5:au:=au.mk [(6,.c (.hole (.list tG))),(9,.c (.bI 1 tI)),(10,.c (.bI 2 .str)),(11,hI)] [(1,.arr tI false),(2,.arr .str false),(0,.cells [.tf true,.hole (.list tG)] false)] [.slot 9,.slot 10] []
abbrev M6:aU:=[(.exit 0,au.mk [(10,.c (.bI 1 .str))] [(1,.arr .str false),(0,.cells [.tf true,.hole (.list tG)] false)] [.slot 10] [])]
noncomputable def M7:D prog 67 none 1:=dO [.l M4] (pick (kd prog f64) [(0,false)]) 0
noncomputable def gH64_v1_0:bq×Nat×Nat×Int×List Int×List ByteArray×bq×Unit->bG ((bq×Nat×Nat×Int×List Int×List ByteArray×bq×Unit) ⊕ ((Nat×List ByteArray×bq×Unit))):=fun (v6,uY,mI,v11,b1,b2,dX,_) =>
 .br (decide (v11<(((v6).length:Nat):Int))) (
 .bd (.it gH64_v1_1 (v6,uY,mI,v11,(0:Int),b1,b2,dX,())) fun z5 =>
 .ni (z5.2.2.2.1+(1:Int)) <|
 .ret (.inl (z5.1,z5.2.1,z5.2.2.1,(z5.2.2.2.1+(1:Int)),z5.2.2.2.2.1,z5.2.2.2.2.2.1,z5.2.2.2.2.2.2.1,()))) (
 .ret (.inr (mI,b2,dX,())))
noncomputable def M8:bu prog 67 none 1:=aV mixed yY oU [0] rfl M5 M6 rfl (M7) (fun x=>ai (gH64_v1_0 x)) (fun x=>by kernel_rfl)
noncomputable def FF:D prog 67 none 1:=dO [.l M8] (kd prog f64) 0
noncomputable def FH64_v1 (v1:ByteArray) (dX:bq):bG (Nat×Int×List ByteArray×bq×Unit) :=
 .bd (FH57_v1 dX) fun y0 =>
 .br y0.1 (
 .ret ((0:Nat),(9:Int),[],y0.2.1,())) (
 .bd (F71 y0.2.1) fun y1 =>
 .bd (F93 y1.1 v1) fun y2 =>
 .br (!(y2.2.1==(0:Int))) (
 .ret ((0:Nat),y2.2.1,[],y0.2.1,())) (
 .nb y2.1 (((y1.1).length:Nat):Int) <|
 .br (!(((y1.1).getD (Int.toNat y2.1) ((bs []),(0:Int),(bs []),(bs []),(0:Int))).2.1==(1:Int))) (
 .ret ((0:Nat),(18:Int),[],y0.2.1,())) (
 .bd (F92 y1.1) fun y3 =>
 .bd (FH94_v1fix y1.1 y3.1 y2.1) fun y4 =>
 .bd (.it gH64_v1_0 (y1.1,y4.1,(0:Nat),(0:Int),y4.2.1,[],y0.2.1,())) fun z6 =>
 .ret (z6.1,(0:Int),z6.2.1,z6.2.2.1,()))))
theorem Ip:cn prog f64=some ⟨67,2,FF.er,[.t 4,.t 5],[some (.list .str),some tI]⟩:=by kernel_rfl
noncomputable def Kt:Ht:=⟨64,WG,WH,(fun x=>ai (FH64_v1 x.1 x.2.1))⟩
theorem Iq:Kt.Ok prog:=bA mixed oU rfl func64 Ip (enters_of func64 rfl rfl) FF (by kernel_rfl) rfl rfl ⟨_,rfl⟩ rfl (pre:=[0]) rfl (fun x=>by kernel_rfl)

/- 22, lent -/
abbrev WI:au:=au.mk [(0,.c (.ptr 0 0)),(1,.c (.ptr 1 0)),(2,.c (.hole (.list .str)))] [(0,.cells [.mp 2] false),(1,.cells [.tf true,.hole (.list tG)] false),(2,dy)] [.slot 0,.slot 1,.cell 0 0] []
abbrev WJ:au:=au.mk [(0,.c (.hole .bool))] [(0,.cells [.mp 2] false),(2,dy),(1,.cells [.tf true,.hole (.list tG)] false)] [] []
noncomputable def yZ:Cx:=(aK [abV] [Qj,Ko,ab1,Kq,abT,Kr,abE,Ks,abF,Kt])
theorem oV:yZ.Ok prog:=aq ⟨J4,trivial⟩ ⟨⟨wh,rfl⟩,⟨Ih,rfl⟩,⟨Kb,rfl⟩,⟨Ij,rfl⟩,⟨J2,rfl⟩,⟨Il,rfl⟩,⟨JR,rfl⟩,⟨Io,rfl⟩,⟨JU,rfl⟩,⟨Iq,rfl⟩,trivial⟩
abbrev M9:au:=au.mk [(0,.c (.ptr 0 0)),(1,.c (.ptr 1 0)),(2,.c (.hole (.list .str))),(7,.c (.bI 3 tG)),(8,.c (.bI 4 tG)),(9,hI)] [(0,.cells [.mp 2] false),(1,.cells [.tf true,.hole (.list tG)] false),(3,.arr tG false),(4,.arr tG false),(2,dy)] [.slot 7,.slot 8] []
abbrev Na:aU:=[(.ret,au.mk [(6,.c (.tf false))] [(0,.cells [.mp 2] false),(2,dy),(1,.cells [.tf true,.hole (.list tG)] false)] [] []),(.exit 0,au.mk [(0,.c (.ptr 0 0)),(1,.c (.ptr 1 0)),(2,.c (.hole (.list .str)))] [(0,.cells [.mp 2] false),(1,.cells [.tf true,.hole (.list tG)] false),(2,dy)] [] [])]
noncomputable def Nb:D prog 134 none 3:=dO [] (pick (kd prog f22) [(0,false)]) 0
noncomputable def gH22_v1_0:List ByteArray×Nat×Nat×Int×bq×bq×bq×cB×Unit->bG ((List ByteArray×Nat×Nat×Int×bq×bq×bq×cB×Unit) ⊕ ((cB×bq×Unit) ⊕ ((List ByteArray×bq×cB×Unit)))):=fun (v2,CO,l7,v9,lZ,b3,b4,m2,_) =>
 .br (decide (v9<((CO:Nat):Int))) (
 .nb v9 ((CO:Nat):Int) <|
 .nd (decide (((0:Nat)+(Int.toNat v9))<(b3).length)) <|
 .nb v9 ((l7:Nat):Int) <|
 .nd (decide (((0:Nat)+(Int.toNat v9))<(b4).length)) <|
 .br (!((seq ((b3).getD ((0:Nat)+(Int.toNat v9)) ((bs []),(0:Int),(bs []),(bs []),(0:Int))).1 ((b4).getD ((0:Nat)+(Int.toNat v9)) ((bs []),(0:Int),(bs []),(bs []),(0:Int))).1)&&((((b3).getD ((0:Nat)+(Int.toNat v9)) ((bs []),(0:Int),(bs []),(bs []),(0:Int))).2.1==((b4).getD ((0:Nat)+(Int.toNat v9)) ((bs []),(0:Int),(bs []),(bs []),(0:Int))).2.1)&&((seq ((b3).getD ((0:Nat)+(Int.toNat v9)) ((bs []),(0:Int),(bs []),(bs []),(0:Int))).2.2.1 ((b4).getD ((0:Nat)+(Int.toNat v9)) ((bs []),(0:Int),(bs []),(bs []),(0:Int))).2.2.1)&&((seq ((b3).getD ((0:Nat)+(Int.toNat v9)) ((bs []),(0:Int),(bs []),(bs []),(0:Int))).2.2.2.1 ((b4).getD ((0:Nat)+(Int.toNat v9)) ((bs []),(0:Int),(bs []),(bs []),(0:Int))).2.2.2.1)&&((((b3).getD ((0:Nat)+(Int.toNat v9)) ((bs []),(0:Int),(bs []),(bs []),(0:Int))).2.2.2.2==((b4).getD ((0:Nat)+(Int.toNat v9)) ((bs []),(0:Int),(bs []),(bs []),(0:Int))).2.2.2.2)&&true)))))) (
 .ret (.inr <| .inl<|(m2,lZ,()))) (
 .ni (v9+(1:Int)) <|
 .ret (.inl (v2,CO,l7,(v9+(1:Int)),lZ,b3,b4,m2,())))) (
 .ret (.inr <| .inr<|(v2,lZ,m2,())))
noncomputable def Nc:bu prog 134 none 3:=aV mixed yZ oV [0,1,2] rfl M9 Na rfl (Nb) (fun x=>ai (gH22_v1_0 x)) (fun x=>by kernel_rfl)
abbrev Nd:au:=au.mk [(0,.c (.ptr 0 0)),(1,.c (.ptr 1 0)),(2,.c (.hole (.list .str))),(14,hI)] [(0,.cells [.mp 2] false),(1,.cells [.tf true,.hole (.list tG)] false),(2,dy)] [] []
abbrev Nf:aU:=[(.ret,au.mk [(6,.c (.tf false))] [(0,.cells [.mp 2] false),(2,dy),(1,.cells [.tf true,.hole (.list tG)] false)] [] []),(.exit 2,au.mk [] [(0,.cells [.mp 2] false),(2,dy),(1,.cells [.tf true,.hole (.list tG)] false)] [] [])]
noncomputable def Ng:D prog 134 none 3:=dO [] (pick (kd prog f22) [(1,false)]) 0
noncomputable def gH22_v1_1:List ByteArray×Int×bq×cB×Unit->bG ((List ByteArray×Int×bq×cB×Unit) ⊕ ((cB×bq×Unit) ⊕ ((cB×bq×Unit)))):=fun (v2,nY,lZ,m2,_) =>
 .br (decide (nY<(((v2).length:Nat):Int))) (
 .nb nY (((v2).length:Nat):Int) <|
 .bd (FH32 ((v2).getD (Int.toNat nY) (bs [])) m2) fun Rr =>
 .nb nY (((v2).length:Nat):Int) <|
 .bd (FH63_v1 ((v2).getD (Int.toNat nY) (bs [])) lZ) fun SV =>
 .nb nY (((v2).length:Nat):Int) <|
 .bd (FH33 ((v2).getD (Int.toNat nY) (bs [])) Rr.2.2.1) fun SX =>
 .nb nY (((v2).length:Nat):Int) <|
 .bd (FH64_v1 ((v2).getD (Int.toNat nY) (bs [])) SV.2.2.1) fun Bc =>
 .br (!(Rr.1==SV.1)) (
 .ret (.inr <| .inl<|(SX.2.2.2.1,Bc.2.2.2.1,()))) (
 .br (!(Rr.2.1==SV.2.1)) (
 .ret (.inr <| .inl<|(SX.2.2.2.1,Bc.2.2.2.1,()))) (
 .bd (F36 (((SX.2.2.1).drop (0:Nat)).take SX.1) (((Bc.2.2.1).drop (0:Nat)).take Bc.1)) fun Rh =>
 .br (!Rh.1) (
 .ret (.inr <| .inl<|(SX.2.2.2.1,Bc.2.2.2.1,()))) (
 .br (!(SX.2.1==Bc.2.1)) (
 .ret (.inr <| .inl<|(SX.2.2.2.1,Bc.2.2.2.1,()))) (
 .ni (nY+(1:Int)) <|
 .ret (.inl (v2,(nY+(1:Int)),Bc.2.2.2.1,SX.2.2.2.1,()))))))) (
 .ret (.inr <| .inr<|(m2,lZ,())))
noncomputable def Nh:bu prog 134 none 3:=aV mixed yZ oV [0,1,2] rfl Nd Nf rfl (Ng) (fun x=>ai (gH22_v1_1 x)) (fun x=>by kernel_rfl)
noncomputable def FG:D prog 134 none 3:=dO [.l Nc,.l Nh] (kd prog f22) 0
noncomputable def FH22_v1 (v2:List ByteArray) (lZ:bq) (m2:cB):bG (Bool×cB×bq×Unit) :=
 .bd (FH47 m2) fun y0 =>
 .bd (FH60_v1 lZ) fun y1 =>
 .br (!(((y0.1:Nat):Int)==((y1.1:Nat):Int))) (
 .ret (false,y0.2.2.1,y1.2.2.1,())) (
 .bd (FH45 y0.2.2.1) fun y2 =>
 .bd (FH61_v1 y1.2.2.1) fun y3 =>
 .bd (F36 (((y2.2.1).drop (0:Nat)).take y2.1) (((y3.2.1).drop (0:Nat)).take y3.1)) fun y4 =>
 .br (!y4.1) (
 .ret (false,y2.2.2.1,y3.2.2.1,())) (
 .bd (.it gH22_v1_0 (v2,y0.1,y1.1,(0:Int),y3.2.2.1,y0.2.1,y1.2.1,y2.2.2.1,())) fun z5 =>
 .sm z5 (fun z6 =>
 .ret (false,z6.1,z6.2.1,())) fun z7 =>
 .bd (FH37 z7.2.2.1) fun y8 =>
 .bd (FH62_v1 z7.2.1) fun y9 =>
 .br (!((y8.1.1==y9.1.1)&&((y8.1.2==y9.1.2)&&true))) (
 .ret (false,y8.2.2.1,y9.2.2.1,())) (
 .br (!(y8.2.1==y9.2.1)) (
 .ret (false,y8.2.2.1,y9.2.2.1,())) (
 .bd (.it gH22_v1_1 (z7.1,(0:Int),y9.2.2.1,y8.2.2.1,())) fun z15 =>
 .sm z15 (fun z16 =>
 .ret (false,z16.1,z16.2.1,())) fun z17 =>
 .ret (true,z17.1,z17.2.1,())))))
theorem Ir:cn prog f22=some ⟨134,3,FG.er,[.t 6],[some .bool]⟩:=by kernel_rfl
noncomputable def Ku:Ht:=⟨22,WI,WJ,(fun x=>ai (FH22_v1 x.1 x.2.1 x.2.2.1))⟩
theorem Is:Ku.Ok prog:=bA mixed oV rfl func22 Ir (enters_of func22 rfl rfl) FG (by kernel_rfl) rfl rfl ⟨_,rfl⟩ rfl (pre:=[0,1,2]) rfl (fun x=>by kernel_rfl)

/- 13 -/
noncomputable def WK:Cx:=(aK [ct17,ct16] [aaZ,ht19,Kj,ht48,Kn,Ku])
theorem wu:WK.Ok prog:=aq ⟨V0,V1,trivial⟩ ⟨⟨JF,rfl⟩,⟨V3,rfl⟩,⟨H9,rfl⟩,⟨Wt,rfl⟩,⟨Ie,rfl⟩,⟨Is,rfl⟩,trivial⟩
abbrev aif:au:=au.mk [(0,.c (.hole (.list tG))),(1,.c (.hole (.list tG))),(2,.c (.hole (.list .str))),(7,.c (.ptr 0 0)),(8,.c (.ptr 1 0)),(9,.c (.ptr 2 0)),(10,.c (.ptr 3 0)),(11,hI)] [(0,.cells [.mp 4] false),(1,.cells [.mp 5] false),(2,.cells [.tf true,.hole (.list tG)] false),(3,.cells [.tf true,.bZ] false),(4,dy),(5,dy)] [.slot 7,.slot 8,.slot 9,.slot 10,.cell 0 0,.cell 1 0] []
abbrev aih:aU:=[(.exit 0,au.mk [(1,.c (.hole (.list tG))),(2,.c (.hole (.list .str))),(7,.c (.ptr 0 0)),(8,.c (.ptr 1 0)),(9,.c (.ptr 2 0)),(10,.c (.ptr 3 0))] [(0,.cells [.mp 4] false),(1,.cells [.mp 5] false),(2,.cells [.tf true,.hole (.list tG)] false),(3,.cells [.tf true,.bZ] false),(4,dy),(5,dy)] [.slot 7,.slot 8,.slot 9,.slot 10,.cell 0 0,.cell 1 0] [])]
noncomputable def aii:D prog 101 none 0:=dO [] (pick (kd prog f13) [(0,false)]) 0
noncomputable def g13_0:bq×bq×List ByteArray×Int×bq×cB×cB×Unit->bG ((bq×bq×List ByteArray×Int×bq×cB×cB×Unit) ⊕ ((bq×List ByteArray×bq×cB×cB×Unit))):=fun (v0,v1,v2,v11,FH,m4,m5,_) =>
 .br (decide (v11<(((v0).length:Nat):Int))) (
 .nb v11 (((v0).length:Nat):Int) <|
 .bd (FH21_v1 (((v0).getD (Int.toNat v11) ((bs []),(0:Int),(bs []),(bs []),(0:Int))).1,((v0).getD (Int.toNat v11) ((bs []),(0:Int),(bs []),(bs []),(0:Int))).2.1,((v0).getD (Int.toNat v11) ((bs []),(0:Int),(bs []),(bs []),(0:Int))).2.2.1,((v0).getD (Int.toNat v11) ((bs []),(0:Int),(bs []),(bs []),(0:Int))).2.2.2.1,((v0).getD (Int.toNat v11) ((bs []),(0:Int),(bs []),(bs []),(0:Int))).2.2.2.2) FH) fun SV =>
 .ni (v11+(1:Int)) <|
 .ret (.inl (v0,v1,v2,(v11+(1:Int)),SV.2.1,m4,m5,()))) (
 .ret (.inr (v1,v2,FH,m4,m5,())))
noncomputable def aij:bu prog 101 none 0:=aV mixed WK wu [] rfl aif aih rfl (aii) (fun x=>ai (g13_0 x)) (fun x=>by kernel_rfl)
abbrev aik:au:=au.mk [(1,.c (.hole (.list tG))),(2,.c (.hole (.list .str))),(7,.c (.ptr 0 0)),(8,.c (.ptr 1 0)),(9,.c (.ptr 2 0)),(10,.c (.ptr 3 0)),(12,hI)] [(0,.cells [.mp 4] false),(1,.cells [.mp 5] false),(2,.cells [.tf true,.hole (.list tG)] false),(3,.cells [.tf true,.hole (.list tG)] false),(4,dy),(5,dy)] [.slot 7,.slot 8,.slot 9,.slot 10,.cell 0 0,.cell 1 0] []
abbrev ail:aU:=[(.exit 2,au.mk [(2,.c (.hole (.list .str))),(7,.c (.ptr 0 0)),(8,.c (.ptr 1 0)),(9,.c (.ptr 2 0)),(10,.c (.ptr 3 0))] [(0,.cells [.mp 4] false),(1,.cells [.mp 5] false),(2,.cells [.tf true,.hole (.list tG)] false),(3,.cells [.tf true,.hole (.list tG)] false),(4,dy),(5,dy)] [.slot 7,.slot 8,.slot 9,.slot 10,.cell 0 0,.cell 1 0] [])]
noncomputable def aim:D prog 101 none 0:=dO [] (pick (kd prog f13) [(1,false)]) 0
noncomputable def g13_1:bq×List ByteArray×Int×bq×bq×cB×cB×Unit->bG ((bq×List ByteArray×Int×bq×bq×cB×cB×Unit) ⊕ ((List ByteArray×bq×bq×cB×cB×Unit))):=fun (v1,v2,v12,FH,RU,m4,m5,_) =>
 .br (decide (v12<(((v1).length:Nat):Int))) (
 .nb v12 (((v1).length:Nat):Int) <|
 .bd (FH21_v1 (((v1).getD (Int.toNat v12) ((bs []),(0:Int),(bs []),(bs []),(0:Int))).1,((v1).getD (Int.toNat v12) ((bs []),(0:Int),(bs []),(bs []),(0:Int))).2.1,((v1).getD (Int.toNat v12) ((bs []),(0:Int),(bs []),(bs []),(0:Int))).2.2.1,((v1).getD (Int.toNat v12) ((bs []),(0:Int),(bs []),(bs []),(0:Int))).2.2.2.1,((v1).getD (Int.toNat v12) ((bs []),(0:Int),(bs []),(bs []),(0:Int))).2.2.2.2) RU) fun Bc =>
 .ni (v12+(1:Int)) <|
 .ret (.inl (v1,v2,(v12+(1:Int)),FH,Bc.2.1,m4,m5,()))) (
 .ret (.inr (v2,FH,RU,m4,m5,())))
noncomputable def ain:bu prog 101 none 0:=aV mixed WK wu [] rfl aik ail rfl (aim) (fun x=>ai (g13_1 x)) (fun x=>by kernel_rfl)
abbrev aio:au:=au.mk [(2,.c (.hole (.list .str))),(7,.c (.ptr 0 0)),(8,.c (.ptr 1 0)),(9,.c (.ptr 2 0)),(10,.c (.ptr 3 0)),(13,hI)] [(0,.cells [.mp 4] false),(1,.cells [.mp 5] false),(2,.cells [.tf true,.hole (.list tG)] false),(3,.cells [.tf true,.hole (.list tG)] false),(4,dy),(5,dy)] [.slot 7,.slot 8,.slot 9,.slot 10,.cell 0 0,.cell 1 0] []
abbrev aip:aU:=[(.ret,au.mk [(6,.c (.hole .bool))] [] [] []),(.exit 4,au.mk [(2,.c (.hole (.list .str))),(7,.c (.ptr 0 0)),(8,.c (.ptr 1 0)),(9,.c (.ptr 2 0)),(10,.c (.ptr 3 0))] [(0,.cells [.mp 4] false),(1,.cells [.mp 5] false),(2,.cells [.tf true,.hole (.list tG)] false),(3,.cells [.tf true,.hole (.list tG)] false),(4,dy),(5,dy)] [.slot 7,.slot 8,.slot 9,.slot 10,.cell 0 0,.cell 1 0] [])]
noncomputable def aiq:D prog 101 none 0:=dO [] (pick (kd prog f13) [(2,false)]) 0
noncomputable def g13_2:List ByteArray×Int×bq×bq×cB×cB×Unit->bG ((List ByteArray×Int×bq×bq×cB×cB×Unit) ⊕ ((Bool×Unit) ⊕ ((List ByteArray×bq×bq×cB×cB×Unit)))):=fun (v2,ug,FH,RU,m4,m5,_) =>
 .br (decide (ug<(((v2).length:Nat):Int))) (
 .nb ug (((v2).length:Nat):Int) <|
 .br (decide ((60:Int)<((((v2).getD (Int.toNat ug) (bs [])).size:Nat):Int))) (
 .bd (F17) fun y15 =>
 .ret (.inr <| .inl<|(y15.1,()))) (
 .ni (ug+(1:Int)) <|
 .ret (.inl (v2,(ug+(1:Int)),FH,RU,m4,m5,())))) (
 .ret (.inr <| .inr<|(v2,FH,RU,m4,m5,())))
noncomputable def air:bu prog 101 none 0:=aV mixed WK wu [] rfl aio aip rfl (aiq) (fun x=>ai (g13_2 x)) (fun x=>by kernel_rfl)
noncomputable def dd13:D prog 101 none 0:=dO [.l aij,.l ain,.l air] (kd prog f13) 0
noncomputable def F13 (a0:bq) (a1:bq) (a2:List ByteArray):bG (Bool×Unit) :=
 .br (decide ((40:Int)<(((a0).length:Nat):Int))) (
 .bd (F17) fun y0 =>
 .ret (y0.1,())) (
 .br (decide ((40:Int)<(((a1).length:Nat):Int))) (
 .bd (F17) fun y1 =>
 .ret (y1.1,())) (
 .br (decide ((10:Int)<(((a2).length:Nat):Int))) (
 .bd (F17) fun y2 =>
 .ret (y2.1,())) (
 .bd (F16 a0) fun y3 =>
 .br y3.1 (
 .bd (F17) fun y4 =>
 .ret (y4.1,())) (
 .bd (F16 a1) fun y5 =>
 .br y5.1 (
 .bd (F17) fun y6 =>
 .ret (y6.1,())) (
 .bd (FH29 a0) fun y7 =>
 .bd (FH29 a1) fun y8 =>
 .bd (FH19) fun y9 =>
 .bd (FH19) fun Rr =>
 .bd (.it g13_0 (a0,a1,a2,(0:Int),[],y7.1,y8.1,())) fun z12 =>
 .bd (.it g13_1 (z12.1,z12.2.1,(0:Int),z12.2.2.1,[],z12.2.2.2.1,z12.2.2.2.2.1,())) fun RE =>
 .bd (.it g13_2 (RE.1,(0:Int),RE.2.1,RE.2.2.1,RE.2.2.2.1,RE.2.2.2.2.1,())) fun z16 =>
 .sm z16 (fun z17 =>
 .ret (z17.1,())) fun z18 =>
 .bd (FH48 z18.2.2.2.1 z18.2.2.2.2.1) fun y19 =>
 .bd (FH49_v1 z18.2.1 z18.2.2.1) fun y20 =>
 .br (y19.1==y20.1) (
 .bd (FH22_v1 z18.1 y20.2.1 y19.2.1) fun y21 =>
 .br y21.1 (
 .bd (FH22_v1 z18.1 y20.2.2.1 y19.2.2.1) fun y22 =>
 .br y22.1 (
 .bd (F17) fun y23 =>
 .ret (y23.1,())) (
 .ret (false,()))) (
 .ret (false,()))) (
 .ret (false,())))))))
theorem acv:cn prog f13=some ⟨101,3,dd13.er,[.t 6],[some .bool]⟩:=by kernel_rfl
noncomputable def ct13:Ct:=⟨13,[.c (.hole (.list tG)),.c (.hole (.list tG)),.c (.hole (.list .str))],.c (.hole .bool),fun x=>ai (F13 x.1 x.2.1 x.2.2.1)⟩
theorem WL:ct13.Ok prog:=cA mixed wu func13 acv (enters_of func13 rfl rfl) dd13 (by kernel_rfl) rfl (fun x=>by kernel_rfl)

end Go.Proofs.Tryz

