/- Functions of the program as functions of data, part 1; printed by a program of mine. -/
import Derived.Test.YtgmflfkhjjjhmaaP3
import Derived.Test.YtgmflfkhjjjhmaaProg
set_option linter.unusedSectionVars false
set_option linter.unusedVariables false
set_option linter.unusedSimpArgs false
open Go.AM
namespace Go.Proofs.Try
set_option maxRecDepth 100000
set_option synthInstance.maxSize 4000
set_option synthInstance.maxHeartbeats 400000
set_option synthInstance.maxSize 4000
set_option synthInstance.maxHeartbeats 400000
theorem mixed : prog.follows .mixedOrders = true := by kernel_rfl
@[reducible] def oo (n : Nat) (i : I) : dB := .op (some n) none i
@[reducible] def om (n k : Nat) : dB := .op (some n) none (.mv (.t k))
@[reducible] def ol (n k : Nat) : dB := .op (some n) none (.load false 1 (.t k))
@[reducible] def og (n k : Nat) (b : Bool) (i : I) : dB := .op (some n) (some (k, b)) i
@[reducible] def ki (n : Nat) : O := .c (.int .i64 (Int.ofNat n))
@[reducible] def hzI : SP := .c (.hole (.int .i64))
@[reducible] def hzL : SP := .c (.hole (.list (.int .i64)))
@[reducible] def hzM : SP := .c (.hole (.list (.list (.int .i64))))

/- 26 -/
noncomputable def Zz:Cx:=(aN [] [])
theorem KW:Zz.Ok prog:=au trivial trivial
noncomputable def T0:D prog 15 none 0:=dO [] (kd prog f26) 0
noncomputable def F26 (a0:Int) (a1:Int) (a2:Int):bJ (Bool×Unit) :=
 .br (decide (a0<=a1)) (
 .ret ((decide (a1<=a2)),())) (
 .ret (false,()))
theorem PK:cD prog f26=some ⟨15,3,T0.er,[.t 6],[some .bool]⟩:=by kernel_rfl
noncomputable def KX:Ct:=⟨26,[hI,hI,hI],.c (.hole .bool),fun x=>ag (F26 x.1 x.2.1 x.2.2.1)⟩
theorem wq:KX.Ok prog:=bh mixed KW func26 PK (ai func26 rfl rfl) T0 (by kernel_rfl) rfl (fun x=>by kernel_rfl)

/- 60 -/
noncomputable def ZA:Cx:=(aN [KX] [])
theorem KY:ZA.Ok prog:=au ⟨wq,trivial⟩ trivial
noncomputable def T1:D prog 10 none 0:=dO [] (kd prog f60) 0
noncomputable def F60 (a0:Int) (a1:Int) (a2:Int):bJ (Bool×Unit) :=
 .bd (F26 a1 a0 a2) fun y0 =>
 .ret ((!y0.1),())
theorem PL:cD prog f60=some ⟨10,3,T1.er,[.t 4],[some .bool]⟩:=by kernel_rfl
noncomputable def T2:Ct:=⟨60,[hI,.c (.bR tI),.c (.bR tI)],.c (.hole .bool),fun x=>ag (F60 x.1 x.2.1 x.2.2.1)⟩
theorem KZ:T2.Ok prog:=bh mixed KY func60 PL (ai func60 rfl rfl) T1 (by kernel_rfl) rfl (fun x=>by kernel_rfl)

/- 66 -/
noncomputable def T3:Cx:=(aN [T2] [])
theorem Cj:T3.Ok prog:=au ⟨KZ,trivial⟩ trivial
@[reducible] def T4:aC:=aC.mk [(0,hL),(1,.fn 60 [] [.bR tI,.bR tI]),(7,hI),(8,hI)] [] [] []
@[reducible] def T5:aX:=[(.ret,aC.mk [(4,hI)] [] [] []),(.exit 0,aC.mk [] [] [] [])]
noncomputable def T6:D prog 19 none 0:=dO [] (pick (kd prog f66) [(0,false)]) 0
noncomputable def g66_0:List Int×Int×Int×Int×Int×Unit->bJ ((List Int×Int×Int×Int×Int×Unit) ⊕ ((Int×Unit) ⊕ ((Unit)))):=fun (v0,AE,T7,v7,v8,_) =>
 .br (decide (v8<v7)) (
 .nb v8 (((v0).length:Nat):Int) <|
 .bd (F60 ((v0).getD (Int.toNat v8) (0:Int)) AE T7) fun y0 =>
 .br y0.1 (
 .ret (.inr <| .inl<|(v8,()))) (
 .ni (v8+(1:Int)) <|
 .ret (.inl (v0,AE,T7,v7,(v8+(1:Int)),())))) (
 .ret (.inr <| .inr<|()))
noncomputable def T8:bp prog 19 none 0:=aR mixed T3 Cj [] rfl T4 T5 rfl (T6) (fun x=>ag (g66_0 x)) (fun x=>by kernel_rfl)
noncomputable def T9:D prog 19 none 0:=dO [.l T8] (kd prog f66) 0
noncomputable def F66 (a0:List Int) (DX:Int) (PM:Int):bJ (Int×Unit) :=
 .bd (.it g66_0 (a0,DX,PM,(((a0).length:Nat):Int),(0:Int),())) fun z1 =>
 .sm z1 (fun z2 =>
 .ret (z2.1,())) fun z3 =>
 .ret ((-1:Int),())
theorem PN:cD prog f66=some ⟨19,2,T9.er,[.t 4],[some tI]⟩:=by kernel_rfl
noncomputable def Ua:Ct:=⟨66,[hL,.fn 60 [] [.bR tI,.bR tI]],hI,fun x=>ag (F66 x.1 x.2.1 x.2.2.1)⟩
theorem K0:Ua.Ok prog:=bh mixed Cj func66 PN (ai func66 rfl rfl) T9 (by kernel_rfl) rfl (fun x=>by kernel_rfl)

/- 59 -/
noncomputable def ZB:Cx:=(aN [Ua] [])
theorem K1:ZB.Ok prog:=au ⟨K0,trivial⟩ trivial
noncomputable def Uc:D prog 9 none 0:=dO [] (kd prog f59) 0
noncomputable def F59 (a0:List Int) (DX:Int) (PM:Int):bJ (Bool×Unit) :=
 .bd (F66 a0 DX PM) fun y0 =>
 .ret ((decide ((0:Int)<=y0.1)),())
theorem PO:cD prog f59=some ⟨9,2,Uc.er,[.t 4],[some .bool]⟩:=by kernel_rfl
noncomputable def Ud:Ct:=⟨59,[hL,.fn 60 [] [.bR tI,.bR tI]],.c (.hole .bool),fun x=>ag (F59 x.1 x.2.1 x.2.2.1)⟩
theorem K2:Ud.Ok prog:=bh mixed K1 func59 PO (ai func59 rfl rfl) Uc (by kernel_rfl) rfl (fun x=>by kernel_rfl)

/- 51 -/
noncomputable def ZC:Cx:=(aN [Ud] [])
theorem K3:ZC.Ok prog:=au ⟨K2,trivial⟩ trivial
noncomputable def Ue:D prog 11 none 0:=dO [] (kd prog f51) 0
noncomputable def F51 (a0:Int×Int×Int×Int) (a1:Int) (a2:Int):bJ (Bool×Unit) :=
 .bd (F59 ((((a0.1::(a0.2.1::(a0.2.2.1::(a0.2.2.2::[]))))).drop (0:Nat)).take (4:Nat)) a1 a2) fun y0 =>
 .ret ((!y0.1),())
theorem PR:cD prog f51=some ⟨11,3,Ue.er,[.t 6],[some .bool]⟩:=by kernel_rfl
noncomputable def Uf:Ct:=⟨51,[.c (.hole (.prod tI (.prod tI (.prod tI tI)))),hI,hI],.c (.hole .bool),fun x=>ag (F51 x.1 x.2.1 x.2.2.1)⟩
theorem K4:Uf.Ok prog:=bh mixed K3 func51 PR (ai func51 rfl rfl) Ue (by kernel_rfl) rfl (fun x=>by kernel_rfl)

/- 28 -/
noncomputable def ZD:Cx:=(aN [KX,Uf] [])
theorem K5:ZD.Ok prog:=au ⟨wq,K4,trivial⟩ trivial
noncomputable def Ug:D prog 37 none 0:=dO [] (kd prog f28) 0
noncomputable def F28 (a0:Int×List (Int×Int×Bool×Int×Int×Int×Int)) (a1:Int×Int×Bool×Int×Int×Int×Int):bJ (Int×Unit) :=
 .ni (a0.1 - (1:Int)) <|
 .bd (F26 (-1:Int) a1.1 (a0.1 - (1:Int))) fun y0 =>
 .br (!y0.1) (
 .ret ((17:Int),())) (
 .ni (a0.1 - (1:Int)) <|
 .bd (F26 (-1:Int) a1.2.1 (a0.1 - (1:Int))) fun y1 =>
 .br (!y1.1) (
 .ret ((17:Int),())) (
 .br (a1.1==a1.2.1) (
 .ret ((22:Int),())) (
 .br a1.2.2.1 (
 .bd (F51 (a1.2.2.2.1,a1.2.2.2.2.1,a1.2.2.2.2.2.1,a1.2.2.2.2.2.2) (0:Int) (1000000000:Int)) fun y2 =>
 .br (!y2.1) (
 .ret ((2:Int),())) (
 .ret ((0:Int),()))) (
 .ret ((0:Int),())))))
theorem PS:cD prog f28=some ⟨37,2,Ug.er,[.t 4],[some tI]⟩:=by kernel_rfl
noncomputable def Uh:Ct:=⟨28,[.c (.hole (.prod tI (.list (.prod tI (.prod tI (.prod .bool (.prod tI (.prod tI (.prod tI tI))))))))),.c (.hole (.prod tI (.prod tI (.prod .bool (.prod tI (.prod tI (.prod tI tI)))))))],hI,fun x=>ag (F28 x.1 x.2.1)⟩
theorem K6:Uh.Ok prog:=bh mixed K5 func28 PS (ai func28 rfl rfl) Ug (by kernel_rfl) rfl (fun x=>by kernel_rfl)

/- 27 -/
noncomputable def Ui:Cx:=(aN [Uh] [])
theorem Ck:Ui.Ok prog:=au ⟨K6,trivial⟩ trivial
@[reducible] def Uj:aC:=aC.mk [(1,.fn 28 [.hole (.prod tI (.list (.prod tI (.prod tI (.prod .bool (.prod tI (.prod tI (.prod tI tI))))))))] []),(8,.c (.hole (.list (.prod tI (.prod tI (.prod .bool (.prod tI (.prod tI (.prod tI tI))))))))),(9,hI),(10,hI)] [] [] []
@[reducible] def Uk:aX:=[(.ret,aC.mk [(4,hI)] [] [] []),(.exit 0,aC.mk [] [] [] [])]
noncomputable def Ul:D prog 21 none 0:=dO [] (pick (kd prog f27) [(0,false)]) 0
noncomputable def g27_0:(Int×List (Int×Int×Bool×Int×Int×Int×Int))×(List (Int×Int×Bool×Int×Int×Int×Int))×Int×Int×Unit->bJ (((Int×List (Int×Int×Bool×Int×Int×Int×Int))×(List (Int×Int×Bool×Int×Int×Int×Int))×Int×Int×Unit) ⊕ ((Int×Unit) ⊕ ((Unit)))):=fun (AE,v8,v9,v10,_) =>
 .br (decide (v10<v9)) (
 .nb v10 (((v8).length:Nat):Int) <|
 .bd (F28 (AE.1,AE.2) (((v8).getD (Int.toNat v10) ((0:Int),(0:Int),false,(0:Int),(0:Int),(0:Int),(0:Int))).1,((v8).getD (Int.toNat v10) ((0:Int),(0:Int),false,(0:Int),(0:Int),(0:Int),(0:Int))).2.1,((v8).getD (Int.toNat v10) ((0:Int),(0:Int),false,(0:Int),(0:Int),(0:Int),(0:Int))).2.2.1,((v8).getD (Int.toNat v10) ((0:Int),(0:Int),false,(0:Int),(0:Int),(0:Int),(0:Int))).2.2.2.1,((v8).getD (Int.toNat v10) ((0:Int),(0:Int),false,(0:Int),(0:Int),(0:Int),(0:Int))).2.2.2.2.1,((v8).getD (Int.toNat v10) ((0:Int),(0:Int),false,(0:Int),(0:Int),(0:Int),(0:Int))).2.2.2.2.2.1,((v8).getD (Int.toNat v10) ((0:Int),(0:Int),false,(0:Int),(0:Int),(0:Int),(0:Int))).2.2.2.2.2.2)) fun y0 =>
 .br (!(y0.1==(0:Int))) (
 .ret (.inr <| .inl<|(y0.1,()))) (
 .ni (v10+(1:Int)) <|
 .ret (.inl ((AE.1,AE.2),v8,v9,(v10+(1:Int)),())))) (
 .ret (.inr <| .inr<|()))
noncomputable def Um:bp prog 21 none 0:=aR mixed Ui Ck [] rfl Uj Uk rfl (Ul) (fun x=>ag (g27_0 x)) (fun x=>by kernel_rfl)
noncomputable def Un:D prog 21 none 0:=dO [.l Um] (kd prog f27) 0
noncomputable def F27 (a0:List (Int×Int×Bool×Int×Int×Int×Int)) (DX:Int×List (Int×Int×Bool×Int×Int×Int×Int)):bJ (Int×Unit) :=
 .bd (.it g27_0 ((DX.1,DX.2),a0,(((a0).length:Nat):Int),(0:Int),())) fun z1 =>
 .sm z1 (fun z2 =>
 .ret (z2.1,())) fun z3 =>
 .ret ((0:Int),())
theorem PT:cD prog f27=some ⟨21,2,Un.er,[.t 4],[some tI]⟩:=by kernel_rfl
noncomputable def Uo:Ct:=⟨27,[.c (.hole (.list (.prod tI (.prod tI (.prod .bool (.prod tI (.prod tI (.prod tI tI)))))))),.fn 28 [.hole (.prod tI (.list (.prod tI (.prod tI (.prod .bool (.prod tI (.prod tI (.prod tI tI))))))))] []],hI,fun x=>ag (F27 x.1 x.2.1)⟩
theorem K7:Uo.Ok prog:=bh mixed Ck func27 PT (ai func27 rfl rfl) Un (by kernel_rfl) rfl (fun x=>by kernel_rfl)

/- 11 -/
noncomputable def ZE:Cx:=(aN [KX,Uo] [])
theorem K8:ZE.Ok prog:=au ⟨wq,K7,trivial⟩ trivial
noncomputable def Up:D prog 18 none 0:=dO [] (kd prog f11) 0
noncomputable def F11 (a0:Int×List (Int×Int×Bool×Int×Int×Int×Int)):bJ (Int×Unit) :=
 .bd (F26 (1:Int) a0.1 (8:Int)) fun y0 =>
 .br (!y0.1) (
 .ret ((2:Int),())) (
 .br (decide ((20:Int)<(((a0.2).length:Nat):Int))) (
 .ret ((1:Int),())) (
 .bd (F27 a0.2 (a0.1,a0.2)) fun y1 =>
 .ret (y1.1,())))
theorem PU:cD prog f11=some ⟨18,1,Up.er,[.t 2],[some tI]⟩:=by kernel_rfl
noncomputable def Uq:Ct:=⟨11,[.c (.hole (.prod tI (.list (.prod tI (.prod tI (.prod .bool (.prod tI (.prod tI (.prod tI tI)))))))))],hI,fun x=>ag (F11 x.1)⟩
theorem K9:Uq.Ok prog:=bh mixed K8 func11 PU (ai func11 rfl rfl) Up (by kernel_rfl) rfl (fun x=>by kernel_rfl)

/- 29 -/
noncomputable def ZF:Cx:=(aN [] [])
theorem La:ZF.Ok prog:=au trivial trivial
noncomputable def Ur:D prog 4 none 0:=dO [] (kd prog f29) 0
noncomputable def F29 (a0:Int×List (Int×Int×Bool×Int×Int×Int×Int)):bJ ((Int×List (Int×Int×Bool×Int×Int×Int×Int))×Unit) :=
 .ret ((a0.1,a0.2),())
theorem PV:cD prog f29=some ⟨4,1,Ur.er,[.t 2],[none]⟩:=by kernel_rfl
noncomputable def Ut:Ct:=⟨29,[.c (.hole (.prod tI (.list (.prod tI (.prod tI (.prod .bool (.prod tI (.prod tI (.prod tI tI)))))))))],.fn 52 [] [.bR (.prod tI (.list (.prod tI (.prod tI (.prod .bool (.prod tI (.prod tI (.prod tI tI))))))))],fun x=>ag (F29 x.1)⟩
theorem Lb:Ut.Ok prog:=bh mixed La func29 PV (ai func29 rfl rfl) Ur (by kernel_rfl) rfl (fun x=>by kernel_rfl)

/- 34, lent -/
@[reducible] def Uu:aC:=aC.mk [(0,.c (.mp 0)),(1,hI)] [(0,.map tI false tI false)] [.slot 0] []
@[reducible] def Uv:aC:=aC.mk [(0,hI)] [(0,.map tI false tI false)] [] []
noncomputable def NT:Cx:=(aN [] [])
theorem yJ:NT.Ok prog:=au trivial trivial
@[reducible] def PW:aC:=aC.mk [(0,.c (.mp 0)),(1,hI)] [(0,.map tI false tI false)] [] []
@[reducible] def PX:aX:=[(.ret,aC.mk [(4,hI)] [(0,.map tI false tI false)] [] [])]
noncomputable def PY:D prog 22 none 1:=dO [] (pick (kd prog f34) [(0,false)]) 0
noncomputable def gH34_0:Int×(List (Int×Int))×Unit->bJ ((Int×(List (Int×Int))×Unit) ⊕ ((Int×(List (Int×Int))×Unit))):=fun (v1,m0,_) =>
 .br (!(cH (.int .i64) m0 v1)) (
 .ret (.inr (v1,m0,()))) (
 .br ((dD (.int .i64) (0:Int) m0 v1)==v1) (
 .ret (.inr (v1,m0,()))) (
 .ret (.inl ((dD (.int .i64) (0:Int) m0 v1),m0,()))))
noncomputable def PZ:bp prog 22 none 1:=aR mixed NT yJ [0] rfl PW PX rfl (PY) (fun x=>ag (gH34_0 x)) (fun x=>by kernel_rfl)
noncomputable def NU:D prog 22 none 1:=dO [.l PZ] (kd prog f34) 0
noncomputable def FH34 (v1:Int) (m0:List (Int×Int)):bJ (Int×(List (Int×Int))×Unit) :=
 .bd (.it gH34_0 (v1,m0,())) fun z0 =>
 .ret (z0.1,z0.2.1,())
theorem Lf:cD prog f34=some ⟨22,2,NU.er,[.t 4],[some tI]⟩:=by kernel_rfl
noncomputable def P3:Ht:=⟨34,Uu,Uv,(fun x=>ag (FH34 x.1 x.2.1))⟩
theorem wu:P3.Ok prog:=eR mixed yJ rfl func34 Lf (ai func34 rfl rfl) NU (by kernel_rfl) rfl rfl ⟨_,rfl⟩ rfl (pre:=[0]) rfl (fun x=>by kernel_rfl)

/- 54, lent -/
@[reducible] def ZG:aC:=aC.mk [(0,.c (.mp 0)),(1,hI),(2,hI)] [(0,.map tI false tI false)] [.slot 0] []
@[reducible] def ZH:aC:=aC.mk [(0,.c .any)] [(0,.map tI false tI false)] [] []
noncomputable def Ux:Cx:=(aN [] [P3])
theorem HM:Ux.Ok prog:=au trivial ⟨⟨wu,rfl⟩,trivial⟩
noncomputable def NV:D prog 21 none 1:=dO [] (kd prog f54) 0
noncomputable def FH54 (v1:Int) (v2:Int) (m0:List (Int×Int)):bJ ((List (Int×Int))×Unit) :=
 .bd (FH34 v1 m0) fun y0 =>
 .bd (FH34 v2 y0.2.1) fun y1 =>
 .ret ((jX (.int .i64) y1.2.1 (imax y0.1 y1.1) (en y0.1 y1.1)),())
theorem Lg:cD prog f54=some ⟨21,3,NV.er,[],[]⟩:=by kernel_rfl
noncomputable def Uy:Ht:=⟨54,ZG,ZH,(fun x=>ag (FH54 x.1 x.2.1 x.2.2.1))⟩
theorem Lh:Uy.Ok prog:=eR mixed HM rfl func54 Lg (ai func54 rfl rfl) NV (by kernel_rfl) rfl rfl ⟨_,rfl⟩ rfl (pre:=[0]) rfl (fun x=>by kernel_rfl)

/- 33, lent -/
@[reducible] def Uz:aC:=aC.mk [(0,.c (.hole (.prod tI (.list (.prod tI (.prod tI (.prod .bool (.prod tI (.prod tI (.prod tI tI)))))))))),(1,hI)] [] [] []
@[reducible] def UA:aC:=aC.mk [(0,.c (.mp 0))] [(0,.map tI false tI false)] [.slot 0] []
noncomputable def NW:Cx:=(aN [] [Uy])
theorem yK:NW.Ok prog:=au trivial ⟨⟨Lh,rfl⟩,trivial⟩
@[reducible] def P4:aC:=aC.mk [(1,hI),(5,.c (.mp 0)),(10,.c (.hole (.list (.prod tI (.prod tI (.prod .bool (.prod tI (.prod tI (.prod tI tI))))))))),(11,hI),(12,hI)] [(0,.map tI false tI false)] [.slot 5] []
@[reducible] def P5:aX:=[(.exit 0,aC.mk [(5,.c (.mp 0))] [(0,.map tI false tI false)] [.slot 5] [])]
noncomputable def P6:D prog 33 none 0:=dO [] (pick (kd prog f33) [(0,false)]) 0
noncomputable def gH33_0:Int×(List (Int×Int×Bool×Int×Int×Int×Int))×Int×Int×(List (Int×Int))×Unit->bJ ((Int×(List (Int×Int×Bool×Int×Int×Int×Int))×Int×Int×(List (Int×Int))×Unit) ⊕ (((List (Int×Int))×Unit))):=fun (v1,v10,v11,kN,m0,_) =>
 .br (decide (kN<v11)) (
 .nb kN (((v10).length:Nat):Int) <|
 .br (!((v10).getD (Int.toNat kN) ((0:Int),(0:Int),false,(0:Int),(0:Int),(0:Int),(0:Int))).2.2.1) (
 .br (!(kN==v1)) (
 .bd (FH54 ((v10).getD (Int.toNat kN) ((0:Int),(0:Int),false,(0:Int),(0:Int),(0:Int),(0:Int))).1 ((v10).getD (Int.toNat kN) ((0:Int),(0:Int),false,(0:Int),(0:Int),(0:Int),(0:Int))).2.1 m0) fun y0 =>
 .ni (kN+(1:Int)) <|
 .ret (.inl (v1,v10,v11,(kN+(1:Int)),y0.1,()))) (
 .ni (kN+(1:Int)) <|
 .ret (.inl (v1,v10,v11,(kN+(1:Int)),m0,())))) (
 .ni (kN+(1:Int)) <|
 .ret (.inl (v1,v10,v11,(kN+(1:Int)),m0,())))) (
 .ret (.inr (m0,())))
noncomputable def P7:bp prog 33 none 0:=aR mixed NW yK [] rfl P4 P5 rfl (P6) (fun x=>ag (gH33_0 x)) (fun x=>by kernel_rfl)
noncomputable def NX:D prog 33 none 0:=dO [.l P7] (kd prog f33) 0
noncomputable def FH33 (v0:Int×List (Int×Int×Bool×Int×Int×Int×Int)) (v1:Int):bJ ((List (Int×Int))×Unit) :=
 .bd (.it gH33_0 (v1,v0.2,(((v0.2).length:Nat):Int),(0:Int),[],())) fun z1 =>
 .ret (z1.1,())
theorem Li:cD prog f33=some ⟨33,2,NX.er,[.t 4],[none]⟩:=by kernel_rfl
noncomputable def UB:Ht:=⟨33,Uz,UA,(fun x=>ag (FH33 x.1 x.2.1))⟩
theorem Cl:UB.Ok prog:=eR mixed yK rfl func33 Li (ai func33 rfl rfl) NX (by kernel_rfl) rfl rfl ⟨_,rfl⟩ rfl (pre:=[]) rfl (fun x=>by kernel_rfl)

/- 12 -/
noncomputable def P8:Cx:=(aN [Ut] [UB,P3])
theorem wv:P8.Ok prog:=au ⟨Lb,trivial⟩ ⟨⟨Cl,rfl⟩,⟨wu,rfl⟩,trivial⟩
noncomputable def HN:D prog 28 (some 5) 0:=dO [] (pick (kd prog f12) [(0,false)]) 0
noncomputable def HO:D prog 28 (some 5) 0:=dO [.x] (pick (kd prog f12) [(0,true)]) 0
noncomputable def qu:Cx:=DO P8 (fun kz=>Pz kz P8 bL 5 0 [11] (HN) (HO))
theorem mD:(qu).Ok prog:=nr wv (fun h=>sg mixed wv h)
@[reducible] def HP:aC:=aC.mk [(0,.c (.yl 5)),(1,.c (.bR (.prod tI (.list (.prod tI (.prod tI (.prod .bool (.prod tI (.prod tI (.prod tI tI)))))))))),(3,.c (.mp 6)),(4,hI),(5,.c (.bO 7 tI)),(10,hI),(11,hI),(20,hI),(21,hI)] [(5,.loop .ready none 4 [(1,.c (.ptr 0 0)),(2,.c (.ptr 1 0)),(3,.c (.ptr 2 0)),(4,.c (.ptr 3 0)),(10,.fn 52 [] [.bR (.prod tI (.list (.prod tI (.prod tI (.prod .bool (.prod tI (.prod tI (.prod tI tI))))))))])] [11] (.dg [.op (some 5) none (.alloc [.bK]),.op none none (.store 1 (.t 5) (.t 11))]) (.block 1 (.seq (.dg [.op (some 12) none (.load true 2 (.t 1)),.op (some 13) none (.nV 31 [] [.t 5]),.call (some 14) none (.c (.fn 30 [] [])) [.t 12,.c (.int .i64 (Int.negSucc 0)),.t 13] [some (.prod tI (.list (.prod tI (.prod tI (.prod .bool (.prod tI (.prod tI (.prod tI tI)))))))),some tI,none],.op (some 6) none (.ex (w8.lQ tI 4) []),.op none none (.store 4 (.t 6) (.t 14))]) (.seq (.seq (.dg [.op (some 15) none (.load true 4 (.t 6)),.op (some 16) none (.build [.int .i64 (Int.ofNat 0),.int .i64 (Int.ofNat 0),.int .i64 (Int.ofNat 0),.int .i64 (Int.ofNat 0)] []),.op (some 17) none (.eqs false [.i,.i,.i,.i] (.t 15) (.t 16))]) (.cond (.t 17) (.exit 1) .skip)) (.seq (.dg [.op (some 18) none (.load true 4 (.t 6)),.op (some 19) none (.mv (.c (.int .i64 (Int.ofNat 0))))]) (.block 2 (.loop (.seq (.dg [.op (some 20) none (.bin .lss (.t 19) (.c (.int .i64 (Int.ofNat 4))))]) (.seq (.cond (.t 20) .skip (.exit 2)) (.seq (.block 3 (.seq (.dg [.op (some 21) none (.mv (.t 19)),.op (some 22) none (.ex (w8.qD 4 1 false) [.t 18,.t 19]),.op (some 7) none (.mv (.t 21)),.op (some 8) none (.mv (.t 22))]) (.seq (.dg [.op (some 23) none (.mv (.t 8)),.op (some 24) none (.bin .neq (.t 23) (.c (.int .i64 (Int.ofNat 0))))]) (.cond (.t 24) (.seq (.dg [.op (some 25) none (.load false 1 (.t 5)),.op (some 26) none (.mv (.t 7)),.op none none (.store 1 (.t 2) (.t 25)),.op none none (.store 1 (.t 3) (.t 26)),.op none none (.store 1 (.t 4) (.c (.tf true)))]) .ret) .skip)))) (.dg [.op (some 27) none (.bin .add (.t 19) (.c (.int .i64 (Int.ofNat 1)))),.op (some 19) none (.mv (.t 27))])))))))))) 28),(6,.map tI false tI false),(7,.arr tI false),(4,.gi),(0,.cells [.hole tI,.hole (.list (.prod tI (.prod tI (.prod .bool (.prod tI (.prod tI (.prod tI tI)))))))] false),(1,.cells [.bK] false),(2,.cells [.hole tI] false),(3,.cells [.tf false] false)] [.slot 3,.slot 5] []
@[reducible] def HQ:aX:=[(.exit 2,aC.mk [(0,.c (.yl 5)),(1,.c (.bR (.prod tI (.list (.prod tI (.prod tI (.prod .bool (.prod tI (.prod tI (.prod tI tI)))))))))),(3,.c (.mp 6)),(5,.c (.bO 7 tI)),(10,hI),(11,hI)] [(5,.loop .ready none 4 [(1,.c (.ptr 0 0)),(2,.c (.ptr 1 0)),(3,.c (.ptr 2 0)),(4,.c (.ptr 3 0)),(10,.fn 52 [] [.bR (.prod tI (.list (.prod tI (.prod tI (.prod .bool (.prod tI (.prod tI (.prod tI tI))))))))])] [11] (.dg [.op (some 5) none (.alloc [.bK]),.op none none (.store 1 (.t 5) (.t 11))]) (.block 1 (.seq (.dg [.op (some 12) none (.load true 2 (.t 1)),.op (some 13) none (.nV 31 [] [.t 5]),.call (some 14) none (.c (.fn 30 [] [])) [.t 12,.c (.int .i64 (Int.negSucc 0)),.t 13] [some (.prod tI (.list (.prod tI (.prod tI (.prod .bool (.prod tI (.prod tI (.prod tI tI)))))))),some tI,none],.op (some 6) none (.ex (w8.lQ tI 4) []),.op none none (.store 4 (.t 6) (.t 14))]) (.seq (.seq (.dg [.op (some 15) none (.load true 4 (.t 6)),.op (some 16) none (.build [.int .i64 (Int.ofNat 0),.int .i64 (Int.ofNat 0),.int .i64 (Int.ofNat 0),.int .i64 (Int.ofNat 0)] []),.op (some 17) none (.eqs false [.i,.i,.i,.i] (.t 15) (.t 16))]) (.cond (.t 17) (.exit 1) .skip)) (.seq (.dg [.op (some 18) none (.load true 4 (.t 6)),.op (some 19) none (.mv (.c (.int .i64 (Int.ofNat 0))))]) (.block 2 (.loop (.seq (.dg [.op (some 20) none (.bin .lss (.t 19) (.c (.int .i64 (Int.ofNat 4))))]) (.seq (.cond (.t 20) .skip (.exit 2)) (.seq (.block 3 (.seq (.dg [.op (some 21) none (.mv (.t 19)),.op (some 22) none (.ex (w8.qD 4 1 false) [.t 18,.t 19]),.op (some 7) none (.mv (.t 21)),.op (some 8) none (.mv (.t 22))]) (.seq (.dg [.op (some 23) none (.mv (.t 8)),.op (some 24) none (.bin .neq (.t 23) (.c (.int .i64 (Int.ofNat 0))))]) (.cond (.t 24) (.seq (.dg [.op (some 25) none (.load false 1 (.t 5)),.op (some 26) none (.mv (.t 7)),.op none none (.store 1 (.t 2) (.t 25)),.op none none (.store 1 (.t 3) (.t 26)),.op none none (.store 1 (.t 4) (.c (.tf true)))]) .ret) .skip)))) (.dg [.op (some 27) none (.bin .add (.t 19) (.c (.int .i64 (Int.ofNat 1)))),.op (some 19) none (.mv (.t 27))])))))))))) 28),(6,.map tI false tI false),(7,.arr tI false),(4,.gi),(0,.cells [.hole tI,.hole (.list (.prod tI (.prod tI (.prod .bool (.prod tI (.prod tI (.prod tI tI)))))))] false),(1,.cells [.bK] false),(2,.cells [.hole tI] false),(3,.cells [.tf false] false)] [.slot 3,.slot 5] [])]
noncomputable def HR:D prog 39 none 6:=dO [] (pick (kd prog f52) [(0,false),(0,false)]) 0
noncomputable def g12_0i_1:(Int×List (Int×Int×Bool×Int×Int×Int×Int))×Int×Nat×Int×Int×Int×Int×(Int×List (Int×Int×Bool×Int×Int×Int×Int))×(List (Int×Int))×List Int×Int×(List (Int×Int×Bool×Int×Int×Int×Int))×Int×Unit->bJ (((Int×List (Int×Int×Bool×Int×Int×Int×Int))×Int×Nat×Int×Int×Int×Int×(Int×List (Int×Int×Bool×Int×Int×Int×Int))×(List (Int×Int))×List Int×Int×(List (Int×Int×Bool×Int×Int×Int×Int))×Int×Unit) ⊕ (((Int×List (Int×Int×Bool×Int×Int×Int×Int))×Nat×Int×Int×(Int×List (Int×Int×Bool×Int×Int×Int×Int))×(List (Int×Int))×List Int×Int×(List (Int×Int×Bool×Int×Int×Int×Int))×Int×Unit))):=fun (v1,v4,AF,v10,v11,v20,jk,jl,m6,b7,cC,cW,gV,_) =>
 .br (decide (jk<v20)) (
 .bd (FH34 jk m6) fun y3 =>
 .br (y3.1==v4) (
 .nd (decide ((AF+(((((jk::[])).drop (0:Nat)).take (1:Nat))).length)<bU)) <|
 .ni (jk+(1:Int)) <|
 .ret (.inl ((v1.1,v1.2),v4,(AF+(((((jk::[])).drop (0:Nat)).take (1:Nat))).length),v10,v11,v20,(jk+(1:Int)),(jl.1,jl.2),y3.2.1,((((b7).drop (0:Nat)).take AF)++((((jk::[])).drop (0:Nat)).take (1:Nat))),cC,cW,gV,()))) (
 .ni (jk+(1:Int)) <|
 .ret (.inl ((v1.1,v1.2),v4,AF,v10,v11,v20,(jk+(1:Int)),(jl.1,jl.2),y3.2.1,b7,cC,cW,gV,())))) (
 .ret (.inr ((v1.1,v1.2),AF,v10,v11,(jl.1,jl.2),m6,b7,cC,cW,gV,())))
noncomputable def HS:bp prog 39 none 6:=aR mixed qu mD [0,1,2,3,4,5] rfl HP HQ rfl (HR) (fun x=>ag (g12_0i_1 x)) (fun x=>by kernel_rfl)
@[reducible] def HT:aC:=aC.mk [(0,.c (.yl 5)),(1,.c (.bR (.prod tI (.list (.prod tI (.prod tI (.prod .bool (.prod tI (.prod tI (.prod tI tI)))))))))),(3,.c (.mp 6)),(10,hI),(11,hI)] [(5,.loop .ready none 4 [(1,.c (.ptr 0 0)),(2,.c (.ptr 1 0)),(3,.c (.ptr 2 0)),(4,.c (.ptr 3 0)),(10,.fn 52 [] [.bR (.prod tI (.list (.prod tI (.prod tI (.prod .bool (.prod tI (.prod tI (.prod tI tI))))))))])] [11] (.dg [.op (some 5) none (.alloc [.bK]),.op none none (.store 1 (.t 5) (.t 11))]) (.block 1 (.seq (.dg [.op (some 12) none (.load true 2 (.t 1)),.op (some 13) none (.nV 31 [] [.t 5]),.call (some 14) none (.c (.fn 30 [] [])) [.t 12,.c (.int .i64 (Int.negSucc 0)),.t 13] [some (.prod tI (.list (.prod tI (.prod tI (.prod .bool (.prod tI (.prod tI (.prod tI tI)))))))),some tI,none],.op (some 6) none (.ex (w8.lQ tI 4) []),.op none none (.store 4 (.t 6) (.t 14))]) (.seq (.seq (.dg [.op (some 15) none (.load true 4 (.t 6)),.op (some 16) none (.build [.int .i64 (Int.ofNat 0),.int .i64 (Int.ofNat 0),.int .i64 (Int.ofNat 0),.int .i64 (Int.ofNat 0)] []),.op (some 17) none (.eqs false [.i,.i,.i,.i] (.t 15) (.t 16))]) (.cond (.t 17) (.exit 1) .skip)) (.seq (.dg [.op (some 18) none (.load true 4 (.t 6)),.op (some 19) none (.mv (.c (.int .i64 (Int.ofNat 0))))]) (.block 2 (.loop (.seq (.dg [.op (some 20) none (.bin .lss (.t 19) (.c (.int .i64 (Int.ofNat 4))))]) (.seq (.cond (.t 20) .skip (.exit 2)) (.seq (.block 3 (.seq (.dg [.op (some 21) none (.mv (.t 19)),.op (some 22) none (.ex (w8.qD 4 1 false) [.t 18,.t 19]),.op (some 7) none (.mv (.t 21)),.op (some 8) none (.mv (.t 22))]) (.seq (.dg [.op (some 23) none (.mv (.t 8)),.op (some 24) none (.bin .neq (.t 23) (.c (.int .i64 (Int.ofNat 0))))]) (.cond (.t 24) (.seq (.dg [.op (some 25) none (.load false 1 (.t 5)),.op (some 26) none (.mv (.t 7)),.op none none (.store 1 (.t 2) (.t 25)),.op none none (.store 1 (.t 3) (.t 26)),.op none none (.store 1 (.t 4) (.c (.tf true)))]) .ret) .skip)))) (.dg [.op (some 27) none (.bin .add (.t 19) (.c (.int .i64 (Int.ofNat 1)))),.op (some 19) none (.mv (.t 27))])))))))))) 28),(6,.map tI false tI false),(4,.gi),(0,.cells [.hole tI,.hole (.list (.prod tI (.prod tI (.prod .bool (.prod tI (.prod tI (.prod tI tI)))))))] false),(1,.cells [.bK] false),(2,.cells [.hole tI] false),(3,.cells [.tf false] false)] [.slot 3] []
@[reducible] def HU:aX:=[(.exit 0,aC.mk [] [(0,.cells [.hole tI,.hole (.list (.prod tI (.prod tI (.prod .bool (.prod tI (.prod tI (.prod tI tI)))))))] false),(1,.cells [.bK] false),(2,.cells [.hole tI] false),(3,.cells [.tf false] false),(4,.gi),(5,.loop .ready none 4 [(1,.c (.ptr 0 0)),(2,.c (.ptr 1 0)),(3,.c (.ptr 2 0)),(4,.c (.ptr 3 0)),(10,.fn 52 [] [.bR (.prod tI (.list (.prod tI (.prod tI (.prod .bool (.prod tI (.prod tI (.prod tI tI))))))))])] [11] (.dg [.op (some 5) none (.alloc [.bK]),.op none none (.store 1 (.t 5) (.t 11))]) (.block 1 (.seq (.dg [.op (some 12) none (.load true 2 (.t 1)),.op (some 13) none (.nV 31 [] [.t 5]),.call (some 14) none (.c (.fn 30 [] [])) [.t 12,.c (.int .i64 (Int.negSucc 0)),.t 13] [some (.prod tI (.list (.prod tI (.prod tI (.prod .bool (.prod tI (.prod tI (.prod tI tI)))))))),some tI,none],.op (some 6) none (.ex (w8.lQ tI 4) []),.op none none (.store 4 (.t 6) (.t 14))]) (.seq (.seq (.dg [.op (some 15) none (.load true 4 (.t 6)),.op (some 16) none (.build [.int .i64 (Int.ofNat 0),.int .i64 (Int.ofNat 0),.int .i64 (Int.ofNat 0),.int .i64 (Int.ofNat 0)] []),.op (some 17) none (.eqs false [.i,.i,.i,.i] (.t 15) (.t 16))]) (.cond (.t 17) (.exit 1) .skip)) (.seq (.dg [.op (some 18) none (.load true 4 (.t 6)),.op (some 19) none (.mv (.c (.int .i64 (Int.ofNat 0))))]) (.block 2 (.loop (.seq (.dg [.op (some 20) none (.bin .lss (.t 19) (.c (.int .i64 (Int.ofNat 4))))]) (.seq (.cond (.t 20) .skip (.exit 2)) (.seq (.block 3 (.seq (.dg [.op (some 21) none (.mv (.t 19)),.op (some 22) none (.ex (w8.qD 4 1 false) [.t 18,.t 19]),.op (some 7) none (.mv (.t 21)),.op (some 8) none (.mv (.t 22))]) (.seq (.dg [.op (some 23) none (.mv (.t 8)),.op (some 24) none (.bin .neq (.t 23) (.c (.int .i64 (Int.ofNat 0))))]) (.cond (.t 24) (.seq (.dg [.op (some 25) none (.load false 1 (.t 5)),.op (some 26) none (.mv (.t 7)),.op none none (.store 1 (.t 2) (.t 25)),.op none none (.store 1 (.t 3) (.t 26)),.op none none (.store 1 (.t 4) (.c (.tf true)))]) .ret) .skip)))) (.dg [.op (some 27) none (.bin .add (.t 19) (.c (.int .i64 (Int.ofNat 1)))),.op (some 19) none (.mv (.t 27))])))))))))) 28)] [] [])]
noncomputable def HV:D prog 39 none 6:=dO [.l HS] (pick (kd prog f52) [(0,false)]) 0
noncomputable def g12_0i_0:(Int×List (Int×Int×Bool×Int×Int×Int×Int))×Int×Int×(Int×List (Int×Int×Bool×Int×Int×Int×Int))×(List (Int×Int))×Int×(List (Int×Int×Bool×Int×Int×Int×Int))×Int×Unit->bJ (((Int×List (Int×Int×Bool×Int×Int×Int×Int))×Int×Int×(Int×List (Int×Int×Bool×Int×Int×Int×Int))×(List (Int×Int))×Int×(List (Int×Int×Bool×Int×Int×Int×Int))×Int×Unit) ⊕ ((Int×(List (Int×Int×Bool×Int×Int×Int×Int))×Int×(Int×List (Int×Int×Bool×Int×Int×Int×Int))×Unit))):=fun (v1,v10,v11,jl,m6,cC,cW,gV,_) =>
 .br (decide (v11<v10)) (
 .bd (FH34 v11 m6) fun y2 =>
 .br (!(y2.1==v11)) (
 .ni (v11+(1:Int)) <|
 .ret (.inl ((v1.1,v1.2),v10,(v11+(1:Int)),(jl.1,jl.2),y2.2.1,cC,cW,gV,()))) (
 .bd (.it g12_0i_1 ((v1.1,v1.2),v11,(0:Nat),v10,v11,v1.1,(0:Int),(jl.1,jl.2),y2.2.1,[],cC,cW,gV,())) fun z4 =>
 .no)) (
 .ret (.inr (cC,cW,gV,(jl.1,jl.2),())))
noncomputable def HW:bp prog 39 none 6:=aR mixed qu mD [0,1,2,3,4,5] rfl HT HU rfl (HV) (fun x=>ag (g12_0i_0 x)) (fun x=>by kernel_rfl)
@[reducible] def UC:aC:=aC.mk [(1,.c (.ptr 0 0)),(2,.c (.ptr 1 0)),(3,.c (.ptr 2 0)),(4,.c (.ptr 3 0)),(10,.fn 52 [] [.bR (.prod tI (.list (.prod tI (.prod tI (.prod .bool (.prod tI (.prod tI (.prod tI tI))))))))])] [(0,.cells [.hole tI,.hole (.list (.prod tI (.prod tI (.prod .bool (.prod tI (.prod tI (.prod tI tI)))))))] false),(1,.cells [.bK] false),(2,.cells [.hole tI] false),(3,.cells [.tf false] false)] [.slot 1,.slot 2,.slot 3,.slot 4] []
@[reducible] def UD:aX:=[(.normal,aC.mk [(2,.c (.ptr 0 0)),(3,.c (.ptr 1 0)),(4,.c (.ptr 2 0))] [(0,.cells [.bK] false),(1,.cells [.hole tI] false),(2,.cells [.tf false] false)] [.slot 2,.slot 3,.slot 4] [])]
noncomputable def HX:D prog 39 none 6:=dO [.l HW] (kd prog f52) 0
theorem P9:cD prog f52=some ⟨39,2,(HX).er,[],[]⟩:=by kernel_rfl
noncomputable def g12_0:(Int×List (Int×Int×Bool×Int×Int×Int×Int))×Int×(List (Int×Int×Bool×Int×Int×Int×Int))×Int×Unit->bJ ((Int×Unit)):=fun (sx,cC,cW,gV,_) =>
 .bd (FH33 (sx.1,sx.2) (-1:Int)) fun y1 =>
 .bd (.it g12_0i_0 ((sx.1,sx.2),sx.1,(0:Int),(sx.1,sx.2),y1.1,cC,cW,gV,())) fun z5 =>
 .ret ((z5.2.2.1,()))
noncomputable def UE:iI prog 28 none 0:=nt mixed qu mD [] rfl UC UD ( .t 10) [11] rfl (HN).er (HO).er 52 func52 (P9) (ai func52 rfl rfl) 6 rfl (HX) rfl (fun x=>ag (g12_0 x)) (fun x=>by kernel_rfl)
noncomputable def UF:D prog 28 none 0:=dO [.r UE] (kd prog f12) 0
noncomputable def F12 (a0:Int×List (Int×Int×Bool×Int×Int×Int×Int)):bJ (List Int×Int×Bool×Unit) :=
 .bd (F29 (a0.1,a0.2)) fun y0 =>
 .bd (g12_0 ((y0.1.1,y0.1.2),a0.1,a0.2,(0:Int),())) fun z6 =>
 .ret ([],(0:Int),false,())
theorem Qa:cD prog f12=some ⟨28,1,UF.er,[.cell 2 false 1,.cell 3 false 1,.cell 4 false 1],[some tL,some tI,some .bool]⟩:=by kernel_rfl
noncomputable def UG:Ct:=⟨12,[.c (.hole (.prod tI (.list (.prod tI (.prod tI (.prod .bool (.prod tI (.prod tI (.prod tI tI)))))))))],.cq [.hole tL,.hole tI,.hole .bool],fun x=>ag (F12 x.1)⟩
theorem Lj:UG.Ok prog:=bh mixed wv func12 Qa (ai func12 rfl rfl) UF (by kernel_rfl) rfl (fun x=>by kernel_rfl)

/- 34, drawn -/
@[reducible] def ZI:aC:=aC.mk [(0,hI)] [] [] []
noncomputable def oE (v1:Int) (m0:List (Int×Int)):bJ (Int×Unit) :=
 .bd (FH34 v1 m0) fun y =>
 .ret (y.1,())
noncomputable def Lk:Gt:=⟨34,Uu,ZI,(fun x=>ag (oE x.1 x.2.1))⟩
theorem DY {v:Int} {m:List (Int×Int)} {y:Uv.T} (h:ag (FH34 v m)=some y):y.2.1=m:=by
  obtain ⟨z,h1,h2⟩:=cO (show cz (iter (fun x=>ag (gH34_0 x)) (v,m,())) (fun z=>some (z.1,z.2.1,()))=some y from h)
  cases h2
  refine DV (fun x=>x.2.1=m) (fun z=>z.2.1=m) ?_ ?_ rfl h1
  · rintro ⟨v1, m0, u⟩ y hm hs
    have hs:jN (!(cH (.int .i64) m0 v1)) (some (Sum.inr (v1,m0,()))) (jN ((dD (.int .i64) (0:Int) m0 v1)==v1) (some (Sum.inr (v1,m0,()))) (some (Sum.inl ((dD (.int .i64) (0:Int) m0 v1),m0,()))))=some (Sum.inl y):=hs
    rcases eK hs with ⟨_,hs⟩|⟨_,hs⟩
    · cases hs
    · rcases eK hs with ⟨_, hs⟩ | ⟨_, hs⟩
      · cases hs
      · cases hs;exact hm
  · rintro ⟨v1, m0, u⟩ y hm hs
    have hs:jN (!(cH (.int .i64) m0 v1)) (some (Sum.inr (v1,m0,()))) (jN ((dD (.int .i64) (0:Int) m0 v1)==v1) (some (Sum.inr (v1,m0,()))) (some (Sum.inl ((dD (.int .i64) (0:Int) m0 v1),m0,()))))=some (Sum.inr y):=hs
    rcases eK hs with ⟨_,hs⟩|⟨_,hs⟩
    · cases hs;exact hm
    · rcases eK hs with ⟨_, hs⟩ | ⟨_, hs⟩
      · cases hs;exact hm
      · cases hs
theorem wA:Lk.Ok prog:=Gt.reads wu rfl rfl (fun x y' h=>by
  obtain ⟨y,h1,h2⟩:=cO (show cz (ag (FH34 x.1 x.2.1)) (fun y=>some (y.1,()))=some y' from h)
  have e:=DY h1
  obtain ⟨r,m',u⟩:=y
  simp only at e
  subst e
  cases h2
  exact ⟨_,h1,rfl,fun _=>rfl,rfl⟩)

/- 35, lent -/
@[reducible] def UH:aC:=aC.mk [(0,hI),(1,.c (.ptr 0 0)),(2,.c (.ptr 1 0))] [(0,.cells [.mp 2] false),(1,.cells [.hole tI] false),(2,.map tI false tI false)] [.slot 1,.slot 2,.cell 0 0] []
@[reducible] def ZJ:aC:=aC.mk [(0,.c (.hole .bool))] [(0,.cells [.mp 2] false),(2,.map tI false tI false),(1,.cells [.hole tI] false)] [] []
noncomputable def UI:Cx:=(uI [] [] [Lk])
theorem HY:UI.Ok prog:=kK trivial trivial ⟨⟨wA,rfl⟩,trivial⟩
noncomputable def NY:D prog 10 none 3:=dO [] (kd prog f35) 0
noncomputable def FH35 (v0:Int) (cG:Int) (m2:List (Int×Int)):bJ (Bool×(List (Int×Int))×Int×Unit) :=
 .bd (oE v0 m2) fun y0 =>
 .ret ((y0.1==cG),m2,cG,())
theorem Ll:cD prog f35=some ⟨10,3,NY.er,[.t 4],[some .bool]⟩:=by kernel_rfl
noncomputable def UJ:Ht:=⟨35,UH,ZJ,(fun x=>ag (FH35 x.1 x.2.1 x.2.2.1))⟩
theorem Cm:UJ.Ok prog:=eR mixed HY rfl func35 Ll (ai func35 rfl rfl) NY (by kernel_rfl) rfl rfl ⟨_,rfl⟩ rfl (pre:=[0,1,2]) rfl (fun x=>by kernel_rfl)

/- 36 -/
noncomputable def UK:Cx:=(aN [] [])
theorem Cn:UK.Ok prog:=au trivial trivial
@[reducible] def UL:aC:=aC.mk [(1,hI),(3,.c (.pa 0 tI 4)),(5,.c (.pa 1 tI 4)),(6,.c (.pa 2 tI 4)),(8,hI)] [(0,.arr tI false),(1,.arr tI false),(2,.arr tI false)] [.slot 3,.slot 5,.slot 6] []
@[reducible] def UM:aX:=[(.exit 0,aC.mk [(3,.c (.pa 0 tI 4)),(6,.c (.pa 1 tI 4))] [(0,.arr tI false),(1,.arr tI false)] [.slot 3,.slot 6] [])]
noncomputable def UN:D prog 23 none 0:=dO [] (pick (kd prog f36) [(0,false)]) 0
noncomputable def g36_0:Int×Int×List Int×List Int×List Int×Unit->bJ ((Int×Int×List Int×List Int×List Int×Unit) ⊕ ((List Int×List Int×Unit))):=fun (v1,v8,b0,b1,b2,_) =>
 .br (decide (v8<(4:Int))) (
 .nb v8 (4:Int) <|
 .nd (decide ((Int.toNat v8)<(b0).length)) <|
 .nb v8 (4:Int) <|
 .nd (decide ((Int.toNat v8)<(b1).length)) <|
 .ni (v1 * ((b1).getD (Int.toNat v8) (0:Int))) <|
 .ni (((b0).getD (Int.toNat v8) (0:Int))+(v1 * ((b1).getD (Int.toNat v8) (0:Int)))) <|
 .nb v8 (4:Int) <|
 .nd (decide ((Int.toNat v8)<(b0).length)) <|
 .ni (v8+(1:Int)) <|
 .ret (.inl (v1,(v8+(1:Int)),((b0).set (Int.toNat v8) (((b0).getD (Int.toNat v8) (0:Int))+(v1 * ((b1).getD (Int.toNat v8) (0:Int))))),b1,b2,()))) (
 .ret (.inr (b0,b2,())))
noncomputable def UO:bp prog 23 none 0:=aR mixed UK Cn [] rfl UL UM rfl (UN) (fun x=>ag (g36_0 x)) (fun x=>by kernel_rfl)
noncomputable def UP:D prog 23 none 0:=dO [.l UO] (kd prog f36) 0
noncomputable def F36 (a0:Int×Int×Int×Int) (a1:Int) (a2:Int×Int×Int×Int):bJ ((Int×Int×Int×Int)×Unit) :=
 .bd (.it g36_0 (a1,(0:Int),(a0.1::(a0.2.1::(a0.2.2.1::(a0.2.2.2::[])))),(a2.1::(a2.2.1::(a2.2.2.1::(a2.2.2.2::[])))),(List.replicate (4:Nat) (0:Int)),())) fun z0 =>
 .ret (((((((z0.1).getD (0:Nat) (0:Int))::(((z0.1).getD (1:Nat) (0:Int))::(((z0.1).getD (2:Nat) (0:Int))::(((z0.1).getD (3:Nat) (0:Int))::[]))))).getD (0:Nat) (0:Int)),(((((z0.1).getD (0:Nat) (0:Int))::(((z0.1).getD (1:Nat) (0:Int))::(((z0.1).getD (2:Nat) (0:Int))::(((z0.1).getD (3:Nat) (0:Int))::[]))))).getD (1:Nat) (0:Int)),(((((z0.1).getD (0:Nat) (0:Int))::(((z0.1).getD (1:Nat) (0:Int))::(((z0.1).getD (2:Nat) (0:Int))::(((z0.1).getD (3:Nat) (0:Int))::[]))))).getD (2:Nat) (0:Int)),(((((z0.1).getD (0:Nat) (0:Int))::(((z0.1).getD (1:Nat) (0:Int))::(((z0.1).getD (2:Nat) (0:Int))::(((z0.1).getD (3:Nat) (0:Int))::[]))))).getD (3:Nat) (0:Int))),())
theorem Qb:cD prog f36=some ⟨23,3,UP.er,[.cell 6 true 4],[some (.prod tI (.prod tI (.prod tI tI)))]⟩:=by kernel_rfl
noncomputable def Lm:Ct:=⟨36,[.c (.hole (.prod tI (.prod tI (.prod tI tI)))),hI,.c (.hole (.prod tI (.prod tI (.prod tI tI))))],.c (.hole (.prod tI (.prod tI (.prod tI tI)))),fun x=>ag (F36 x.1 x.2.1 x.2.2.1)⟩
theorem wB:Lm.Ok prog:=bh mixed Cn func36 Qb (ai func36 rfl rfl) UP (by kernel_rfl) rfl (fun x=>by kernel_rfl)

/- 35, drawn -/
@[reducible] def ZK:aC:=aC.mk [(0,.c (.hole .bool))] [] [] []
noncomputable def Ln (v0:Int) (cG:Int) (m2:List (Int×Int)):bJ (Bool×Unit) :=
 .bd (FH35 v0 cG m2) fun y =>
 .ret (y.1,())
noncomputable def UQ:Gt:=⟨35,UH,ZK,(fun x=>ag (Ln x.1 x.2.1 x.2.2.1))⟩
theorem Lo:UQ.Ok prog:=Gt.reads Cm rfl rfl (fun x y' h=>by
  obtain ⟨y,h1,h2⟩:=cO (show cz (ag (FH35 x.1 x.2.1 x.2.2.1)) (fun y=>some (y.1,()))=some y' from h)
  obtain ⟨z,h3,h4⟩:=cO (show cz (ag (oE x.1 x.2.2.1)) (fun z=>some ((z.1==x.2.1),x.2.2.1,x.2.1,()))=some y from h1)
  cases h4
  cases h2
  refine ⟨_,h1,rfl,fun id=>?_,rfl⟩
  show aq id [(0,_),(1,_),(2,_)]=aq id [(0,_),(2,_),(1,_)]
  simp only [aS]
  by_cases h0:0=id
  · subst h0;rfl
  · by_cases h1 : 1 = id
    · subst h1;rfl
    · by_cases h2 : 2 = id
      · subst h2;rfl
      · simp [h0,h1,h2])

/- 30, lent -/
@[reducible] def ZL:aC:=aC.mk [(0,.c (.hole (.prod tI (.list (.prod tI (.prod tI (.prod .bool (.prod tI (.prod tI (.prod tI tI)))))))))),(1,hI),(2,.fn 35 [] [.ptr 0 0,.ptr 1 0])] [(0,.cells [.mp 2] false),(1,.cells [.hole tI] false),(2,.map tI false tI false)] [.part 2 0,.part 2 1,.cell 0 0] []
@[reducible] def ZM:aC:=aC.mk [(0,.c (.hole (.prod tI (.prod tI (.prod tI tI)))))] [(0,.cells [.mp 2] false),(2,.map tI false tI false),(1,.cells [.hole tI] false)] [] []
noncomputable def NZ:Cx:=(uI [Lm] [UJ] [UQ])
theorem yL:NZ.Ok prog:=kK ⟨wB,trivial⟩ ⟨⟨Cm,rfl⟩,trivial⟩ ⟨⟨Lo,rfl⟩,trivial⟩
@[reducible] def Qc:aC:=aC.mk [(1,hI),(2,.fn 35 [] [.ptr 0 0,.ptr 1 0]),(6,.c (.pa 3 tI 4)),(7,.c (.pa 4 tI 4)),(13,.c (.hole (.list (.prod tI (.prod tI (.prod .bool (.prod tI (.prod tI (.prod tI tI))))))))),(14,hI),(15,hI)] [(0,.cells [.mp 2] false),(1,.cells [.hole tI] false),(3,.arr tI false),(4,.arr tI false),(2,.map tI false tI false)] [.slot 6,.slot 7] []
@[reducible] def Qd:aX:=[(.exit 0,aC.mk [(6,.c (.pa 3 tI 4)),(7,.c (.pa 4 tI 4))] [(3,.arr tI false),(4,.arr tI false),(0,.cells [.mp 2] false),(2,.map tI false tI false),(1,.cells [.hole tI] false)] [.slot 6,.slot 7] [])]
noncomputable def Qe:D prog 54 none 3:=dO [] (pick (kd prog f30) [(0,false)]) 0
noncomputable def gH30_0:Int×(List (Int×Int×Bool×Int×Int×Int×Int))×Int×Int×Int×List Int×List Int×(List (Int×Int))×Unit->bJ ((Int×(List (Int×Int×Bool×Int×Int×Int×Int))×Int×Int×Int×List Int×List Int×(List (Int×Int))×Unit) ⊕ ((List Int×List Int×(List (Int×Int))×Int×Unit))):=fun (v1,c8,jW,cK,cG,b3,b4,m2,_) =>
 .br (decide (cK<jW)) (
 .nb cK (((c8).length:Nat):Int) <|
 .bd (Ln ((c8).getD (Int.toNat cK) ((0:Int),(0:Int),false,(0:Int),(0:Int),(0:Int),(0:Int))).2.1 cG m2) fun y0 =>
 .bd (FH35 ((c8).getD (Int.toNat cK) ((0:Int),(0:Int),false,(0:Int),(0:Int),(0:Int),(0:Int))).1 cG m2) fun y1 =>
 .br (!((c8).getD (Int.toNat cK) ((0:Int),(0:Int),false,(0:Int),(0:Int),(0:Int),(0:Int))).2.2.1) (
 .ni (cK+(1:Int)) <|
 .ret (.inl (v1,c8,jW,(cK+(1:Int)),y1.2.2.1,b3,b4,y1.2.1,()))) (
 .br (cK==v1) (
 .ni (cK+(1:Int)) <|
 .ret (.inl (v1,c8,jW,(cK+(1:Int)),y1.2.2.1,b3,b4,y1.2.1,()))) (
 .br (y0.1==y1.1) (
 .ni (cK+(1:Int)) <|
 .ret (.inl (v1,c8,jW,(cK+(1:Int)),y1.2.2.1,b3,b4,y1.2.1,()))) (
 .br y0.1 (
 .bd (F36 (((b4).getD (0:Nat) (0:Int)),((b4).getD (1:Nat) (0:Int)),((b4).getD (2:Nat) (0:Int)),((b4).getD (3:Nat) (0:Int))) (1:Int) (((c8).getD (Int.toNat cK) ((0:Int),(0:Int),false,(0:Int),(0:Int),(0:Int),(0:Int))).2.2.2.1,((c8).getD (Int.toNat cK) ((0:Int),(0:Int),false,(0:Int),(0:Int),(0:Int),(0:Int))).2.2.2.2.1,((c8).getD (Int.toNat cK) ((0:Int),(0:Int),false,(0:Int),(0:Int),(0:Int),(0:Int))).2.2.2.2.2.1,((c8).getD (Int.toNat cK) ((0:Int),(0:Int),false,(0:Int),(0:Int),(0:Int),(0:Int))).2.2.2.2.2.2)) fun y2 =>
 .ni (cK+(1:Int)) <|
 .ret (.inl (v1,c8,jW,(cK+(1:Int)),y1.2.2.1,b3,(y2.1.1::(y2.1.2.1::(y2.1.2.2.1::(y2.1.2.2.2::[])))),y1.2.1,()))) (
 .bd (F36 (((b4).getD (0:Nat) (0:Int)),((b4).getD (1:Nat) (0:Int)),((b4).getD (2:Nat) (0:Int)),((b4).getD (3:Nat) (0:Int))) (-1:Int) (((c8).getD (Int.toNat cK) ((0:Int),(0:Int),false,(0:Int),(0:Int),(0:Int),(0:Int))).2.2.2.1,((c8).getD (Int.toNat cK) ((0:Int),(0:Int),false,(0:Int),(0:Int),(0:Int),(0:Int))).2.2.2.2.1,((c8).getD (Int.toNat cK) ((0:Int),(0:Int),false,(0:Int),(0:Int),(0:Int),(0:Int))).2.2.2.2.2.1,((c8).getD (Int.toNat cK) ((0:Int),(0:Int),false,(0:Int),(0:Int),(0:Int),(0:Int))).2.2.2.2.2.2)) fun y3 =>
 .ni (cK+(1:Int)) <|
 .ret (.inl (v1,c8,jW,(cK+(1:Int)),y1.2.2.1,b3,(y3.1.1::(y3.1.2.1::(y3.1.2.2.1::(y3.1.2.2.2::[])))),y1.2.1,()))))))) (
 .ret (.inr (b3,b4,m2,cG,())))
noncomputable def Qf:bp prog 54 none 3:=aR mixed NZ yL [0,1,2] rfl Qc Qd rfl (Qe) (fun x=>ag (gH30_0 x)) (fun x=>by kernel_rfl)
noncomputable def N4:D prog 54 none 3:=dO [.l Qf] (kd prog f30) 0
noncomputable def FH30 (v0:Int×List (Int×Int×Bool×Int×Int×Int×Int)) (v1:Int) (cG:Int) (m2:List (Int×Int)):bJ ((Int×Int×Int×Int)×(List (Int×Int))×Int×Unit) :=
 .bd (.it gH30_0 (v1,v0.2,(((v0.2).length:Nat):Int),(0:Int),cG,(List.replicate (4:Nat) (0:Int)),(List.replicate (4:Nat) (0:Int)),m2,())) fun z4 =>
 .ret ((((z4.2.1).getD (0:Nat) (0:Int)),((z4.2.1).getD (1:Nat) (0:Int)),((z4.2.1).getD (2:Nat) (0:Int)),((z4.2.1).getD (3:Nat) (0:Int))),z4.2.2.1,z4.2.2.2.1,())
theorem Lp:cD prog f30=some ⟨54,3,N4.er,[.cell 6 true 4],[some (.prod tI (.prod tI (.prod tI tI)))]⟩:=by kernel_rfl
noncomputable def UR:Ht:=⟨30,ZL,ZM,(fun x=>ag (FH30 x.1 x.2.1 x.2.2.1 x.2.2.2.1))⟩
theorem Lq:UR.Ok prog:=eR mixed yL rfl func30 Lp (ai func30 rfl rfl) N4 (by kernel_rfl) rfl rfl ⟨_,rfl⟩ rfl (pre:=[0,1,2]) rfl (fun x=>by kernel_rfl)

/- 37, lent -/
@[reducible] def US:aC:=aC.mk [(0,hI),(1,.c (.ptr 0 0)),(2,.c (.ptr 1 0))] [(0,.cells [.mp 2] false),(1,.cells [.hole tI] false),(2,.map tI false tI false)] [.slot 1,.slot 2,.cell 0 0] []
@[reducible] def ZN:aC:=aC.mk [(0,.c (.hole .bool))] [(0,.cells [.mp 2] false),(2,.map tI false tI false),(1,.cells [.hole tI] false)] [] []
noncomputable def UT:Cx:=(uI [] [] [Lk])
theorem HZ:UT.Ok prog:=kK trivial trivial ⟨⟨wA,rfl⟩,trivial⟩
noncomputable def N5:D prog 10 none 3:=dO [] (kd prog f37) 0
noncomputable def FH37 (v0:Int) (cG:Int) (m2:List (Int×Int)):bJ (Bool×(List (Int×Int))×Int×Unit) :=
 .bd (oE v0 m2) fun y0 =>
 .ret ((y0.1==cG),m2,cG,())
theorem Lr:cD prog f37=some ⟨10,3,N5.er,[.t 4],[some .bool]⟩:=by kernel_rfl
noncomputable def UU:Ht:=⟨37,US,ZN,(fun x=>ag (FH37 x.1 x.2.1 x.2.2.1))⟩
theorem Co:UU.Ok prog:=eR mixed HZ rfl func37 Lr (ai func37 rfl rfl) N5 (by kernel_rfl) rfl rfl ⟨_,rfl⟩ rfl (pre:=[0,1,2]) rfl (fun x=>by kernel_rfl)

/- 37, drawn -/
@[reducible] def ZO:aC:=aC.mk [(0,.c (.hole .bool))] [] [] []
noncomputable def UW (v0:Int) (cG:Int) (m2:List (Int×Int)):bJ (Bool×Unit) :=
 .bd (FH37 v0 cG m2) fun y =>
 .ret (y.1,())
noncomputable def UX:Gt:=⟨37,US,ZO,(fun x=>ag (UW x.1 x.2.1 x.2.2.1))⟩
theorem Ls:UX.Ok prog:=Gt.reads Co rfl rfl (fun x y' h=>by
  obtain ⟨y,h1,h2⟩:=cO (show cz (ag (FH37 x.1 x.2.1 x.2.2.1)) (fun y=>some (y.1,()))=some y' from h)
  obtain ⟨z,h3,h4⟩:=cO (show cz (ag (oE x.1 x.2.2.1)) (fun z=>some ((z.1==x.2.1),x.2.2.1,x.2.1,()))=some y from h1)
  cases h4
  cases h2
  refine ⟨_,h1,rfl,fun id=>?_,rfl⟩
  show aq id [(0,_),(1,_),(2,_)]=aq id [(0,_),(2,_),(1,_)]
  simp only [aS]
  by_cases h0:0=id
  · subst h0;rfl
  · by_cases h1 : 1 = id
    · subst h1;rfl
    · by_cases h2 : 2 = id
      · subst h2;rfl
      · simp [h0,h1,h2])

/- 30, lent -/
@[reducible] def Lt:aC:=aC.mk [(0,.c (.hole (.prod tI (.list (.prod tI (.prod tI (.prod .bool (.prod tI (.prod tI (.prod tI tI)))))))))),(1,hI),(2,.fn 37 [] [.ptr 0 0,.ptr 1 0])] [(0,.cells [.mp 2] false),(1,.cells [.hole tI] false),(2,.map tI false tI false)] [.part 2 0,.part 2 1,.cell 0 0] []
@[reducible] def Lu:aC:=aC.mk [(0,.c (.hole (.prod tI (.prod tI (.prod tI tI)))))] [(0,.cells [.mp 2] false),(2,.map tI false tI false),(1,.cells [.hole tI] false)] [] []
noncomputable def yM:Cx:=(uI [Lm] [UU] [UX])
theorem pJ:yM.Ok prog:=kK ⟨wB,trivial⟩ ⟨⟨Co,rfl⟩,trivial⟩ ⟨⟨Ls,rfl⟩,trivial⟩
@[reducible] def DZ:aC:=aC.mk [(1,hI),(2,.fn 37 [] [.ptr 0 0,.ptr 1 0]),(6,.c (.pa 3 tI 4)),(7,.c (.pa 4 tI 4)),(13,.c (.hole (.list (.prod tI (.prod tI (.prod .bool (.prod tI (.prod tI (.prod tI tI))))))))),(14,hI),(15,hI)] [(0,.cells [.mp 2] false),(1,.cells [.hole tI] false),(3,.arr tI false),(4,.arr tI false),(2,.map tI false tI false)] [.slot 6,.slot 7] []
@[reducible] def D0:aX:=[(.exit 0,aC.mk [(6,.c (.pa 3 tI 4)),(7,.c (.pa 4 tI 4))] [(3,.arr tI false),(4,.arr tI false),(0,.cells [.mp 2] false),(2,.map tI false tI false),(1,.cells [.hole tI] false)] [.slot 6,.slot 7] [])]
noncomputable def D1:D prog 54 none 3:=dO [] (pick (kd prog f30) [(0,false)]) 0
noncomputable def gH30_v1_0:Int×(List (Int×Int×Bool×Int×Int×Int×Int))×Int×Int×Int×List Int×List Int×(List (Int×Int))×Unit->bJ ((Int×(List (Int×Int×Bool×Int×Int×Int×Int))×Int×Int×Int×List Int×List Int×(List (Int×Int))×Unit) ⊕ ((List Int×List Int×(List (Int×Int))×Int×Unit))):=fun (v1,c8,jW,cK,cG,b3,b4,m2,_) =>
 .br (decide (cK<jW)) (
 .nb cK (((c8).length:Nat):Int) <|
 .bd (UW ((c8).getD (Int.toNat cK) ((0:Int),(0:Int),false,(0:Int),(0:Int),(0:Int),(0:Int))).2.1 cG m2) fun y0 =>
 .bd (FH37 ((c8).getD (Int.toNat cK) ((0:Int),(0:Int),false,(0:Int),(0:Int),(0:Int),(0:Int))).1 cG m2) fun y1 =>
 .br (!((c8).getD (Int.toNat cK) ((0:Int),(0:Int),false,(0:Int),(0:Int),(0:Int),(0:Int))).2.2.1) (
 .ni (cK+(1:Int)) <|
 .ret (.inl (v1,c8,jW,(cK+(1:Int)),y1.2.2.1,b3,b4,y1.2.1,()))) (
 .br (cK==v1) (
 .ni (cK+(1:Int)) <|
 .ret (.inl (v1,c8,jW,(cK+(1:Int)),y1.2.2.1,b3,b4,y1.2.1,()))) (
 .br (y0.1==y1.1) (
 .ni (cK+(1:Int)) <|
 .ret (.inl (v1,c8,jW,(cK+(1:Int)),y1.2.2.1,b3,b4,y1.2.1,()))) (
 .br y0.1 (
 .bd (F36 (((b4).getD (0:Nat) (0:Int)),((b4).getD (1:Nat) (0:Int)),((b4).getD (2:Nat) (0:Int)),((b4).getD (3:Nat) (0:Int))) (1:Int) (((c8).getD (Int.toNat cK) ((0:Int),(0:Int),false,(0:Int),(0:Int),(0:Int),(0:Int))).2.2.2.1,((c8).getD (Int.toNat cK) ((0:Int),(0:Int),false,(0:Int),(0:Int),(0:Int),(0:Int))).2.2.2.2.1,((c8).getD (Int.toNat cK) ((0:Int),(0:Int),false,(0:Int),(0:Int),(0:Int),(0:Int))).2.2.2.2.2.1,((c8).getD (Int.toNat cK) ((0:Int),(0:Int),false,(0:Int),(0:Int),(0:Int),(0:Int))).2.2.2.2.2.2)) fun y2 =>
 .ni (cK+(1:Int)) <|
 .ret (.inl (v1,c8,jW,(cK+(1:Int)),y1.2.2.1,b3,(y2.1.1::(y2.1.2.1::(y2.1.2.2.1::(y2.1.2.2.2::[])))),y1.2.1,()))) (
 .bd (F36 (((b4).getD (0:Nat) (0:Int)),((b4).getD (1:Nat) (0:Int)),((b4).getD (2:Nat) (0:Int)),((b4).getD (3:Nat) (0:Int))) (-1:Int) (((c8).getD (Int.toNat cK) ((0:Int),(0:Int),false,(0:Int),(0:Int),(0:Int),(0:Int))).2.2.2.1,((c8).getD (Int.toNat cK) ((0:Int),(0:Int),false,(0:Int),(0:Int),(0:Int),(0:Int))).2.2.2.2.1,((c8).getD (Int.toNat cK) ((0:Int),(0:Int),false,(0:Int),(0:Int),(0:Int),(0:Int))).2.2.2.2.2.1,((c8).getD (Int.toNat cK) ((0:Int),(0:Int),false,(0:Int),(0:Int),(0:Int),(0:Int))).2.2.2.2.2.2)) fun y3 =>
 .ni (cK+(1:Int)) <|
 .ret (.inl (v1,c8,jW,(cK+(1:Int)),y1.2.2.1,b3,(y3.1.1::(y3.1.2.1::(y3.1.2.2.1::(y3.1.2.2.2::[])))),y1.2.1,()))))))) (
 .ret (.inr (b3,b4,m2,cG,())))
noncomputable def D2:bp prog 54 none 3:=aR mixed yM pJ [0,1,2] rfl DZ D0 rfl (D1) (fun x=>ag (gH30_v1_0 x)) (fun x=>by kernel_rfl)
noncomputable def yN:D prog 54 none 3:=dO [.l D2] (kd prog f30) 0
noncomputable def FH30_v1 (v0:Int×List (Int×Int×Bool×Int×Int×Int×Int)) (v1:Int) (cG:Int) (m2:List (Int×Int)):bJ ((Int×Int×Int×Int)×(List (Int×Int))×Int×Unit) :=
 .bd (.it gH30_v1_0 (v1,v0.2,(((v0.2).length:Nat):Int),(0:Int),cG,(List.replicate (4:Nat) (0:Int)),(List.replicate (4:Nat) (0:Int)),m2,())) fun z4 =>
 .ret ((((z4.2.1).getD (0:Nat) (0:Int)),((z4.2.1).getD (1:Nat) (0:Int)),((z4.2.1).getD (2:Nat) (0:Int)),((z4.2.1).getD (3:Nat) (0:Int))),z4.2.2.1,z4.2.2.2.1,())
theorem AG:cD prog f30=some ⟨54,3,yN.er,[.cell 6 true 4],[some (.prod tI (.prod tI (.prod tI tI)))]⟩:=by kernel_rfl
noncomputable def Cp:Ht:=⟨30,Lt,Lu,(fun x=>ag (FH30_v1 x.1 x.2.1 x.2.2.1 x.2.2.2.1))⟩
theorem AH:Cp.Ok prog:=eR mixed pJ rfl func30 AG (ai func30 rfl rfl) yN (by kernel_rfl) rfl rfl ⟨_,rfl⟩ rfl (pre:=[0,1,2]) rfl (fun x=>by kernel_rfl)

/- 33, drawn -/
noncomputable def UY:Gt:=⟨33,Uz,UA,(fun x=>ag (FH33 x.1 x.2.1))⟩
theorem Lv:UY.Ok prog:=Gt.Zx Cl rfl (fun _=>rfl)

/- 13 -/
noncomputable def ZP:Cx:=(uI [Lm] [UR,Cp] [UY,Lk])
theorem Lw:ZP.Ok prog:=kK ⟨wB,trivial⟩ ⟨⟨Lq,rfl⟩,⟨AH,rfl⟩,trivial⟩ ⟨⟨Lv,rfl⟩,⟨wA,rfl⟩,trivial⟩
noncomputable def UZ:D prog 44 none 0:=dO [] (kd prog f13) 0
noncomputable def F13 (a0:Int×List (Int×Int×Bool×Int×Int×Int×Int)) (a1:Int):bJ ((Int×Int×Int×Int)×Bool×Unit) :=
 .nb a1 (((a0.2).length:Nat):Int) <|
 .bd (FH33 (a0.1,a0.2) a1) fun y0 =>
 .bd (oE ((a0.2).getD (Int.toNat a1) ((0:Int),(0:Int),false,(0:Int),(0:Int),(0:Int),(0:Int))).1 y0.1) fun y1 =>
 .bd (oE ((a0.2).getD (Int.toNat a1) ((0:Int),(0:Int),false,(0:Int),(0:Int),(0:Int),(0:Int))).2.1 y0.1) fun y2 =>
 .br (y1.1==y2.1) (
 .ret ((((((0:Int)::((0:Int)::((0:Int)::((0:Int)::[]))))).getD (0:Nat) (0:Int)),((((0:Int)::((0:Int)::((0:Int)::((0:Int)::[]))))).getD (1:Nat) (0:Int)),((((0:Int)::((0:Int)::((0:Int)::((0:Int)::[]))))).getD (2:Nat) (0:Int)),((((0:Int)::((0:Int)::((0:Int)::((0:Int)::[]))))).getD (3:Nat) (0:Int))),false,())) (
 .br (!(y1.1==(-1:Int))) (
 .bd (FH30 (a0.1,a0.2) a1 y1.1 y0.1) fun y3 =>
 .ret (((((y3.1.1::(y3.1.2.1::(y3.1.2.2.1::(y3.1.2.2.2::[]))))).getD (0:Nat) (0:Int)),(((y3.1.1::(y3.1.2.1::(y3.1.2.2.1::(y3.1.2.2.2::[]))))).getD (1:Nat) (0:Int)),(((y3.1.1::(y3.1.2.1::(y3.1.2.2.1::(y3.1.2.2.2::[]))))).getD (2:Nat) (0:Int)),(((y3.1.1::(y3.1.2.1::(y3.1.2.2.1::(y3.1.2.2.2::[]))))).getD (3:Nat) (0:Int))),true,())) (
 .bd (FH30_v1 (a0.1,a0.2) a1 y2.1 y0.1) fun y4 =>
 .bd (F36 ((0:Int),(0:Int),(0:Int),(0:Int)) (-1:Int) (y4.1.1,y4.1.2.1,y4.1.2.2.1,y4.1.2.2.2)) fun y5 =>
 .ret (((((y5.1.1::(y5.1.2.1::(y5.1.2.2.1::(y5.1.2.2.2::[]))))).getD (0:Nat) (0:Int)),(((y5.1.1::(y5.1.2.1::(y5.1.2.2.1::(y5.1.2.2.2::[]))))).getD (1:Nat) (0:Int)),(((y5.1.1::(y5.1.2.1::(y5.1.2.2.1::(y5.1.2.2.2::[]))))).getD (2:Nat) (0:Int)),(((y5.1.1::(y5.1.2.1::(y5.1.2.2.1::(y5.1.2.2.2::[]))))).getD (3:Nat) (0:Int))),true,())))
theorem Qg:cD prog f13=some ⟨44,2,UZ.er,[.cell 4 true 4,.t 5],[some (.prod tI (.prod tI (.prod tI tI))),some .bool]⟩:=by kernel_rfl
noncomputable def U0:Ct:=⟨13,[.c (.hole (.prod tI (.list (.prod tI (.prod tI (.prod .bool (.prod tI (.prod tI (.prod tI tI))))))))),hI],.cq [.hole (.prod tI (.prod tI (.prod tI tI))),.hole .bool],fun x=>ag (F13 x.1 x.2.1)⟩
theorem Lx:U0.Ok prog:=bh mixed Lw func13 Qg (ai func13 rfl rfl) UZ (by kernel_rfl) rfl (fun x=>by kernel_rfl)

/- 4 -/
noncomputable def ZQ:Cx:=(aN [Uq,UG,U0] [])
theorem H6:ZQ.Ok prog:=au ⟨K9,Lj,Lx,trivial⟩ trivial
@[reducible] def Qh:aC:=aC.mk [(1,.c (.ptr 0 0)),(8,.c (.bO 1 (.prod tI (.prod tI (.prod tI (.prod tI tI)))))),(27,.c (.hole (.list (.prod tI (.prod tI (.prod .bool (.prod tI (.prod tI (.prod tI tI))))))))),(28,hI),(29,hI)] [(0,.cells [.hole tI,.hole (.list (.prod tI (.prod tI (.prod .bool (.prod tI (.prod tI (.prod tI tI)))))))] false),(1,.arr (.prod tI (.prod tI (.prod tI (.prod tI tI)))) false)] [.slot 1,.slot 8] []
@[reducible] def Qi:aX:=[(.exit 0,aC.mk [(8,.c (.bO 0 (.prod tI (.prod tI (.prod tI (.prod tI tI))))))] [(0,.arr (.prod tI (.prod tI (.prod tI (.prod tI tI)))) false)] [.slot 8] [])]
noncomputable def U1:D prog 56 none 0:=dO [] (pick (kd prog f4) [(0,false)]) 0
noncomputable def g4_0:Nat×(List (Int×Int×Bool×Int×Int×Int×Int))×Int×Int×Int×(List (Int×Int×Bool×Int×Int×Int×Int))×(List (Int×Int×Int×Int×Int))×Unit->bJ ((Nat×(List (Int×Int×Bool×Int×Int×Int×Int))×Int×Int×Int×(List (Int×Int×Bool×Int×Int×Int×Int))×(List (Int×Int×Int×Int×Int))×Unit) ⊕ ((Nat×(List (Int×Int×Int×Int×Int))×Unit))):=fun (Yf,yO,Yg,H7,cC,cW,b1,_) =>
 .br (decide (H7<Yg)) (
 .nb H7 (((yO).length:Nat):Int) <|
 .jx (
 .br (!((yO).getD (Int.toNat H7) ((0:Int),(0:Int),false,(0:Int),(0:Int),(0:Int),(0:Int))).2.2.1) (
 .bd (F13 (cC,cW) H7) fun y4 =>
 .br y4.2.1 (
 .ret (.inl (Yf,yO,Yg,H7,cC,cW,b1,(2:Int),(((y4.1.1::(y4.1.2.1::(y4.1.2.2.1::(y4.1.2.2.2::[]))))).getD (0:Nat) (0:Int)),(((y4.1.1::(y4.1.2.1::(y4.1.2.2.1::(y4.1.2.2.2::[]))))).getD (1:Nat) (0:Int)),(((y4.1.1::(y4.1.2.1::(y4.1.2.2.1::(y4.1.2.2.2::[]))))).getD (2:Nat) (0:Int)),(((y4.1.1::(y4.1.2.1::(y4.1.2.2.1::(y4.1.2.2.2::[]))))).getD (3:Nat) (0:Int)),()))) (
 .ret (.inl (Yf,yO,Yg,H7,cC,cW,b1,(3:Int),(0:Int),(0:Int),(0:Int),(0:Int),())))) (
 .ret (.inl (Yf,yO,Yg,H7,cC,cW,b1,(1:Int),((yO).getD (Int.toNat H7) ((0:Int),(0:Int),false,(0:Int),(0:Int),(0:Int),(0:Int))).2.2.2.1,((yO).getD (Int.toNat H7) ((0:Int),(0:Int),false,(0:Int),(0:Int),(0:Int),(0:Int))).2.2.2.2.1,((yO).getD (Int.toNat H7) ((0:Int),(0:Int),false,(0:Int),(0:Int),(0:Int),(0:Int))).2.2.2.2.2.1,((yO).getD (Int.toNat H7) ((0:Int),(0:Int),false,(0:Int),(0:Int),(0:Int),(0:Int))).2.2.2.2.2.2,())))) fun j3 =>
 .nd (decide ((j3.1+((((((j3.2.2.2.2.2.2.2.1,j3.2.2.2.2.2.2.2.2.1,j3.2.2.2.2.2.2.2.2.2.1,j3.2.2.2.2.2.2.2.2.2.2.1,j3.2.2.2.2.2.2.2.2.2.2.2.1)::[])).drop (0:Nat)).take (1:Nat))).length)<bU)) <|
 .ni (j3.2.2.2.1+(1:Int)) <|
 .ret (.inl ((j3.1+((((((j3.2.2.2.2.2.2.2.1,j3.2.2.2.2.2.2.2.2.1,j3.2.2.2.2.2.2.2.2.2.1,j3.2.2.2.2.2.2.2.2.2.2.1,j3.2.2.2.2.2.2.2.2.2.2.2.1)::[])).drop (0:Nat)).take (1:Nat))).length),j3.2.1,j3.2.2.1,(j3.2.2.2.1+(1:Int)),j3.2.2.2.2.1,j3.2.2.2.2.2.1,((((j3.2.2.2.2.2.2.1).drop (0:Nat)).take j3.1)++(((((j3.2.2.2.2.2.2.2.1,j3.2.2.2.2.2.2.2.2.1,j3.2.2.2.2.2.2.2.2.2.1,j3.2.2.2.2.2.2.2.2.2.2.1,j3.2.2.2.2.2.2.2.2.2.2.2.1)::[])).drop (0:Nat)).take (1:Nat))),()))) (
 .ret (.inr (Yf,b1,())))
theorem ZR:∀x,jG (gv (Qh.T ⊕ Qi.T)) ZQ bL [] Qh Qi (U1) (fun y=>some (.inl y)) (fun b=>some (.inr b)) x=ag (g4_0 x):=fun x=>Eq.trans (b:=ag (flat (g4_0 x))) (by kernel_rfl) kJ
noncomputable def ZS:bp prog 56 none 0:=aR mixed ZQ H6 [] rfl Qh Qi rfl (U1) (fun x=>ag (g4_0 x)) (ZR)
noncomputable def dd4:D prog 56 none 0:=dO [.l ZS] (kd prog f4) 0
noncomputable def F4 (a0:Int×List (Int×Int×Bool×Int×Int×Int×Int)):bJ ((List (Int×Int×Int×Int×Int))×Int×Unit) :=
 .bd (F11 (a0.1,a0.2)) fun y0 =>
 .br (!(y0.1==(0:Int))) (
 .ret ([],y0.1,())) (
 .bd (F12 (a0.1,a0.2)) fun y1 =>
 .br y1.2.2.1 (
 .ret ([],(12:Int),())) (
 .bd (.it g4_0 ((0:Nat),a0.2,(((a0.2).length:Nat):Int),(0:Int),a0.1,a0.2,[],())) fun z5 =>
 .ret ((((z5.2.1).drop (0:Nat)).take z5.1),(0:Int),())))
theorem U3:cD prog f4=some ⟨56,1,dd4.er,[.t 2,.t 3],[some (.list (.prod tI (.prod tI (.prod tI (.prod tI tI))))),some tI]⟩:=by kernel_rfl
noncomputable def ct4:Ct:=⟨4,[.c (.hole (.prod tI (.list (.prod tI (.prod tI (.prod .bool (.prod tI (.prod tI (.prod tI tI)))))))))],.cq [.hole (.list (.prod tI (.prod tI (.prod tI (.prod tI tI))))),.hole tI],fun x=>ag (F4 x.1)⟩
theorem Qj:ct4.Ok prog:=bh mixed H6 func4 U3 (ai func4 rfl rfl) dd4 (by kernel_rfl) rfl (fun x=>by kernel_rfl)

/- 50 -/
noncomputable def ZT:Cx:=(aN [] [])
theorem Ly:ZT.Ok prog:=au trivial trivial
noncomputable def U5:D prog 14 none 0:=dO [] (kd prog f50) 0
noncomputable def F50 (a0:Int) (a1:Int):bJ (Bool×Unit) :=
 .ni ((0:Int) - a1) <|
 .br (decide (((0:Int) - a1)<=a0)) (
 .ret ((decide (a0<=a1)),())) (
 .ret (false,()))
theorem Qk:cD prog f50=some ⟨14,2,U5.er,[.t 4],[some .bool]⟩:=by kernel_rfl
noncomputable def Ql:Ct:=⟨50,[hI,hI],.c (.hole .bool),fun x=>ag (F50 x.1 x.2.1)⟩
theorem Cq:Ql.Ok prog:=bh mixed Ly func50 Qk (ai func50 rfl rfl) U5 (by kernel_rfl) rfl (fun x=>by kernel_rfl)

/- 23 -/
noncomputable def ZU:Cx:=(aN [Ql] [])
theorem Lz:ZU.Ok prog:=au ⟨Cq,trivial⟩ trivial
noncomputable def U6:D prog 15 none 0:=dO [] (kd prog f23) 0
noncomputable def F23 (a0:Int×Int) (a1:Int):bJ (Bool×Unit) :=
 .bd (F50 a0.1 a1) fun y0 =>
 .br y0.1 (
 .bd (F50 a0.2 a1) fun y1 =>
 .ret (y1.1,())) (
 .ret (false,()))
theorem Qm:cD prog f23=some ⟨15,2,U6.er,[.t 4],[some .bool]⟩:=by kernel_rfl
noncomputable def LA:Ct:=⟨23,[.c (.hole (.prod tI tI)),hI],.c (.hole .bool),fun x=>ag (F23 x.1 x.2.1)⟩
theorem wC:LA.Ok prog:=bh mixed Lz func23 Qm (ai func23 rfl rfl) U6 (by kernel_rfl) rfl (fun x=>by kernel_rfl)

/- 62 -/
noncomputable def ZV:Cx:=(aN [LA] [])
theorem LB:ZV.Ok prog:=au ⟨wC,trivial⟩ trivial
noncomputable def U7:D prog 6 none 0:=dO [] (kd prog f62) 0
noncomputable def F62 (a0:Int×Int):bJ (Bool×Unit) :=
 .bd (F23 (a0.1,a0.2) (1000:Int)) fun y0 =>
 .ret ((!y0.1),())
theorem Qn:cD prog f62=some ⟨6,1,U7.er,[.t 2],[some .bool]⟩:=by kernel_rfl
noncomputable def U8:Ct:=⟨62,[.c (.hole (.prod tI tI))],.c (.hole .bool),fun x=>ag (F62 x.1)⟩
theorem LC:U8.Ok prog:=bh mixed LB func62 Qn (ai func62 rfl rfl) U7 (by kernel_rfl) rfl (fun x=>by kernel_rfl)

/- 67 -/
noncomputable def U9:Cx:=(aN [U8] [])
theorem Cr:U9.Ok prog:=au ⟨LC,trivial⟩ trivial
@[reducible] def Va:aC:=aC.mk [(0,.c (.hole (.list (.prod tI tI)))),(1,.c (.fn0 62)),(7,hI),(8,hI)] [] [] []
@[reducible] def Vb:aX:=[(.ret,aC.mk [(4,hI)] [] [] []),(.exit 0,aC.mk [] [] [] [])]
noncomputable def Vc:D prog 19 none 0:=dO [] (pick (kd prog f67) [(0,false)]) 0
noncomputable def g67_0:(List (Int×Int))×Int×Int×Unit->bJ (((List (Int×Int))×Int×Int×Unit) ⊕ ((Int×Unit) ⊕ ((Unit)))):=fun (v0,v7,v8,_) =>
 .br (decide (v8<v7)) (
 .nb v8 (((v0).length:Nat):Int) <|
 .bd (F62 (((v0).getD (Int.toNat v8) ((0:Int),(0:Int))).1,((v0).getD (Int.toNat v8) ((0:Int),(0:Int))).2)) fun y0 =>
 .br y0.1 (
 .ret (.inr <| .inl<|(v8,()))) (
 .ni (v8+(1:Int)) <|
 .ret (.inl (v0,v7,(v8+(1:Int)),())))) (
 .ret (.inr <| .inr<|()))
noncomputable def Vd:bp prog 19 none 0:=aR mixed U9 Cr [] rfl Va Vb rfl (Vc) (fun x=>ag (g67_0 x)) (fun x=>by kernel_rfl)
noncomputable def Ve:D prog 19 none 0:=dO [.l Vd] (kd prog f67) 0
noncomputable def F67 (a0:List (Int×Int)):bJ (Int×Unit) :=
 .bd (.it g67_0 (a0,(((a0).length:Nat):Int),(0:Int),())) fun z1 =>
 .sm z1 (fun z2 =>
 .ret (z2.1,())) fun z3 =>
 .ret ((-1:Int),())
theorem Qo:cD prog f67=some ⟨19,2,Ve.er,[.t 4],[some tI]⟩:=by kernel_rfl
noncomputable def Vf:Ct:=⟨67,[.c (.hole (.list (.prod tI tI))),.c (.fn0 62)],hI,fun x=>ag (F67 x.1)⟩
theorem LD:Vf.Ok prog:=bh mixed Cr func67 Qo (ai func67 rfl rfl) Ve (by kernel_rfl) rfl (fun x=>by kernel_rfl)

/- 61 -/
noncomputable def ZW:Cx:=(aN [Vf] [])
theorem LF:ZW.Ok prog:=au ⟨LD,trivial⟩ trivial
noncomputable def Vg:D prog 9 none 0:=dO [] (kd prog f61) 0
noncomputable def F61 (a0:List (Int×Int)):bJ (Bool×Unit) :=
 .bd (F67 a0) fun y0 =>
 .ret ((decide ((0:Int)<=y0.1)),())
theorem Qp:cD prog f61=some ⟨9,2,Vg.er,[.t 4],[some .bool]⟩:=by kernel_rfl
noncomputable def Vh:Ct:=⟨61,[.c (.hole (.list (.prod tI tI))),.c (.fn0 62)],.c (.hole .bool),fun x=>ag (F61 x.1)⟩
theorem LG:Vh.Ok prog:=bh mixed LF func61 Qp (ai func61 rfl rfl) Vg (by kernel_rfl) rfl (fun x=>by kernel_rfl)

/- 46, lent -/
@[reducible] def ZX:aC:=aC.mk [(0,.c (.hole (.list (.prod tI tI))))] [] [] []
@[reducible] def ZY:aC:=aC.mk [(0,.c (.bO 0 (.prod tI tI)))] [(0,.arr (.prod tI tI) false)] [.slot 0] []
noncomputable def Vi:Cx:=(aN [] [])
theorem H8:Vi.Ok prog:=au trivial trivial
noncomputable def N6:D prog 8 none 0:=dO [] (kd prog f46) 0
noncomputable def FH46 (v0:List (Int×Int)):bJ (Nat×(List (Int×Int))×Unit) :=
 .br ((((v0).length:Nat):Int)==(0:Int)) (
 .am inferInstance (
 .ret ((0:Nat),[],())) (
 .nd (decide (((0:Nat)+(v0).length)<bU)) <|
 .ret (((0:Nat)+(v0).length),(((([]).drop (0:Nat)).take (0:Nat))++v0),()))) (
 .nd (decide (((0:Nat)+(v0).length)<bU)) <|
 .ret (((0:Nat)+(v0).length),(((([]).drop (0:Nat)).take (0:Nat))++v0),()))
theorem LH:cD prog f46=some ⟨8,1,N6.er,[.t 2],[some (.list (.prod tI tI))]⟩:=by kernel_rfl
noncomputable def Vj:Ht:=⟨46,ZX,ZY,(fun x=>ag (FH46 x.1))⟩
theorem LI:Vj.Ok prog:=eR mixed H8 rfl func46 LH (ai func46 rfl rfl) N6 (by kernel_rfl) rfl rfl ⟨_,rfl⟩ rfl (pre:=[]) rfl (fun x=>by kernel_rfl)

/- 90 -/
noncomputable def ZZ:Cx:=(aN [] [])
theorem LJ:ZZ.Ok prog:=au trivial trivial
noncomputable def Vk:D prog 25 none 0:=dO [] (kd prog f90) 0
noncomputable def F90 (a0:Int):bJ (Int×Unit) :=
 .jx (
 .br (decide ((4294967296:Int)<=a0)) (
 .nb (32:Int) (64:Int) <|
 .ret (.inl ((bL.shr a0 (32:Int)),(32:Int),()))) (
 .ret (.inl (a0,(0:Int),())))) fun j0 =>
 .jx (
 .br (decide ((65536:Int)<=j0.1)) (
 .nb (16:Int) (64:Int) <|
 .ni (j0.2.1+(16:Int)) <|
 .ret (.inl ((bL.shr j0.1 (16:Int)),(j0.2.1+(16:Int)),()))) (
 .ret (.inl (j0.1,j0.2.1,())))) fun j1 =>
 .jx (
 .br (decide ((256:Int)<=j1.1)) (
 .nb (8:Int) (64:Int) <|
 .ni (j1.2.1+(8:Int)) <|
 .ret (.inl ((bL.shr j1.1 (8:Int)),(j1.2.1+(8:Int)),()))) (
 .ret (.inl (j1.1,j1.2.1,())))) fun j2 =>
 .nd (cS .u8 j2.1) <|
 .nb j2.1 (((bs [0,1,2,2,3,3,3,3,4,4,4,4,4,4,4,4,5,5,5,5,5,5,5,5,5,5,5,5,5,5,5,5,6,6,6,6,6,6,6,6,6,6,6,6,6,6,6,6,6,6,6,6,6,6,6,6,6,6,6,6,6,6,6,6,7,7,7,7,7,7,7,7,7,7,7,7,7,7,7,7,7,7,7,7,7,7,7,7,7,7,7,7,7,7,7,7,7,7,7,7,7,7,7,7,7,7,7,7,7,7,7,7,7,7,7,7,7,7,7,7,7,7,7,7,7,7,7,7,8,8,8,8,8,8,8,8,8,8,8,8,8,8,8,8,8,8,8,8,8,8,8,8,8,8,8,8,8,8,8,8,8,8,8,8,8,8,8,8,8,8,8,8,8,8,8,8,8,8,8,8,8,8,8,8,8,8,8,8,8,8,8,8,8,8,8,8,8,8,8,8,8,8,8,8,8,8,8,8,8,8,8,8,8,8,8,8,8,8,8,8,8,8,8,8,8,8,8,8,8,8,8,8,8,8,8,8,8,8,8,8,8,8,8,8,8,8,8,8,8,8,8,8,8,8,8,8]).size:Nat):Int) <|
 .ni (zP (bs [0,1,2,2,3,3,3,3,4,4,4,4,4,4,4,4,5,5,5,5,5,5,5,5,5,5,5,5,5,5,5,5,6,6,6,6,6,6,6,6,6,6,6,6,6,6,6,6,6,6,6,6,6,6,6,6,6,6,6,6,6,6,6,6,7,7,7,7,7,7,7,7,7,7,7,7,7,7,7,7,7,7,7,7,7,7,7,7,7,7,7,7,7,7,7,7,7,7,7,7,7,7,7,7,7,7,7,7,7,7,7,7,7,7,7,7,7,7,7,7,7,7,7,7,7,7,7,7,8,8,8,8,8,8,8,8,8,8,8,8,8,8,8,8,8,8,8,8,8,8,8,8,8,8,8,8,8,8,8,8,8,8,8,8,8,8,8,8,8,8,8,8,8,8,8,8,8,8,8,8,8,8,8,8,8,8,8,8,8,8,8,8,8,8,8,8,8,8,8,8,8,8,8,8,8,8,8,8,8,8,8,8,8,8,8,8,8,8,8,8,8,8,8,8,8,8,8,8,8,8,8,8,8,8,8,8,8,8,8,8,8,8,8,8,8,8,8,8,8,8,8,8,8,8,8,8]) (Int.toNat j2.1)) <|
 .ni (j2.2.1+(zP (bs [0,1,2,2,3,3,3,3,4,4,4,4,4,4,4,4,5,5,5,5,5,5,5,5,5,5,5,5,5,5,5,5,6,6,6,6,6,6,6,6,6,6,6,6,6,6,6,6,6,6,6,6,6,6,6,6,6,6,6,6,6,6,6,6,7,7,7,7,7,7,7,7,7,7,7,7,7,7,7,7,7,7,7,7,7,7,7,7,7,7,7,7,7,7,7,7,7,7,7,7,7,7,7,7,7,7,7,7,7,7,7,7,7,7,7,7,7,7,7,7,7,7,7,7,7,7,7,7,8,8,8,8,8,8,8,8,8,8,8,8,8,8,8,8,8,8,8,8,8,8,8,8,8,8,8,8,8,8,8,8,8,8,8,8,8,8,8,8,8,8,8,8,8,8,8,8,8,8,8,8,8,8,8,8,8,8,8,8,8,8,8,8,8,8,8,8,8,8,8,8,8,8,8,8,8,8,8,8,8,8,8,8,8,8,8,8,8,8,8,8,8,8,8,8,8,8,8,8,8,8,8,8,8,8,8,8,8,8,8,8,8,8,8,8,8,8,8,8,8,8,8,8,8,8,8,8]) (Int.toNat j2.1))) <|
 .ret ((j2.2.1+(zP (bs [0,1,2,2,3,3,3,3,4,4,4,4,4,4,4,4,5,5,5,5,5,5,5,5,5,5,5,5,5,5,5,5,6,6,6,6,6,6,6,6,6,6,6,6,6,6,6,6,6,6,6,6,6,6,6,6,6,6,6,6,6,6,6,6,7,7,7,7,7,7,7,7,7,7,7,7,7,7,7,7,7,7,7,7,7,7,7,7,7,7,7,7,7,7,7,7,7,7,7,7,7,7,7,7,7,7,7,7,7,7,7,7,7,7,7,7,7,7,7,7,7,7,7,7,7,7,7,7,8,8,8,8,8,8,8,8,8,8,8,8,8,8,8,8,8,8,8,8,8,8,8,8,8,8,8,8,8,8,8,8,8,8,8,8,8,8,8,8,8,8,8,8,8,8,8,8,8,8,8,8,8,8,8,8,8,8,8,8,8,8,8,8,8,8,8,8,8,8,8,8,8,8,8,8,8,8,8,8,8,8,8,8,8,8,8,8,8,8,8,8,8,8,8,8,8,8,8,8,8,8,8,8,8,8,8,8,8,8,8,8,8,8,8,8,8,8,8,8,8,8,8,8,8,8,8,8]) (Int.toNat j2.1))),())
theorem Qq:cD prog f90=some ⟨25,1,Vk.er,[.t 2],[some tI]⟩:=by kernel_rfl
noncomputable def Vl:Ct:=⟨90,[.c (.hole (.int .u64))],hI,fun x=>ag (F90 x.1)⟩
theorem LK:Vl.Ok prog:=bh mixed LJ func90 Qq (ai func90 rfl rfl) Vk (by kernel_rfl) rfl (fun x=>Eq.trans (b:=ag (flat (F90 x.1))) (by kernel_rfl) kJ)

/- 77 -/
noncomputable def Z0:Cx:=(aN [Vl] [])
theorem LL:Z0.Ok prog:=au ⟨LK,trivial⟩ trivial
noncomputable def Vm:D prog 8 none 0:=dO [] (kd prog f77) 0
noncomputable def F77 (a0:Int):bJ (Int×Unit) :=
 .bd (F90 a0) fun y0 =>
 .ret (y0.1,())
theorem Qr:cD prog f77=some ⟨8,1,Vm.er,[.t 2],[some tI]⟩:=by kernel_rfl
noncomputable def Vn:Ct:=⟨77,[.c (.hole (.int .u64))],hI,fun x=>ag (F77 x.1)⟩
theorem LM:Vn.Ok prog:=bh mixed LL func77 Qr (ai func77 rfl rfl) Vm (by kernel_rfl) rfl (fun x=>by kernel_rfl)

/- 58 -/
noncomputable def Z1:Cx:=(aN [] [])
theorem LN:Z1.Ok prog:=au trivial trivial
noncomputable def Vo:D prog 6 none 0:=dO [] (kd prog f58) 0
noncomputable def F58 (a0:Int):bJ (Bool×Unit) :=
 .ret ((!(a0==a0)),())
theorem Qs:cD prog f58=some ⟨6,1,Vo.er,[.t 2],[some .bool]⟩:=by kernel_rfl
noncomputable def Vp:Ct:=⟨58,[hI],.c (.hole .bool),fun x=>ag (F58 x.1)⟩
theorem LO:Vp.Ok prog:=bh mixed LN func58 Qs (ai func58 rfl rfl) Vo (by kernel_rfl) rfl (fun x=>by kernel_rfl)

/- 45 -/
noncomputable def Z2:Cx:=(aN [Vp] [])
theorem LP:Z2.Ok prog:=au ⟨LO,trivial⟩ trivial
noncomputable def Vq:D prog 20 none 0:=dO [] (kd prog f45) 0
noncomputable def F45 (a0:Int) (a1:Int):bJ (Int×Unit) :=
 .bd (F58 a0) fun y0 =>
 .bd (F58 a1) fun y1 =>
 .br y0.1 (
 .br y1.1 (
 .ret ((0:Int),())) (
 .ret ((-1:Int),()))) (
 .br y1.1 (
 .ret ((1:Int),())) (
 .br (decide (a0<a1)) (
 .ret ((-1:Int),())) (
 .br (decide (a1<a0)) (
 .ret ((1:Int),())) (
 .ret ((0:Int),())))))
theorem Qt:cD prog f45=some ⟨20,2,Vq.er,[.t 4],[some tI]⟩:=by kernel_rfl
noncomputable def Qu:Ct:=⟨45,[hI,hI],hI,fun x=>ag (F45 x.1 x.2.1)⟩
theorem Cs:Qu.Ok prog:=bh mixed LP func45 Qt (ai func45 rfl rfl) Vq (by kernel_rfl) rfl (fun x=>by kernel_rfl)

/- 43 -/
noncomputable def Vr:Cx:=(aN [] [])
theorem Cu:Vr.Ok prog:=au trivial trivial
@[reducible] def Vs:aC:=aC.mk [(3,hI),(6,hL),(7,hI),(8,hI)] [] [] []
@[reducible] def Vt:aX:=[(.ret,aC.mk [(2,hI)] [] [] []),(.exit 0,aC.mk [(3,hI)] [] [] [])]
noncomputable def Vu:D prog 18 none 0:=dO [] (pick (kd prog f43) [(0,false)]) 0
noncomputable def g43_0:Int×List Int×Int×Int×Unit->bJ ((Int×List Int×Int×Int×Unit) ⊕ ((Int×Unit) ⊕ ((Int×Unit)))):=fun (v3,v6,v7,v8,_) =>
 .br (decide (v8<v7)) (
 .nb v8 (((v6).length:Nat):Int) <|
 .br (!(((v6).getD (Int.toNat v8) (0:Int))==v3)) (
 .ret (.inr <| .inl<|(((v6).getD (Int.toNat v8) (0:Int)),()))) (
 .ni (v8+(1:Int)) <|
 .ret (.inl (v3,v6,v7,(v8+(1:Int)),())))) (
 .ret (.inr <| .inr<|(v3,())))
noncomputable def Vv:bp prog 18 none 0:=aR mixed Vr Cu [] rfl Vs Vt rfl (Vu) (fun x=>ag (g43_0 x)) (fun x=>by kernel_rfl)
noncomputable def Vw:D prog 18 none 0:=dO [.l Vv] (kd prog f43) 0
noncomputable def F43 (a0:List Int):bJ (Int×Unit) :=
 .bd (.it g43_0 ((0:Int),a0,(((a0).length:Nat):Int),(0:Int),())) fun z0 =>
 .sm z0 (fun z1 =>
 .ret (z1.1,())) fun z2 =>
 .ret (z2.1,())
theorem Qv:cD prog f43=some ⟨18,1,Vw.er,[.t 2],[some tI]⟩:=by kernel_rfl
noncomputable def Qw:Ct:=⟨43,[hL],hI,fun x=>ag (F43 x.1)⟩
theorem Cv:Qw.Ok prog:=bh mixed Cu func43 Qv (ai func43 rfl rfl) Vw (by kernel_rfl) rfl (fun x=>by kernel_rfl)

/- 69 -/
noncomputable def Z3:Cx:=(aN [Qu,Qw] [])
theorem LQ:Z3.Ok prog:=au ⟨Cs,Cv,trivial⟩ trivial
noncomputable def Vx:D prog 17 none 0:=dO [] (kd prog f69) 0
noncomputable def F69 (a0:Int×Int) (a1:Int×Int):bJ (Int×Unit) :=
 .bd (F45 a0.1 a1.1) fun y0 =>
 .bd (F45 a0.2 a1.2) fun y1 =>
 .bd (F43 ((((y0.1::(y1.1::[]))).drop (0:Nat)).take (2:Nat))) fun y2 =>
 .ret (y2.1,())
theorem Qx:cD prog f69=some ⟨17,2,Vx.er,[.t 4],[some tI]⟩:=by kernel_rfl
noncomputable def Vy:Ct:=⟨69,[.c (.hole (.prod tI tI)),.c (.hole (.prod tI tI))],hI,fun x=>ag (F69 x.1 x.2.1)⟩
theorem LS:Vy.Ok prog:=bh mixed LQ func69 Qx (ai func69 rfl rfl) Vx (by kernel_rfl) rfl (fun x=>by kernel_rfl)

/- 81, lent -/
@[reducible] def Z4:aC:=aC.mk [(0,.c (.bO 0 (.prod tI tI))),(1,hI),(2,hI),(3,.c (.fn0 69))] [(0,.arr (.prod tI tI) false)] [.slot 0] []
@[reducible] def Z5:aC:=aC.mk [(0,.c .any)] [(0,.arr (.prod tI tI) false)] [] []
noncomputable def H9:Cx:=(aN [Vy] [])
theorem sy:H9.Ok prog:=au ⟨LS,trivial⟩ trivial
@[reducible] def Qy:aC:=aC.mk [(0,.c (.bO 0 (.prod tI tI))),(1,hI),(2,hI),(3,.c (.fn0 69)),(8,hI),(9,hI)] [(0,.arr (.prod tI tI) false)] [] []
@[reducible] def Qz:aX:=[(.exit 2,aC.mk [(0,.c (.bO 0 (.prod tI tI))),(1,hI),(2,hI),(3,.c (.fn0 69)),(8,hI)] [(0,.arr (.prod tI tI) false)] [] [])]
noncomputable def QA:D prog 53 none 1:=dO [] (pick (kd prog f81) [(0,false),(0,false)]) 0
noncomputable def gH81_1:Nat×Int×Int×Int×Int×(List (Int×Int))×Unit->bJ ((Nat×Int×Int×Int×Int×(List (Int×Int))×Unit) ⊕ ((Nat×Int×Int×Int×(List (Int×Int))×Unit))):=fun (bB,v1,v2,v8,v9,b0,_) =>
 .br (decide (v1<v9)) (
 .nb v9 ((bB:Nat):Int) <|
 .nd (decide (((0:Nat)+(Int.toNat v9))<(b0).length)) <|
 .ni (v9 - (1:Int)) <|
 .nb (v9 - (1:Int)) ((bB:Nat):Int) <|
 .nd (decide (((0:Nat)+(Int.toNat (v9 - (1:Int))))<(b0).length)) <|
 .bd (F69 (((b0).getD ((0:Nat)+(Int.toNat v9)) ((0:Int),(0:Int))).1,((b0).getD ((0:Nat)+(Int.toNat v9)) ((0:Int),(0:Int))).2) (((b0).getD ((0:Nat)+(Int.toNat (v9 - (1:Int)))) ((0:Int),(0:Int))).1,((b0).getD ((0:Nat)+(Int.toNat (v9 - (1:Int)))) ((0:Int),(0:Int))).2)) fun y0 =>
 .br (decide (y0.1<(0:Int))) (
 .ni (v9 - (1:Int)) <|
 .ni (v9 - (1:Int)) <|
 .nb (v9 - (1:Int)) ((bB:Nat):Int) <|
 .nd (decide (((0:Nat)+(Int.toNat (v9 - (1:Int))))<(b0).length)) <|
 .nb v9 ((bB:Nat):Int) <|
 .nd (decide (((0:Nat)+(Int.toNat v9))<(b0).length)) <|
 .nb v9 ((bB:Nat):Int) <|
 .nd (decide (((0:Nat)+(Int.toNat v9))<(b0).length)) <|
 .nb (v9 - (1:Int)) ((bB:Nat):Int) <|
 .nd (decide (((0:Nat)+(Int.toNat (v9 - (1:Int))))<(((b0).set ((0:Nat)+(Int.toNat v9)) (((b0).getD ((0:Nat)+(Int.toNat (v9 - (1:Int)))) ((0:Int),(0:Int))).1,((b0).getD ((0:Nat)+(Int.toNat (v9 - (1:Int)))) ((0:Int),(0:Int))).2))).length)) <|
 .ni (v9 - (1:Int)) <|
 .ret (.inl (bB,v1,v2,v8,(v9 - (1:Int)),((((b0).set ((0:Nat)+(Int.toNat v9)) (((b0).getD ((0:Nat)+(Int.toNat (v9 - (1:Int)))) ((0:Int),(0:Int))).1,((b0).getD ((0:Nat)+(Int.toNat (v9 - (1:Int)))) ((0:Int),(0:Int))).2))).set ((0:Nat)+(Int.toNat (v9 - (1:Int)))) (((b0).getD ((0:Nat)+(Int.toNat v9)) ((0:Int),(0:Int))).1,((b0).getD ((0:Nat)+(Int.toNat v9)) ((0:Int),(0:Int))).2)),()))) (
 .ret (.inr (bB,v1,v2,v8,b0,())))) (
 .ret (.inr (bB,v1,v2,v8,b0,())))
noncomputable def QB:bp prog 53 none 1:=aR mixed H9 sy [0] rfl Qy Qz rfl (QA) (fun x=>ag (gH81_1 x)) (fun x=>by kernel_rfl)
@[reducible] def QC:aC:=aC.mk [(0,.c (.bO 0 (.prod tI tI))),(1,hI),(2,hI),(3,.c (.fn0 69)),(8,hI)] [(0,.arr (.prod tI tI) false)] [] []
@[reducible] def QD:aX:=[(.exit 0,aC.mk [] [(0,.arr (.prod tI tI) false)] [] [])]
noncomputable def QE:D prog 53 none 1:=dO [.l QB] (pick (kd prog f81) [(0,false)]) 0
noncomputable def gH81_0:Nat×Int×Int×Int×(List (Int×Int))×Unit->bJ ((Nat×Int×Int×Int×(List (Int×Int))×Unit) ⊕ (((List (Int×Int))×Unit))):=fun (bB,v1,v2,v8,b0,_) =>
 .br (decide (v8<v2)) (
 .bd (.it gH81_1 (bB,v1,v2,v8,v8,b0,())) fun z1 =>
 .ni (z1.2.2.2.1+(1:Int)) <|
 .ret (.inl (z1.1,z1.2.1,z1.2.2.1,(z1.2.2.2.1+(1:Int)),z1.2.2.2.2.1,()))) (
 .ret (.inr (b0,())))
noncomputable def QF:bp prog 53 none 1:=aR mixed H9 sy [0] rfl QC QD rfl (QE) (fun x=>ag (gH81_0 x)) (fun x=>by kernel_rfl)
noncomputable def N7:D prog 53 none 1:=dO [.l QF] (kd prog f81) 0
noncomputable def FH81 (bB:Nat) (v1:Int) (v2:Int) (b0:List (Int×Int)):bJ ((List (Int×Int))×Unit) :=
 .ni (v1+(1:Int)) <|
 .bd (.it gH81_0 (bB,v1,v2,(v1+(1:Int)),b0,())) fun z2 =>
 .ret (z2.1,())
theorem LU:cD prog f81=some ⟨53,4,N7.er,[],[]⟩:=by kernel_rfl
noncomputable def Vz:Ht:=⟨81,Z4,Z5,(fun x=>ag (FH81 x.1 x.2.1 x.2.2.1 x.2.2.2.1))⟩
theorem LV:Vz.Ok prog:=eR mixed sy rfl func81 LU (ai func81 rfl rfl) N7 (by kernel_rfl) rfl rfl ⟨_,rfl⟩ rfl (pre:=[0]) rfl (fun x=>by kernel_rfl)

/- 76, lent -/
@[reducible] def Z6:aC:=aC.mk [(0,.c (.bO 0 (.prod tI tI))),(1,hI),(2,hI),(3,hI),(4,.c (.fn0 69))] [(0,.arr (.prod tI tI) false)] [.slot 0] []
@[reducible] def Z7:aC:=aC.mk [(0,.c .any)] [(0,.arr (.prod tI tI) false)] [] []
noncomputable def N8:Cx:=(aN [] [Vz])
theorem yP:N8.Ok prog:=au trivial ⟨⟨LV,rfl⟩,trivial⟩
@[reducible] def QG:aC:=aC.mk [(0,.c (.bO 0 (.prod tI tI))),(1,hI),(2,hI),(3,hI),(4,.c (.fn0 69)),(10,.c (.tf true)),(11,.c (.tf true))] [(0,.arr (.prod tI tI) false)] [] []
@[reducible] def QH:aX:=[(.ret,aC.mk [] [(0,.arr (.prod tI tI) false)] [] [])]
noncomputable def QI:D prog 148 none 1:=dO [] (pick (kd prog f76) [(0,false)]) 0
noncomputable def gH76_0:Nat×Int×Int×Int×(List (Int×Int))×Unit->bJ ((Nat×Int×Int×Int×(List (Int×Int))×Unit) ⊕ (((List (Int×Int))×Unit))):=fun (bB,v1,v2,v3,b0,_) =>
 .ni (v2 - v1) <|
 .br (decide ((v2 - v1)<=(12:Int))) (
 .bd (FH81 bB v1 v2 b0) fun y0 =>
 .ret (.inr (y0.1,()))) (
 .br (v3==(0:Int)) (
 .no) (
 .no))
noncomputable def QJ:bp prog 148 none 1:=aR mixed N8 yP [0] rfl QG QH rfl (QI) (fun x=>ag (gH76_0 x)) (fun x=>by kernel_rfl)
noncomputable def N9:D prog 148 none 1:=dO [.l QJ] (kd prog f76) 0
noncomputable def FH76 (bB:Nat) (v1:Int) (v2:Int) (v3:Int) (b0:List (Int×Int)):bJ ((List (Int×Int))×Unit) :=
 .bd (.it gH76_0 (bB,v1,v2,v3,b0,())) fun z1 =>
 .ret (z1.1,())
theorem LW:cD prog f76=some ⟨148,5,N9.er,[],[]⟩:=by kernel_rfl
noncomputable def VA:Ht:=⟨76,Z6,Z7,(fun x=>ag (FH76 x.1 x.2.1 x.2.2.1 x.2.2.2.1 x.2.2.2.2.1))⟩
theorem LX:VA.Ok prog:=eR mixed yP rfl func76 LW (ai func76 rfl rfl) N9 (by kernel_rfl) rfl rfl ⟨_,rfl⟩ rfl (pre:=[0]) rfl (fun x=>by kernel_rfl)

/- 68, lent -/
@[reducible] def Z8:aC:=aC.mk [(0,.c (.bO 0 (.prod tI tI))),(1,.c (.fn0 69))] [(0,.arr (.prod tI tI) false)] [.slot 0] []
@[reducible] def Z9:aC:=aC.mk [(0,.c .any)] [(0,.arr (.prod tI tI) false)] [] []
noncomputable def VB:Cx:=(aN [Vn] [VA])
theorem Ia:VB.Ok prog:=au ⟨LM,trivial⟩ ⟨⟨LX,rfl⟩,trivial⟩
noncomputable def Oa:D prog 14 none 1:=dO [] (kd prog f68) 0
noncomputable def FH68 (bB:Nat) (b0:List (Int×Int)):bJ ((List (Int×Int))×Unit) :=
 .nd (cS .u64 ((bB:Nat):Int)) <|
 .bd (F77 ((bB:Nat):Int)) fun y0 =>
 .bd (FH76 bB (0:Int) ((bB:Nat):Int) y0.1 b0) fun y1 =>
 .ret (y1.1,())
theorem LY:cD prog f68=some ⟨14,2,Oa.er,[],[]⟩:=by kernel_rfl
noncomputable def VC:Ht:=⟨68,Z8,Z9,(fun x=>ag (FH68 x.1 x.2.1))⟩
theorem LZ:VC.Ok prog:=eR mixed Ia rfl func68 LY (ai func68 rfl rfl) Oa (by kernel_rfl) rfl rfl ⟨_,rfl⟩ rfl (pre:=[0]) rfl (fun x=>by kernel_rfl)

/- 70, lent -/
@[reducible] def pH70:aC:=aC.mk [(0,.c (.bO 0 (.prod tI tI)))] [(0,.arr (.prod tI tI) false)] [.slot 0] []
@[reducible] def qH70:aC:=aC.mk [(0,.c (.zH 0 (.prod tI tI)))] [(0,.arr (.prod tI tI) false)] [] []
noncomputable def Ib:Cx:=(aN [] [])
theorem sA:Ib.Ok prog:=au trivial trivial
@[reducible] def QK:aC:=aC.mk [(0,.c (.bO 0 (.prod tI tI))),(3,hI),(4,.c (.zH 0 (.prod tI tI))),(5,hI)] [(0,.arr (.prod tI tI) false)] [] []
@[reducible] def QL:aX:=[(.exit 2,aC.mk [(0,.c (.bO 0 (.prod tI tI))),(3,hI)] [(0,.arr (.prod tI tI) false)] [] [])]
noncomputable def QM:D prog 61 none 1:=dO [] (pick (kd prog f70) [(0,false),(0,false)]) 0
noncomputable def gH70_1:Nat×Int×Nat×Nat×Int×(List (Int×Int))×Unit->bJ ((Nat×Int×Nat×Nat×Int×(List (Int×Int))×Unit) ⊕ ((Nat×Int×(List (Int×Int))×Unit))):=fun (bB,v3,Ic,SQ,v5,b0,_) =>
 .br (decide (v5<((SQ:Nat):Int))) (
 .nb v5 ((SQ:Nat):Int) <|
 .nd (decide ((Ic+(Int.toNat v5))<(b0).length)) <|
 .ni (v5 - (1:Int)) <|
 .nb (v5 - (1:Int)) ((SQ:Nat):Int) <|
 .nd (decide ((Ic+(Int.toNat (v5 - (1:Int))))<(b0).length)) <|
 .br (!((((b0).getD (Ic+(Int.toNat v5)) ((0:Int),(0:Int))).1==((b0).getD (Ic+(Int.toNat (v5 - (1:Int)))) ((0:Int),(0:Int))).1)&&((((b0).getD (Ic+(Int.toNat v5)) ((0:Int),(0:Int))).2==((b0).getD (Ic+(Int.toNat (v5 - (1:Int)))) ((0:Int),(0:Int))).2)&&true))) (
 .nb v5 ((SQ:Nat):Int) <|
 .nd (decide ((Ic+(Int.toNat v5))<(b0).length)) <|
 .nb v3 ((bB:Nat):Int) <|
 .nd (decide (((0:Nat)+(Int.toNat v3))<(b0).length)) <|
 .ni (v3+(1:Int)) <|
 .ni (v5+(1:Int)) <|
 .ret (.inl (bB,(v3+(1:Int)),Ic,SQ,(v5+(1:Int)),((b0).set ((0:Nat)+(Int.toNat v3)) (((b0).getD (Ic+(Int.toNat v5)) ((0:Int),(0:Int))).1,((b0).getD (Ic+(Int.toNat v5)) ((0:Int),(0:Int))).2)),()))) (
 .ni (v5+(1:Int)) <|
 .ret (.inl (bB,v3,Ic,SQ,(v5+(1:Int)),b0,())))) (
 .ret (.inr (bB,v3,b0,())))
noncomputable def QN:bp prog 61 none 1:=aR mixed Ib sA [0] rfl QK QL rfl (QM) (fun x=>ag (gH70_1 x)) (fun x=>by kernel_rfl)
@[reducible] def QO:aC:=aC.mk [(0,.c (.bO 0 (.prod tI tI))),(3,hI)] [(0,.arr (.prod tI tI) false)] [] []
@[reducible] def QS:aX:=[(.ret,aC.mk [(2,.c (.zH 0 (.prod tI tI)))] [(0,.arr (.prod tI tI) false)] [] []),(.exit 0,aC.mk [(0,.c (.bO 0 (.prod tI tI)))] [(0,.arr (.prod tI tI) false)] [] [])]
noncomputable def QT:D prog 61 none 1:=dO [.l QN] (pick (kd prog f70) [(0,false)]) 0
noncomputable def gH70_0:Nat×Int×(List (Int×Int))×Unit->bJ ((Nat×Int×(List (Int×Int))×Unit) ⊕ ((Nat×Nat×(List (Int×Int))×Unit) ⊕ ((Nat×(List (Int×Int))×Unit)))):=fun (bB,v3,b0,_) =>
 .br (decide (v3<((bB:Nat):Int))) (
 .nb v3 ((bB:Nat):Int) <|
 .nd (decide (((0:Nat)+(Int.toNat v3))<(b0).length)) <|
 .ni (v3 - (1:Int)) <|
 .nb (v3 - (1:Int)) ((bB:Nat):Int) <|
 .nd (decide (((0:Nat)+(Int.toNat (v3 - (1:Int))))<(b0).length)) <|
 .br ((((b0).getD ((0:Nat)+(Int.toNat v3)) ((0:Int),(0:Int))).1==((b0).getD ((0:Nat)+(Int.toNat (v3 - (1:Int)))) ((0:Int),(0:Int))).1)&&((((b0).getD ((0:Nat)+(Int.toNat v3)) ((0:Int),(0:Int))).2==((b0).getD ((0:Nat)+(Int.toNat (v3 - (1:Int)))) ((0:Int),(0:Int))).2)&&true)) (
 .nd (decide ((0:Int)<=v3)) <|
 .nd (decide (v3<=((bB:Nat):Int))) <|
 .nd (decide (((bB:Nat):Int)<=((bB:Nat):Int))) <|
 .bd (.it gH70_1 (bB,v3,((0:Nat)+(Int.toNat v3)),((Int.toNat ((bB:Nat):Int)) - (Int.toNat v3)),(1:Int),b0,())) fun z0 =>
 .nd (decide ((0:Int)<=z0.2.1)) <|
 .nd (decide (z0.2.1<=((z0.1:Nat):Int))) <|
 .nd (decide (((z0.1:Nat):Int)<=((z0.1:Nat):Int))) <|
 .nd (decide ((0:Int)<=(0:Int))) <|
 .nd (decide ((0:Int)<=z0.2.1)) <|
 .nd (decide (z0.2.1<=((z0.1:Nat):Int))) <|
 .ret (.inr <| .inl<|(((0:Nat)+(Int.toNat (0:Int))),((Int.toNat z0.2.1) - (Int.toNat (0:Int))),(xp ((0:Int),(0:Int)) z0.2.2.1 ((0:Nat)+(Int.toNat z0.2.1)) ((Int.toNat ((z0.1:Nat):Int)) - (Int.toNat z0.2.1))),()))) (
 .ni (v3+(1:Int)) <|
 .ret (.inl (bB,(v3+(1:Int)),b0,())))) (
 .ret (.inr <| .inr<|(bB,b0,())))
noncomputable def QU:bp prog 61 none 1:=aR mixed Ib sA [0] rfl QO QS rfl (QT) (fun x=>ag (gH70_0 x)) (fun x=>by kernel_rfl)
noncomputable def Ob:D prog 61 none 1:=dO [.l QU] (kd prog f70) 0
noncomputable def FH70 (bB:Nat) (b0:List (Int×Int)):bJ (Nat×Nat×(List (Int×Int))×Unit) :=
 .br (decide (((bB:Nat):Int)<(2:Int))) (
 .ret ((0:Nat),bB,b0,())) (
 .bd (.it gH70_0 (bB,(1:Int),b0,())) fun z1 =>
 .sm z1 (fun z2 =>
 .ret (z2.1,z2.2.1,z2.2.2.1,())) fun z3 =>
 .ret ((0:Nat),z3.1,z3.2.1,()))
theorem L4:cD prog f70=some ⟨61,1,Ob.er,[.t 2],[some (.list (.prod tI tI))]⟩:=by kernel_rfl
noncomputable def VD:Ht:=⟨70,pH70,qH70,(fun x=>ag (FH70 x.1 x.2.1))⟩
theorem L5:VD.Ok prog:=eR mixed sA rfl func70 L4 (ai func70 rfl rfl) Ob (by kernel_rfl) rfl rfl ⟨_,rfl⟩ rfl (pre:=[0]) rfl (fun x=>by kernel_rfl)

/- 40 -/
noncomputable def cx40:Cx:=(aN [] [])
theorem L6:cx40.Ok prog:=au trivial trivial
noncomputable def VE:D prog 16 none 0:=dO [] (kd prog f40) 0
noncomputable def F40 (a0:Int×Int) (a1:Int×Int):bJ ((Int×Int)×Unit) :=
 .ni (a0.1 - a1.1) <|
 .ni (a0.2 - a1.2) <|
 .ret (((a0.1 - a1.1),(a0.2 - a1.2)),())
theorem QV:cD prog f40=some ⟨16,2,VE.er,[.cell 4 true 2],[some (.prod tI tI)]⟩:=by kernel_rfl
noncomputable def D3:Ct:=⟨40,[.c (.hole (.prod tI tI)),.c (.hole (.prod tI tI))],.c (.hole (.prod tI tI)),fun x=>ag (F40 x.1 x.2.1)⟩
theorem nB:D3.Ok prog:=bh mixed L6 func40 QV (ai func40 rfl rfl) VE (by kernel_rfl) rfl (fun x=>by kernel_rfl)

/- 39 -/
noncomputable def cx39:Cx:=(aN [] [])
theorem L7:cx39.Ok prog:=au trivial trivial
noncomputable def VF:D prog 16 none 0:=dO [] (kd prog f39) 0
noncomputable def F39 (a0:Int×Int) (a1:Int×Int):bJ (Int×Unit) :=
 .ni (a0.1 * a1.2) <|
 .ni (a0.2 * a1.1) <|
 .ni ((a0.1 * a1.2) - (a0.2 * a1.1)) <|
 .ret (((a0.1 * a1.2) - (a0.2 * a1.1)),())
theorem QW:cD prog f39=some ⟨16,2,VF.er,[.t 4],[some tI]⟩:=by kernel_rfl
noncomputable def D4:Ct:=⟨39,[.c (.hole (.prod tI tI)),.c (.hole (.prod tI tI))],hI,fun x=>ag (F39 x.1 x.2.1)⟩
theorem nC:D4.Ok prog:=bh mixed L7 func39 QW (ai func39 rfl rfl) VF (by kernel_rfl) rfl (fun x=>by kernel_rfl)

/- 72 -/
noncomputable def cx72:Cx:=(aN [D3,D4] [])
theorem L8:cx72.Ok prog:=au ⟨nB,nC,trivial⟩ trivial
noncomputable def VG:D prog 15 none 0:=dO [] (kd prog f72) 0
noncomputable def F72 (a0:Int×Int) (a1:Int×Int) (a2:Int×Int):bJ (Bool×Unit) :=
 .bd (F40 (a1.1,a1.2) (a0.1,a0.2)) fun y0 =>
 .bd (F40 (a2.1,a2.2) (a0.1,a0.2)) fun y1 =>
 .bd (F39 (y0.1.1,y0.1.2) (y1.1.1,y1.1.2)) fun y2 =>
 .ret ((decide ((0:Int)<y2.1)),())
theorem QX:cD prog f72=some ⟨15,3,VG.er,[.t 6],[some .bool]⟩:=by kernel_rfl
noncomputable def VH:Ct:=⟨72,[.c (.hole (.prod tI tI)),.c (.hole (.prod tI tI)),.c (.hole (.prod tI tI))],.c (.hole .bool),fun x=>ag (F72 x.1 x.2.1 x.2.2.1)⟩
theorem L9:VH.Ok prog:=bh mixed L8 func72 QX (ai func72 rfl rfl) VG (by kernel_rfl) rfl (fun x=>by kernel_rfl)

/- 71, lent -/
@[reducible] def pH71:aC:=aC.mk [(0,.c (.bO 0 (.prod tI tI))),(1,.c (.hole (.prod tI tI))),(2,.c (.fn0 72))] [(0,.arr (.prod tI tI) false)] [.slot 0] []
@[reducible] def qH71:aC:=aC.mk [(0,.c (.bO 1 (.prod tI tI)))] [(1,.arr (.prod tI tI) false)] [.slot 0] []
noncomputable def Oc:Cx:=(aN [VH] [])
theorem yQ:Oc.Ok prog:=au ⟨L9,trivial⟩ trivial
@[reducible] def QY:aC:=aC.mk [(0,.c (.zH 0 (.prod tI tI))),(2,.c (.fn0 72)),(4,.c (.ptr 1 0))] [(0,.arr (.prod tI tI) false),(1,.cells [.hole tI,.hole tI] false)] [.slot 4] []
@[reducible] def QZ:aX:=[(.exit 0,aC.mk [(0,.c (.zH 0 (.prod tI tI))),(4,.c (.ptr 1 0))] [(0,.arr (.prod tI tI) false),(1,.cells [.hole tI,.hole tI] false)] [.slot 4] [])]
noncomputable def Q1:D prog 37 none 1:=dO [] (pick (kd prog f71) [(0,false)]) 0
noncomputable def gH71_0:Nat×Nat×(List (Int×Int))×Int×Int×Unit->bJ ((Nat×Nat×(List (Int×Int))×Int×Int×Unit) ⊕ ((Nat×Nat×(List (Int×Int))×Int×Int×Unit))):=fun (Fh,bB,b0,cG,lC,_) =>
 .br (decide ((1:Int)<((bB:Nat):Int))) (
 .ni (((bB:Nat):Int) - (2:Int)) <|
 .nb (((bB:Nat):Int) - (2:Int)) ((bB:Nat):Int) <|
 .nd (decide ((Fh+(Int.toNat (((bB:Nat):Int) - (2:Int))))<(b0).length)) <|
 .ni (((bB:Nat):Int) - (1:Int)) <|
 .nb (((bB:Nat):Int) - (1:Int)) ((bB:Nat):Int) <|
 .nd (decide ((Fh+(Int.toNat (((bB:Nat):Int) - (1:Int))))<(b0).length)) <|
 .bd (F72 (((b0).getD (Fh+(Int.toNat (((bB:Nat):Int) - (2:Int)))) ((0:Int),(0:Int))).1,((b0).getD (Fh+(Int.toNat (((bB:Nat):Int) - (2:Int)))) ((0:Int),(0:Int))).2) (((b0).getD (Fh+(Int.toNat (((bB:Nat):Int) - (1:Int)))) ((0:Int),(0:Int))).1,((b0).getD (Fh+(Int.toNat (((bB:Nat):Int) - (1:Int)))) ((0:Int),(0:Int))).2) (cG,lC)) fun y0 =>
 .br (!y0.1) (
 .ni (((bB:Nat):Int) - (1:Int)) <|
 .nd (decide ((0:Int)<=(0:Int))) <|
 .nd (decide ((0:Int)<=(((bB:Nat):Int) - (1:Int)))) <|
 .nd (decide ((((bB:Nat):Int) - (1:Int))<=((bB:Nat):Int))) <|
 .ret (.inl ((Fh+(Int.toNat (0:Int))),((Int.toNat (((bB:Nat):Int) - (1:Int))) - (Int.toNat (0:Int))),b0,cG,lC,()))) (
 .ret (.inr (Fh,bB,b0,cG,lC,())))) (
 .ret (.inr (Fh,bB,b0,cG,lC,())))
noncomputable def Q2:bp prog 37 none 1:=aR mixed Oc yQ [0] rfl QY QZ rfl (Q1) (fun x=>ag (gH71_0 x)) (fun x=>by kernel_rfl)
noncomputable def Od:D prog 37 none 1:=dO [.l Q2] (kd prog f71) 0
noncomputable def FH71 (bB:Nat) (v1:Int×Int) (b0:List (Int×Int)):bJ (Nat×(List (Int×Int))×Unit) :=
 .bd (.it gH71_0 ((0:Nat),bB,b0,v1.1,v1.2,())) fun z1 =>
 .nd (decide ((z1.2.1+((((((z1.2.2.2.1,z1.2.2.2.2.1)::[])).drop (0:Nat)).take (1:Nat))).length)<bU)) <|
 .ret ((z1.2.1+((((((z1.2.2.2.1,z1.2.2.2.2.1)::[])).drop (0:Nat)).take (1:Nat))).length),((((z1.2.2.1).drop z1.1).take z1.2.1)++(((((z1.2.2.2.1,z1.2.2.2.2.1)::[])).drop (0:Nat)).take (1:Nat))),())
theorem Ma:cD prog f71=some ⟨37,3,Od.er,[.t 6],[some (.list (.prod tI tI))]⟩:=by kernel_rfl
noncomputable def VI:Ht:=⟨71,pH71,qH71,(fun x=>ag (FH71 x.1 x.2.1 x.2.2.1))⟩
theorem Mb:VI.Ok prog:=eR mixed yQ rfl func71 Ma (ai func71 rfl rfl) Od (by kernel_rfl) rfl rfl ⟨_,rfl⟩ rfl (pre:=[0]) rfl (fun x=>by kernel_rfl)

/- 73 -/
noncomputable def cx73:Cx:=(aN [] [])
theorem Mc:cx73.Ok prog:=au trivial trivial
noncomputable def VJ:D prog 4 none 0:=dO [] (kd prog f73) 0
noncomputable def F73 (a0:List (Int×Int)):bJ ((List (Int×Int))×Unit) :=
 .ret (a0,())
theorem Q3:cD prog f73=some ⟨4,1,VJ.er,[.t 2],[none]⟩:=by kernel_rfl
noncomputable def VK:Ct:=⟨73,[.c (.hole (.list (.prod tI tI)))],.fn 78 [] [.bR (.list (.prod tI tI))],fun x=>ag (F73 x.1)⟩
theorem Md:VK.Ok prog:=bh mixed Mc func73 Q3 (ai func73 rfl rfl) VJ (by kernel_rfl) rfl (fun x=>by kernel_rfl)

/- 79, lent -/
@[reducible] def pH79:aC:=aC.mk [(0,.c .bK),(1,hI)] [] [] []
@[reducible] def qH79:aC:=aC.mk [(0,.c (.zH 0 (.prod tI tI)))] [(0,.arr (.prod tI tI) false)] [.slot 0] []
noncomputable def VL:Cx:=(aN [] [])
theorem Ie:VL.Ok prog:=au trivial trivial
noncomputable def Oe:D prog 27 none 0:=dO [] (kd prog f79) 0
noncomputable def FH79 (v1:Int):bJ (Nat×Nat×(List (Int×Int))×Unit) :=
 .br (decide (v1<(0:Int))) (
 .no) (
 .ni ((0:Int) - (0:Int)) <|
 .ni (v1 - ((0:Int) - (0:Int))) <|
 .br (decide ((0:Int)<(v1 - (0:Int)))) (
 .nd ((0:Int)==(0:Int)) <|
 .nd ((0:Int)==(0:Int)) <|
 .nb (v1 - (0:Int)) ((bU:Nat):Int) <|
 .nd (decide ((0:Int)<=(0:Int))) <|
 .nd (decide ((0:Int)<=(0:Int))) <|
 .nd (decide ((0:Int)<=(((Int.toNat (v1 - (0:Int))):Nat):Int))) <|
 .ret (((0:Nat)+(Int.toNat (0:Int))),((Int.toNat (0:Int)) - (Int.toNat (0:Int))),(List.replicate (Int.toNat (v1 - (0:Int))) ((0:Int),(0:Int))),())) (
 .ret ((0:Nat),(0:Nat),[],())))
theorem Me:cD prog f79=some ⟨27,2,Oe.er,[.t 4],[some (.list (.prod tI tI))]⟩:=by kernel_rfl
noncomputable def VM:Ht:=⟨79,pH79,qH79,(fun x=>ag (FH79 x.1))⟩
theorem Mf:VM.Ok prog:=eR mixed Ie rfl func79 Me (ai func79 rfl rfl) Oe (by kernel_rfl) rfl rfl ⟨_,rfl⟩ rfl (pre:=[]) rfl (fun x=>by kernel_rfl)

/- 74 -/
noncomputable def Q4:Cx:=(aN [] [VM])
theorem wD:Q4.Ok prog:=au trivial ⟨⟨Mf,rfl⟩,trivial⟩
@[reducible] def VN:aC:=aC.mk [(0,.c (.hole (.list (.list (.prod tI tI))))),(3,hI),(9,.c (.hole (.list (.list (.prod tI tI))))),(10,hI),(11,hI)] [] [] []
@[reducible] def VO:aX:=[(.exit 0,aC.mk [(0,.c (.hole (.list (.list (.prod tI tI))))),(3,hI)] [] [] [])]
noncomputable def VP:D prog 36 none 0:=dO [] (pick (kd prog f74) [(0,false)]) 0
noncomputable def g74_0:(List (List (Int×Int)))×Int×(List (List (Int×Int)))×Int×Int×Unit->bJ (((List (List (Int×Int)))×Int×(List (List (Int×Int)))×Int×Int×Unit) ⊕ (((List (List (Int×Int)))×Int×Unit))):=fun (v0,v3,v9,v10,v11,_) =>
 .br (decide (v11<v10)) (
 .nb v11 (((v9).length:Nat):Int) <|
 .ni (v3+(((((v9).getD (Int.toNat v11) [])).length:Nat):Int)) <|
 .br (decide ((v3+(((((v9).getD (Int.toNat v11) [])).length:Nat):Int))<(0:Int))) (
 .no) (
 .ni (v11+(1:Int)) <|
 .ret (.inl (v0,(v3+(((((v9).getD (Int.toNat v11) [])).length:Nat):Int)),v9,v10,(v11+(1:Int)),())))) (
 .ret (.inr (v0,v3,())))
noncomputable def VQ:bp prog 36 none 0:=aR mixed Q4 wD [] rfl VN VO rfl (VP) (fun x=>ag (g74_0 x)) (fun x=>by kernel_rfl)
@[reducible] def VR:aC:=aC.mk [(6,.c (.zH 0 (.prod tI tI))),(25,.c (.hole (.list (.list (.prod tI tI))))),(26,hI),(27,hI)] [(0,.arr (.prod tI tI) false)] [.slot 6] []
@[reducible] def VS:aX:=[(.exit 2,aC.mk [(6,.c (.zH 0 (.prod tI tI)))] [(0,.arr (.prod tI tI) false)] [.slot 6] [])]
noncomputable def VT:D prog 36 none 0:=dO [] (pick (kd prog f74) [(1,false)]) 0
noncomputable def g74_1:Nat×Nat×(List (List (Int×Int)))×Int×Int×(List (Int×Int))×Unit->bJ ((Nat×Nat×(List (List (Int×Int)))×Int×Int×(List (Int×Int))×Unit) ⊕ ((Nat×Nat×(List (Int×Int))×Unit))):=fun (lv6,Yh,VU,v26,yO,b0,_) =>
 .br (decide (yO<v26)) (
 .nb yO (((VU).length:Nat):Int) <|
 .nd (decide ((Yh+(((VU).getD (Int.toNat yO) [])).length)<bU)) <|
 .ni (yO+(1:Int)) <|
 .ret (.inl ((0:Nat),(Yh+(((VU).getD (Int.toNat yO) [])).length),VU,v26,(yO+(1:Int)),((((b0).drop lv6).take Yh)++((VU).getD (Int.toNat yO) [])),()))) (
 .ret (.inr (lv6,Yh,b0,())))
noncomputable def VV:bp prog 36 none 0:=aR mixed Q4 wD [] rfl VR VS rfl (VT) (fun x=>ag (g74_1 x)) (fun x=>by kernel_rfl)
noncomputable def VW:D prog 36 none 0:=dO [.l VQ,.l VV] (kd prog f74) 0
noncomputable def F74 (a0:List (List (Int×Int))):bJ ((List (Int×Int))×Unit) :=
 .bd (.it g74_0 (a0,(0:Int),a0,(((a0).length:Nat):Int),(0:Int),())) fun z0 =>
 .bd (FH79 z0.2.1) fun y1 =>
 .bd (.it g74_1 (y1.1,y1.2.1,z0.1,(((z0.1).length:Nat):Int),(0:Int),y1.2.2.1,())) fun z2 =>
 .ret ((((z2.2.2.1).drop z2.1).take z2.2.1),())
theorem Q5:cD prog f74=some ⟨36,1,VW.er,[.t 2],[some (.list (.prod tI tI))]⟩:=by kernel_rfl
noncomputable def VX:Ct:=⟨74,[.c (.hole (.list (.list (.prod tI tI))))],.c (.hole (.list (.prod tI tI))),fun x=>ag (F74 x.1)⟩
theorem Mg:VX.Ok prog:=bh mixed wD func74 Q5 (ai func74 rfl rfl) VW (by kernel_rfl) rfl (fun x=>by kernel_rfl)

/- 63 -/
noncomputable def Mh:Cx:=(aN [VK,VX] [Vj,VC,VD,VI])
theorem qv:Mh.Ok prog:=au ⟨Md,Mg,trivial⟩ ⟨⟨LI,rfl⟩,⟨LZ,rfl⟩,⟨L5,rfl⟩,⟨Mb,rfl⟩,trivial⟩
@[reducible] def VY:aC:=aC.mk [(0,.c (.zH 0 (.prod tI tI))),(2,.c .bK),(3,.c (.bO 1 (.prod tI tI))),(4,.c (.ptr 2 0)),(19,.c (.zH 0 (.prod tI tI))),(20,hI),(21,hI)] [(0,.arr (.prod tI tI) false),(1,.arr (.prod tI tI) false),(2,.cells [.bK] false)] [.slot 0,.slot 3,.slot 4] []
@[reducible] def VZ:aX:=[(.exit 0,aC.mk [(0,.c (.zH 0 (.prod tI tI))),(2,.c .bK),(3,.c (.bO 1 (.prod tI tI))),(4,.c (.ptr 2 0))] [(0,.arr (.prod tI tI) false),(1,.arr (.prod tI tI) false),(2,.cells [.bK] false)] [.slot 0,.slot 3,.slot 4] [])]
noncomputable def V0:D prog 48 none 0:=dO [] (pick (kd prog f63) [(0,false)]) 0
noncomputable def g63_0:Nat×Nat×Nat×Nat×Nat×Int×Int×(List (Int×Int))×(List (Int×Int))×Unit->bJ ((Nat×Nat×Nat×Nat×Nat×Int×Int×(List (Int×Int))×(List (Int×Int))×Unit) ⊕ ((Nat×Nat×Nat×(List (Int×Int))×(List (Int×Int))×Unit))):=fun (Fh,bB,V1,Mi,V2,v20,jk,b0,b1,_) =>
 .br (decide (jk<v20)) (
 .nb jk ((V2:Nat):Int) <|
 .nd (decide ((Mi+(Int.toNat jk))<(b0).length)) <|
 .bd (FH71 V1 (((b0).getD (Mi+(Int.toNat jk)) ((0:Int),(0:Int))).1,((b0).getD (Mi+(Int.toNat jk)) ((0:Int),(0:Int))).2) b1) fun y3 =>
 .ni (jk+(1:Int)) <|
 .ret (.inl (Fh,bB,y3.1,Mi,V2,v20,(jk+(1:Int)),b0,y3.2.1,()))) (
 .ret (.inr (Fh,bB,V1,b0,b1,())))
noncomputable def V3:bp prog 48 none 0:=aR mixed Mh qv [] rfl VY VZ rfl (V0) (fun x=>ag (g63_0 x)) (fun x=>by kernel_rfl)
noncomputable def Ig:D prog 48 (some 3) 5:=dO [] (pick (kd prog f63) [(1,false)]) 0
noncomputable def Ih:D prog 48 (some 3) 5:=dO [] (pick (kd prog f63) [(1,true)]) 0
noncomputable def wE:Cx:=DO Mh (fun kz=>Pz kz Mh bL 3 5 [31,32] (Ig) (Ih))
theorem sB:(wE).Ok prog:=nr qv (fun h=>sg mixed qv h)
@[reducible] def Ii:aC:=aC.mk [(0,.c (.yl 3)),(1,.c (.bR (.list (.prod tI tI)))),(3,hI)] [(3,.loop .ready none 2 [(2,.c .bK),(3,.c (.bO 0 (.prod tI tI))),(4,.c (.ptr 1 0)),(30,.fn 78 [] [.bR (.list (.prod tI tI))])] [31,32] (.dg [.op (some 8) none (.alloc [.int .i64 (Int.ofNat 0),.int .i64 (Int.ofNat 0)]),.op none none (.store 2 (.t 8) (.t 32))]) (.block 3 (.dg [.op (some 33) none (.load false 1 (.t 4)),.op (some 34) none (.load true 2 (.t 8)),.call (some 35) none (.c (.fn 71 [] [])) [.t 33,.t 34,.c (.fn 72 [] [])] [some .str,some (.prod tI tI),none],.op none none (.store 1 (.t 4) (.t 35))])) 48),(2,.gi),(0,.arr (.prod tI tI) false),(1,.cells [.bO 4 (.prod tI tI)] false),(4,.arr (.prod tI tI) false)] [.cell 1 0] []
@[reducible] def Ij:aX:=[(.exit 0,aC.mk [] [(1,.cells [.bO 4 (.prod tI tI)] false),(2,.gi),(3,.loop .ready none 2 [(2,.c .bK),(3,.c (.bO 0 (.prod tI tI))),(4,.c (.ptr 1 0)),(30,.fn 78 [] [.bR (.list (.prod tI tI))])] [31,32] (.dg [.op (some 8) none (.alloc [.int .i64 (Int.ofNat 0),.int .i64 (Int.ofNat 0)]),.op none none (.store 2 (.t 8) (.t 32))]) (.block 3 (.dg [.op (some 33) none (.load false 1 (.t 4)),.op (some 34) none (.load true 2 (.t 8)),.call (some 35) none (.c (.fn 71 [] [])) [.t 33,.t 34,.c (.fn 72 [] [])] [some .str,some (.prod tI tI),none],.op none none (.store 1 (.t 4) (.t 35))])) 48),(0,.arr (.prod tI tI) false),(4,.arr (.prod tI tI) false)] [.cell 1 0] [])]
noncomputable def Ik:D prog 19 none 4:=dO [] (pick (kd prog f78) [(0,false)]) 0
noncomputable def g63_1i_0:(List (Int×Int))×Int×Nat×(List (Int×Int))×(List (Int×Int))×Nat×(List (Int×Int))×Unit->bJ (((List (Int×Int))×Int×Nat×(List (Int×Int))×(List (Int×Int))×Nat×(List (Int×Int))×Unit) ⊕ ((Nat×Nat×(List (Int×Int))×(List (Int×Int))×(List (Int×Int))×Unit))):=fun (v1,v3,nw3,Of,b0,cX,b4,_) =>
 .br (decide ((0:Int)<=v3)) (
 .nb v3 (((v1).length:Nat):Int) <|
 .bd (FH71 cX (((v1).getD (Int.toNat v3) ((0:Int),(0:Int))).1,((v1).getD (Int.toNat v3) ((0:Int),(0:Int))).2) b4) fun y6 =>
 .ni (v3 - (1:Int)) <|
 .ret (.inl (v1,(v3 - (1:Int)),nw3,Of,b0,y6.1,y6.2.1,()))) (
 .ret (.inr (cX,nw3,Of,b0,b4,())))
noncomputable def Il:bp prog 19 none 4:=aR mixed wE sB [0,1,2,3] rfl Ii Ij rfl (Ik) (fun x=>ag (g63_1i_0 x)) (fun x=>by kernel_rfl)
@[reducible] def V4:aC:=aC.mk [(2,.c .bK),(3,.c (.bO 0 (.prod tI tI))),(4,.c (.ptr 1 0)),(30,.fn 78 [] [.bR (.list (.prod tI tI))])] [(0,.arr (.prod tI tI) false),(1,.cells [.bK] false)] [.slot 3,.slot 4] []
@[reducible] def V5:aX:=[(.normal,aC.mk [(3,.c (.bO 0 (.prod tI tI))),(4,.c (.ptr 1 0))] [(0,.arr (.prod tI tI) false),(1,.cells [.bO 2 (.prod tI tI)] false),(2,.arr (.prod tI tI) false)] [.slot 3,.slot 4,.cell 1 0] [])]
noncomputable def Im:D prog 19 none 4:=dO [.l Il] (kd prog f78) 0
theorem Q6:cD prog f78=some ⟨19,2,(Im).er,[],[]⟩:=by kernel_rfl
noncomputable def g63_1:Nat×(List (Int×Int))×(List (Int×Int))×Unit->bJ ((Nat×(List (Int×Int))×Nat×(List (Int×Int))×Unit)):=fun (V1,Cw,b0,_) =>
 .ni ((((Cw).length:Nat):Int) - (1:Int)) <|
 .bd (.it g63_1i_0 (Cw,((((Cw).length:Nat):Int) - (1:Int)),V1,Cw,b0,(0:Nat),[],())) fun z7 =>
 .ret ((V1,z7.2.2.2.1,z7.1,z7.2.2.2.2.1,()))
noncomputable def V6:iI prog 48 none 0:=nt mixed wE sB [] rfl V4 V5 ( .t 30) [31,32] rfl (Ig).er (Ih).er 78 func78 (Q6) (ai func78 rfl rfl) 4 rfl (Im) rfl (fun x=>ag (g63_1 x)) (fun x=>by kernel_rfl)
noncomputable def V7:D prog 48 none 0:=dO [.l V3,.r V6] (kd prog f63) 0
noncomputable def F63 (a0:List (Int×Int)):bJ ((List (Int×Int))×Unit) :=
 .bd (FH46 a0) fun y0 =>
 .bd (FH68 y0.1 y0.2.1) fun y1 =>
 .bd (FH70 y0.1 y1.1) fun y2 =>
 .br (decide (((y2.2.1:Nat):Int)<(3:Int))) (
 .ret ((((y2.2.2.1).drop y2.1).take y2.2.1),())) (
 .bd (.it g63_0 (y2.1,y2.2.1,(0:Nat),y2.1,y2.2.1,((y2.2.1:Nat):Int),(0:Int),y2.2.2.1,[],())) fun z4 =>
 .bd (F73 (((z4.2.2.2.1).drop z4.1).take z4.2.1)) fun y5 =>
 .bd (g63_1 (z4.2.2.1,y5.1,z4.2.2.2.2.1,())) fun z8 =>
 .ni (((z8.1:Nat):Int) - (1:Int)) <|
 .nd (decide ((0:Int)<=(0:Int))) <|
 .nd (decide ((0:Int)<=(((z8.1:Nat):Int) - (1:Int)))) <|
 .nd (decide ((((z8.1:Nat):Int) - (1:Int))<=((z8.1:Nat):Int))) <|
 .ni (((z8.2.2.1:Nat):Int) - (1:Int)) <|
 .nd (decide ((0:Int)<=(0:Int))) <|
 .nd (decide ((0:Int)<=(((z8.2.2.1:Nat):Int) - (1:Int)))) <|
 .nd (decide ((((z8.2.2.1:Nat):Int) - (1:Int))<=((z8.2.2.1:Nat):Int))) <|
 .bd (F74 (((((((z8.2.1).drop ((0:Nat)+(Int.toNat (0:Int)))).take ((Int.toNat (((z8.1:Nat):Int) - (1:Int))) - (Int.toNat (0:Int))))::((((z8.2.2.2.1).drop ((0:Nat)+(Int.toNat (0:Int)))).take ((Int.toNat (((z8.2.2.1:Nat):Int) - (1:Int))) - (Int.toNat (0:Int))))::[]))).drop (0:Nat)).take (2:Nat))) fun y9 =>
 .ret (y9.1,()))
theorem Q7:cD prog f63=some ⟨48,1,V7.er,[.t 2],[some (.list (.prod tI tI))]⟩:=by kernel_rfl
noncomputable def V8:Ct:=⟨63,[.c (.hole (.list (.prod tI tI)))],.c (.hole (.list (.prod tI tI))),fun x=>ag (F63 x.1)⟩
theorem Mj:V8.Ok prog:=bh mixed qv func63 Q7 (ai func63 rfl rfl) V7 (by kernel_rfl) rfl (fun x=>by kernel_rfl)

/- 55 -/
noncomputable def cx55:Cx:=(aN [Vh,V8] [])
theorem Mk:cx55.Ok prog:=au ⟨LG,Mj,trivial⟩ trivial
noncomputable def V9:D prog 17 none 0:=dO [] (kd prog f55) 0
noncomputable def F55 (a0:List (Int×Int)):bJ ((List (Int×Int))×Int×Unit) :=
 .br ((((a0).length:Nat):Int)==(0:Int)) (
 .ret ([],(4:Int),())) (
 .br (decide ((20:Int)<(((a0).length:Nat):Int))) (
 .ret ([],(1:Int),())) (
 .bd (F61 a0) fun y0 =>
 .br y0.1 (
 .ret ([],(2:Int),())) (
 .bd (F63 a0) fun y1 =>
 .ret (y1.1,(0:Int),()))))
theorem Q8:cD prog f55=some ⟨17,1,V9.er,[.t 2,.t 3],[some (.list (.prod tI tI)),some tI]⟩:=by kernel_rfl
noncomputable def Wa:Ct:=⟨55,[.c (.hole (.list (.prod tI tI)))],.cq [.hole (.list (.prod tI tI)),.hole tI],fun x=>ag (F55 x.1)⟩
theorem Ml:Wa.Ok prog:=bh mixed Mk func55 Q8 (ai func55 rfl rfl) V9 (by kernel_rfl) rfl (fun x=>by kernel_rfl)

/- 56 -/
noncomputable def Wb:Cx:=(aN [] [])
theorem Cy:Wb.Ok prog:=au trivial trivial
@[reducible] def Wc:aC:=aC.mk [(0,.c (.hole (.list (.prod tI tI)))),(1,.c (.hole (.list (.prod tI tI)))),(12,hI),(13,hI)] [] [] []
@[reducible] def Wd:aX:=[(.ret,aC.mk [(4,.c (.tf false))] [] [] []),(.exit 0,aC.mk [] [] [] [])]
noncomputable def We:D prog 26 none 0:=dO [] (pick (kd prog f56) [(0,false)]) 0
noncomputable def g56_0:(List (Int×Int))×(List (Int×Int))×Int×Int×Unit->bJ (((List (Int×Int))×(List (Int×Int))×Int×Int×Unit) ⊕ ((Unit) ⊕ ((Unit)))):=fun (v0,v1,kN,c8,_) =>
 .br (decide (c8<kN)) (
 .nb c8 (((v0).length:Nat):Int) <|
 .nb c8 (((v1).length:Nat):Int) <|
 .br (!((((v0).getD (Int.toNat c8) ((0:Int),(0:Int))).1==((v1).getD (Int.toNat c8) ((0:Int),(0:Int))).1)&&((((v0).getD (Int.toNat c8) ((0:Int),(0:Int))).2==((v1).getD (Int.toNat c8) ((0:Int),(0:Int))).2)&&true))) (
 .ret (.inr <| .inl<|())) (
 .ni (c8+(1:Int)) <|
 .ret (.inl (v0,v1,kN,(c8+(1:Int)),())))) (
 .ret (.inr <| .inr<|()))
noncomputable def Wg:bp prog 26 none 0:=aR mixed Wb Cy [] rfl Wc Wd rfl (We) (fun x=>ag (g56_0 x)) (fun x=>by kernel_rfl)
noncomputable def Wh:D prog 26 none 0:=dO [.l Wg] (kd prog f56) 0
noncomputable def F56 (a0:List (Int×Int)) (a1:List (Int×Int)):bJ (Bool×Unit) :=
 .br (!((((a0).length:Nat):Int)==(((a1).length:Nat):Int))) (
 .ret (false,())) (
 .bd (.it g56_0 (a0,a1,(((a0).length:Nat):Int),(0:Int),())) fun z0 =>
 .sm z0 (fun z1 =>
 .ret (false,())) fun z2 =>
 .ret (true,()))
theorem Q9:cD prog f56=some ⟨26,2,Wh.er,[.t 4],[some .bool]⟩:=by kernel_rfl
noncomputable def Wi:Ct:=⟨56,[.c (.hole (.list (.prod tI tI))),.c (.hole (.list (.prod tI tI)))],.c (.hole .bool),fun x=>ag (F56 x.1 x.2.1)⟩
theorem Mm:Wi.Ok prog:=bh mixed Cy func56 Q9 (ai func56 rfl rfl) Wh (by kernel_rfl) rfl (fun x=>by kernel_rfl)

/- 38 -/
noncomputable def Wj:Cx:=(aN [Wa,Wi] [])
theorem Cz:Wj.Ok prog:=au ⟨Ml,Mm,trivial⟩ trivial
@[reducible] def Wk:aC:=aC.mk [(10,.c (.hole (.list (.list (.prod tI tI))))),(11,hI),(12,hI)] [] [] []
@[reducible] def Wl:aX:=[(.ret,aC.mk [(2,hI)] [] [] []),(.exit 0,aC.mk [] [] [] [])]
noncomputable def Wm:D prog 34 none 0:=dO [] (pick (kd prog f38) [(0,false)]) 0
noncomputable def g38_0:(List (List (Int×Int)))×Int×Int×Unit->bJ (((List (List (Int×Int)))×Int×Int×Unit) ⊕ ((Int×Unit) ⊕ ((Unit)))):=fun (v10,v11,kN,_) =>
 .br (decide (kN<v11)) (
 .nb kN (((v10).length:Nat):Int) <|
 .br (decide ((8:Int)<(((((v10).getD (Int.toNat kN) [])).length:Nat):Int))) (
 .ret (.inr <| .inl<|((1:Int),()))) (
 .bd (F55 ((v10).getD (Int.toNat kN) [])) fun y0 =>
 .br (!(y0.2.1==(0:Int))) (
 .ret (.inr <| .inl<|(y0.2.1,()))) (
 .bd (F56 y0.1 ((v10).getD (Int.toNat kN) [])) fun y1 =>
 .br (!y1.1) (
 .ret (.inr <| .inl<|((7:Int),()))) (
 .ni (kN+(1:Int)) <|
 .ret (.inl (v10,v11,(kN+(1:Int)),())))))) (
 .ret (.inr <| .inr<|()))
noncomputable def Wn:bp prog 34 none 0:=aR mixed Wj Cz [] rfl Wk Wl rfl (Wm) (fun x=>ag (g38_0 x)) (fun x=>by kernel_rfl)
noncomputable def Wo:D prog 34 none 0:=dO [.l Wn] (kd prog f38) 0
noncomputable def F38 (a0:List (List (Int×Int))):bJ (Int×Unit) :=
 .br (decide ((6:Int)<(((a0).length:Nat):Int))) (
 .ret ((1:Int),())) (
 .bd (.it g38_0 (a0,(((a0).length:Nat):Int),(0:Int),())) fun z2 =>
 .sm z2 (fun z3 =>
 .ret (z3.1,())) fun z4 =>
 .ret ((0:Int),()))
theorem Ra:cD prog f38=some ⟨34,1,Wo.er,[.t 2],[some tI]⟩:=by kernel_rfl
noncomputable def Mn:Ct:=⟨38,[.c (.hole (.list (.list (.prod tI tI))))],hI,fun x=>ag (F38 x.1)⟩
theorem wF:Mn.Ok prog:=bh mixed Cz func38 Ra (ai func38 rfl rfl) Wo (by kernel_rfl) rfl (fun x=>by kernel_rfl)

/- 14 -/
noncomputable def cx14:Cx:=(aN [Mn,LA] [])
theorem Mo:cx14.Ok prog:=au ⟨wF,wC,trivial⟩ trivial
noncomputable def Wp:D prog 16 none 0:=dO [] (kd prog f14) 0
noncomputable def F14 (a0:List (List (Int×Int))) (a1:Int×Int):bJ (Int×Unit) :=
 .bd (F38 a0) fun y0 =>
 .br (y0.1==(0:Int)) (
 .bd (F23 (a1.1,a1.2) (100000:Int)) fun y1 =>
 .br (!y1.1) (
 .ret ((2:Int),())) (
 .ret (y0.1,()))) (
 .ret (y0.1,()))
theorem Rb:cD prog f14=some ⟨16,2,Wp.er,[.t 4],[some tI]⟩:=by kernel_rfl
noncomputable def Io:Ct:=⟨14,[.c (.hole (.list (.list (.prod tI tI)))),.c (.hole (.prod tI tI))],hI,fun x=>ag (F14 x.1 x.2.1)⟩
theorem qw:Io.Ok prog:=bh mixed Mo func14 Rb (ai func14 rfl rfl) Wp (by kernel_rfl) rfl (fun x=>by kernel_rfl)

/- 18 -/
noncomputable def cx18:Cx:=(aN [] [])
theorem Mp:cx18.Ok prog:=au trivial trivial
noncomputable def Wq:D prog 16 none 0:=dO [] (kd prog f18) 0
noncomputable def F18 (a0:Int×Int) (a1:Int×Int):bJ ((Int×Int)×Unit) :=
 .ni (a0.1+a1.1) <|
 .ni (a0.2+a1.2) <|
 .ret (((a0.1+a1.1),(a0.2+a1.2)),())
theorem Rc:cD prog f18=some ⟨16,2,Wq.er,[.cell 4 true 2],[some (.prod tI tI)]⟩:=by kernel_rfl
noncomputable def Mq:Ct:=⟨18,[.c (.hole (.prod tI tI)),.c (.hole (.prod tI tI))],.c (.hole (.prod tI tI)),fun x=>ag (F18 x.1 x.2.1)⟩
theorem wG:Mq.Ok prog:=bh mixed Mp func18 Rc (ai func18 rfl rfl) Wq (by kernel_rfl) rfl (fun x=>by kernel_rfl)

/- 20 -/
noncomputable def cx20:Cx:=(aN [] [])
theorem Mr:cx20.Ok prog:=au trivial trivial
noncomputable def Wr:D prog 4 none 0:=dO [] (kd prog f20) 0
noncomputable def F20 (a0:List (Int×Int)):bJ ((List (Int×Int))×Unit) :=
 .ret (a0,())
theorem Rd:cD prog f20=some ⟨4,1,Wr.er,[.t 2],[none]⟩:=by kernel_rfl
noncomputable def Mt:Ct:=⟨20,[.c (.hole (.list (.prod tI tI)))],.fn 47 [] [.bR (.list (.prod tI tI))],fun x=>ag (F20 x.1)⟩
theorem wH:Mt.Ok prog:=bh mixed Mr func20 Rd (ai func20 rfl rfl) Wr (by kernel_rfl) rfl (fun x=>by kernel_rfl)

/- 44 -/
noncomputable def cx44:Cx:=(aN [] [])
theorem Mv:cx44.Ok prog:=au trivial trivial
noncomputable def Ws:D prog 16 none 0:=dO [] (kd prog f44) 0
noncomputable def F44 (a0:Int×Int):bJ (Int×Unit) :=
 .br (decide ((0:Int)<a0.1)) (
 .ret ((0:Int),())) (
 .br (a0.1==(0:Int)) (
 .br (decide ((0:Int)<a0.2)) (
 .ret ((0:Int),())) (
 .ret ((1:Int),()))) (
 .ret ((1:Int),())))
theorem Re:cD prog f44=some ⟨16,1,Ws.er,[.t 2],[some tI]⟩:=by kernel_rfl
noncomputable def Rf:Ct:=⟨44,[.c (.hole (.prod tI tI))],hI,fun x=>ag (F44 x.1)⟩
theorem CA:Rf.Ok prog:=bh mixed Mv func44 Re (ai func44 rfl rfl) Ws (by kernel_rfl) rfl (fun x=>by kernel_rfl)

/- 42 -/
noncomputable def cx42:Cx:=(aN [Rf,D4,Qu,Qw] [])
theorem Mw:cx42.Ok prog:=au ⟨CA,nC,Cs,Cv,trivial⟩ trivial
noncomputable def Wt:D prog 34 none 0:=dO [] (kd prog f42) 0
noncomputable def F42 (a0:Int×Int×Int×Int×Int) (a1:Int×Int×Int×Int×Int):bJ (Int×Unit) :=
 .br ((a0.1==a1.1)&&((a0.2.1==a1.2.1)&&((a0.2.2.1==a1.2.2.1)&&((a0.2.2.2.1==a1.2.2.2.1)&&true)))) (
 .ni (a0.2.2.2.2 - a1.2.2.2.2) <|
 .ret ((a0.2.2.2.2 - a1.2.2.2.2),())) (
 .bd (F44 (a0.2.2.1,a0.2.2.2.1)) fun y0 =>
 .bd (F44 (a1.2.2.1,a1.2.2.2.1)) fun y1 =>
 .ni (y0.1 - y1.1) <|
 .bd (F39 (a0.2.2.1,a0.2.2.2.1) (a1.2.2.1,a1.2.2.2.1)) fun y2 =>
 .bd (F45 (0:Int) y2.1) fun y3 =>
 .bd (F43 (((((y0.1 - y1.1)::(y3.1::[]))).drop (0:Nat)).take (2:Nat))) fun y4 =>
 .ret (y4.1,()))
theorem Rg:cD prog f42=some ⟨34,2,Wt.er,[.t 4],[some tI]⟩:=by kernel_rfl
noncomputable def Rh:Ct:=⟨42,[.c (.hole (.prod tI (.prod tI (.prod tI (.prod tI tI))))),.c (.hole (.prod tI (.prod tI (.prod tI (.prod tI tI)))))],hI,fun x=>ag (F42 x.1 x.2.1)⟩
theorem CB:Rh.Ok prog:=bh mixed Mw func42 Rg (ai func42 rfl rfl) Wt (by kernel_rfl) rfl (fun x=>by kernel_rfl)

/- 80 -/
noncomputable def Wu:Cx:=(aN [] [])
theorem CC:Wu.Ok prog:=au trivial trivial
@[reducible] def Wv:aC:=aC.mk [(0,.c (.hole (.list (.prod (.prod (.prod tI tI) (.prod tI tI)) tI)))),(1,hI),(2,hI),(3,hI),(10,hI)] [] [] []
@[reducible] def Ww:aX:=[(.exit 0,aC.mk [] [] [] [])]
noncomputable def Wx:D prog 38 none 0:=dO [] (pick (kd prog f80) [(0,false)]) 0
noncomputable def g80_0:(List (((Int×Int)×Int×Int)×Int))×Int×Int×Int×Int×Unit->bJ (((List (((Int×Int)×Int×Int)×Int))×Int×Int×Int×Int×Unit) ⊕ ((Unit))):=fun (v0,v1,v2,v3,v10,_) =>
 .br (decide (v10<v3)) (
 .ni (v1+v10) <|
 .ni (v2+v10) <|
 .ni (v2+v10) <|
 .nb (v2+v10) (((v0).length:Nat):Int) <|
 .ni (v1+v10) <|
 .nb (v1+v10) (((v0).length:Nat):Int) <|
 .nb (v1+v10) (((v0).length:Nat):Int) <|
 .no) (
 .ret (.inr ()))
noncomputable def Wy:bp prog 38 none 0:=aR mixed Wu CC [] rfl Wv Ww rfl (Wx) (fun x=>ag (g80_0 x)) (fun x=>by kernel_rfl)
noncomputable def Wz:D prog 38 none 0:=dO [.l Wy] (kd prog f80) 0
noncomputable def F80 (a0:List (((Int×Int)×Int×Int)×Int)) (a1:Int) (a2:Int) (a3:Int):bJ (Unit) :=
 .bd (.it g80_0 (a0,a1,a2,a3,(0:Int),())) fun z0 =>
 .ret ()
theorem Ri:cD prog f80=some ⟨38,5,Wz.er,[],[]⟩:=by kernel_rfl
noncomputable def WA:Ct:=⟨80,[.c (.hole (.list (.prod (.prod (.prod tI tI) (.prod tI tI)) tI))),hI,hI,hI,.c (.fn0 42)],.cq [],fun x=>ag (F80 x.1 x.2.1 x.2.2.1 x.2.2.2.1)⟩
theorem Mx:WA.Ok prog:=bh mixed CC func80 Ri (ai func80 rfl rfl) Wz (by kernel_rfl) rfl (fun x=>by kernel_rfl)

/- 64, lent -/
@[reducible] def My:aC:=aC.mk [(0,.c (.bO 0 (.prod (.prod (.prod tI tI) (.prod tI tI)) tI))),(1,hI),(2,hI),(3,.c (.fn0 42))] [(0,.arr (.prod (.prod (.prod tI tI) (.prod tI tI)) tI) false)] [.slot 0] []
@[reducible] def Mz:aC:=aC.mk [(0,.c .any)] [(0,.arr (.prod (.prod (.prod tI tI) (.prod tI tI)) tI) false)] [] []
noncomputable def sD:Cx:=(aN [Rh] [])
theorem kO:sD.Ok prog:=au ⟨CB,trivial⟩ trivial
@[reducible] def D5:aC:=aC.mk [(0,.c (.bO 0 (.prod (.prod (.prod tI tI) (.prod tI tI)) tI))),(1,hI),(2,hI),(3,.c (.fn0 42)),(8,hI),(9,hI)] [(0,.arr (.prod (.prod (.prod tI tI) (.prod tI tI)) tI) false)] [] []
@[reducible] def D6:aX:=[(.exit 2,aC.mk [(0,.c (.bO 0 (.prod (.prod (.prod tI tI) (.prod tI tI)) tI))),(1,hI),(2,hI),(3,.c (.fn0 42)),(8,hI)] [(0,.arr (.prod (.prod (.prod tI tI) (.prod tI tI)) tI) false)] [] [])]
noncomputable def D7:D prog 53 none 1:=dO [] (pick (kd prog f64) [(0,false),(0,false)]) 0
noncomputable def gH64_v1_1:Nat×Int×Int×Int×Int×(List (((Int×Int)×Int×Int)×Int))×Unit->bJ ((Nat×Int×Int×Int×Int×(List (((Int×Int)×Int×Int)×Int))×Unit) ⊕ ((Nat×Int×Int×Int×(List (((Int×Int)×Int×Int)×Int))×Unit))):=fun (bB,v1,v2,v8,v9,b0,_) =>
 .br (decide (v1<v9)) (
 .nb v9 ((bB:Nat):Int) <|
 .nd (decide (((0:Nat)+(Int.toNat v9))<(b0).length)) <|
 .ni (v9 - (1:Int)) <|
 .nb (v9 - (1:Int)) ((bB:Nat):Int) <|
 .nd (decide (((0:Nat)+(Int.toNat (v9 - (1:Int))))<(b0).length)) <|
 .bd (F42 (((b0).getD ((0:Nat)+(Int.toNat v9)) ((((0:Int),(0:Int)),(0:Int),(0:Int)),(0:Int))).1.1.1,((b0).getD ((0:Nat)+(Int.toNat v9)) ((((0:Int),(0:Int)),(0:Int),(0:Int)),(0:Int))).1.1.2,((b0).getD ((0:Nat)+(Int.toNat v9)) ((((0:Int),(0:Int)),(0:Int),(0:Int)),(0:Int))).1.2.1,((b0).getD ((0:Nat)+(Int.toNat v9)) ((((0:Int),(0:Int)),(0:Int),(0:Int)),(0:Int))).1.2.2,((b0).getD ((0:Nat)+(Int.toNat v9)) ((((0:Int),(0:Int)),(0:Int),(0:Int)),(0:Int))).2) (((b0).getD ((0:Nat)+(Int.toNat (v9 - (1:Int)))) ((((0:Int),(0:Int)),(0:Int),(0:Int)),(0:Int))).1.1.1,((b0).getD ((0:Nat)+(Int.toNat (v9 - (1:Int)))) ((((0:Int),(0:Int)),(0:Int),(0:Int)),(0:Int))).1.1.2,((b0).getD ((0:Nat)+(Int.toNat (v9 - (1:Int)))) ((((0:Int),(0:Int)),(0:Int),(0:Int)),(0:Int))).1.2.1,((b0).getD ((0:Nat)+(Int.toNat (v9 - (1:Int)))) ((((0:Int),(0:Int)),(0:Int),(0:Int)),(0:Int))).1.2.2,((b0).getD ((0:Nat)+(Int.toNat (v9 - (1:Int)))) ((((0:Int),(0:Int)),(0:Int),(0:Int)),(0:Int))).2)) fun y0 =>
 .br (decide (y0.1<(0:Int))) (
 .ni (v9 - (1:Int)) <|
 .ni (v9 - (1:Int)) <|
 .nb (v9 - (1:Int)) ((bB:Nat):Int) <|
 .nd (decide (((0:Nat)+(Int.toNat (v9 - (1:Int))))<(b0).length)) <|
 .nb v9 ((bB:Nat):Int) <|
 .nd (decide (((0:Nat)+(Int.toNat v9))<(b0).length)) <|
 .nb v9 ((bB:Nat):Int) <|
 .nd (decide (((0:Nat)+(Int.toNat v9))<(b0).length)) <|
 .nb (v9 - (1:Int)) ((bB:Nat):Int) <|
 .nd (decide (((0:Nat)+(Int.toNat (v9 - (1:Int))))<(((b0).set ((0:Nat)+(Int.toNat v9)) (((((b0).getD ((0:Nat)+(Int.toNat (v9 - (1:Int)))) ((((0:Int),(0:Int)),(0:Int),(0:Int)),(0:Int))).1.1.1,((b0).getD ((0:Nat)+(Int.toNat (v9 - (1:Int)))) ((((0:Int),(0:Int)),(0:Int),(0:Int)),(0:Int))).1.1.2),((b0).getD ((0:Nat)+(Int.toNat (v9 - (1:Int)))) ((((0:Int),(0:Int)),(0:Int),(0:Int)),(0:Int))).1.2.1,((b0).getD ((0:Nat)+(Int.toNat (v9 - (1:Int)))) ((((0:Int),(0:Int)),(0:Int),(0:Int)),(0:Int))).1.2.2),((b0).getD ((0:Nat)+(Int.toNat (v9 - (1:Int)))) ((((0:Int),(0:Int)),(0:Int),(0:Int)),(0:Int))).2))).length)) <|
 .ni (v9 - (1:Int)) <|
 .ret (.inl (bB,v1,v2,v8,(v9 - (1:Int)),((((b0).set ((0:Nat)+(Int.toNat v9)) (((((b0).getD ((0:Nat)+(Int.toNat (v9 - (1:Int)))) ((((0:Int),(0:Int)),(0:Int),(0:Int)),(0:Int))).1.1.1,((b0).getD ((0:Nat)+(Int.toNat (v9 - (1:Int)))) ((((0:Int),(0:Int)),(0:Int),(0:Int)),(0:Int))).1.1.2),((b0).getD ((0:Nat)+(Int.toNat (v9 - (1:Int)))) ((((0:Int),(0:Int)),(0:Int),(0:Int)),(0:Int))).1.2.1,((b0).getD ((0:Nat)+(Int.toNat (v9 - (1:Int)))) ((((0:Int),(0:Int)),(0:Int),(0:Int)),(0:Int))).1.2.2),((b0).getD ((0:Nat)+(Int.toNat (v9 - (1:Int)))) ((((0:Int),(0:Int)),(0:Int),(0:Int)),(0:Int))).2))).set ((0:Nat)+(Int.toNat (v9 - (1:Int)))) (((((b0).getD ((0:Nat)+(Int.toNat v9)) ((((0:Int),(0:Int)),(0:Int),(0:Int)),(0:Int))).1.1.1,((b0).getD ((0:Nat)+(Int.toNat v9)) ((((0:Int),(0:Int)),(0:Int),(0:Int)),(0:Int))).1.1.2),((b0).getD ((0:Nat)+(Int.toNat v9)) ((((0:Int),(0:Int)),(0:Int),(0:Int)),(0:Int))).1.2.1,((b0).getD ((0:Nat)+(Int.toNat v9)) ((((0:Int),(0:Int)),(0:Int),(0:Int)),(0:Int))).1.2.2),((b0).getD ((0:Nat)+(Int.toNat v9)) ((((0:Int),(0:Int)),(0:Int),(0:Int)),(0:Int))).2)),()))) (
 .ret (.inr (bB,v1,v2,v8,b0,())))) (
 .ret (.inr (bB,v1,v2,v8,b0,())))
noncomputable def D8:bp prog 53 none 1:=aR mixed sD kO [0] rfl D5 D6 rfl (D7) (fun x=>ag (gH64_v1_1 x)) (fun x=>by kernel_rfl)
@[reducible] def D9:aC:=aC.mk [(0,.c (.bO 0 (.prod (.prod (.prod tI tI) (.prod tI tI)) tI))),(1,hI),(2,hI),(3,.c (.fn0 42)),(8,hI)] [(0,.arr (.prod (.prod (.prod tI tI) (.prod tI tI)) tI) false)] [] []
@[reducible] def Ea:aX:=[(.exit 0,aC.mk [] [(0,.arr (.prod (.prod (.prod tI tI) (.prod tI tI)) tI) false)] [] [])]
noncomputable def Eb:D prog 53 none 1:=dO [.l D8] (pick (kd prog f64) [(0,false)]) 0
noncomputable def gH64_v1_0:Nat×Int×Int×Int×(List (((Int×Int)×Int×Int)×Int))×Unit->bJ ((Nat×Int×Int×Int×(List (((Int×Int)×Int×Int)×Int))×Unit) ⊕ (((List (((Int×Int)×Int×Int)×Int))×Unit))):=fun (bB,v1,v2,v8,b0,_) =>
 .br (decide (v8<v2)) (
 .bd (.it gH64_v1_1 (bB,v1,v2,v8,v8,b0,())) fun z1 =>
 .ni (z1.2.2.2.1+(1:Int)) <|
 .ret (.inl (z1.1,z1.2.1,z1.2.2.1,(z1.2.2.2.1+(1:Int)),z1.2.2.2.2.1,()))) (
 .ret (.inr (b0,())))
noncomputable def Ec:bp prog 53 none 1:=aR mixed sD kO [0] rfl D9 Ea rfl (Eb) (fun x=>ag (gH64_v1_0 x)) (fun x=>by kernel_rfl)
noncomputable def yR:D prog 53 none 1:=dO [.l Ec] (kd prog f64) 0
noncomputable def FH64_v1 (bB:Nat) (v1:Int) (v2:Int) (b0:List (((Int×Int)×Int×Int)×Int)):bJ ((List (((Int×Int)×Int×Int)×Int))×Unit) :=
 .ni (v1+(1:Int)) <|
 .bd (.it gH64_v1_0 (bB,v1,v2,(v1+(1:Int)),b0,())) fun z2 =>
 .ret (z2.1,())
theorem AJ:cD prog f64=some ⟨53,4,yR.er,[],[]⟩:=by kernel_rfl
noncomputable def CD:Ht:=⟨64,My,Mz,(fun x=>ag (FH64_v1 x.1 x.2.1 x.2.2.1 x.2.2.2.1))⟩
theorem AK:CD.Ok prog:=eR mixed kO rfl func64 AJ (ai func64 rfl rfl) yR (by kernel_rfl) rfl rfl ⟨_,rfl⟩ rfl (pre:=[0]) rfl (fun x=>by kernel_rfl)

/- 75, lent -/
@[reducible] def MA:aC:=aC.mk [(0,.c (.bO 0 (.prod (.prod (.prod tI tI) (.prod tI tI)) tI))),(1,hI),(2,hI),(3,hI),(4,.c (.fn0 42))] [(0,.arr (.prod (.prod (.prod tI tI) (.prod tI tI)) tI) false)] [.slot 0] []
@[reducible] def MB:aC:=aC.mk [(0,.c .any)] [(0,.arr (.prod (.prod (.prod tI tI) (.prod tI tI)) tI) false)] [] []
noncomputable def yS:Cx:=(aN [WA] [])
theorem pK:yS.Ok prog:=au ⟨Mx,trivial⟩ trivial
@[reducible] def Ed:aC:=aC.mk [(0,.c (.bO 0 (.prod (.prod (.prod tI tI) (.prod tI tI)) tI))),(2,hI),(4,.c (.fn0 42)),(10,hI),(11,hI)] [(0,.arr (.prod (.prod (.prod tI tI) (.prod tI tI)) tI) false)] [] []
@[reducible] def Ee:aX:=[(.exit 0,aC.mk [(0,.c (.bO 0 (.prod (.prod (.prod tI tI) (.prod tI tI)) tI))),(2,hI),(4,.c (.fn0 42)),(10,hI)] [(0,.arr (.prod (.prod (.prod tI tI) (.prod tI tI)) tI) false)] [] [])]
noncomputable def Ef:D prog 58 none 1:=dO [] (pick (kd prog f75) [(0,false)]) 0
noncomputable def gH75_v1_0:Nat×Int×Int×Int×(List (((Int×Int)×Int×Int)×Int))×Unit->bJ ((Nat×Int×Int×Int×(List (((Int×Int)×Int×Int)×Int))×Unit) ⊕ ((Nat×Int×Int×(List (((Int×Int)×Int×Int)×Int))×Unit))):=fun (bB,v2,v10,v11,b0,_) =>
 .br (!(v10==v11)) (
 .br (decide (v11<v10)) (
 .ni (v2 - v10) <|
 .bd (F80 (((b0).drop (0:Nat)).take bB) (v2 - v10) v2 v11) fun y0 =>
 .ni (v10 - v11) <|
 .ret (.inl (bB,v2,(v10 - v11),v11,b0,()))) (
 .ni (v2 - v10) <|
 .ni (v2+v11) <|
 .ni ((v2+v11) - v10) <|
 .bd (F80 (((b0).drop (0:Nat)).take bB) (v2 - v10) ((v2+v11) - v10) v10) fun y1 =>
 .ni (v11 - v10) <|
 .ret (.inl (bB,v2,v10,(v11 - v10),b0,())))) (
 .ret (.inr (bB,v2,v10,b0,())))
noncomputable def Eg:bp prog 58 none 1:=aR mixed yS pK [0] rfl Ed Ee rfl (Ef) (fun x=>ag (gH75_v1_0 x)) (fun x=>by kernel_rfl)
noncomputable def yT:D prog 58 none 1:=dO [.l Eg] (kd prog f75) 0
noncomputable def FH75_v1 (bB:Nat) (v1:Int) (v2:Int) (v3:Int) (b0:List (((Int×Int)×Int×Int)×Int)):bJ ((List (((Int×Int)×Int×Int)×Int))×Unit) :=
 .ni (v2 - v1) <|
 .ni (v3 - v2) <|
 .bd (.it gH75_v1_0 (bB,v2,(v2 - v1),(v3 - v2),b0,())) fun z2 =>
 .ni (z2.2.1 - z2.2.2.1) <|
 .bd (F80 (((z2.2.2.2.1).drop (0:Nat)).take z2.1) (z2.2.1 - z2.2.2.1) z2.2.1 z2.2.2.1) fun y3 =>
 .ret (z2.2.2.2.1,())
theorem AL:cD prog f75=some ⟨58,5,yT.er,[],[]⟩:=by kernel_rfl
noncomputable def CE:Ht:=⟨75,MA,MB,(fun x=>ag (FH75_v1 x.1 x.2.1 x.2.2.1 x.2.2.2.1 x.2.2.2.2.1))⟩
theorem AN:CE.Ok prog:=eR mixed pK rfl func75 AL (ai func75 rfl rfl) yT (by kernel_rfl) rfl rfl ⟨_,rfl⟩ rfl (pre:=[0]) rfl (fun x=>by kernel_rfl)

/- 65, lent -/
@[reducible] def aL:aC:=aC.mk [(0,.c (.bO 0 (.prod (.prod (.prod tI tI) (.prod tI tI)) tI))),(1,hI),(2,hI),(3,hI),(4,.c (.fn0 42))] [(0,.arr (.prod (.prod (.prod tI tI) (.prod tI tI)) tI) false)] [.slot 0] []
@[reducible] def aM:aC:=aC.mk [(0,.c .any)] [(0,.arr (.prod (.prod (.prod tI tI) (.prod tI tI)) tI) false)] [] []
noncomputable def dR (rec:aL.T->Option aM.T):Cx:=(aN [Rh] [CE,⟨65,aL,aM,rec⟩])
theorem eW (rec:aL.T->Option aM.T) (h:Ht.Ok prog ⟨65,aL,aM,rec⟩):(dR rec).Ok prog:=au ⟨CB,trivial⟩ ⟨⟨AN,rfl⟩,⟨h,rfl⟩,trivial⟩
@[reducible] def oF:aC:=aC.mk [(0,.c (.bO 0 (.prod (.prod (.prod tI tI) (.prod tI tI)) tI))),(1,hI),(4,.c (.fn0 42)),(10,hI),(11,hI)] [(0,.arr (.prod (.prod (.prod tI tI) (.prod tI tI)) tI) false)] [] []
@[reducible] def oG:aX:=[(.exit 0,aC.mk [(0,.c (.bO 0 (.prod (.prod (.prod tI tI) (.prod tI tI)) tI))),(1,hI),(10,hI)] [(0,.arr (.prod (.prod (.prod tI tI) (.prod tI tI)) tI) false)] [] [])]
noncomputable def uK (rec:aL.T->Option aM.T) (h:Ht.Ok prog ⟨65,aL,aM,rec⟩):D prog 220 none 1:=dO [] (pick (kd prog f65) [(0,false)]) 0
noncomputable def gH65_v1_0:Nat×Int×Int×Int×(List (((Int×Int)×Int×Int)×Int))×Unit->Tr aL.T aM.T ((Nat×Int×Int×Int×(List (((Int×Int)×Int×Int)×Int))×Unit) ⊕ ((Nat×Int×Int×(List (((Int×Int)×Int×Int)×Int))×Unit))):=fun (bB,v1,v10,v11,b0,_) =>
 .br (decide (v10<v11)) (
 .ni (v10+v11) <|
 .nd (cS .u64 (v10+v11)) <|
 .nb (1:Int) (64:Int) <|
 .ni (bL.shr (v10+v11) (1:Int)) <|
 .nb (bL.shr (v10+v11) (1:Int)) ((bB:Nat):Int) <|
 .nd (decide (((0:Nat)+(Int.toNat (bL.shr (v10+v11) (1:Int))))<(b0).length)) <|
 .nb v1 ((bB:Nat):Int) <|
 .nd (decide (((0:Nat)+(Int.toNat v1))<(b0).length)) <|
 .bd (.up (F42 (((b0).getD ((0:Nat)+(Int.toNat (bL.shr (v10+v11) (1:Int)))) ((((0:Int),(0:Int)),(0:Int),(0:Int)),(0:Int))).1.1.1,((b0).getD ((0:Nat)+(Int.toNat (bL.shr (v10+v11) (1:Int)))) ((((0:Int),(0:Int)),(0:Int),(0:Int)),(0:Int))).1.1.2,((b0).getD ((0:Nat)+(Int.toNat (bL.shr (v10+v11) (1:Int)))) ((((0:Int),(0:Int)),(0:Int),(0:Int)),(0:Int))).1.2.1,((b0).getD ((0:Nat)+(Int.toNat (bL.shr (v10+v11) (1:Int)))) ((((0:Int),(0:Int)),(0:Int),(0:Int)),(0:Int))).1.2.2,((b0).getD ((0:Nat)+(Int.toNat (bL.shr (v10+v11) (1:Int)))) ((((0:Int),(0:Int)),(0:Int),(0:Int)),(0:Int))).2) (((b0).getD ((0:Nat)+(Int.toNat v1)) ((((0:Int),(0:Int)),(0:Int),(0:Int)),(0:Int))).1.1.1,((b0).getD ((0:Nat)+(Int.toNat v1)) ((((0:Int),(0:Int)),(0:Int),(0:Int)),(0:Int))).1.1.2,((b0).getD ((0:Nat)+(Int.toNat v1)) ((((0:Int),(0:Int)),(0:Int),(0:Int)),(0:Int))).1.2.1,((b0).getD ((0:Nat)+(Int.toNat v1)) ((((0:Int),(0:Int)),(0:Int),(0:Int)),(0:Int))).1.2.2,((b0).getD ((0:Nat)+(Int.toNat v1)) ((((0:Int),(0:Int)),(0:Int),(0:Int)),(0:Int))).2))) fun y0 =>
 .br (decide (y0.1<(0:Int))) (
 .ni ((bL.shr (v10+v11) (1:Int))+(1:Int)) <|
 .ret (.inl (bB,v1,((bL.shr (v10+v11) (1:Int))+(1:Int)),v11,b0,()))) (
 .ret (.inl (bB,v1,v10,(bL.shr (v10+v11) (1:Int)),b0,())))) (
 .ret (.inr (bB,v1,v10,b0,())))
theorem Eh (rec:aL.T->Option aM.T) (h:Ht.Ok prog ⟨65,aL,aM,rec⟩):∀x,jG (gv (oF.T ⊕ oG.T)) (dR rec) bL [0] oF oG (uK rec h) (fun y=>some (.inl y)) (fun b=>some (.inr b)) x=run rec (gH65_v1_0 x):=fun x=>by kernel_rfl
noncomputable def Ei (rec:aL.T->Option aM.T) (h:Ht.Ok prog ⟨65,aL,aM,rec⟩):bp prog 220 none 1:=aR mixed (dR rec) (eW rec h) [0] rfl oF oG rfl (uK rec h) (fun x=>run rec (gH65_v1_0 x)) (Eh rec h)
@[reducible] def oH:aC:=aC.mk [(0,.c (.bO 0 (.prod (.prod (.prod tI tI) (.prod tI tI)) tI))),(10,hI),(13,hI)] [(0,.arr (.prod (.prod (.prod tI tI) (.prod tI tI)) tI) false)] [] []
@[reducible] def oI:aX:=[(.exit 2,aC.mk [] [(0,.arr (.prod (.prod (.prod tI tI) (.prod tI tI)) tI) false)] [] [])]
noncomputable def uL (rec:aL.T->Option aM.T) (h:Ht.Ok prog ⟨65,aL,aM,rec⟩):D prog 220 none 1:=dO [] (pick (kd prog f65) [(1,false)]) 0
noncomputable def gH65_v1_1:Nat×Int×Int×(List (((Int×Int)×Int×Int)×Int))×Unit->Tr aL.T aM.T ((Nat×Int×Int×(List (((Int×Int)×Int×Int)×Int))×Unit) ⊕ (((List (((Int×Int)×Int×Int)×Int))×Unit))):=fun (bB,v10,c8,b0,_) =>
 .ni (v10 - (1:Int)) <|
 .br (decide (c8<(v10 - (1:Int)))) (
 .ni (c8+(1:Int)) <|
 .ni (c8+(1:Int)) <|
 .nb (c8+(1:Int)) ((bB:Nat):Int) <|
 .nd (decide (((0:Nat)+(Int.toNat (c8+(1:Int))))<(b0).length)) <|
 .nb c8 ((bB:Nat):Int) <|
 .nd (decide (((0:Nat)+(Int.toNat c8))<(b0).length)) <|
 .nb c8 ((bB:Nat):Int) <|
 .nd (decide (((0:Nat)+(Int.toNat c8))<(b0).length)) <|
 .nb (c8+(1:Int)) ((bB:Nat):Int) <|
 .nd (decide (((0:Nat)+(Int.toNat (c8+(1:Int))))<(((b0).set ((0:Nat)+(Int.toNat c8)) (((((b0).getD ((0:Nat)+(Int.toNat (c8+(1:Int)))) ((((0:Int),(0:Int)),(0:Int),(0:Int)),(0:Int))).1.1.1,((b0).getD ((0:Nat)+(Int.toNat (c8+(1:Int)))) ((((0:Int),(0:Int)),(0:Int),(0:Int)),(0:Int))).1.1.2),((b0).getD ((0:Nat)+(Int.toNat (c8+(1:Int)))) ((((0:Int),(0:Int)),(0:Int),(0:Int)),(0:Int))).1.2.1,((b0).getD ((0:Nat)+(Int.toNat (c8+(1:Int)))) ((((0:Int),(0:Int)),(0:Int),(0:Int)),(0:Int))).1.2.2),((b0).getD ((0:Nat)+(Int.toNat (c8+(1:Int)))) ((((0:Int),(0:Int)),(0:Int),(0:Int)),(0:Int))).2))).length)) <|
 .ni (c8+(1:Int)) <|
 .ret (.inl (bB,v10,(c8+(1:Int)),((((b0).set ((0:Nat)+(Int.toNat c8)) (((((b0).getD ((0:Nat)+(Int.toNat (c8+(1:Int)))) ((((0:Int),(0:Int)),(0:Int),(0:Int)),(0:Int))).1.1.1,((b0).getD ((0:Nat)+(Int.toNat (c8+(1:Int)))) ((((0:Int),(0:Int)),(0:Int),(0:Int)),(0:Int))).1.1.2),((b0).getD ((0:Nat)+(Int.toNat (c8+(1:Int)))) ((((0:Int),(0:Int)),(0:Int),(0:Int)),(0:Int))).1.2.1,((b0).getD ((0:Nat)+(Int.toNat (c8+(1:Int)))) ((((0:Int),(0:Int)),(0:Int),(0:Int)),(0:Int))).1.2.2),((b0).getD ((0:Nat)+(Int.toNat (c8+(1:Int)))) ((((0:Int),(0:Int)),(0:Int),(0:Int)),(0:Int))).2))).set ((0:Nat)+(Int.toNat (c8+(1:Int)))) (((((b0).getD ((0:Nat)+(Int.toNat c8)) ((((0:Int),(0:Int)),(0:Int),(0:Int)),(0:Int))).1.1.1,((b0).getD ((0:Nat)+(Int.toNat c8)) ((((0:Int),(0:Int)),(0:Int),(0:Int)),(0:Int))).1.1.2),((b0).getD ((0:Nat)+(Int.toNat c8)) ((((0:Int),(0:Int)),(0:Int),(0:Int)),(0:Int))).1.2.1,((b0).getD ((0:Nat)+(Int.toNat c8)) ((((0:Int),(0:Int)),(0:Int),(0:Int)),(0:Int))).1.2.2),((b0).getD ((0:Nat)+(Int.toNat c8)) ((((0:Int),(0:Int)),(0:Int),(0:Int)),(0:Int))).2)),()))) (
 .ret (.inr (b0,())))
theorem Ej (rec:aL.T->Option aM.T) (h:Ht.Ok prog ⟨65,aL,aM,rec⟩):∀x,jG (gv (oH.T ⊕ oI.T)) (dR rec) bL [0] oH oI (uL rec h) (fun y=>some (.inl y)) (fun b=>some (.inr b)) x=run rec (gH65_v1_1 x):=fun x=>by kernel_rfl
noncomputable def Ek (rec:aL.T->Option aM.T) (h:Ht.Ok prog ⟨65,aL,aM,rec⟩):bp prog 220 none 1:=aR mixed (dR rec) (eW rec h) [0] rfl oH oI rfl (uL rec h) (fun x=>run rec (gH65_v1_1 x)) (Ej rec h)
@[reducible] def oJ:aC:=aC.mk [(0,.c (.bO 0 (.prod (.prod (.prod tI tI) (.prod tI tI)) tI))),(2,hI),(4,.c (.fn0 42)),(14,hI),(15,hI)] [(0,.arr (.prod (.prod (.prod tI tI) (.prod tI tI)) tI) false)] [] []
@[reducible] def oK:aX:=[(.exit 4,aC.mk [(0,.c (.bO 0 (.prod (.prod (.prod tI tI) (.prod tI tI)) tI))),(2,hI),(14,hI)] [(0,.arr (.prod (.prod (.prod tI tI) (.prod tI tI)) tI) false)] [] [])]
noncomputable def uM (rec:aL.T->Option aM.T) (h:Ht.Ok prog ⟨65,aL,aM,rec⟩):D prog 220 none 1:=dO [] (pick (kd prog f65) [(2,false)]) 0
noncomputable def gH65_v1_2:Nat×Int×Int×Int×(List (((Int×Int)×Int×Int)×Int))×Unit->Tr aL.T aM.T ((Nat×Int×Int×Int×(List (((Int×Int)×Int×Int)×Int))×Unit) ⊕ ((Nat×Int×Int×(List (((Int×Int)×Int×Int)×Int))×Unit))):=fun (bB,v2,jW,cK,b0,_) =>
 .br (decide (jW<cK)) (
 .ni (jW+cK) <|
 .nd (cS .u64 (jW+cK)) <|
 .nb (1:Int) (64:Int) <|
 .ni (bL.shr (jW+cK) (1:Int)) <|
 .nb v2 ((bB:Nat):Int) <|
 .nd (decide (((0:Nat)+(Int.toNat v2))<(b0).length)) <|
 .nb (bL.shr (jW+cK) (1:Int)) ((bB:Nat):Int) <|
 .nd (decide (((0:Nat)+(Int.toNat (bL.shr (jW+cK) (1:Int))))<(b0).length)) <|
 .bd (.up (F42 (((b0).getD ((0:Nat)+(Int.toNat v2)) ((((0:Int),(0:Int)),(0:Int),(0:Int)),(0:Int))).1.1.1,((b0).getD ((0:Nat)+(Int.toNat v2)) ((((0:Int),(0:Int)),(0:Int),(0:Int)),(0:Int))).1.1.2,((b0).getD ((0:Nat)+(Int.toNat v2)) ((((0:Int),(0:Int)),(0:Int),(0:Int)),(0:Int))).1.2.1,((b0).getD ((0:Nat)+(Int.toNat v2)) ((((0:Int),(0:Int)),(0:Int),(0:Int)),(0:Int))).1.2.2,((b0).getD ((0:Nat)+(Int.toNat v2)) ((((0:Int),(0:Int)),(0:Int),(0:Int)),(0:Int))).2) (((b0).getD ((0:Nat)+(Int.toNat (bL.shr (jW+cK) (1:Int)))) ((((0:Int),(0:Int)),(0:Int),(0:Int)),(0:Int))).1.1.1,((b0).getD ((0:Nat)+(Int.toNat (bL.shr (jW+cK) (1:Int)))) ((((0:Int),(0:Int)),(0:Int),(0:Int)),(0:Int))).1.1.2,((b0).getD ((0:Nat)+(Int.toNat (bL.shr (jW+cK) (1:Int)))) ((((0:Int),(0:Int)),(0:Int),(0:Int)),(0:Int))).1.2.1,((b0).getD ((0:Nat)+(Int.toNat (bL.shr (jW+cK) (1:Int)))) ((((0:Int),(0:Int)),(0:Int),(0:Int)),(0:Int))).1.2.2,((b0).getD ((0:Nat)+(Int.toNat (bL.shr (jW+cK) (1:Int)))) ((((0:Int),(0:Int)),(0:Int),(0:Int)),(0:Int))).2))) fun y3 =>
 .br (!(decide (y3.1<(0:Int)))) (
 .ni ((bL.shr (jW+cK) (1:Int))+(1:Int)) <|
 .ret (.inl (bB,v2,((bL.shr (jW+cK) (1:Int))+(1:Int)),cK,b0,()))) (
 .ret (.inl (bB,v2,jW,(bL.shr (jW+cK) (1:Int)),b0,())))) (
 .ret (.inr (bB,v2,jW,b0,())))
theorem El (rec:aL.T->Option aM.T) (h:Ht.Ok prog ⟨65,aL,aM,rec⟩):∀x,jG (gv (oJ.T ⊕ oK.T)) (dR rec) bL [0] oJ oK (uM rec h) (fun y=>some (.inl y)) (fun b=>some (.inr b)) x=run rec (gH65_v1_2 x):=fun x=>by kernel_rfl
noncomputable def Em (rec:aL.T->Option aM.T) (h:Ht.Ok prog ⟨65,aL,aM,rec⟩):bp prog 220 none 1:=aR mixed (dR rec) (eW rec h) [0] rfl oJ oK rfl (uM rec h) (fun x=>run rec (gH65_v1_2 x)) (El rec h)
@[reducible] def oL:aC:=aC.mk [(0,.c (.bO 0 (.prod (.prod (.prod tI tI) (.prod tI tI)) tI))),(14,hI),(17,hI)] [(0,.arr (.prod (.prod (.prod tI tI) (.prod tI tI)) tI) false)] [] []
@[reducible] def oM:aX:=[(.exit 6,aC.mk [] [(0,.arr (.prod (.prod (.prod tI tI) (.prod tI tI)) tI) false)] [] [])]
noncomputable def uN (rec:aL.T->Option aM.T) (h:Ht.Ok prog ⟨65,aL,aM,rec⟩):D prog 220 none 1:=dO [] (pick (kd prog f65) [(3,false)]) 0
noncomputable def gH65_v1_3:Nat×Int×Int×(List (((Int×Int)×Int×Int)×Int))×Unit->Tr aL.T aM.T ((Nat×Int×Int×(List (((Int×Int)×Int×Int)×Int))×Unit) ⊕ (((List (((Int×Int)×Int×Int)×Int))×Unit))):=fun (bB,jW,fC,b0,_) =>
 .br (decide (jW<fC)) (
 .ni (fC - (1:Int)) <|
 .ni (fC - (1:Int)) <|
 .nb (fC - (1:Int)) ((bB:Nat):Int) <|
 .nd (decide (((0:Nat)+(Int.toNat (fC - (1:Int))))<(b0).length)) <|
 .nb fC ((bB:Nat):Int) <|
 .nd (decide (((0:Nat)+(Int.toNat fC))<(b0).length)) <|
 .nb fC ((bB:Nat):Int) <|
 .nd (decide (((0:Nat)+(Int.toNat fC))<(b0).length)) <|
 .nb (fC - (1:Int)) ((bB:Nat):Int) <|
 .nd (decide (((0:Nat)+(Int.toNat (fC - (1:Int))))<(((b0).set ((0:Nat)+(Int.toNat fC)) (((((b0).getD ((0:Nat)+(Int.toNat (fC - (1:Int)))) ((((0:Int),(0:Int)),(0:Int),(0:Int)),(0:Int))).1.1.1,((b0).getD ((0:Nat)+(Int.toNat (fC - (1:Int)))) ((((0:Int),(0:Int)),(0:Int),(0:Int)),(0:Int))).1.1.2),((b0).getD ((0:Nat)+(Int.toNat (fC - (1:Int)))) ((((0:Int),(0:Int)),(0:Int),(0:Int)),(0:Int))).1.2.1,((b0).getD ((0:Nat)+(Int.toNat (fC - (1:Int)))) ((((0:Int),(0:Int)),(0:Int),(0:Int)),(0:Int))).1.2.2),((b0).getD ((0:Nat)+(Int.toNat (fC - (1:Int)))) ((((0:Int),(0:Int)),(0:Int),(0:Int)),(0:Int))).2))).length)) <|
 .ni (fC - (1:Int)) <|
 .ret (.inl (bB,jW,(fC - (1:Int)),((((b0).set ((0:Nat)+(Int.toNat fC)) (((((b0).getD ((0:Nat)+(Int.toNat (fC - (1:Int)))) ((((0:Int),(0:Int)),(0:Int),(0:Int)),(0:Int))).1.1.1,((b0).getD ((0:Nat)+(Int.toNat (fC - (1:Int)))) ((((0:Int),(0:Int)),(0:Int),(0:Int)),(0:Int))).1.1.2),((b0).getD ((0:Nat)+(Int.toNat (fC - (1:Int)))) ((((0:Int),(0:Int)),(0:Int),(0:Int)),(0:Int))).1.2.1,((b0).getD ((0:Nat)+(Int.toNat (fC - (1:Int)))) ((((0:Int),(0:Int)),(0:Int),(0:Int)),(0:Int))).1.2.2),((b0).getD ((0:Nat)+(Int.toNat (fC - (1:Int)))) ((((0:Int),(0:Int)),(0:Int),(0:Int)),(0:Int))).2))).set ((0:Nat)+(Int.toNat (fC - (1:Int)))) (((((b0).getD ((0:Nat)+(Int.toNat fC)) ((((0:Int),(0:Int)),(0:Int),(0:Int)),(0:Int))).1.1.1,((b0).getD ((0:Nat)+(Int.toNat fC)) ((((0:Int),(0:Int)),(0:Int),(0:Int)),(0:Int))).1.1.2),((b0).getD ((0:Nat)+(Int.toNat fC)) ((((0:Int),(0:Int)),(0:Int),(0:Int)),(0:Int))).1.2.1,((b0).getD ((0:Nat)+(Int.toNat fC)) ((((0:Int),(0:Int)),(0:Int),(0:Int)),(0:Int))).1.2.2),((b0).getD ((0:Nat)+(Int.toNat fC)) ((((0:Int),(0:Int)),(0:Int),(0:Int)),(0:Int))).2)),()))) (
 .ret (.inr (b0,())))
theorem Eo (rec:aL.T->Option aM.T) (h:Ht.Ok prog ⟨65,aL,aM,rec⟩):∀x,jG (gv (oL.T ⊕ oM.T)) (dR rec) bL [0] oL oM (uN rec h) (fun y=>some (.inl y)) (fun b=>some (.inr b)) x=run rec (gH65_v1_3 x):=fun x=>by kernel_rfl
noncomputable def Ep (rec:aL.T->Option aM.T) (h:Ht.Ok prog ⟨65,aL,aM,rec⟩):bp prog 220 none 1:=aR mixed (dR rec) (eW rec h) [0] rfl oL oM rfl (uN rec h) (fun x=>run rec (gH65_v1_3 x)) (Eo rec h)
@[reducible] def oN:aC:=aC.mk [(0,.c (.bO 0 (.prod (.prod (.prod tI tI) (.prod tI tI)) tI))),(1,hI),(2,hI),(3,hI),(4,.c (.fn0 42)),(18,hI),(19,hI),(20,hI),(21,hI),(22,hI)] [(0,.arr (.prod (.prod (.prod tI tI) (.prod tI tI)) tI) false)] [] []
@[reducible] def oO:aX:=[(.exit 8,aC.mk [(0,.c (.bO 0 (.prod (.prod (.prod tI tI) (.prod tI tI)) tI))),(1,hI),(2,hI),(3,hI),(4,.c (.fn0 42)),(18,hI),(19,hI),(20,hI)] [(0,.arr (.prod (.prod (.prod tI tI) (.prod tI tI)) tI) false)] [] [])]
noncomputable def uO (rec:aL.T->Option aM.T) (h:Ht.Ok prog ⟨65,aL,aM,rec⟩):D prog 220 none 1:=dO [] (pick (kd prog f65) [(4,false)]) 0
noncomputable def gH65_v1_4:Nat×Int×Int×Int×Int×Int×Int×Int×Int×(List (((Int×Int)×Int×Int)×Int))×Unit->Tr aL.T aM.T ((Nat×Int×Int×Int×Int×Int×Int×Int×Int×(List (((Int×Int)×Int×Int)×Int))×Unit) ⊕ ((Nat×Int×Int×Int×Int×Int×Int×(List (((Int×Int)×Int×Int)×Int))×Unit))):=fun (bB,v1,v2,v3,v18,v19,v20,jk,JD,b0,_) =>
 .br (decide (v20<jk)) (
 .ni (v20+jk) <|
 .nd (cS .u64 (v20+jk)) <|
 .nb (1:Int) (64:Int) <|
 .ni (bL.shr (v20+jk) (1:Int)) <|
 .ni (JD - (bL.shr (v20+jk) (1:Int))) <|
 .nb (JD - (bL.shr (v20+jk) (1:Int))) ((bB:Nat):Int) <|
 .nd (decide (((0:Nat)+(Int.toNat (JD - (bL.shr (v20+jk) (1:Int)))))<(b0).length)) <|
 .nb (bL.shr (v20+jk) (1:Int)) ((bB:Nat):Int) <|
 .nd (decide (((0:Nat)+(Int.toNat (bL.shr (v20+jk) (1:Int))))<(b0).length)) <|
 .bd (.up (F42 (((b0).getD ((0:Nat)+(Int.toNat (JD - (bL.shr (v20+jk) (1:Int))))) ((((0:Int),(0:Int)),(0:Int),(0:Int)),(0:Int))).1.1.1,((b0).getD ((0:Nat)+(Int.toNat (JD - (bL.shr (v20+jk) (1:Int))))) ((((0:Int),(0:Int)),(0:Int),(0:Int)),(0:Int))).1.1.2,((b0).getD ((0:Nat)+(Int.toNat (JD - (bL.shr (v20+jk) (1:Int))))) ((((0:Int),(0:Int)),(0:Int),(0:Int)),(0:Int))).1.2.1,((b0).getD ((0:Nat)+(Int.toNat (JD - (bL.shr (v20+jk) (1:Int))))) ((((0:Int),(0:Int)),(0:Int),(0:Int)),(0:Int))).1.2.2,((b0).getD ((0:Nat)+(Int.toNat (JD - (bL.shr (v20+jk) (1:Int))))) ((((0:Int),(0:Int)),(0:Int),(0:Int)),(0:Int))).2) (((b0).getD ((0:Nat)+(Int.toNat (bL.shr (v20+jk) (1:Int)))) ((((0:Int),(0:Int)),(0:Int),(0:Int)),(0:Int))).1.1.1,((b0).getD ((0:Nat)+(Int.toNat (bL.shr (v20+jk) (1:Int)))) ((((0:Int),(0:Int)),(0:Int),(0:Int)),(0:Int))).1.1.2,((b0).getD ((0:Nat)+(Int.toNat (bL.shr (v20+jk) (1:Int)))) ((((0:Int),(0:Int)),(0:Int),(0:Int)),(0:Int))).1.2.1,((b0).getD ((0:Nat)+(Int.toNat (bL.shr (v20+jk) (1:Int)))) ((((0:Int),(0:Int)),(0:Int),(0:Int)),(0:Int))).1.2.2,((b0).getD ((0:Nat)+(Int.toNat (bL.shr (v20+jk) (1:Int)))) ((((0:Int),(0:Int)),(0:Int),(0:Int)),(0:Int))).2))) fun y7 =>
 .br (!(decide (y7.1<(0:Int)))) (
 .ni ((bL.shr (v20+jk) (1:Int))+(1:Int)) <|
 .ret (.inl (bB,v1,v2,v3,v18,v19,((bL.shr (v20+jk) (1:Int))+(1:Int)),jk,JD,b0,()))) (
 .ret (.inl (bB,v1,v2,v3,v18,v19,v20,(bL.shr (v20+jk) (1:Int)),JD,b0,())))) (
 .ret (.inr (bB,v1,v2,v3,v18,v19,v20,b0,())))
theorem Er (rec:aL.T->Option aM.T) (h:Ht.Ok prog ⟨65,aL,aM,rec⟩):∀x,jG (gv (oN.T ⊕ oO.T)) (dR rec) bL [0] oN oO (uO rec h) (fun y=>some (.inl y)) (fun b=>some (.inr b)) x=run rec (gH65_v1_4 x):=fun x=>by kernel_rfl
noncomputable def Es (rec:aL.T->Option aM.T) (h:Ht.Ok prog ⟨65,aL,aM,rec⟩):bp prog 220 none 1:=aR mixed (dR rec) (eW rec h) [0] rfl oN oO rfl (uO rec h) (fun x=>run rec (gH65_v1_4 x)) (Er rec h)
noncomputable def yU (rec:aL.T->Option aM.T) (h:Ht.Ok prog ⟨65,aL,aM,rec⟩):D prog 220 none 1:=dO [.l (Ei rec h),.l (Ek rec h),.l (Em rec h),.l (Ep rec h),.l (Es rec h)] (kd prog f65) 0
noncomputable def FH65_v1 (bB:Nat) (v1:Int) (v2:Int) (v3:Int) (b0:List (((Int×Int)×Int×Int)×Int)):Tr aL.T aM.T ((List (((Int×Int)×Int×Int)×Int))×Unit) :=
 .ni (v2 - v1) <|
 .br ((v2 - v1)==(1:Int)) (
 .bd (.it gH65_v1_0 (bB,v1,v2,v3,b0,())) fun z1 =>
 .bd (.it gH65_v1_1 (z1.1,z1.2.2.1,z1.2.1,z1.2.2.2.1,())) fun z2 =>
 .ret (z2.1,())) (
 .ni (v3 - v2) <|
 .br ((v3 - v2)==(1:Int)) (
 .bd (.it gH65_v1_2 (bB,v2,v1,v2,b0,())) fun z4 =>
 .bd (.it gH65_v1_3 (z4.1,z4.2.2.1,z4.2.1,z4.2.2.2.1,())) fun z5 =>
 .ret (z5.1,())) (
 .ni (v1+v3) <|
 .nd (cS .u64 (v1+v3)) <|
 .nb (1:Int) (64:Int) <|
 .ni (bL.shr (v1+v3) (1:Int)) <|
 .ni ((bL.shr (v1+v3) (1:Int))+v2) <|
 .jx (
 .br (decide ((bL.shr (v1+v3) (1:Int))<v2)) (
 .ni (((bL.shr (v1+v3) (1:Int))+v2) - v3) <|
 .ret (.inl (bB,v1,v2,v3,(bL.shr (v1+v3) (1:Int)),((bL.shr (v1+v3) (1:Int))+v2),(((bL.shr (v1+v3) (1:Int))+v2) - v3),(bL.shr (v1+v3) (1:Int)),b0,()))) (
 .ret (.inl (bB,v1,v2,v3,(bL.shr (v1+v3) (1:Int)),((bL.shr (v1+v3) (1:Int))+v2),v1,v2,b0,())))) fun j6 =>
 .ni (j6.2.2.2.2.2.1 - (1:Int)) <|
 .bd (.it gH65_v1_4 (j6.1,j6.2.1,j6.2.2.1,j6.2.2.2.1,j6.2.2.2.2.1,j6.2.2.2.2.2.1,j6.2.2.2.2.2.2.1,j6.2.2.2.2.2.2.2.1,(j6.2.2.2.2.2.1 - (1:Int)),j6.2.2.2.2.2.2.2.2.1,())) fun z8 =>
 .ni (z8.2.2.2.2.2.1 - z8.2.2.2.2.2.2.1) <|
 .jx (
 .br (decide (z8.2.2.2.2.2.2.1<z8.2.2.1)) (
 .br (decide (z8.2.2.1<(z8.2.2.2.2.2.1 - z8.2.2.2.2.2.2.1))) (
 .bd (.up (FH75_v1 z8.1 z8.2.2.2.2.2.2.1 z8.2.2.1 (z8.2.2.2.2.2.1 - z8.2.2.2.2.2.2.1) z8.2.2.2.2.2.2.2.1)) fun y11 =>
 .ret (.inl (z8.1,z8.2.1,z8.2.2.2.1,z8.2.2.2.2.1,z8.2.2.2.2.2.2.1,(z8.2.2.2.2.2.1 - z8.2.2.2.2.2.2.1),y11.1,()))) (
 .ret (.inl (z8.1,z8.2.1,z8.2.2.2.1,z8.2.2.2.2.1,z8.2.2.2.2.2.2.1,(z8.2.2.2.2.2.1 - z8.2.2.2.2.2.2.1),z8.2.2.2.2.2.2.2.1,())))) (
 .ret (.inl (z8.1,z8.2.1,z8.2.2.2.1,z8.2.2.2.2.1,z8.2.2.2.2.2.2.1,(z8.2.2.2.2.2.1 - z8.2.2.2.2.2.2.1),z8.2.2.2.2.2.2.2.1,())))) fun sE =>
 .jx (
 .br (decide (sE.2.1<sE.2.2.2.2.1)) (
 .br (decide (sE.2.2.2.2.1<sE.2.2.2.1)) (
 .bd (.rc (sE.1,sE.2.1,sE.2.2.2.2.1,sE.2.2.2.1,sE.2.2.2.2.2.2.1,())) fun y14 =>
 .ret (.inl (sE.1,sE.2.2.1,sE.2.2.2.1,sE.2.2.2.2.2.1,y14.1,()))) (
 .ret (.inl (sE.1,sE.2.2.1,sE.2.2.2.1,sE.2.2.2.2.2.1,sE.2.2.2.2.2.2.1,())))) (
 .ret (.inl (sE.1,sE.2.2.1,sE.2.2.2.1,sE.2.2.2.2.2.1,sE.2.2.2.2.2.2.1,())))) fun nR =>
 .br (decide (nR.2.2.1<nR.2.2.2.1)) (
 .br (decide (nR.2.2.2.1<nR.2.1)) (
 .bd (.rc (nR.1,nR.2.2.1,nR.2.2.2.1,nR.2.1,nR.2.2.2.2.1,())) fun y15 =>
 .ret (y15.1,())) (
 .ret (nR.2.2.2.2.1,()))) (
 .ret (nR.2.2.2.2.1,()))))
theorem AO (rec:aL.T->Option aM.T) (h:Ht.Ok prog ⟨65,aL,aM,rec⟩):cD prog f65=some ⟨220,5,(yU rec h).er,[],[]⟩:=by kernel_rfl
theorem wI (rec:aL.T->Option aM.T) (h:Ht.Ok prog ⟨65,aL,aM,rec⟩):Ht.Ok prog ⟨65,aL,aM,(fun x=>run rec (FH65_v1 x.1 x.2.1 x.2.2.1 x.2.2.2.1 x.2.2.2.2.1))⟩:=eR mixed (eW rec h) rfl func65 (AO rec h) (ai func65 rfl rfl) (yU rec h) (by kernel_rfl) rfl rfl ⟨_,rfl⟩ rfl (pre:=[0]) rfl (fun x=>Eq.trans (b:=run rec (flat (FH65_v1 x.1 x.2.1 x.2.2.1 x.2.2.2.1 x.2.2.2.2.1))) (by kernel_rfl) kJ)
noncomputable def FH65_v1fix (bB:Nat) (v1:Int) (v2:Int) (v3:Int) (b0:List (((Int×Int)×Int×Int)×Int)):bJ ((List (((Int×Int)×Int×Int)×Int))×Unit):=.fx (A1:=aL.T) (B1:=aM.T) (fun x=>FH65_v1 x.1 x.2.1 x.2.2.1 x.2.2.2.1 x.2.2.2.2.1) (bB,v1,v2,v3,b0,())
noncomputable def CF:Ht:=⟨65,aL,aM,fun x=>ag (FH65_v1fix x.1 x.2.1 x.2.2.1 x.2.2.2.1 x.2.2.2.2.1)⟩
theorem AP:CF.Ok prog:=PC (F:=fun rec x=>run rec (FH65_v1 x.1 x.2.1 x.2.2.1 x.2.2.2.1 x.2.2.2.2.1)) (fun rec h=>wI rec h)

/- 57, lent -/
@[reducible] def MC:aC:=aC.mk [(0,.c (.bO 0 (.prod (.prod (.prod tI tI) (.prod tI tI)) tI))),(1,hI),(2,.c (.fn0 42))] [(0,.arr (.prod (.prod (.prod tI tI) (.prod tI tI)) tI) false)] [.slot 0] []
@[reducible] def MD:aC:=aC.mk [(0,.c .any)] [(0,.arr (.prod (.prod (.prod tI tI) (.prod tI tI)) tI) false)] [] []
noncomputable def nD:Cx:=(aN [] [CD,CF])
theorem iA:nD.Ok prog:=au trivial ⟨⟨AK,rfl⟩,⟨AP,rfl⟩,trivial⟩
@[reducible] def Et:aC:=aC.mk [(0,.c (.bO 0 (.prod (.prod (.prod tI tI) (.prod tI tI)) tI))),(1,hI),(2,.c (.fn0 42)),(6,hI),(7,hI),(8,hI)] [(0,.arr (.prod (.prod (.prod tI tI) (.prod tI tI)) tI) false)] [] []
@[reducible] def Eu:aX:=[(.exit 0,aC.mk [(0,.c (.bO 0 (.prod (.prod (.prod tI tI) (.prod tI tI)) tI))),(1,hI),(2,.c (.fn0 42)),(6,hI),(7,hI)] [(0,.arr (.prod (.prod (.prod tI tI) (.prod tI tI)) tI) false)] [] [])]
noncomputable def Ev:D prog 63 none 1:=dO [] (pick (kd prog f57) [(0,false)]) 0
noncomputable def gH57_v1_0:Nat×Int×Int×Int×Int×(List (((Int×Int)×Int×Int)×Int))×Unit->bJ ((Nat×Int×Int×Int×Int×(List (((Int×Int)×Int×Int)×Int))×Unit) ⊕ ((Nat×Int×Int×Int×(List (((Int×Int)×Int×Int)×Int))×Unit))):=fun (bB,v1,v6,v7,v8,b0,_) =>
 .br (decide (v8<=v1)) (
 .bd (FH64_v1 bB v7 v8 b0) fun y0 =>
 .ni (v8+v6) <|
 .ret (.inl (bB,v1,v6,v8,(v8+v6),y0.1,()))) (
 .ret (.inr (bB,v1,v6,v7,b0,())))
noncomputable def Ew:bp prog 63 none 1:=aR mixed nD iA [0] rfl Et Eu rfl (Ev) (fun x=>ag (gH57_v1_0 x)) (fun x=>by kernel_rfl)
@[reducible] def Ey:aC:=aC.mk [(0,.c (.bO 0 (.prod (.prod (.prod tI tI) (.prod tI tI)) tI))),(1,hI),(2,.c (.fn0 42)),(6,hI),(7,hI),(8,hI)] [(0,.arr (.prod (.prod (.prod tI tI) (.prod tI tI)) tI) false)] [] []
@[reducible] def Ez:aX:=[(.exit 4,aC.mk [(0,.c (.bO 0 (.prod (.prod (.prod tI tI) (.prod tI tI)) tI))),(1,hI),(2,.c (.fn0 42)),(6,hI),(7,hI)] [(0,.arr (.prod (.prod (.prod tI tI) (.prod tI tI)) tI) false)] [] [])]
noncomputable def EA:D prog 63 none 1:=dO [] (pick (kd prog f57) [(1,false),(0,false)]) 0
noncomputable def gH57_v1_2:Nat×Int×Int×Int×Int×(List (((Int×Int)×Int×Int)×Int))×Unit->bJ ((Nat×Int×Int×Int×Int×(List (((Int×Int)×Int×Int)×Int))×Unit) ⊕ ((Nat×Int×Int×Int×(List (((Int×Int)×Int×Int)×Int))×Unit))):=fun (bB,v1,v6,v7,v8,b0,_) =>
 .br (decide (v8<=v1)) (
 .ni (v7+v6) <|
 .bd (FH65_v1fix bB v7 (v7+v6) v8 b0) fun y3 =>
 .ni ((2:Int) * v6) <|
 .ni (v8+((2:Int) * v6)) <|
 .ret (.inl (bB,v1,v6,v8,(v8+((2:Int) * v6)),y3.1,()))) (
 .ret (.inr (bB,v1,v6,v7,b0,())))
noncomputable def EB:bp prog 63 none 1:=aR mixed nD iA [0] rfl Ey Ez rfl (EA) (fun x=>ag (gH57_v1_2 x)) (fun x=>by kernel_rfl)
@[reducible] def EC:aC:=aC.mk [(0,.c (.bO 0 (.prod (.prod (.prod tI tI) (.prod tI tI)) tI))),(1,hI),(2,.c (.fn0 42)),(6,hI)] [(0,.arr (.prod (.prod (.prod tI tI) (.prod tI tI)) tI) false)] [] []
@[reducible] def ED:aX:=[(.exit 2,aC.mk [] [(0,.arr (.prod (.prod (.prod tI tI) (.prod tI tI)) tI) false)] [] [])]
noncomputable def EF:D prog 63 none 1:=dO [.l EB] (pick (kd prog f57) [(1,false)]) 0
noncomputable def gH57_v1_1:Nat×Int×Int×(List (((Int×Int)×Int×Int)×Int))×Unit->bJ ((Nat×Int×Int×(List (((Int×Int)×Int×Int)×Int))×Unit) ⊕ (((List (((Int×Int)×Int×Int)×Int))×Unit))):=fun (bB,v1,v6,b0,_) =>
 .br (decide (v6<v1)) (
 .ni ((2:Int) * v6) <|
 .bd (.it gH57_v1_2 (bB,v1,v6,(0:Int),((2:Int) * v6),b0,())) fun z4 =>
 .ni (z4.2.2.2.1+z4.2.2.1) <|
 .br (decide ((z4.2.2.2.1+z4.2.2.1)<z4.2.1)) (
 .bd (FH65_v1fix z4.1 z4.2.2.2.1 (z4.2.2.2.1+z4.2.2.1) z4.2.1 z4.2.2.2.2.1) fun y5 =>
 .ni (z4.2.2.1 * (2:Int)) <|
 .ret (.inl (z4.1,z4.2.1,(z4.2.2.1 * (2:Int)),y5.1,()))) (
 .ni (z4.2.2.1 * (2:Int)) <|
 .ret (.inl (z4.1,z4.2.1,(z4.2.2.1 * (2:Int)),z4.2.2.2.2.1,())))) (
 .ret (.inr (b0,())))
noncomputable def EG:bp prog 63 none 1:=aR mixed nD iA [0] rfl EC ED rfl (EF) (fun x=>ag (gH57_v1_1 x)) (fun x=>by kernel_rfl)
noncomputable def yV:D prog 63 none 1:=dO [.l Ew,.l EG] (kd prog f57) 0
noncomputable def FH57_v1 (bB:Nat) (v1:Int) (b0:List (((Int×Int)×Int×Int)×Int)):bJ ((List (((Int×Int)×Int×Int)×Int))×Unit) :=
 .bd (.it gH57_v1_0 (bB,v1,(20:Int),(0:Int),(20:Int),b0,())) fun z1 =>
 .bd (FH64_v1 z1.1 z1.2.2.2.1 z1.2.1 z1.2.2.2.2.1) fun y2 =>
 .bd (.it gH57_v1_1 (z1.1,z1.2.1,z1.2.2.1,y2.1,())) fun z6 =>
 .ret (z6.1,())
theorem AQ:cD prog f57=some ⟨63,3,yV.er,[],[]⟩:=by kernel_rfl
noncomputable def CG:Ht:=⟨57,MC,MD,(fun x=>ag (FH57_v1 x.1 x.2.1 x.2.2.1))⟩
theorem AR:CG.Ok prog:=eR mixed iA rfl func57 AQ (ai func57 rfl rfl) yV (by kernel_rfl) rfl rfl ⟨_,rfl⟩ rfl (pre:=[0]) rfl (fun x=>by kernel_rfl)

/- 41, lent -/
@[reducible] def ME:aC:=aC.mk [(0,.c (.bO 0 (.prod (.prod (.prod tI tI) (.prod tI tI)) tI))),(1,.c (.fn0 42))] [(0,.arr (.prod (.prod (.prod tI tI) (.prod tI tI)) tI) false)] [.slot 0] []
@[reducible] def MF:aC:=aC.mk [(0,.c .any)] [(0,.arr (.prod (.prod (.prod tI tI) (.prod tI tI)) tI) false)] [] []
noncomputable def Ip:Cx:=(aN [] [CG])
theorem yW:Ip.Ok prog:=au trivial ⟨⟨AR,rfl⟩,trivial⟩
noncomputable def yX:D prog 9 none 1:=dO [] (kd prog f41) 0
noncomputable def FH41_v1 (bB:Nat) (b0:List (((Int×Int)×Int×Int)×Int)):bJ ((List (((Int×Int)×Int×Int)×Int))×Unit) :=
 .bd (FH57_v1 bB ((bB:Nat):Int) b0) fun y0 =>
 .ret (y0.1,())
theorem AS:cD prog f41=some ⟨9,2,yX.er,[],[]⟩:=by kernel_rfl
noncomputable def CH:Ht:=⟨41,ME,MF,(fun x=>ag (FH41_v1 x.1 x.2.1))⟩
theorem AU:CH.Ok prog:=eR mixed yW rfl func41 AS (ai func41 rfl rfl) yX (by kernel_rfl) rfl rfl ⟨_,rfl⟩ rfl (pre:=[0]) rfl (fun x=>by kernel_rfl)

/- 46, lent -/
@[reducible] def MG:aC:=aC.mk [(0,.c (.bO 0 (.prod tI tI)))] [(0,.arr (.prod tI tI) true)] [.slot 0] []
@[reducible] def MH:aC:=aC.mk [(0,.c (.bO 1 (.prod tI tI)))] [(1,.arr (.prod tI tI) false),(0,.arr (.prod tI tI) true)] [.slot 0] []
noncomputable def Iq:Cx:=(aN [] [])
theorem yY:Iq.Ok prog:=au trivial trivial
noncomputable def yZ:D prog 8 none 1:=dO [] (kd prog f46) 0
noncomputable def FH46_v1 (bB:Nat) (b0:List (Int×Int)):bJ (Nat×(List (Int×Int))×(List (Int×Int))×Unit) :=
 .br (((bB:Nat):Int)==(0:Int)) (
 .am inferInstance (
 .ret ((0:Nat),[],b0,())) (
 .nd (decide (((0:Nat)+((((b0).drop (0:Nat)).take bB)).length)<bU)) <|
 .ret (((0:Nat)+((((b0).drop (0:Nat)).take bB)).length),(((([]).drop (0:Nat)).take (0:Nat))++(((b0).drop (0:Nat)).take bB)),b0,()))) (
 .nd (decide (((0:Nat)+((((b0).drop (0:Nat)).take bB)).length)<bU)) <|
 .ret (((0:Nat)+((((b0).drop (0:Nat)).take bB)).length),(((([]).drop (0:Nat)).take (0:Nat))++(((b0).drop (0:Nat)).take bB)),b0,()))
theorem AV:cD prog f46=some ⟨8,1,yZ.er,[.t 2],[some (.list (.prod tI tI))]⟩:=by kernel_rfl
noncomputable def CI:Ht:=⟨46,MG,MH,(fun x=>ag (FH46_v1 x.1 x.2.1))⟩
theorem AW:CI.Ok prog:=eR mixed yY rfl func46 AV (ai func46 rfl rfl) yZ (by kernel_rfl) rfl rfl ⟨_,rfl⟩ rfl (pre:=[0]) rfl (fun x=>by kernel_rfl)

/- 16 -/
noncomputable def EH:Cx:=(aN [Mq,Mt,D3,Rf,D4] [CH,CI])
theorem nE:EH.Ok prog:=au ⟨wG,wH,nB,CA,nC,trivial⟩ ⟨⟨AU,rfl⟩,⟨AW,rfl⟩,trivial⟩
noncomputable def Ir:D prog 144 (some 7) 27:=dO [] (pick (kd prog f16) [(0,false),(0,false)]) 0
noncomputable def It:D prog 144 (some 7) 27:=dO [] (pick (kd prog f16) [(0,false),(0,true)]) 0
noncomputable def wJ:Cx:=DO EH (fun kz=>Pz kz EH bL 7 27 [35] (Ir) (It))
theorem sF:(wJ).Ok prog:=nr nE (fun h=>sg mixed nE h)
@[reducible] def Iu:aC:=aC.mk [(0,.c (.yl 7)),(1,.c (.bR (.list (.prod tI tI)))),(5,.c (.hole (.list (.prod tI tI)))),(6,hI),(7,hI)] [(7,.loop .ready none 6 [(2,.c (.ptr 0 0)),(3,.c (.ptr 1 0)),(4,.c (.ptr 2 0)),(5,.c (.bO 3 (.prod tI tI))),(6,.c (.ptr 4 0)),(15,.c (.hole (.list (.list (.prod tI tI))))),(16,hI),(17,hI),(34,.fn 47 [] [.bR (.list (.prod tI tI))])] [35] (.dg [.op (some 8) none (.alloc [.int .i64 (Int.ofNat 0),.int .i64 (Int.ofNat 0),.int .i64 (Int.ofNat 0),.int .i64 (Int.ofNat 0)]),.op none none (.store 4 (.t 8) (.t 35))]) (.block 3 (.dg [.op (some 36) none (.load false 1 (.t 3)),.op (some 37) none (.load true 4 (.t 8)),.op (some 38) none (.load false 1 (.t 6)),.op (some 39) none (.build [.int .i64 (Int.ofNat 0),.int .i64 (Int.ofNat 0),.int .i64 (Int.ofNat 0),.int .i64 (Int.ofNat 0),.int .i64 (Int.ofNat 0)] [(0,4,.t 37),(4,1,.t 38)]),.op (some 40) none (.dy (.prod (.prod (.prod tI tI) (.prod tI tI)) tI) [.t 39]),.op (some 41) none (.append 5 (.t 36) (.t 40)),.op none none (.store 1 (.t 3) (.t 41))])) 144),(6,.gi),(0,.cells [.bK,.bK] false),(1,.cells [.bO 8 (.prod (.prod (.prod tI tI) (.prod tI tI)) tI)] false),(2,.cells [.hole tI,.hole tI] false),(3,.arr (.prod tI tI) false),(4,.cells [.hole tI] false),(8,.arr (.prod (.prod (.prod tI tI) (.prod tI tI)) tI) false)] [.cell 1 0] []
@[reducible] def Iv:aX:=[(.exit 0,aC.mk [] [(0,.cells [.bK,.bK] false),(1,.cells [.bO 8 (.prod (.prod (.prod tI tI) (.prod tI tI)) tI)] false),(2,.cells [.hole tI,.hole tI] false),(4,.cells [.hole tI] false),(6,.gi),(7,.loop .ready none 6 [(2,.c (.ptr 0 0)),(3,.c (.ptr 1 0)),(4,.c (.ptr 2 0)),(5,.c (.bO 3 (.prod tI tI))),(6,.c (.ptr 4 0)),(15,.c (.hole (.list (.list (.prod tI tI))))),(16,hI),(17,hI),(34,.fn 47 [] [.bR (.list (.prod tI tI))])] [35] (.dg [.op (some 8) none (.alloc [.int .i64 (Int.ofNat 0),.int .i64 (Int.ofNat 0),.int .i64 (Int.ofNat 0),.int .i64 (Int.ofNat 0)]),.op none none (.store 4 (.t 8) (.t 35))]) (.block 3 (.dg [.op (some 36) none (.load false 1 (.t 3)),.op (some 37) none (.load true 4 (.t 8)),.op (some 38) none (.load false 1 (.t 6)),.op (some 39) none (.build [.int .i64 (Int.ofNat 0),.int .i64 (Int.ofNat 0),.int .i64 (Int.ofNat 0),.int .i64 (Int.ofNat 0),.int .i64 (Int.ofNat 0)] [(0,4,.t 37),(4,1,.t 38)]),.op (some 40) none (.dy (.prod (.prod (.prod tI tI) (.prod tI tI)) tI) [.t 39]),.op (some 41) none (.append 5 (.t 36) (.t 40)),.op none none (.store 1 (.t 3) (.t 41))])) 144),(3,.arr (.prod tI tI) false),(8,.arr (.prod (.prod (.prod tI tI) (.prod tI tI)) tI) false)] [.cell 1 0] [])]
noncomputable def Iw:D prog 33 none 8:=dO [] (pick (kd prog f47) [(0,false)]) 0
noncomputable def g16_1i_0:(List (Int×Int))×(List (Int×Int))×Int×Int×Nat×(List (List (Int×Int)))×Int×Int×(List (Int×Int))×Nat×Int×Int×(List (Int×Int))×Int×(List (((Int×Int)×Int×Int)×Int))×Unit->bJ (((List (Int×Int))×(List (Int×Int))×Int×Int×Nat×(List (List (Int×Int)))×Int×Int×(List (Int×Int))×Nat×Int×Int×(List (Int×Int))×Int×(List (((Int×Int)×Int×Int)×Int))×Unit) ⊕ ((Nat×Int×Int×Int×Nat×(List (List (Int×Int)))×Int×Int×(List (Int×Int))×(List (Int×Int))×(List (((Int×Int)×Int×Int)×Int))×Unit))):=fun (v1,v5,v6,v7,nw5,w15,w16,w17,Iy,cX,gV,oP,b3,mE,b8,_) =>
 .br (decide (v7<v6)) (
 .nb v7 (((v5).length:Nat):Int) <|
 .br (decide ((1:Int)<(((v1).length:Nat):Int))) (
 .ni (v7+(1:Int)) <|
 .nd (!((((v1).length:Nat):Int)==(0:Int))) <|
 .nb (Int.tmod (v7+(1:Int)) (((v1).length:Nat):Int)) (((v1).length:Nat):Int) <|
 .bd (F40 (((v1).getD (Int.toNat (Int.tmod (v7+(1:Int)) (((v1).length:Nat):Int))) ((0:Int),(0:Int))).1,((v1).getD (Int.toNat (Int.tmod (v7+(1:Int)) (((v1).length:Nat):Int))) ((0:Int),(0:Int))).2) (((v5).getD (Int.toNat v7) ((0:Int),(0:Int))).1,((v5).getD (Int.toNat v7) ((0:Int),(0:Int))).2)) fun y2 =>
 .nd (decide ((cX+((((((((((v5).getD (Int.toNat v7) ((0:Int),(0:Int))).1,((v5).getD (Int.toNat v7) ((0:Int),(0:Int))).2),y2.1.1,y2.1.2),mE)::[])).drop (0:Nat)).take (1:Nat))).length)<bU)) <|
 .ni (v7+(1:Int)) <|
 .ret (.inl (v1,v5,v6,(v7+(1:Int)),nw5,w15,w16,w17,Iy,(cX+((((((((((v5).getD (Int.toNat v7) ((0:Int),(0:Int))).1,((v5).getD (Int.toNat v7) ((0:Int),(0:Int))).2),y2.1.1,y2.1.2),mE)::[])).drop (0:Nat)).take (1:Nat))).length),gV,oP,b3,mE,((((b8).drop (0:Nat)).take cX)++(((((((((v5).getD (Int.toNat v7) ((0:Int),(0:Int))).1,((v5).getD (Int.toNat v7) ((0:Int),(0:Int))).2),y2.1.1,y2.1.2),mE)::[])).drop (0:Nat)).take (1:Nat))),()))) (
 .ni (v7+(1:Int)) <|
 .ret (.inl (v1,v5,v6,(v7+(1:Int)),nw5,w15,w16,w17,Iy,cX,gV,oP,b3,mE,b8,())))) (
 .ret (.inr (cX,gV,oP,mE,nw5,w15,w16,w17,Iy,b3,b8,())))
noncomputable def Iz:bp prog 33 none 8:=aR mixed wJ sF [0,1,2,3,4,5,6,7] rfl Iu Iv rfl (Iw) (fun x=>ag (g16_1i_0 x)) (fun x=>by kernel_rfl)
@[reducible] def WB:aC:=aC.mk [(2,.c (.ptr 0 0)),(3,.c (.ptr 1 0)),(4,.c (.ptr 2 0)),(5,.c (.bO 3 (.prod tI tI))),(6,.c (.ptr 4 0)),(15,.c (.hole (.list (.list (.prod tI tI))))),(16,hI),(17,hI),(34,.fn 47 [] [.bR (.list (.prod tI tI))])] [(0,.cells [.bK,.bK] false),(1,.cells [.bO 5 (.prod (.prod (.prod tI tI) (.prod tI tI)) tI)] false),(2,.cells [.hole tI,.hole tI] false),(3,.arr (.prod tI tI) false),(4,.cells [.hole tI] false),(5,.arr (.prod (.prod (.prod tI tI) (.prod tI tI)) tI) false)] [.slot 2,.slot 3,.slot 4,.slot 5,.slot 6,.cell 1 0] []
@[reducible] def WC:aX:=[(.normal,aC.mk [(2,.c (.ptr 0 0)),(3,.c (.ptr 1 0)),(4,.c (.ptr 2 0)),(5,.c (.bO 3 (.prod tI tI))),(15,.c (.hole (.list (.list (.prod tI tI))))),(16,hI),(17,hI)] [(0,.cells [.bK,.bK] false),(1,.cells [.bO 4 (.prod (.prod (.prod tI tI) (.prod tI tI)) tI)] false),(2,.cells [.hole tI,.hole tI] false),(3,.arr (.prod tI tI) false),(4,.arr (.prod (.prod (.prod tI tI) (.prod tI tI)) tI) false)] [.slot 2,.slot 3,.slot 4,.slot 5,.cell 1 0] [])]
noncomputable def IA:D prog 33 none 8:=dO [.l Iz] (kd prog f47) 0
theorem Rj:cD prog f47=some ⟨33,2,(IA).er,[],[]⟩:=by kernel_rfl
noncomputable def g16_1:Nat×(List (List (Int×Int)))×Int×Int×(List (Int×Int))×Nat×Int×Int×(List (Int×Int))×Int×(List (((Int×Int)×Int×Int)×Int))×Unit->bJ ((Nat×(List (List (Int×Int)))×Int×Int×Nat×Int×Int×(List (Int×Int))×(List (((Int×Int)×Int×Int)×Int))×Unit)):=fun (AF,cK,IB,fC,CJ,cX,gV,oP,b3,mE,b5,_) =>
 .bd (.it g16_1i_0 (CJ,CJ,(((CJ).length:Nat):Int),(0:Int),AF,cK,IB,fC,CJ,cX,gV,oP,b3,mE,b5,())) fun z3 =>
 .ret ((AF,cK,IB,fC,z3.1,z3.2.1,z3.2.2.1,z3.2.2.2.2.2.2.2.2.2.1,z3.2.2.2.2.2.2.2.2.2.2.1,()))
noncomputable def WD:iI prog 144 none 0:=nt mixed wJ sF [] rfl WB WC ( .t 34) [35] rfl (Ir).er (It).er 47 func47 (Rj) (ai func47 rfl rfl) 8 rfl (IA) rfl (fun x=>ag (g16_1 x)) (fun x=>by kernel_rfl)
@[reducible] def WE:aC:=aC.mk [(2,.c (.ptr 0 0)),(3,.c (.ptr 1 0)),(4,.c (.ptr 2 0)),(5,.c (.bO 3 (.prod tI tI))),(15,.c (.hole (.list (.list (.prod tI tI))))),(16,hI),(17,hI)] [(0,.cells [.bK,.bK] false),(1,.cells [.bO 4 (.prod (.prod (.prod tI tI) (.prod tI tI)) tI)] false),(2,.cells [.hole tI,.hole tI] false),(3,.arr (.prod tI tI) false),(4,.arr (.prod (.prod (.prod tI tI) (.prod tI tI)) tI) false)] [.slot 2,.slot 3,.slot 4,.slot 5,.cell 1 0] []
@[reducible] def WG:aX:=[(.exit 0,aC.mk [(2,.c (.ptr 0 0)),(3,.c (.ptr 1 0)),(4,.c (.ptr 2 0)),(5,.c (.bO 3 (.prod tI tI)))] [(0,.cells [.bK,.bK] false),(1,.cells [.bO 4 (.prod (.prod (.prod tI tI) (.prod tI tI)) tI)] false),(2,.cells [.hole tI,.hole tI] false),(3,.arr (.prod tI tI) false),(4,.arr (.prod (.prod (.prod tI tI) (.prod tI tI)) tI) false)] [.slot 2,.slot 3,.slot 4,.slot 5,.cell 1 0] [])]
noncomputable def WH:D prog 144 none 0:=dO [.r WD] (pick (kd prog f16) [(0,false)]) 0
noncomputable def g16_0:Nat×(List (List (Int×Int)))×Int×Int×Nat×Int×Int×(List (Int×Int))×(List (((Int×Int)×Int×Int)×Int))×Unit->bJ ((Nat×(List (List (Int×Int)))×Int×Int×Nat×Int×Int×(List (Int×Int))×(List (((Int×Int)×Int×Int)×Int))×Unit) ⊕ ((Nat×Nat×Int×Int×(List (Int×Int))×(List (((Int×Int)×Int×Int)×Int))×Unit))):=fun (AF,cK,IB,fC,cX,gV,oP,b3,b4,_) =>
 .br (decide (fC<IB)) (
 .nb fC (((cK).length:Nat):Int) <|
 .nb (0:Int) (((((cK).getD (Int.toNat fC) [])).length:Nat):Int) <|
 .bd (F18 (gV,oP) (((((cK).getD (Int.toNat fC) [])).getD (Int.toNat (0:Int)) ((0:Int),(0:Int))).1,((((cK).getD (Int.toNat fC) [])).getD (Int.toNat (0:Int)) ((0:Int),(0:Int))).2)) fun y0 =>
 .nb (0:Int) (((((cK).getD (Int.toNat fC) [])).length:Nat):Int) <|
 .nd (decide ((AF+((((((((((cK).getD (Int.toNat fC) [])).getD (Int.toNat (0:Int)) ((0:Int),(0:Int))).1,((((cK).getD (Int.toNat fC) [])).getD (Int.toNat (0:Int)) ((0:Int),(0:Int))).2)::[])).drop (0:Nat)).take (1:Nat))).length)<bU)) <|
 .bd (F20 ((cK).getD (Int.toNat fC) [])) fun y1 =>
 .bd (g16_1 ((AF+((((((((((cK).getD (Int.toNat fC) [])).getD (Int.toNat (0:Int)) ((0:Int),(0:Int))).1,((((cK).getD (Int.toNat fC) [])).getD (Int.toNat (0:Int)) ((0:Int),(0:Int))).2)::[])).drop (0:Nat)).take (1:Nat))).length),cK,IB,fC,y1.1,cX,y0.1.1,y0.1.2,((((b3).drop (0:Nat)).take AF)++(((((((((cK).getD (Int.toNat fC) [])).getD (Int.toNat (0:Int)) ((0:Int),(0:Int))).1,((((cK).getD (Int.toNat fC) [])).getD (Int.toNat (0:Int)) ((0:Int),(0:Int))).2)::[])).drop (0:Nat)).take (1:Nat))),fC,b4,())) fun z4 =>
 .ni (z4.2.2.2.1+(1:Int)) <|
 .ret (.inl (z4.1,z4.2.1,z4.2.2.1,(z4.2.2.2.1+(1:Int)),z4.2.2.2.2.1,z4.2.2.2.2.2.1,z4.2.2.2.2.2.2.1,z4.2.2.2.2.2.2.2.1,z4.2.2.2.2.2.2.2.2.1,()))) (
 .ret (.inr (AF,cX,gV,oP,b3,b4,())))
noncomputable def WI:bp prog 144 none 0:=aR mixed EH nE [] rfl WE WG rfl (WH) (fun x=>ag (g16_0 x)) (fun x=>by kernel_rfl)
@[reducible] def IC:aC:=aC.mk [(2,.c (.ptr 0 0)),(3,.c (.ptr 1 0)),(4,.c (.ptr 2 0)),(5,.c (.bO 3 (.prod tI tI))),(9,.c (.ptr 4 0)),(10,.c (.ptr 5 0)),(50,.c (.bO 6 (.prod (.prod (.prod tI tI) (.prod tI tI)) tI))),(51,hI),(52,hI)] [(0,.cells [.bK,.bK] false),(1,.cells [.bO 6 (.prod (.prod (.prod tI tI) (.prod tI tI)) tI)] false),(2,.cells [.hole tI,.hole tI] false),(3,.arr (.prod tI tI) true),(4,.cells [.bO 7 (.prod tI tI),.bO 8 (.list (.prod tI tI))] false),(5,.cells [.hole tI,.hole tI] false),(6,.arr (.prod (.prod (.prod tI tI) (.prod tI tI)) tI) false),(7,.arr (.prod tI tI) false),(8,.arr (.list (.prod tI tI)) false)] [.slot 2,.slot 3,.slot 4,.slot 5,.slot 9,.slot 10,.cell 1 0,.cell 4 0,.cell 4 1] []
@[reducible] def ID:aX:=[(.exit 4,aC.mk [(2,.c (.ptr 0 0)),(3,.c (.ptr 1 0)),(9,.c (.ptr 2 0))] [(0,.cells [.bK,.bK] false),(1,.cells [.bO 3 (.prod (.prod (.prod tI tI) (.prod tI tI)) tI)] false),(2,.cells [.bO 4 (.prod tI tI),.bO 5 (.list (.prod tI tI))] false),(3,.arr (.prod (.prod (.prod tI tI) (.prod tI tI)) tI) false),(4,.arr (.prod tI tI) false),(5,.arr (.list (.prod tI tI)) false)] [.slot 2,.slot 3,.slot 9,.cell 1 0,.cell 2 0,.cell 2 1] [])]
noncomputable def Og:D prog 144 none 0:=dO [] (pick (kd prog f16) [(1,false)]) 0
noncomputable def g16_2:Nat×Nat×Int×Int×Nat×Int×Int×(List (Int×Int))×Nat×Nat×Int×Int×(List (((Int×Int)×Int×Int)×Int))×(List (Int×Int))×(List (List (Int×Int)))×Unit->bJ ((Nat×Nat×Int×Int×Nat×Int×Int×(List (Int×Int))×Nat×Nat×Int×Int×(List (((Int×Int)×Int×Int)×Int))×(List (Int×Int))×(List (List (Int×Int)))×Unit) ⊕ ((Nat×Nat×Nat×(List (((Int×Int)×Int×Int)×Int))×(List (Int×Int))×(List (List (Int×Int)))×Unit))):=fun (AF,IE,Oh,dY,cX,gV,oP,b3,fq,jR,AX,AY,b6,b7,b8,_) =>
 .br (decide (dY<Oh)) (
 .nb dY ((IE:Nat):Int) <|
 .nd (decide (((0:Nat)+(Int.toNat dY))<(b6).length)) <|
 .bd (F18 (gV,oP) (((b6).getD ((0:Nat)+(Int.toNat dY)) ((((0:Int),(0:Int)),(0:Int),(0:Int)),(0:Int))).1.2.1,((b6).getD ((0:Nat)+(Int.toNat dY)) ((((0:Int),(0:Int)),(0:Int),(0:Int)),(0:Int))).1.2.2)) fun y7 =>
 .bd (FH46_v1 AF b3) fun y8 =>
 .nb ((b6).getD ((0:Nat)+(Int.toNat dY)) ((((0:Int),(0:Int)),(0:Int),(0:Int)),(0:Int))).2 ((y8.1:Nat):Int) <|
 .nd (decide (((0:Nat)+(Int.toNat ((b6).getD ((0:Nat)+(Int.toNat dY)) ((((0:Int),(0:Int)),(0:Int),(0:Int)),(0:Int))).2))<(y8.2.1).length)) <|
 .bd (F18 (((y8.2.1).getD ((0:Nat)+(Int.toNat ((b6).getD ((0:Nat)+(Int.toNat dY)) ((((0:Int),(0:Int)),(0:Int),(0:Int)),(0:Int))).2)) ((0:Int),(0:Int))).1,((y8.2.1).getD ((0:Nat)+(Int.toNat ((b6).getD ((0:Nat)+(Int.toNat dY)) ((((0:Int),(0:Int)),(0:Int),(0:Int)),(0:Int))).2)) ((0:Int),(0:Int))).2) (((b6).getD ((0:Nat)+(Int.toNat dY)) ((((0:Int),(0:Int)),(0:Int),(0:Int)),(0:Int))).1.2.1,((b6).getD ((0:Nat)+(Int.toNat dY)) ((((0:Int),(0:Int)),(0:Int),(0:Int)),(0:Int))).1.2.2)) fun y9 =>
 .nb ((b6).getD ((0:Nat)+(Int.toNat dY)) ((((0:Int),(0:Int)),(0:Int),(0:Int)),(0:Int))).2 ((y8.1:Nat):Int) <|
 .nd (decide (((0:Nat)+(Int.toNat ((b6).getD ((0:Nat)+(Int.toNat dY)) ((((0:Int),(0:Int)),(0:Int),(0:Int)),(0:Int))).2))<(y8.2.1).length)) <|
 .jx (
 .ni (((fq:Nat):Int) - (1:Int)) <|
 .bd (F44 (AX,AY)) fun y14 =>
 .bd (F44 (((b6).getD ((0:Nat)+(Int.toNat dY)) ((((0:Int),(0:Int)),(0:Int),(0:Int)),(0:Int))).1.2.1,((b6).getD ((0:Nat)+(Int.toNat dY)) ((((0:Int),(0:Int)),(0:Int),(0:Int)),(0:Int))).1.2.2)) fun y15 =>
 .br (y14.1==y15.1) (
 .bd (F39 (AX,AY) (((b6).getD ((0:Nat)+(Int.toNat dY)) ((((0:Int),(0:Int)),(0:Int),(0:Int)),(0:Int))).1.2.1,((b6).getD ((0:Nat)+(Int.toNat dY)) ((((0:Int),(0:Int)),(0:Int),(0:Int)),(0:Int))).1.2.2)) fun y16 =>
 .br (y16.1==(0:Int)) (
 .br (!((AX==(0:Int))&&((AY==(0:Int))&&true))) (
 .nb (((fq:Nat):Int) - (1:Int)) ((fq:Nat):Int) <|
 .nd (decide (((0:Nat)+(Int.toNat (((fq:Nat):Int) - (1:Int))))<(b7).length)) <|
 .nb (((fq:Nat):Int) - (1:Int)) ((jR:Nat):Int) <|
 .nd (decide (((0:Nat)+(Int.toNat (((fq:Nat):Int) - (1:Int))))<(b8).length)) <|
 .ret (.inl (y8.1,IE,Oh,dY,cX,y7.1.1,y7.1.2,((y8.2.1).set ((0:Nat)+(Int.toNat ((b6).getD ((0:Nat)+(Int.toNat dY)) ((((0:Int),(0:Int)),(0:Int),(0:Int)),(0:Int))).2)) (y9.1.1,y9.1.2)),fq,jR,AX,AY,((b6).getD ((0:Nat)+(Int.toNat dY)) ((((0:Int),(0:Int)),(0:Int),(0:Int)),(0:Int))).1.1.1,((b6).getD ((0:Nat)+(Int.toNat dY)) ((((0:Int),(0:Int)),(0:Int),(0:Int)),(0:Int))).1.1.2,((b6).getD ((0:Nat)+(Int.toNat dY)) ((((0:Int),(0:Int)),(0:Int),(0:Int)),(0:Int))).1.2.1,((b6).getD ((0:Nat)+(Int.toNat dY)) ((((0:Int),(0:Int)),(0:Int),(0:Int)),(0:Int))).1.2.2,((b6).getD ((0:Nat)+(Int.toNat dY)) ((((0:Int),(0:Int)),(0:Int),(0:Int)),(0:Int))).2,b6,((b7).set ((0:Nat)+(Int.toNat (((fq:Nat):Int) - (1:Int)))) (y7.1.1,y7.1.2)),((b8).set ((0:Nat)+(Int.toNat (((fq:Nat):Int) - (1:Int)))) (((((y8.2.1).set ((0:Nat)+(Int.toNat ((b6).getD ((0:Nat)+(Int.toNat dY)) ((((0:Int),(0:Int)),(0:Int),(0:Int)),(0:Int))).2)) (y9.1.1,y9.1.2))).drop (0:Nat)).take y8.1)),()))) (
 .nd (decide ((fq+((((((y7.1.1,y7.1.2)::[])).drop (0:Nat)).take (1:Nat))).length)<bU)) <|
 .nd (decide ((jR+((((((((((y8.2.1).set ((0:Nat)+(Int.toNat ((b6).getD ((0:Nat)+(Int.toNat dY)) ((((0:Int),(0:Int)),(0:Int),(0:Int)),(0:Int))).2)) (y9.1.1,y9.1.2))).drop (0:Nat)).take y8.1)::[])).drop (0:Nat)).take (1:Nat))).length)<bU)) <|
 .ret (.inl (y8.1,IE,Oh,dY,cX,y7.1.1,y7.1.2,((y8.2.1).set ((0:Nat)+(Int.toNat ((b6).getD ((0:Nat)+(Int.toNat dY)) ((((0:Int),(0:Int)),(0:Int),(0:Int)),(0:Int))).2)) (y9.1.1,y9.1.2)),(fq+((((((y7.1.1,y7.1.2)::[])).drop (0:Nat)).take (1:Nat))).length),(jR+((((((((((y8.2.1).set ((0:Nat)+(Int.toNat ((b6).getD ((0:Nat)+(Int.toNat dY)) ((((0:Int),(0:Int)),(0:Int),(0:Int)),(0:Int))).2)) (y9.1.1,y9.1.2))).drop (0:Nat)).take y8.1)::[])).drop (0:Nat)).take (1:Nat))).length),AX,AY,((b6).getD ((0:Nat)+(Int.toNat dY)) ((((0:Int),(0:Int)),(0:Int),(0:Int)),(0:Int))).1.1.1,((b6).getD ((0:Nat)+(Int.toNat dY)) ((((0:Int),(0:Int)),(0:Int),(0:Int)),(0:Int))).1.1.2,((b6).getD ((0:Nat)+(Int.toNat dY)) ((((0:Int),(0:Int)),(0:Int),(0:Int)),(0:Int))).1.2.1,((b6).getD ((0:Nat)+(Int.toNat dY)) ((((0:Int),(0:Int)),(0:Int),(0:Int)),(0:Int))).1.2.2,((b6).getD ((0:Nat)+(Int.toNat dY)) ((((0:Int),(0:Int)),(0:Int),(0:Int)),(0:Int))).2,b6,((((b7).drop (0:Nat)).take fq)++(((((y7.1.1,y7.1.2)::[])).drop (0:Nat)).take (1:Nat))),((((b8).drop (0:Nat)).take jR)++(((((((((y8.2.1).set ((0:Nat)+(Int.toNat ((b6).getD ((0:Nat)+(Int.toNat dY)) ((((0:Int),(0:Int)),(0:Int),(0:Int)),(0:Int))).2)) (y9.1.1,y9.1.2))).drop (0:Nat)).take y8.1)::[])).drop (0:Nat)).take (1:Nat))),())))) (
 .nd (decide ((fq+((((((y7.1.1,y7.1.2)::[])).drop (0:Nat)).take (1:Nat))).length)<bU)) <|
 .nd (decide ((jR+((((((((((y8.2.1).set ((0:Nat)+(Int.toNat ((b6).getD ((0:Nat)+(Int.toNat dY)) ((((0:Int),(0:Int)),(0:Int),(0:Int)),(0:Int))).2)) (y9.1.1,y9.1.2))).drop (0:Nat)).take y8.1)::[])).drop (0:Nat)).take (1:Nat))).length)<bU)) <|
 .ret (.inl (y8.1,IE,Oh,dY,cX,y7.1.1,y7.1.2,((y8.2.1).set ((0:Nat)+(Int.toNat ((b6).getD ((0:Nat)+(Int.toNat dY)) ((((0:Int),(0:Int)),(0:Int),(0:Int)),(0:Int))).2)) (y9.1.1,y9.1.2)),(fq+((((((y7.1.1,y7.1.2)::[])).drop (0:Nat)).take (1:Nat))).length),(jR+((((((((((y8.2.1).set ((0:Nat)+(Int.toNat ((b6).getD ((0:Nat)+(Int.toNat dY)) ((((0:Int),(0:Int)),(0:Int),(0:Int)),(0:Int))).2)) (y9.1.1,y9.1.2))).drop (0:Nat)).take y8.1)::[])).drop (0:Nat)).take (1:Nat))).length),AX,AY,((b6).getD ((0:Nat)+(Int.toNat dY)) ((((0:Int),(0:Int)),(0:Int),(0:Int)),(0:Int))).1.1.1,((b6).getD ((0:Nat)+(Int.toNat dY)) ((((0:Int),(0:Int)),(0:Int),(0:Int)),(0:Int))).1.1.2,((b6).getD ((0:Nat)+(Int.toNat dY)) ((((0:Int),(0:Int)),(0:Int),(0:Int)),(0:Int))).1.2.1,((b6).getD ((0:Nat)+(Int.toNat dY)) ((((0:Int),(0:Int)),(0:Int),(0:Int)),(0:Int))).1.2.2,((b6).getD ((0:Nat)+(Int.toNat dY)) ((((0:Int),(0:Int)),(0:Int),(0:Int)),(0:Int))).2,b6,((((b7).drop (0:Nat)).take fq)++(((((y7.1.1,y7.1.2)::[])).drop (0:Nat)).take (1:Nat))),((((b8).drop (0:Nat)).take jR)++(((((((((y8.2.1).set ((0:Nat)+(Int.toNat ((b6).getD ((0:Nat)+(Int.toNat dY)) ((((0:Int),(0:Int)),(0:Int),(0:Int)),(0:Int))).2)) (y9.1.1,y9.1.2))).drop (0:Nat)).take y8.1)::[])).drop (0:Nat)).take (1:Nat))),())))) (
 .nd (decide ((fq+((((((y7.1.1,y7.1.2)::[])).drop (0:Nat)).take (1:Nat))).length)<bU)) <|
 .nd (decide ((jR+((((((((((y8.2.1).set ((0:Nat)+(Int.toNat ((b6).getD ((0:Nat)+(Int.toNat dY)) ((((0:Int),(0:Int)),(0:Int),(0:Int)),(0:Int))).2)) (y9.1.1,y9.1.2))).drop (0:Nat)).take y8.1)::[])).drop (0:Nat)).take (1:Nat))).length)<bU)) <|
 .ret (.inl (y8.1,IE,Oh,dY,cX,y7.1.1,y7.1.2,((y8.2.1).set ((0:Nat)+(Int.toNat ((b6).getD ((0:Nat)+(Int.toNat dY)) ((((0:Int),(0:Int)),(0:Int),(0:Int)),(0:Int))).2)) (y9.1.1,y9.1.2)),(fq+((((((y7.1.1,y7.1.2)::[])).drop (0:Nat)).take (1:Nat))).length),(jR+((((((((((y8.2.1).set ((0:Nat)+(Int.toNat ((b6).getD ((0:Nat)+(Int.toNat dY)) ((((0:Int),(0:Int)),(0:Int),(0:Int)),(0:Int))).2)) (y9.1.1,y9.1.2))).drop (0:Nat)).take y8.1)::[])).drop (0:Nat)).take (1:Nat))).length),AX,AY,((b6).getD ((0:Nat)+(Int.toNat dY)) ((((0:Int),(0:Int)),(0:Int),(0:Int)),(0:Int))).1.1.1,((b6).getD ((0:Nat)+(Int.toNat dY)) ((((0:Int),(0:Int)),(0:Int),(0:Int)),(0:Int))).1.1.2,((b6).getD ((0:Nat)+(Int.toNat dY)) ((((0:Int),(0:Int)),(0:Int),(0:Int)),(0:Int))).1.2.1,((b6).getD ((0:Nat)+(Int.toNat dY)) ((((0:Int),(0:Int)),(0:Int),(0:Int)),(0:Int))).1.2.2,((b6).getD ((0:Nat)+(Int.toNat dY)) ((((0:Int),(0:Int)),(0:Int),(0:Int)),(0:Int))).2,b6,((((b7).drop (0:Nat)).take fq)++(((((y7.1.1,y7.1.2)::[])).drop (0:Nat)).take (1:Nat))),((((b8).drop (0:Nat)).take jR)++(((((((((y8.2.1).set ((0:Nat)+(Int.toNat ((b6).getD ((0:Nat)+(Int.toNat dY)) ((((0:Int),(0:Int)),(0:Int),(0:Int)),(0:Int))).2)) (y9.1.1,y9.1.2))).drop (0:Nat)).take y8.1)::[])).drop (0:Nat)).take (1:Nat))),())))) fun nR =>
 .ni (nR.2.2.2.1+(1:Int)) <|
 .ret (.inl (nR.1,nR.2.1,nR.2.2.1,(nR.2.2.2.1+(1:Int)),nR.2.2.2.2.1,nR.2.2.2.2.2.1,nR.2.2.2.2.2.2.1,nR.2.2.2.2.2.2.2.1,nR.2.2.2.2.2.2.2.2.1,nR.2.2.2.2.2.2.2.2.2.1,nR.2.2.2.2.2.2.2.2.2.2.2.2.2.2.1,nR.2.2.2.2.2.2.2.2.2.2.2.2.2.2.2.1,nR.2.2.2.2.2.2.2.2.2.2.2.2.2.2.2.2.2.1,nR.2.2.2.2.2.2.2.2.2.2.2.2.2.2.2.2.2.2.1,nR.2.2.2.2.2.2.2.2.2.2.2.2.2.2.2.2.2.2.2.1,()))) (
 .ret (.inr (cX,fq,jR,b6,b7,b8,())))
theorem WJ:∀x,jG (gv (IC.T ⊕ ID.T)) EH bL [] IC ID (Og) (fun y=>some (.inl y)) (fun b=>some (.inr b)) x=ag (g16_2 x):=fun x=>Eq.trans (b:=ag (flat (g16_2 x))) (by kernel_rfl) kJ
noncomputable def WK:bp prog 144 none 0:=aR mixed EH nE [] rfl IC ID rfl (Og) (fun x=>ag (g16_2 x)) (WJ)
noncomputable def WL:D prog 144 none 0:=dO [.l WI,.l WK] (kd prog f16) 0
noncomputable def F16 (a0:List (List (Int×Int))):bJ (((List (Int×Int))×List (List (Int×Int)))×Unit) :=
 .bd (.it g16_0 ((0:Nat),a0,(((a0).length:Nat):Int),(0:Int),(0:Nat),(0:Int),(0:Int),[],[],())) fun z5 =>
 .bd (FH41_v1 z5.2.1 z5.2.2.2.2.2.1) fun y6 =>
 .bd (.it g16_2 (z5.1,z5.2.1,((z5.2.1:Nat):Int),(0:Int),z5.2.1,z5.2.2.1,z5.2.2.2.1,z5.2.2.2.2.1,(1:Nat),(1:Nat),(0:Int),(0:Int),y6.1,((z5.2.2.1,z5.2.2.2.1)::[]),((((z5.2.2.2.2.1).drop (0:Nat)).take z5.1)::[]),())) fun zI =>
 .br (decide ((0:Int)<((zI.1:Nat):Int))) (
 .ni (((zI.2.1:Nat):Int) - (1:Int)) <|
 .nd (decide ((0:Int)<=(0:Int))) <|
 .nd (decide ((0:Int)<=(((zI.2.1:Nat):Int) - (1:Int)))) <|
 .nd (decide ((((zI.2.1:Nat):Int) - (1:Int))<=((zI.2.1:Nat):Int))) <|
 .nd (decide ((0:Int)<=(0:Int))) <|
 .nd (decide ((0:Int)<=(((zI.2.1:Nat):Int) - (1:Int)))) <|
 .nd (decide ((((zI.2.1:Nat):Int) - (1:Int))<=((zI.2.2.1:Nat):Int))) <|
 .ret (((((zI.2.2.2.2.1).drop ((0:Nat)+(Int.toNat (0:Int)))).take ((Int.toNat (((zI.2.1:Nat):Int) - (1:Int))) - (Int.toNat (0:Int)))),(((zI.2.2.2.2.2.1).drop ((0:Nat)+(Int.toNat (0:Int)))).take ((Int.toNat (((zI.2.1:Nat):Int) - (1:Int))) - (Int.toNat (0:Int))))),())) (
 .ret (((((zI.2.2.2.2.1).drop (0:Nat)).take zI.2.1),(((zI.2.2.2.2.2.1).drop (0:Nat)).take zI.2.2.1)),()))
theorem Rk:cD prog f16=some ⟨144,1,WL.er,[.cell 2 true 2],[some (.prod (.list (.prod tI tI)) (.list (.list (.prod tI tI))))]⟩:=by kernel_rfl
noncomputable def IF:Ct:=⟨16,[.c (.hole (.list (.list (.prod tI tI))))],.c (.hole (.prod (.list (.prod tI tI)) (.list (.list (.prod tI tI))))),fun x=>ag (F16 x.1)⟩
theorem qx:IF.Ok prog:=bh mixed nE func16 Rk (ai func16 rfl rfl) WL (by kernel_rfl) rfl (fun x=>by kernel_rfl)

/- 19 -/
noncomputable def cx19:Cx:=(aN [] [])
theorem MI:cx19.Ok prog:=au trivial trivial
noncomputable def WM:D prog 14 none 0:=dO [] (kd prog f19) 0
noncomputable def F19 (a0:Int×Int) (a1:Int):bJ ((Int×Int)×Unit) :=
 .ni (a1 * a0.1) <|
 .ni (a1 * a0.2) <|
 .ret (((a1 * a0.1),(a1 * a0.2)),())
theorem Rl:cD prog f19=some ⟨14,2,WM.er,[.cell 4 true 2],[some (.prod tI tI)]⟩:=by kernel_rfl
noncomputable def MJ:Ct:=⟨19,[.c (.hole (.prod tI tI)),hI],.c (.hole (.prod tI tI)),fun x=>ag (F19 x.1 x.2.1)⟩
theorem wK:MJ.Ok prog:=bh mixed MI func19 Rl (ai func19 rfl rfl) WM (by kernel_rfl) rfl (fun x=>by kernel_rfl)

/- 15 -/
noncomputable def Rm:Cx:=(aN [MJ,Mt,D3,D4] [])
theorem wL:Rm.Ok prog:=au ⟨wK,wH,nB,nC,trivial⟩ trivial
noncomputable def IG:D prog 97 (some 6) 25:=dO [] (pick (kd prog f15) [(0,false)]) 0
noncomputable def II:D prog 97 (some 6) 25:=dO [] (pick (kd prog f15) [(0,true)]) 0
noncomputable def wM:Cx:=DO Rm (fun kz=>Pz kz Rm bL 6 25 [28] (IG) (II))
theorem sG:(wM).Ok prog:=nr wL (fun h=>sg mixed wL h)
@[reducible] def IJ:aC:=aC.mk [(0,.c (.yl 6)),(1,.c (.bR (.list (.prod tI tI)))),(5,.c (.hole (.list (.prod tI tI)))),(6,hI),(7,hI)] [(6,.loop .ready none 5 [(4,.c (.ptr 0 0)),(5,.c (.ptr 1 0)),(6,.c (.ptr 2 0)),(7,.c (.ptr 3 0)),(8,.c (.ptr 4 0)),(27,.fn 47 [] [.bR (.list (.prod tI tI))])] [28] (.dg [.op (some 9) none (.alloc [.int .i64 (Int.ofNat 0),.int .i64 (Int.ofNat 0),.int .i64 (Int.ofNat 0),.int .i64 (Int.ofNat 0)]),.op none none (.store 4 (.t 9) (.t 28))]) (.block 1 (.seq (.seq (.seq (.draw [[],[0],[],[],[3],[],[3,4,5],[2,3,4,5,6],[0,1,2,3,4,5,6,7],[0,1,2,3,4,5,6,7,8]] [.op (some 29) none (.eY 2 [true] (.t 9)),.op (some 30) none (.load true 2 (.t 29)),.op (some 31) none (.load true 2 (.t 4)),.op (some 32) none (.eY 0 [false] (.t 9)),.op (some 33) none (.load true 2 (.t 32)),.op (some 34) none (.load false 1 (.t 5)),.call (some 35) none (.c (.fn 19 [] [])) [.t 33,.t 34] [some (.prod tI tI),some tI],.call (some 36) none (.c (.fn 40 [] [])) [.t 31,.t 35] [some (.prod tI tI),some (.prod tI tI)]]) (.dg [.call (some 37) none (.c (.fn 39 [] [])) [.t 30,.t 36] [some (.prod tI tI),some (.prod tI tI)],.op (some 38) none (.bin .lss (.t 37) (.c (.int .i64 (Int.ofNat 0))))])) (.cond (.t 38) (.seq (.dg [.op none none (.store 1 (.t 6) (.c (.tf false)))]) .ret) .skip)) (.seq (.dg [.op (some 39) none (.eY 0 [false] (.t 7)),.op (some 40) none (.load false 1 (.t 39)),.op (some 41) none (.eY 0 [false] (.t 9)),.op (some 42) none (.eY 0 [false] (.t 41)),.op (some 43) none (.load false 1 (.t 42)),.op (some 44) none (.cF false (.t 40) [.t 43]),.op (some 45) none (.eY 1 [true] (.t 7)),.op (some 46) none (.load false 1 (.t 45)),.op (some 47) none (.eY 0 [false] (.t 9)),.op (some 48) none (.eY 1 [true] (.t 47)),.op (some 49) none (.load false 1 (.t 48)),.op (some 50) none (.cF false (.t 46) [.t 49]),.op (some 51) none (.build [.int .i64 (Int.ofNat 0),.int .i64 (Int.ofNat 0)] [(0,1,.t 44),(1,1,.t 50)]),.op none none (.store 2 (.t 7) (.t 51))]) (.dg [.op (some 52) none (.eY 0 [false] (.t 8)),.op (some 53) none (.load false 1 (.t 52)),.op (some 54) none (.eY 0 [false] (.t 9)),.op (some 55) none (.eY 0 [false] (.t 54)),.op (some 56) none (.load false 1 (.t 55)),.op (some 57) none (.cF true (.t 53) [.t 56]),.op (some 58) none (.eY 1 [true] (.t 8)),.op (some 59) none (.load false 1 (.t 58)),.op (some 60) none (.eY 0 [false] (.t 9)),.op (some 61) none (.eY 1 [true] (.t 60)),.op (some 62) none (.load false 1 (.t 61)),.op (some 63) none (.cF true (.t 59) [.t 62]),.op (some 64) none (.build [.int .i64 (Int.ofNat 0),.int .i64 (Int.ofNat 0)] [(0,1,.t 57),(1,1,.t 63)]),.op none none (.store 2 (.t 8) (.t 64))])))) 97),(5,.gi),(0,.cells [.hole tI,.hole tI] false),(1,.cells [.hole tI] false),(2,.cells [.tf false] false),(3,.cells [.hole tI,.hole tI] false),(4,.cells [.hole tI,.hole tI] false)] [] []
@[reducible] def IK:aX:=[(.ret,aC.mk [] [(0,.cells [.hole tI,.hole tI] false),(1,.cells [.hole tI] false),(2,.cells [.tf false] false),(3,.cells [.hole tI,.hole tI] false),(4,.cells [.hole tI,.hole tI] false),(5,.gi),(6,.loop .done (some .ret) 5 [(4,.c (.ptr 0 0)),(5,.c (.ptr 1 0)),(6,.c (.ptr 2 0)),(7,.c (.ptr 3 0)),(8,.c (.ptr 4 0)),(27,.fn 47 [] [.bR (.list (.prod tI tI))])] [28] (.dg [.op (some 9) none (.alloc [.int .i64 (Int.ofNat 0),.int .i64 (Int.ofNat 0),.int .i64 (Int.ofNat 0),.int .i64 (Int.ofNat 0)]),.op none none (.store 4 (.t 9) (.t 28))]) (.block 1 (.seq (.seq (.seq (.draw [[],[0],[],[],[3],[],[3,4,5],[2,3,4,5,6],[0,1,2,3,4,5,6,7],[0,1,2,3,4,5,6,7,8]] [.op (some 29) none (.eY 2 [true] (.t 9)),.op (some 30) none (.load true 2 (.t 29)),.op (some 31) none (.load true 2 (.t 4)),.op (some 32) none (.eY 0 [false] (.t 9)),.op (some 33) none (.load true 2 (.t 32)),.op (some 34) none (.load false 1 (.t 5)),.call (some 35) none (.c (.fn 19 [] [])) [.t 33,.t 34] [some (.prod tI tI),some tI],.call (some 36) none (.c (.fn 40 [] [])) [.t 31,.t 35] [some (.prod tI tI),some (.prod tI tI)]]) (.dg [.call (some 37) none (.c (.fn 39 [] [])) [.t 30,.t 36] [some (.prod tI tI),some (.prod tI tI)],.op (some 38) none (.bin .lss (.t 37) (.c (.int .i64 (Int.ofNat 0))))])) (.cond (.t 38) (.seq (.dg [.op none none (.store 1 (.t 6) (.c (.tf false)))]) .ret) .skip)) (.seq (.dg [.op (some 39) none (.eY 0 [false] (.t 7)),.op (some 40) none (.load false 1 (.t 39)),.op (some 41) none (.eY 0 [false] (.t 9)),.op (some 42) none (.eY 0 [false] (.t 41)),.op (some 43) none (.load false 1 (.t 42)),.op (some 44) none (.cF false (.t 40) [.t 43]),.op (some 45) none (.eY 1 [true] (.t 7)),.op (some 46) none (.load false 1 (.t 45)),.op (some 47) none (.eY 0 [false] (.t 9)),.op (some 48) none (.eY 1 [true] (.t 47)),.op (some 49) none (.load false 1 (.t 48)),.op (some 50) none (.cF false (.t 46) [.t 49]),.op (some 51) none (.build [.int .i64 (Int.ofNat 0),.int .i64 (Int.ofNat 0)] [(0,1,.t 44),(1,1,.t 50)]),.op none none (.store 2 (.t 7) (.t 51))]) (.dg [.op (some 52) none (.eY 0 [false] (.t 8)),.op (some 53) none (.load false 1 (.t 52)),.op (some 54) none (.eY 0 [false] (.t 9)),.op (some 55) none (.eY 0 [false] (.t 54)),.op (some 56) none (.load false 1 (.t 55)),.op (some 57) none (.cF true (.t 53) [.t 56]),.op (some 58) none (.eY 1 [true] (.t 8)),.op (some 59) none (.load false 1 (.t 58)),.op (some 60) none (.eY 0 [false] (.t 9)),.op (some 61) none (.eY 1 [true] (.t 60)),.op (some 62) none (.load false 1 (.t 61)),.op (some 63) none (.cF true (.t 59) [.t 62]),.op (some 64) none (.build [.int .i64 (Int.ofNat 0),.int .i64 (Int.ofNat 0)] [(0,1,.t 57),(1,1,.t 63)]),.op none none (.store 2 (.t 8) (.t 64))])))) 97)] [] []),(.exit 0,aC.mk [] [(0,.cells [.hole tI,.hole tI] false),(1,.cells [.hole tI] false),(2,.cells [.tf false] false),(3,.cells [.hole tI,.hole tI] false),(4,.cells [.hole tI,.hole tI] false),(5,.gi),(6,.loop .ready none 5 [(4,.c (.ptr 0 0)),(5,.c (.ptr 1 0)),(6,.c (.ptr 2 0)),(7,.c (.ptr 3 0)),(8,.c (.ptr 4 0)),(27,.fn 47 [] [.bR (.list (.prod tI tI))])] [28] (.dg [.op (some 9) none (.alloc [.int .i64 (Int.ofNat 0),.int .i64 (Int.ofNat 0),.int .i64 (Int.ofNat 0),.int .i64 (Int.ofNat 0)]),.op none none (.store 4 (.t 9) (.t 28))]) (.block 1 (.seq (.seq (.seq (.draw [[],[0],[],[],[3],[],[3,4,5],[2,3,4,5,6],[0,1,2,3,4,5,6,7],[0,1,2,3,4,5,6,7,8]] [.op (some 29) none (.eY 2 [true] (.t 9)),.op (some 30) none (.load true 2 (.t 29)),.op (some 31) none (.load true 2 (.t 4)),.op (some 32) none (.eY 0 [false] (.t 9)),.op (some 33) none (.load true 2 (.t 32)),.op (some 34) none (.load false 1 (.t 5)),.call (some 35) none (.c (.fn 19 [] [])) [.t 33,.t 34] [some (.prod tI tI),some tI],.call (some 36) none (.c (.fn 40 [] [])) [.t 31,.t 35] [some (.prod tI tI),some (.prod tI tI)]]) (.dg [.call (some 37) none (.c (.fn 39 [] [])) [.t 30,.t 36] [some (.prod tI tI),some (.prod tI tI)],.op (some 38) none (.bin .lss (.t 37) (.c (.int .i64 (Int.ofNat 0))))])) (.cond (.t 38) (.seq (.dg [.op none none (.store 1 (.t 6) (.c (.tf false)))]) .ret) .skip)) (.seq (.dg [.op (some 39) none (.eY 0 [false] (.t 7)),.op (some 40) none (.load false 1 (.t 39)),.op (some 41) none (.eY 0 [false] (.t 9)),.op (some 42) none (.eY 0 [false] (.t 41)),.op (some 43) none (.load false 1 (.t 42)),.op (some 44) none (.cF false (.t 40) [.t 43]),.op (some 45) none (.eY 1 [true] (.t 7)),.op (some 46) none (.load false 1 (.t 45)),.op (some 47) none (.eY 0 [false] (.t 9)),.op (some 48) none (.eY 1 [true] (.t 47)),.op (some 49) none (.load false 1 (.t 48)),.op (some 50) none (.cF false (.t 46) [.t 49]),.op (some 51) none (.build [.int .i64 (Int.ofNat 0),.int .i64 (Int.ofNat 0)] [(0,1,.t 44),(1,1,.t 50)]),.op none none (.store 2 (.t 7) (.t 51))]) (.dg [.op (some 52) none (.eY 0 [false] (.t 8)),.op (some 53) none (.load false 1 (.t 52)),.op (some 54) none (.eY 0 [false] (.t 9)),.op (some 55) none (.eY 0 [false] (.t 54)),.op (some 56) none (.load false 1 (.t 55)),.op (some 57) none (.cF true (.t 53) [.t 56]),.op (some 58) none (.eY 1 [true] (.t 8)),.op (some 59) none (.load false 1 (.t 58)),.op (some 60) none (.eY 0 [false] (.t 9)),.op (some 61) none (.eY 1 [true] (.t 60)),.op (some 62) none (.load false 1 (.t 61)),.op (some 63) none (.cF true (.t 59) [.t 62]),.op (some 64) none (.build [.int .i64 (Int.ofNat 0),.int .i64 (Int.ofNat 0)] [(0,1,.t 57),(1,1,.t 63)]),.op none none (.store 2 (.t 8) (.t 64))])))) 97)] [] [])]
noncomputable def IL:D prog 33 none 7:=dO [] (pick (kd prog f47) [(0,false)]) 0
noncomputable def g15_0i_0:(List (Int×Int))×(List (Int×Int))×Int×Int×(List (Int×Int))×Int×Int×Int×Int×Int×Int×Int×Unit->bJ (((List (Int×Int))×(List (Int×Int))×Int×Int×(List (Int×Int))×Int×Int×Int×Int×Int×Int×Int×Unit) ⊕ ((Int×Int×Int×Int×Int×Int×Int×(List (Int×Int))×Unit) ⊕ ((Int×Int×Int×Int×Int×Int×Int×(List (Int×Int))×Unit)))):=fun (v1,v5,v6,v7,CK,cC,cW,cG,oQ,EI,mE,EJ,_) =>
 .br (decide (v7<v6)) (
 .nb v7 (((v5).length:Nat):Int) <|
 .br (decide ((1:Int)<(((v1).length:Nat):Int))) (
 .ni (v7+(1:Int)) <|
 .nd (!((((v1).length:Nat):Int)==(0:Int))) <|
 .nb (Int.tmod (v7+(1:Int)) (((v1).length:Nat):Int)) (((v1).length:Nat):Int) <|
 .bd (F40 (((v1).getD (Int.toNat (Int.tmod (v7+(1:Int)) (((v1).length:Nat):Int))) ((0:Int),(0:Int))).1,((v1).getD (Int.toNat (Int.tmod (v7+(1:Int)) (((v1).length:Nat):Int))) ((0:Int),(0:Int))).2) (((v5).getD (Int.toNat v7) ((0:Int),(0:Int))).1,((v5).getD (Int.toNat v7) ((0:Int),(0:Int))).2)) fun y2 =>
 .bd (F19 (((v5).getD (Int.toNat v7) ((0:Int),(0:Int))).1,((v5).getD (Int.toNat v7) ((0:Int),(0:Int))).2) cG) fun y3 =>
 .bd (F40 (cC,cW) (y3.1.1,y3.1.2)) fun y4 =>
 .bd (F39 (y2.1.1,y2.1.2) (y4.1.1,y4.1.2)) fun y5 =>
 .br (decide (y5.1<(0:Int))) (
 .ret (.inr <| .inl<|(cC,cW,cG,oQ,EI,mE,EJ,CK,()))) (
 .ni (v7+(1:Int)) <|
 .ret (.inl (v1,v5,v6,(v7+(1:Int)),CK,cC,cW,cG,(en oQ ((v5).getD (Int.toNat v7) ((0:Int),(0:Int))).1),(en EI ((v5).getD (Int.toNat v7) ((0:Int),(0:Int))).2),(imax mE ((v5).getD (Int.toNat v7) ((0:Int),(0:Int))).1),(imax EJ ((v5).getD (Int.toNat v7) ((0:Int),(0:Int))).2),())))) (
 .ni (v7+(1:Int)) <|
 .ret (.inl (v1,v5,v6,(v7+(1:Int)),CK,cC,cW,cG,oQ,EI,mE,EJ,())))) (
 .ret (.inr <| .inr<|(cC,cW,cG,oQ,EI,mE,EJ,CK,())))
noncomputable def IM:bp prog 33 none 7:=aR mixed wM sG [0,1,2,3,4,5,6] rfl IJ IK rfl (IL) (fun x=>ag (g15_0i_0 x)) (fun x=>by kernel_rfl)
@[reducible] def WN:aC:=aC.mk [(4,.c (.ptr 0 0)),(5,.c (.ptr 1 0)),(6,.c (.ptr 2 0)),(7,.c (.ptr 3 0)),(8,.c (.ptr 4 0)),(27,.fn 47 [] [.bR (.list (.prod tI tI))])] [(0,.cells [.hole tI,.hole tI] false),(1,.cells [.hole tI] false),(2,.cells [.tf false] false),(3,.cells [.hole tI,.hole tI] false),(4,.cells [.hole tI,.hole tI] false)] [.slot 4,.slot 5,.slot 6,.slot 7,.slot 8] []
@[reducible] def WO:aX:=[(.ret,aC.mk [(6,.c (.ptr 0 0))] [(0,.cells [.tf false] false)] [.slot 6] []),(.normal,aC.mk [(4,.c (.ptr 0 0)),(5,.c (.ptr 1 0)),(6,.c (.ptr 2 0)),(7,.c (.ptr 3 0)),(8,.c (.ptr 4 0))] [(0,.cells [.hole tI,.hole tI] false),(1,.cells [.hole tI] false),(2,.cells [.tf false] false),(3,.cells [.hole tI,.hole tI] false),(4,.cells [.hole tI,.hole tI] false)] [.slot 4,.slot 5,.slot 6,.slot 7,.slot 8] [])]
noncomputable def IP:D prog 33 none 7:=dO [.l IM] (kd prog f47) 0
theorem Rn:cD prog f47=some ⟨33,2,(IP).er,[],[]⟩:=by kernel_rfl
noncomputable def g15_0:(List (Int×Int))×Int×Int×Int×Int×Int×Int×Int×Unit->bJ ((Unit) ⊕ ((Int×Int×Int×Int×Int×Int×Int×Unit))):=fun (CL,cC,cW,cG,oQ,EI,mE,EJ,_) =>
 .bd (.it g15_0i_0 (CL,CL,(((CL).length:Nat):Int),(0:Int),CL,cC,cW,cG,oQ,EI,mE,EJ,())) fun z6 =>
 .sm z6 (fun z7 =>
 .ret (.inl<|())) fun z8 =>
 .ret (.inr<|(z8.1,z8.2.1,z8.2.2.1,z8.2.2.2.1,z8.2.2.2.2.1,z8.2.2.2.2.2.1,z8.2.2.2.2.2.2.1,()))
noncomputable def WQ:iI prog 97 none 0:=nt mixed wM sG [] rfl WN WO ( .t 27) [28] rfl (IG).er (II).er 47 func47 (Rn) (ai func47 rfl rfl) 7 rfl (IP) rfl (fun x=>ag (g15_0 x)) (fun x=>by kernel_rfl)
noncomputable def WR:D prog 97 none 0:=dO [.r WQ] (kd prog f15) 0
noncomputable def F15 (a0:List (Int×Int)) (a1:Int×Int) (a2:Int):bJ (Bool×Unit) :=
 .br ((((a0).length:Nat):Int)==(1:Int)) (
 .nb (0:Int) (((a0).length:Nat):Int) <|
 .bd (F19 (((a0).getD (Int.toNat (0:Int)) ((0:Int),(0:Int))).1,((a0).getD (Int.toNat (0:Int)) ((0:Int),(0:Int))).2) a2) fun y0 =>
 .ret (((y0.1.1==a1.1)&&((y0.1.2==a1.2)&&true)),())) (
 .nb (0:Int) (((a0).length:Nat):Int) <|
 .nb (0:Int) (((a0).length:Nat):Int) <|
 .bd (F20 a0) fun y1 =>
 .bd (g15_0 (y1.1,a1.1,a1.2,a2,((a0).getD (Int.toNat (0:Int)) ((0:Int),(0:Int))).1,((a0).getD (Int.toNat (0:Int)) ((0:Int),(0:Int))).2,((a0).getD (Int.toNat (0:Int)) ((0:Int),(0:Int))).1,((a0).getD (Int.toNat (0:Int)) ((0:Int),(0:Int))).2,())) fun z9 =>
 .sm z9 (fun oR =>
 .ret (false,())) fun IQ =>
 .bd (F19 (IQ.2.2.2.1,IQ.2.2.2.2.1) IQ.2.2.1) fun y12 =>
 .bd (F19 (IQ.2.2.2.2.2.1,IQ.2.2.2.2.2.2.1) IQ.2.2.1) fun y13 =>
 .br (decide (y12.1.1<=IQ.1)) (
 .br (decide (IQ.1<=y13.1.1)) (
 .br (decide (y12.1.2<=IQ.2.1)) (
 .ret ((decide (IQ.2.1<=y13.1.2)),())) (
 .ret (false,()))) (
 .ret (false,()))) (
 .ret (false,())))
theorem Ro:cD prog f15=some ⟨97,3,WR.er,[.cell 6 false 1],[some .bool]⟩:=by kernel_rfl
noncomputable def MK:Ct:=⟨15,[.c (.hole (.list (.prod tI tI))),.c (.hole (.prod tI tI)),hI],.c (.hole .bool),fun x=>ag (F15 x.1 x.2.1 x.2.2.1)⟩
theorem wN:MK.Ok prog:=bh mixed wL func15 Ro (ai func15 rfl rfl) WR (by kernel_rfl) rfl (fun x=>by kernel_rfl)

/- 5 -/
noncomputable def cx5:Cx:=(aN [Io,IF,MK] [])
theorem Rp:cx5.Ok prog:=au ⟨qw,qx,wN,trivial⟩ trivial
noncomputable def dd5:D prog 18 none 0:=dO [] (kd prog f5) 0
noncomputable def F5 (a0:List (List (Int×Int))) (a1:Int×Int):bJ (Bool×Int×Unit) :=
 .bd (F14 a0 (a1.1,a1.2)) fun y0 =>
 .br (!(y0.1==(0:Int))) (
 .ret (false,y0.1,())) (
 .bd (F16 a0) fun y1 =>
 .bd (F15 y1.1.1 (a1.1,a1.2) (1:Int)) fun y2 =>
 .ret (y2.1,(0:Int),()))
theorem WS:cD prog f5=some ⟨18,2,dd5.er,[.t 4,.t 5],[some .bool,some tI]⟩:=by kernel_rfl
noncomputable def ct5:Ct:=⟨5,[.c (.hole (.list (.list (.prod tI tI)))),.c (.hole (.prod tI tI))],.cq [.hole .bool,.hole tI],fun x=>ag (F5 x.1 x.2.1)⟩
theorem Rq:ct5.Ok prog:=bh mixed Rp func5 WS (ai func5 rfl rfl) dd5 (by kernel_rfl) rfl (fun x=>by kernel_rfl)

/- 17 -/
noncomputable def WT:Cx:=(aN [D3,D4] [])
theorem CM:WT.Ok prog:=au ⟨nB,nC,trivial⟩ trivial
@[reducible] def WU:aC:=aC.mk [(0,.c (.hole (.list (.prod tI tI)))),(3,.c (.ptr 0 0)),(4,.c (.pa 1 tI 3)),(5,.c (.pa 2 tI 3)),(10,hI)] [(0,.cells [.hole tI,.hole tI] false),(1,.arr tI false),(2,.arr tI false)] [.slot 3,.slot 4,.slot 5] []
@[reducible] def WV:aX:=[(.ret,aC.mk [(4,.c (.pa 0 tI 3)),(5,.c (.pa 1 tI 3))] [(0,.arr tI false),(1,.arr tI false)] [.slot 4,.slot 5] []),(.exit 1,aC.mk [(4,.c (.pa 0 tI 3)),(5,.c (.pa 1 tI 3))] [(0,.arr tI false),(1,.arr tI false)] [.slot 4,.slot 5] [])]
noncomputable def WW:D prog 115 none 0:=dO [] (pick (kd prog f17) [(0,false)]) 0
noncomputable def g17_0:(List (Int×Int))×Int×Int×Int×List Int×List Int×Unit->bJ (((List (Int×Int))×Int×Int×Int×List Int×List Int×Unit) ⊕ ((List Int×List Int×Unit) ⊕ ((List Int×List Int×Unit)))):=fun (v0,v10,cC,cW,b1,b2,_) =>
 .ni (v10+(1:Int)) <|
 .br (decide ((v10+(1:Int))<(((v0).length:Nat):Int))) (
 .nb (0:Int) (((v0).length:Nat):Int) <|
 .bd (F40 (((v0).getD (Int.toNat (0:Int)) ((0:Int),(0:Int))).1,((v0).getD (Int.toNat (0:Int)) ((0:Int),(0:Int))).2) (cC,cW)) fun y2 =>
 .nb v10 (((v0).length:Nat):Int) <|
 .bd (F40 (((v0).getD (Int.toNat v10) ((0:Int),(0:Int))).1,((v0).getD (Int.toNat v10) ((0:Int),(0:Int))).2) (cC,cW)) fun y3 =>
 .ni (v10+(1:Int)) <|
 .nb (v10+(1:Int)) (((v0).length:Nat):Int) <|
 .bd (F40 (((v0).getD (Int.toNat (v10+(1:Int))) ((0:Int),(0:Int))).1,((v0).getD (Int.toNat (v10+(1:Int))) ((0:Int),(0:Int))).2) (cC,cW)) fun y4 =>
 .bd (F39 (y3.1.1,y3.1.2) (y4.1.1,y4.1.2)) fun y5 =>
 .bd (F39 (y4.1.1,y4.1.2) (y2.1.1,y2.1.2)) fun y6 =>
 .bd (F39 (y2.1.1,y2.1.2) (y3.1.1,y3.1.2)) fun y7 =>
 .br (decide ((0:Int)<=y5.1)) (
 .br (decide ((0:Int)<=y6.1)) (
 .br (decide ((0:Int)<=y7.1)) (
 .ni (v10+(1:Int)) <|
 .ret (.inr <| .inl<|(((0:Int)::(v10::((v10+(1:Int))::[]))),(y5.1::(y6.1::(y7.1::[]))),()))) (
 .ni (v10+(1:Int)) <|
 .ret (.inl (v0,(v10+(1:Int)),cC,cW,b1,b2,())))) (
 .ni (v10+(1:Int)) <|
 .ret (.inl (v0,(v10+(1:Int)),cC,cW,b1,b2,())))) (
 .ni (v10+(1:Int)) <|
 .ret (.inl (v0,(v10+(1:Int)),cC,cW,b1,b2,())))) (
 .ret (.inr <| .inr<|(b1,b2,())))
noncomputable def WX:bp prog 115 none 0:=aR mixed WT CM [] rfl WU WV rfl (WW) (fun x=>ag (g17_0 x)) (fun x=>by kernel_rfl)
noncomputable def WY:D prog 115 none 0:=dO [.l WX] (kd prog f17) 0
noncomputable def F17 (a0:List (Int×Int)) (a1:Int×Int):bJ ((Int×Int×Int)×(Int×Int×Int)×Unit) :=
 .nb (0:Int) (((a0).length:Nat):Int) <|
 .ni ((((a0).length:Nat):Int) - (1:Int)) <|
 .nb ((((a0).length:Nat):Int) - (1:Int)) (((a0).length:Nat):Int) <|
 .br ((((a0).length:Nat):Int)==(1:Int)) (
 .ret ((((((((List.replicate (3:Nat) (0:Int))).getD (0:Nat) (0:Int))::((((List.replicate (3:Nat) (0:Int))).getD (1:Nat) (0:Int))::((((List.replicate (3:Nat) (0:Int))).getD (2:Nat) (0:Int))::[])))).getD (0:Nat) (0:Int)),((((((List.replicate (3:Nat) (0:Int))).getD (0:Nat) (0:Int))::((((List.replicate (3:Nat) (0:Int))).getD (1:Nat) (0:Int))::((((List.replicate (3:Nat) (0:Int))).getD (2:Nat) (0:Int))::[])))).getD (1:Nat) (0:Int)),((((((List.replicate (3:Nat) (0:Int))).getD (0:Nat) (0:Int))::((((List.replicate (3:Nat) (0:Int))).getD (1:Nat) (0:Int))::((((List.replicate (3:Nat) (0:Int))).getD (2:Nat) (0:Int))::[])))).getD (2:Nat) (0:Int))),(((((1:Int)::((0:Int)::((0:Int)::[])))).getD (0:Nat) (0:Int)),((((1:Int)::((0:Int)::((0:Int)::[])))).getD (1:Nat) (0:Int)),((((1:Int)::((0:Int)::((0:Int)::[])))).getD (2:Nat) (0:Int))),())) (
 .br ((((a0).length:Nat):Int)==(2:Int)) (
 .bd (F40 (((a0).getD (Int.toNat ((((a0).length:Nat):Int) - (1:Int))) ((0:Int),(0:Int))).1,((a0).getD (Int.toNat ((((a0).length:Nat):Int) - (1:Int))) ((0:Int),(0:Int))).2) (((a0).getD (Int.toNat (0:Int)) ((0:Int),(0:Int))).1,((a0).getD (Int.toNat (0:Int)) ((0:Int),(0:Int))).2)) fun y0 =>
 .bd (F40 (a1.1,a1.2) (((a0).getD (Int.toNat (0:Int)) ((0:Int),(0:Int))).1,((a0).getD (Int.toNat (0:Int)) ((0:Int),(0:Int))).2)) fun y1 =>
 .br (y0.1.1==(0:Int)) (
 .ni (y0.1.2 - y1.1.2) <|
 .ret ((((((0:Int)::((1:Int)::((0:Int)::[])))).getD (0:Nat) (0:Int)),((((0:Int)::((1:Int)::((0:Int)::[])))).getD (1:Nat) (0:Int)),((((0:Int)::((1:Int)::((0:Int)::[])))).getD (2:Nat) (0:Int))),(((((y0.1.2 - y1.1.2)::(y1.1.2::((0:Int)::[])))).getD (0:Nat) (0:Int)),((((y0.1.2 - y1.1.2)::(y1.1.2::((0:Int)::[])))).getD (1:Nat) (0:Int)),((((y0.1.2 - y1.1.2)::(y1.1.2::((0:Int)::[])))).getD (2:Nat) (0:Int))),())) (
 .ni (y0.1.1 - y1.1.1) <|
 .ret ((((((0:Int)::((1:Int)::((0:Int)::[])))).getD (0:Nat) (0:Int)),((((0:Int)::((1:Int)::((0:Int)::[])))).getD (1:Nat) (0:Int)),((((0:Int)::((1:Int)::((0:Int)::[])))).getD (2:Nat) (0:Int))),(((((y0.1.1 - y1.1.1)::(y1.1.1::((0:Int)::[])))).getD (0:Nat) (0:Int)),((((y0.1.1 - y1.1.1)::(y1.1.1::((0:Int)::[])))).getD (1:Nat) (0:Int)),((((y0.1.1 - y1.1.1)::(y1.1.1::((0:Int)::[])))).getD (2:Nat) (0:Int))),()))) (
 .bd (.it g17_0 (a0,(1:Int),a1.1,a1.2,(List.replicate (3:Nat) (0:Int)),(List.replicate (3:Nat) (0:Int)),())) fun z8 =>
 .sm z8 (fun z9 =>
 .ret ((((z9.1).getD (0:Nat) (0:Int)),((z9.1).getD (1:Nat) (0:Int)),((z9.1).getD (2:Nat) (0:Int))),(((z9.2.1).getD (0:Nat) (0:Int)),((z9.2.1).getD (1:Nat) (0:Int)),((z9.2.1).getD (2:Nat) (0:Int))),())) fun oR =>
 .ret (((((((oR.1).getD (0:Nat) (0:Int))::(((oR.1).getD (1:Nat) (0:Int))::(((oR.1).getD (2:Nat) (0:Int))::[])))).getD (0:Nat) (0:Int)),(((((oR.1).getD (0:Nat) (0:Int))::(((oR.1).getD (1:Nat) (0:Int))::(((oR.1).getD (2:Nat) (0:Int))::[])))).getD (1:Nat) (0:Int)),(((((oR.1).getD (0:Nat) (0:Int))::(((oR.1).getD (1:Nat) (0:Int))::(((oR.1).getD (2:Nat) (0:Int))::[])))).getD (2:Nat) (0:Int))),((((((oR.2.1).getD (0:Nat) (0:Int))::(((oR.2.1).getD (1:Nat) (0:Int))::(((oR.2.1).getD (2:Nat) (0:Int))::[])))).getD (0:Nat) (0:Int)),(((((oR.2.1).getD (0:Nat) (0:Int))::(((oR.2.1).getD (1:Nat) (0:Int))::(((oR.2.1).getD (2:Nat) (0:Int))::[])))).getD (1:Nat) (0:Int)),(((((oR.2.1).getD (0:Nat) (0:Int))::(((oR.2.1).getD (1:Nat) (0:Int))::(((oR.2.1).getD (2:Nat) (0:Int))::[])))).getD (2:Nat) (0:Int))),())))
theorem Rr:cD prog f17=some ⟨115,2,WY.er,[.cell 4 true 3,.cell 5 true 3],[some (.prod tI (.prod tI tI)),some (.prod tI (.prod tI tI))]⟩:=by kernel_rfl
noncomputable def WZ:Ct:=⟨17,[.c (.hole (.list (.prod tI tI))),.c (.hole (.prod tI tI))],.cq [.hole (.prod tI (.prod tI tI)),.hole (.prod tI (.prod tI tI))],fun x=>ag (F17 x.1 x.2.1)⟩
theorem ML:WZ.Ok prog:=bh mixed CM func17 Rr (ai func17 rfl rfl) WY (by kernel_rfl) rfl (fun x=>by kernel_rfl)

/- 6 -/
noncomputable def cx6:Cx:=(aN [Io,IF,MK,WZ,MJ,Mq] [])
theorem AZ:cx6.Ok prog:=au ⟨qw,qx,wN,ML,wK,wG,trivial⟩ trivial
@[reducible] def p6_1:aC:=aC.mk [(0,.c (.hole (.list (.list (.prod tI tI))))),(4,.c (.ptr 0 0)),(7,.c (.ptr 1 0)),(8,.c (.pa 2 tI 3)),(10,.c (.ptr 3 0)),(11,hI),(12,hI),(40,.c (.hole (.prod tI (.prod tI tI)))),(41,hI),(51,hI),(52,hI)] [(0,.cells [.hole tI,.bK] false),(1,.cells [.hole (.list (.prod tI tI)),.hole (.list (.list (.prod tI tI)))] false),(2,.arr tI false),(3,.cells [.hole tI,.bO 4 (.prod tI tI)] false),(4,.arr (.prod tI tI) false)] [.slot 4,.slot 7,.slot 8,.slot 10,.cell 3 1] []
@[reducible] def x6_1:aX:=[(.exit 2,aC.mk [(0,.c (.hole (.list (.list (.prod tI tI))))),(4,.c (.ptr 0 0)),(7,.c (.ptr 1 0)),(8,.c (.pa 2 tI 3)),(10,.c (.ptr 3 0)),(40,.c (.hole (.prod tI (.prod tI tI)))),(41,hI)] [(0,.cells [.hole tI,.bK] false),(1,.cells [.hole (.list (.prod tI tI)),.hole (.list (.list (.prod tI tI)))] false),(2,.arr tI false),(3,.cells [.hole tI,.bO 4 (.prod tI tI)] false),(4,.arr (.prod tI tI) false)] [.slot 4,.slot 7,.slot 8,.slot 10,.cell 3 1] [])]
noncomputable def b6_1:D prog 80 none 0:=dO [] (pick (kd prog f6) [(0,false),(0,false)]) 0
noncomputable def g6_1:(List (List (Int×Int)))×Int×Int×(Int×Int×Int)×Int×Int×Int×Int×(List (Int×Int))×(List (List (Int×Int)))×List Int×Int×Nat×(List (Int×Int))×Unit->bJ (((List (List (Int×Int)))×Int×Int×(Int×Int×Int)×Int×Int×Int×Int×(List (Int×Int))×(List (List (Int×Int)))×List Int×Int×Nat×(List (Int×Int))×Unit) ⊕ (((List (List (Int×Int)))×(Int×Int×Int)×Int×Int×(List (Int×Int))×(List (List (Int×Int)))×List Int×Int×Nat×(List (Int×Int))×Unit))):=fun (v0,v11,kN,nF,sY,Oh,dY,cC,cG,lC,b2,oQ,sH,b4,_) =>
 .br (decide (dY<Oh)) (
 .nb dY ((sH:Nat):Int) <|
 .nd (decide (((0:Nat)+(Int.toNat dY))<(b4).length)) <|
 .nb v11 (3:Int) <|
 .nd (decide ((Int.toNat v11)<(b2).length)) <|
 .nb ((b2).getD (Int.toNat v11) (0:Int)) (((lC).length:Nat):Int) <|
 .nb dY (((((lC).getD (Int.toNat ((b2).getD (Int.toNat v11) (0:Int))) [])).length:Nat):Int) <|
 .bd (F19 (((((lC).getD (Int.toNat ((b2).getD (Int.toNat v11) (0:Int))) [])).getD (Int.toNat dY) ((0:Int),(0:Int))).1,((((lC).getD (Int.toNat ((b2).getD (Int.toNat v11) (0:Int))) [])).getD (Int.toNat dY) ((0:Int),(0:Int))).2) kN) fun y4 =>
 .bd (F18 (((b4).getD ((0:Nat)+(Int.toNat dY)) ((0:Int),(0:Int))).1,((b4).getD ((0:Nat)+(Int.toNat dY)) ((0:Int),(0:Int))).2) (y4.1.1,y4.1.2)) fun y5 =>
 .nb dY ((sH:Nat):Int) <|
 .nd (decide (((0:Nat)+(Int.toNat dY))<(b4).length)) <|
 .ni (dY+(1:Int)) <|
 .ret (.inl (v0,v11,kN,(nF.1,nF.2.1,nF.2.2),sY,Oh,(dY+(1:Int)),cC,cG,lC,b2,oQ,sH,((b4).set ((0:Nat)+(Int.toNat dY)) (y5.1.1,y5.1.2)),()))) (
 .ret (.inr (v0,(nF.1,nF.2.1,nF.2.2),sY,cC,cG,lC,b2,oQ,sH,b4,())))
noncomputable def L6_1:bp prog 80 none 0:=aR mixed cx6 AZ [] rfl p6_1 x6_1 rfl (b6_1) (fun x=>ag (g6_1 x)) (fun x=>by kernel_rfl)
@[reducible] def p6_0:aC:=aC.mk [(0,.c (.hole (.list (.list (.prod tI tI))))),(4,.c (.ptr 0 0)),(7,.c (.ptr 1 0)),(8,.c (.pa 2 tI 3)),(10,.c (.ptr 3 0)),(40,.c (.hole (.prod tI (.prod tI tI)))),(41,hI)] [(0,.cells [.hole tI,.bK] false),(1,.cells [.hole (.list (.prod tI tI)),.hole (.list (.list (.prod tI tI)))] false),(2,.arr tI false),(3,.cells [.hole tI,.bO 4 (.prod tI tI)] false),(4,.arr (.prod tI tI) false)] [.slot 4,.slot 7,.slot 8,.slot 10,.cell 3 1] []
@[reducible] def x6_0:aX:=[(.exit 0,aC.mk [(4,.c (.ptr 0 0)),(10,.c (.ptr 1 0))] [(0,.cells [.hole tI,.bK] false),(1,.cells [.hole tI,.bO 2 (.prod tI tI)] false),(2,.arr (.prod tI tI) false)] [.slot 4,.slot 10,.cell 1 1] [])]
noncomputable def b6_0:D prog 80 none 0:=dO [.l L6_1] (pick (kd prog f6) [(0,false)]) 0
noncomputable def g6_0:(List (List (Int×Int)))×(Int×Int×Int)×Int×Int×(List (Int×Int))×(List (List (Int×Int)))×List Int×Int×Nat×(List (Int×Int))×Unit->bJ (((List (List (Int×Int)))×(Int×Int×Int)×Int×Int×(List (Int×Int))×(List (List (Int×Int)))×List Int×Int×Nat×(List (Int×Int))×Unit) ⊕ ((Int×Int×Nat×(List (Int×Int))×Unit))):=fun (v0,nF,sY,cC,cG,lC,b2,oQ,sH,b4,_) =>
 .br (decide (sY<(3:Int))) (
 .nb sY (3:Int) <|
 .ni (oQ+(((nF.1::(nF.2.1::(nF.2.2::[])))).getD (Int.toNat sY) (0:Int))) <|
 .bd (.it g6_1 (v0,sY,(((nF.1::(nF.2.1::(nF.2.2::[])))).getD (Int.toNat sY) (0:Int)),(nF.1,nF.2.1,nF.2.2),sY,(((v0).length:Nat):Int),(0:Int),cC,cG,lC,b2,(oQ+(((nF.1::(nF.2.1::(nF.2.2::[])))).getD (Int.toNat sY) (0:Int))),sH,b4,())) fun z6 =>
 .ni (z6.2.2.1+(1:Int)) <|
 .ret (.inl (z6.1,(z6.2.1.1,z6.2.1.2.1,z6.2.1.2.2),(z6.2.2.1+(1:Int)),z6.2.2.2.1,z6.2.2.2.2.1,z6.2.2.2.2.2.1,z6.2.2.2.2.2.2.1,z6.2.2.2.2.2.2.2.1,z6.2.2.2.2.2.2.2.2.1,z6.2.2.2.2.2.2.2.2.2.1,()))) (
 .ret (.inr (cC,oQ,sH,b4,())))
noncomputable def L6_0:bp prog 80 none 0:=aR mixed cx6 AZ [] rfl p6_0 x6_0 rfl (b6_0) (fun x=>ag (g6_0 x)) (fun x=>by kernel_rfl)
noncomputable def dd6:D prog 80 none 0:=dO [.l L6_0] (kd prog f6) 0
noncomputable def F6 (a0:List (List (Int×Int))) (a1:Int×Int):bJ ((Int×List (Int×Int))×Int×Unit) :=
 .bd (F14 a0 (a1.1,a1.2)) fun y0 =>
 .br (!(y0.1==(0:Int))) (
 .ret (((0:Int),[]),y0.1,())) (
 .bd (F16 a0) fun y1 =>
 .bd (F15 y1.1.1 (a1.1,a1.2) (1:Int)) fun y2 =>
 .br (!y2.1) (
 .ret (((0:Int),[]),(10:Int),())) (
 .bd (F17 y1.1.1 (a1.1,a1.2)) fun y3 =>
 .nb (((a0).length:Nat):Int) ((bU:Nat):Int) <|
 .bd (.it g6_0 (a0,((((y3.2.1.1::(y3.2.1.2.1::(y3.2.1.2.2::[])))).getD (0:Nat) (0:Int)),(((y3.2.1.1::(y3.2.1.2.1::(y3.2.1.2.2::[])))).getD (1:Nat) (0:Int)),(((y3.2.1.1::(y3.2.1.2.1::(y3.2.1.2.2::[])))).getD (2:Nat) (0:Int))),(0:Int),(0:Int),y1.1.1,y1.1.2,(y3.1.1::(y3.1.2.1::(y3.1.2.2::[]))),(0:Int),(Int.toNat (((a0).length:Nat):Int)),(List.replicate (Int.toNat (((a0).length:Nat):Int)) ((0:Int),(0:Int))),())) fun z7 =>
 .ret ((z7.2.1,(((z7.2.2.2.1).drop (0:Nat)).take z7.2.2.1)),(0:Int),())))
theorem W0:cD prog f6=some ⟨80,2,dd6.er,[.cell 4 true 2,.t 5],[some (.prod tI (.list (.prod tI tI))),some tI]⟩:=by kernel_rfl
noncomputable def ct6:Ct:=⟨6,[.c (.hole (.list (.list (.prod tI tI)))),.c (.hole (.prod tI tI))],.cq [.hole (.prod tI (.list (.prod tI tI))),.hole tI],fun x=>ag (F6 x.1 x.2.1)⟩
theorem Rs:ct6.Ok prog:=bh mixed AZ func6 W0 (ai func6 rfl rfl) dd6 (by kernel_rfl) rfl (fun x=>by kernel_rfl)

/- 21 -/
noncomputable def cx21:Cx:=(aN [] [])
theorem MM:cx21.Ok prog:=au trivial trivial
noncomputable def W1:D prog 6 none 0:=dO [] (kd prog f21) 0
noncomputable def F21 (a0:Int) (a1:Int):bJ (Int×Int×Unit) :=
 .ret (a0,a1,())
theorem Rt:cD prog f21=some ⟨6,2,W1.er,[.t 4],[none]⟩:=by kernel_rfl
noncomputable def Ru:Ct:=⟨21,[hI,hI],.fn 48 [] [.bR tI,.bR tI],fun x=>ag (F21 x.1 x.2.1)⟩
theorem CN:Ru.Ok prog:=bh mixed MM func21 Rt (ai func21 rfl rfl) W1 (by kernel_rfl) rfl (fun x=>by kernel_rfl)

/- 48 -/
noncomputable def cx48:Cx:=(aN [] [])
theorem MN:cx48.Ok prog:=au trivial trivial
noncomputable def W2:D prog 14 none 0:=dO [] (kd prog f48) 0
noncomputable def F48 (a0:Int×Int) (a1:Int) (a2:Int):bJ (Int×Unit) :=
 .ni (a1 * a0.1) <|
 .ni (a2 * a0.2) <|
 .ni ((a1 * a0.1)+(a2 * a0.2)) <|
 .ret (((a1 * a0.1)+(a2 * a0.2)),())
theorem Rv:cD prog f48=some ⟨14,3,W2.er,[.t 4],[some tI]⟩:=by kernel_rfl
noncomputable def Rw:Ct:=⟨48,[.c (.hole (.prod tI tI)),.c (.bR tI),.c (.bR tI)],hI,fun x=>ag (F48 x.1 x.2.1 x.2.2.1)⟩
theorem CO:Rw.Ok prog:=bh mixed MN func48 Rv (ai func48 rfl rfl) W2 (by kernel_rfl) rfl (fun x=>by kernel_rfl)

/- 49 -/
noncomputable def W3:Cx:=(aN [Rw] [])
theorem CQ:W3.Ok prog:=au ⟨CO,trivial⟩ trivial
@[reducible] def W4:aC:=aC.mk [(0,.fn 48 [] [.bR tI,.bR tI]),(7,hI),(13,.c (.hole (.list (.prod tI tI)))),(14,hI),(15,hI)] [] [] []
@[reducible] def W5:aX:=[(.exit 0,aC.mk [(7,hI)] [] [] [])]
noncomputable def W6:D prog 26 none 0:=dO [] (pick (kd prog f49) [(0,false)]) 0
noncomputable def g49_0:Int×Int×Int×(List (Int×Int))×Int×Int×Unit->bJ ((Int×Int×Int×(List (Int×Int))×Int×Int×Unit) ⊕ ((Int×Unit))):=fun (W7,W8,v7,c8,jW,cK,_) =>
 .br (decide (cK<jW)) (
 .nb cK (((c8).length:Nat):Int) <|
 .bd (F48 (((c8).getD (Int.toNat cK) ((0:Int),(0:Int))).1,((c8).getD (Int.toNat cK) ((0:Int),(0:Int))).2) W7 W8) fun y1 =>
 .ni (cK+(1:Int)) <|
 .ret (.inl (W7,W8,(imax v7 y1.1),c8,jW,(cK+(1:Int)),()))) (
 .ret (.inr (v7,())))
noncomputable def W9:bp prog 26 none 0:=aR mixed W3 CQ [] rfl W4 W5 rfl (W6) (fun x=>ag (g49_0 x)) (fun x=>by kernel_rfl)
noncomputable def Xa:D prog 26 none 0:=dO [.l W9] (kd prog f49) 0
noncomputable def F49 (Xb:Int) (Xc:Int) (a1:Int×Int) (a2:List (Int×Int)):bJ (Int×Unit) :=
 .bd (F48 (a1.1,a1.2) Xb Xc) fun y0 =>
 .bd (.it g49_0 (Xb,Xc,y0.1,a2,(((a2).length:Nat):Int),(0:Int),())) fun z2 =>
 .ret (z2.1,())
theorem Rx:cD prog f49=some ⟨26,3,Xa.er,[.t 6],[some tI]⟩:=by kernel_rfl
noncomputable def Xd:Ct:=⟨49,[.fn 48 [] [.bR tI,.bR tI],.c (.hole (.prod tI tI)),.c (.hole (.list (.prod tI tI)))],hI,fun x=>ag (F49 x.1 x.2.1 x.2.2.1 x.2.2.2.1)⟩
theorem MO:Xd.Ok prog:=bh mixed CQ func49 Rx (ai func49 rfl rfl) Xa (by kernel_rfl) rfl (fun x=>by kernel_rfl)

/- 22 -/
noncomputable def Xe:Cx:=(aN [Ru,Xd] [])
theorem CR:Xe.Ok prog:=au ⟨CN,MO,trivial⟩ trivial
@[reducible] def Xf:aC:=aC.mk [(1,hI),(2,hI),(7,hI),(10,.c (.hole (.list (.list (.prod tI tI))))),(11,hI),(12,hI)] [] [] []
@[reducible] def Xg:aX:=[(.exit 0,aC.mk [(7,hI)] [] [] [])]
noncomputable def Xh:D prog 28 none 0:=dO [] (pick (kd prog f22) [(0,false)]) 0
noncomputable def g22_0:Int×Int×Int×(List (List (Int×Int)))×Int×Int×Unit->bJ ((Int×Int×Int×(List (List (Int×Int)))×Int×Int×Unit) ⊕ ((Int×Unit))):=fun (v1,v2,v7,v10,v11,kN,_) =>
 .br (decide (kN<v11)) (
 .nb kN (((v10).length:Nat):Int) <|
 .bd (F21 v1 v2) fun y0 =>
 .nb (0:Int) (((((v10).getD (Int.toNat kN) [])).length:Nat):Int) <|
 .bd (F49 y0.1 y0.2.1 (((((v10).getD (Int.toNat kN) [])).getD (Int.toNat (0:Int)) ((0:Int),(0:Int))).1,((((v10).getD (Int.toNat kN) [])).getD (Int.toNat (0:Int)) ((0:Int),(0:Int))).2) ((v10).getD (Int.toNat kN) [])) fun y1 =>
 .ni (v7+y1.1) <|
 .ni (kN+(1:Int)) <|
 .ret (.inl (v1,v2,(v7+y1.1),v10,v11,(kN+(1:Int)),()))) (
 .ret (.inr (v7,())))
noncomputable def Xi:bp prog 28 none 0:=aR mixed Xe CR [] rfl Xf Xg rfl (Xh) (fun x=>ag (g22_0 x)) (fun x=>by kernel_rfl)
noncomputable def Xj:D prog 28 none 0:=dO [.l Xi] (kd prog f22) 0
noncomputable def F22 (a0:List (List (Int×Int))) (a1:Int) (a2:Int):bJ (Int×Unit) :=
 .bd (.it g22_0 (a1,a2,(0:Int),a0,(((a0).length:Nat):Int),(0:Int),())) fun z2 =>
 .ret (z2.1,())
theorem Ry:cD prog f22=some ⟨28,3,Xj.er,[.t 6],[some tI]⟩:=by kernel_rfl
noncomputable def Rz:Ct:=⟨22,[.c (.hole (.list (.list (.prod tI tI)))),hI,hI],hI,fun x=>ag (F22 x.1 x.2.1 x.2.2.1)⟩
theorem CS:Rz.Ok prog:=bh mixed CR func22 Ry (ai func22 rfl rfl) Xj (by kernel_rfl) rfl (fun x=>by kernel_rfl)

/- 7 -/
noncomputable def Yi:Cx:=(aN [Io,IF,Mt,D3,Ru,Rw,Rz] [])
theorem wO:Yi.Ok prog:=au ⟨qw,qx,wH,nB,CN,CO,CS,trivial⟩ trivial
noncomputable def Oi:D prog 64 (some 4) 24:=dO [] (pick (kd prog f7) [(0,false)]) 0
noncomputable def Oj:D prog 64 (some 4) 24:=dO [] (pick (kd prog f7) [(0,true)]) 0
noncomputable def A2:Cx:=DO Yi (fun kz=>Pz kz Yi bL 4 24 [27] (Oi) (Oj))
theorem uP:(A2).Ok prog:=nr wO (fun h=>sg mixed wO h)
@[reducible] def MP:aC:=aC.mk [(0,.c (.yl 4)),(1,.c (.bR (.list (.prod tI tI)))),(5,.c (.hole (.list (.prod tI tI)))),(6,hI),(7,hI)] [(4,.loop .ready none 3 [(0,.c (.hole (.list (.list (.prod tI tI))))),(3,.c (.ptr 0 0)),(4,hI),(5,hI),(6,hI),(8,.c (.ptr 1 0)),(26,.fn 47 [] [.bR (.list (.prod tI tI))])] [27] (.dg [.op (some 9) none (.alloc [.int .i64 (Int.ofNat 0),.int .i64 (Int.ofNat 0),.int .i64 (Int.ofNat 0),.int .i64 (Int.ofNat 0)]),.op none none (.store 4 (.t 9) (.t 27))]) (.block 1 (.dg [.op (some 28) none (.load false 1 (.t 8)),.op (some 29) none (.eY 2 [true] (.t 9)),.op (some 30) none (.eY 1 [true] (.t 29)),.op (some 31) none (.load false 1 (.t 30)),.op (some 32) none (.eY 2 [true] (.t 9)),.op (some 33) none (.eY 0 [false] (.t 32)),.op (some 34) none (.load false 1 (.t 33)),.op (some 35) none (.neg (.t 34)),.op (some 36) none (.build [.int .i64 (Int.ofNat 0),.int .i64 (Int.ofNat 0)] [(0,1,.t 31),(1,1,.t 35)]),.op (some 37) none (.dy (.prod tI tI) [.t 36]),.op (some 38) none (.append 2 (.t 28) (.t 37)),.op none none (.store 1 (.t 8) (.t 38))])) 64),(3,.gi),(0,.cells [.hole tI,.hole tI] false),(1,.cells [.bO 5 (.prod tI tI)] false),(5,.arr (.prod tI tI) false)] [.cell 1 0] []
@[reducible] def MQ:aX:=[(.exit 0,aC.mk [] [(0,.cells [.hole tI,.hole tI] false),(1,.cells [.bO 5 (.prod tI tI)] false),(3,.gi),(4,.loop .ready none 3 [(0,.c (.hole (.list (.list (.prod tI tI))))),(3,.c (.ptr 0 0)),(4,hI),(5,hI),(6,hI),(8,.c (.ptr 1 0)),(26,.fn 47 [] [.bR (.list (.prod tI tI))])] [27] (.dg [.op (some 9) none (.alloc [.int .i64 (Int.ofNat 0),.int .i64 (Int.ofNat 0),.int .i64 (Int.ofNat 0),.int .i64 (Int.ofNat 0)]),.op none none (.store 4 (.t 9) (.t 27))]) (.block 1 (.dg [.op (some 28) none (.load false 1 (.t 8)),.op (some 29) none (.eY 2 [true] (.t 9)),.op (some 30) none (.eY 1 [true] (.t 29)),.op (some 31) none (.load false 1 (.t 30)),.op (some 32) none (.eY 2 [true] (.t 9)),.op (some 33) none (.eY 0 [false] (.t 32)),.op (some 34) none (.load false 1 (.t 33)),.op (some 35) none (.neg (.t 34)),.op (some 36) none (.build [.int .i64 (Int.ofNat 0),.int .i64 (Int.ofNat 0)] [(0,1,.t 31),(1,1,.t 35)]),.op (some 37) none (.dy (.prod tI tI) [.t 36]),.op (some 38) none (.append 2 (.t 28) (.t 37)),.op none none (.store 1 (.t 8) (.t 38))])) 64),(5,.arr (.prod tI tI) false)] [.cell 1 0] [])]
noncomputable def MR:D prog 33 none 5:=dO [] (pick (kd prog f47) [(0,false)]) 0
noncomputable def g7_0i_0:(List (Int×Int))×(List (Int×Int))×Int×Int×(List (List (Int×Int)))×Int×Int×Int×(List (Int×Int))×Int×Int×Nat×(List (Int×Int))×Unit->bJ (((List (Int×Int))×(List (Int×Int))×Int×Int×(List (List (Int×Int)))×Int×Int×Int×(List (Int×Int))×Int×Int×Nat×(List (Int×Int))×Unit) ⊕ ((Int×Int×Nat×(List (List (Int×Int)))×Int×Int×Int×(List (Int×Int))×(List (Int×Int))×Unit))):=fun (v1,v5,v6,v7,w0,w4,w5,w6,IU,cC,cW,cX,b5,_) =>
 .br (decide (v7<v6)) (
 .nb v7 (((v5).length:Nat):Int) <|
 .br (decide ((1:Int)<(((v1).length:Nat):Int))) (
 .ni (v7+(1:Int)) <|
 .nd (!((((v1).length:Nat):Int)==(0:Int))) <|
 .nb (Int.tmod (v7+(1:Int)) (((v1).length:Nat):Int)) (((v1).length:Nat):Int) <|
 .bd (F40 (((v1).getD (Int.toNat (Int.tmod (v7+(1:Int)) (((v1).length:Nat):Int))) ((0:Int),(0:Int))).1,((v1).getD (Int.toNat (Int.tmod (v7+(1:Int)) (((v1).length:Nat):Int))) ((0:Int),(0:Int))).2) (((v5).getD (Int.toNat v7) ((0:Int),(0:Int))).1,((v5).getD (Int.toNat v7) ((0:Int),(0:Int))).2)) fun y3 =>
 .ni ((0:Int) - y3.1.1) <|
 .nd (decide ((cX+((((((y3.1.2,((0:Int) - y3.1.1))::[])).drop (0:Nat)).take (1:Nat))).length)<bU)) <|
 .ni (v7+(1:Int)) <|
 .ret (.inl (v1,v5,v6,(v7+(1:Int)),w0,w4,w5,w6,IU,cC,cW,(cX+((((((y3.1.2,((0:Int) - y3.1.1))::[])).drop (0:Nat)).take (1:Nat))).length),((((b5).drop (0:Nat)).take cX)++(((((y3.1.2,((0:Int) - y3.1.1))::[])).drop (0:Nat)).take (1:Nat))),()))) (
 .ni (v7+(1:Int)) <|
 .ret (.inl (v1,v5,v6,(v7+(1:Int)),w0,w4,w5,w6,IU,cC,cW,cX,b5,())))) (
 .ret (.inr (cC,cW,cX,w0,w4,w5,w6,IU,b5,())))
noncomputable def MS:bp prog 33 none 5:=aR mixed A2 uP [0,1,2,3,4] rfl MP MQ rfl (MR) (fun x=>ag (g7_0i_0 x)) (fun x=>by kernel_rfl)
@[reducible] def p7_0:aC:=aC.mk [(0,.c (.hole (.list (.list (.prod tI tI))))),(3,.c (.ptr 0 0)),(4,hI),(5,hI),(6,hI),(8,.c (.ptr 1 0)),(26,.fn 47 [] [.bR (.list (.prod tI tI))])] [(0,.cells [.hole tI,.hole tI] false),(1,.cells [.bO 2 (.prod tI tI)] false),(2,.arr (.prod tI tI) false)] [.slot 3,.slot 8,.cell 1 0] []
@[reducible] def x7_0:aX:=[(.normal,aC.mk [(0,.c (.hole (.list (.list (.prod tI tI))))),(3,.c (.ptr 0 0)),(8,.c (.ptr 1 0))] [(0,.cells [.hole tI,.hole tI] false),(1,.cells [.bO 2 (.prod tI tI)] false),(2,.arr (.prod tI tI) false)] [.slot 3,.slot 8,.cell 1 0] [])]
noncomputable def Ol:D prog 33 none 5:=dO [.l MS] (kd prog f47) 0
theorem Xk:cD prog f47=some ⟨33,2,(Ol).er,[],[]⟩:=by kernel_rfl
noncomputable def g7_0:(List (List (Int×Int)))×Int×Int×Int×(List (Int×Int))×Int×Int×Nat×(List (Int×Int))×Unit->bJ (((List (List (Int×Int)))×Int×Int×Nat×(List (Int×Int))×Unit)):=fun (v0,v4,v5,v6,CT,cC,cW,cX,b2,_) =>
 .bd (.it g7_0i_0 (CT,CT,(((CT).length:Nat):Int),(0:Int),v0,v4,v5,v6,CT,cC,cW,cX,b2,())) fun z4 =>
 .ret ((v0,z4.1,z4.2.1,z4.2.2.1,z4.2.2.2.2.2.2.2.2.1,()))
noncomputable def R7_0:iI prog 64 none 0:=nt mixed A2 uP [] rfl p7_0 x7_0 ( .t 26) [27] rfl (Oi).er (Oj).er 47 func47 (Xk) (ai func47 rfl rfl) 5 rfl (Ol) rfl (fun x=>ag (g7_0 x)) (fun x=>by kernel_rfl)
@[reducible] def p7_1:aC:=aC.mk [(0,.c (.hole (.list (.list (.prod tI tI))))),(3,.c (.ptr 0 0)),(39,.c (.bO 1 (.prod tI tI))),(40,hI),(41,hI)] [(0,.cells [.hole tI,.hole tI] false),(1,.arr (.prod tI tI) false)] [.slot 3,.slot 39] []
@[reducible] def x7_1:aX:=[(.ret,aC.mk [(4,hI),(5,hI),(6,hI)] [] [] []),(.exit 2,aC.mk [] [] [] [])]
noncomputable def b7_1:D prog 64 none 0:=dO [] (pick (kd prog f7) [(1,false)]) 0
noncomputable def g7_1:(List (List (Int×Int)))×Nat×Int×Int×Int×Int×(List (Int×Int))×Unit->bJ (((List (List (Int×Int)))×Nat×Int×Int×Int×Int×(List (Int×Int))×Unit) ⊕ ((Int×Int×Int×Unit) ⊕ ((Unit)))):=fun (v0,Xl,nF,sY,cC,cW,b1,_) =>
 .br (decide (sY<nF)) (
 .nb sY ((Xl:Nat):Int) <|
 .nd (decide (((0:Nat)+(Int.toNat sY))<(b1).length)) <|
 .bd (F21 ((b1).getD ((0:Nat)+(Int.toNat sY)) ((0:Int),(0:Int))).1 ((b1).getD ((0:Nat)+(Int.toNat sY)) ((0:Int),(0:Int))).2) fun y6 =>
 .bd (F48 (cC,cW) y6.1 y6.2.1) fun y7 =>
 .bd (F22 v0 ((b1).getD ((0:Nat)+(Int.toNat sY)) ((0:Int),(0:Int))).1 ((b1).getD ((0:Nat)+(Int.toNat sY)) ((0:Int),(0:Int))).2) fun y8 =>
 .br (decide (y8.1<y7.1)) (
 .ret (.inr <| .inl<|(((b1).getD ((0:Nat)+(Int.toNat sY)) ((0:Int),(0:Int))).1,((b1).getD ((0:Nat)+(Int.toNat sY)) ((0:Int),(0:Int))).2,(0:Int),()))) (
 .ni (sY+(1:Int)) <|
 .ret (.inl (v0,Xl,nF,(sY+(1:Int)),cC,cW,b1,())))) (
 .ret (.inr <| .inr<|()))
noncomputable def L7_1:bp prog 64 none 0:=aR mixed Yi wO [] rfl p7_1 x7_1 rfl (b7_1) (fun x=>ag (g7_1 x)) (fun x=>by kernel_rfl)
noncomputable def dd7:D prog 64 none 0:=dO [.r R7_0,.l L7_1] (kd prog f7) 0
noncomputable def F7 (a0:List (List (Int×Int))) (a1:Int×Int):bJ (Int×Int×Int×Unit) :=
 .bd (F14 a0 (a1.1,a1.2)) fun y0 =>
 .br (!(y0.1==(0:Int))) (
 .ret ((0:Int),(0:Int),y0.1,())) (
 .bd (F16 a0) fun y1 =>
 .bd (F20 y1.1.1) fun y2 =>
 .bd (g7_0 (a0,(0:Int),(0:Int),(0:Int),y2.1,a1.1,a1.2,(4:Nat),(((1:Int),(0:Int))::(((-1:Int),(0:Int))::(((0:Int),(1:Int))::(((0:Int),(-1:Int))::[])))),())) fun z5 =>
 .bd (.it g7_1 (z5.1,z5.2.2.2.1,((z5.2.2.2.1:Nat):Int),(0:Int),z5.2.1,z5.2.2.1,z5.2.2.2.2.1,())) fun z9 =>
 .sm z9 (fun oR =>
 .ret (oR.1,oR.2.1,oR.2.2.1,())) fun IQ =>
 .ret ((0:Int),(0:Int),(5:Int),()))
theorem Xm:cD prog f7=some ⟨64,2,dd7.er,[.t 4,.t 5,.t 6],[some tI,some tI,some tI]⟩:=by kernel_rfl
noncomputable def ct7:Ct:=⟨7,[.c (.hole (.list (.list (.prod tI tI)))),.c (.hole (.prod tI tI))],.cq [.hole tI,.hole tI,.hole tI],fun x=>ag (F7 x.1 x.2.1)⟩
theorem RA:ct7.Ok prog:=bh mixed wO func7 Xm (ai func7 rfl rfl) dd7 (by kernel_rfl) rfl (fun x=>by kernel_rfl)

/- 8 -/
noncomputable def cx8:Cx:=(aN [Io,LA,MK,Mq,MJ] [])
theorem IV:cx8.Ok prog:=au ⟨qw,wC,wN,wG,wK,trivial⟩ trivial
@[reducible] def p8_0:aC:=aC.mk [(0,.c (.hole (.list (.list (.prod tI tI))))),(4,.c (.ptr 0 0)),(5,.c (.ptr 1 0)),(8,.c (.ptr 2 0)),(34,.c (.hole (.list (.prod tI tI)))),(35,hI),(36,hI)] [(0,.cells [.hole tI,.hole tI] false),(1,.cells [.hole tI,.hole (.list (.prod tI tI))] false),(2,.cells [.hole tI,.hole tI] false)] [.slot 4,.slot 5,.slot 8] []
@[reducible] def x8_0:aX:=[(.ret,aC.mk [(6,hI)] [] [] []),(.exit 1,aC.mk [(4,.c (.ptr 0 0)),(5,.c (.ptr 1 0)),(8,.c (.ptr 2 0))] [(0,.cells [.hole tI,.hole tI] false),(1,.cells [.hole tI,.hole (.list (.prod tI tI))] false),(2,.cells [.hole tI,.hole tI] false)] [.slot 4,.slot 5,.slot 8] [])]
noncomputable def b8_0:D prog 68 none 0:=dO [] (pick (kd prog f8) [(0,false)]) 0
noncomputable def g8_0:(List (List (Int×Int)))×(List (Int×Int))×Int×Int×Int×Int×Int×(List (Int×Int))×Int×Int×Unit->bJ (((List (List (Int×Int)))×(List (Int×Int))×Int×Int×Int×Int×Int×(List (Int×Int))×Int×Int×Unit) ⊕ ((Int×Unit) ⊕ ((Int×Int×Int×(List (Int×Int))×Int×Int×Unit)))):=fun (v0,Om,v35,bE,cC,cW,cG,lC,gV,oP,_) =>
 .br (decide (bE<v35)) (
 .nb bE (((Om).length:Nat):Int) <|
 .ni ((1000:Int) * cG) <|
 .bd (F23 (((Om).getD (Int.toNat bE) ((0:Int),(0:Int))).1,((Om).getD (Int.toNat bE) ((0:Int),(0:Int))).2) ((1000:Int) * cG)) fun y1 =>
 .br (!y1.1) (
 .ret (.inr <| .inl<|((10:Int),()))) (
 .nb bE (((v0).length:Nat):Int) <|
 .bd (F15 ((v0).getD (Int.toNat bE) []) (((Om).getD (Int.toNat bE) ((0:Int),(0:Int))).1,((Om).getD (Int.toNat bE) ((0:Int),(0:Int))).2) cG) fun y2 =>
 .br (!y2.1) (
 .ret (.inr <| .inl<|((10:Int),()))) (
 .bd (F18 (gV,oP) (((Om).getD (Int.toNat bE) ((0:Int),(0:Int))).1,((Om).getD (Int.toNat bE) ((0:Int),(0:Int))).2)) fun y3 =>
 .ni (bE+(1:Int)) <|
 .ret (.inl (v0,Om,v35,(bE+(1:Int)),cC,cW,cG,lC,y3.1.1,y3.1.2,()))))) (
 .ret (.inr <| .inr<|(cC,cW,cG,lC,gV,oP,())))
noncomputable def L8_0:bp prog 68 none 0:=aR mixed cx8 IV [] rfl p8_0 x8_0 rfl (b8_0) (fun x=>ag (g8_0 x)) (fun x=>by kernel_rfl)
noncomputable def dd8:D prog 68 none 0:=dO [.l L8_0] (kd prog f8) 0
noncomputable def F8 (a0:List (List (Int×Int))) (a1:Int×Int) (a2:Int×List (Int×Int)):bJ (Int×Unit) :=
 .bd (F14 a0 (a1.1,a1.2)) fun y0 =>
 .br (!(y0.1==(0:Int))) (
 .ret (y0.1,())) (
 .br (decide (a2.1<(1:Int))) (
 .ret ((2:Int),())) (
 .br (decide ((1000000000:Int)<a2.1)) (
 .ret ((2:Int),())) (
 .br (!((((a2.2).length:Nat):Int)==(((a0).length:Nat):Int))) (
 .ret ((3:Int),())) (
 .bd (.it g8_0 (a0,a2.2,(((a2.2).length:Nat):Int),(0:Int),a1.1,a1.2,a2.1,a2.2,(0:Int),(0:Int),())) fun z4 =>
 .sm z4 (fun z5 =>
 .ret (z5.1,())) fun z6 =>
 .bd (F19 (z6.1,z6.2.1) z6.2.2.1) fun y7 =>
 .br (!((z6.2.2.2.2.1==y7.1.1)&&((z6.2.2.2.2.2.1==y7.1.2)&&true))) (
 .ret ((19:Int),())) (
 .ret ((0:Int),()))))))
theorem Xn:cD prog f8=some ⟨68,3,dd8.er,[.t 6],[some tI]⟩:=by kernel_rfl
noncomputable def ct8:Ct:=⟨8,[.c (.hole (.list (.list (.prod tI tI)))),.c (.hole (.prod tI tI)),.c (.hole (.prod tI (.list (.prod tI tI))))],hI,fun x=>ag (F8 x.1 x.2.1 x.2.2.1)⟩
theorem RB:ct8.Ok prog:=bh mixed IV func8 Xn (ai func8 rfl rfl) dd8 (by kernel_rfl) rfl (fun x=>by kernel_rfl)

/- 24 -/
noncomputable def cx24:Cx:=(aN [Mn,IF] [])
theorem MT:cx24.Ok prog:=au ⟨wF,qx,trivial⟩ trivial
noncomputable def Xo:D prog 13 none 0:=dO [] (kd prog f24) 0
noncomputable def F24 (a0:List (List (Int×Int))):bJ ((List (Int×Int))×Int×Unit) :=
 .bd (F38 a0) fun y0 =>
 .br (!(y0.1==(0:Int))) (
 .ret ([],y0.1,())) (
 .bd (F16 a0) fun y1 =>
 .ret (y1.1.1,(0:Int),()))
theorem RC:cD prog f24=some ⟨13,1,Xo.er,[.t 2,.t 3],[some (.list (.prod tI tI)),some tI]⟩:=by kernel_rfl
noncomputable def Xp:Ct:=⟨24,[.c (.hole (.list (.list (.prod tI tI))))],.cq [.hole (.list (.prod tI tI)),.hole tI],fun x=>ag (F24 x.1)⟩
theorem MU:Xp.Ok prog:=bh mixed MT func24 RC (ai func24 rfl rfl) Xo (by kernel_rfl) rfl (fun x=>by kernel_rfl)

/- 9 -/
noncomputable def cx9:Cx:=(aN [Xp] [])
theorem RD:cx9.Ok prog:=au ⟨MU,trivial⟩ trivial
noncomputable def dd9:D prog 35 none 0:=dO [] (kd prog f9) 0
noncomputable def F9:bJ (Bool×Unit) :=
 .bd (F24 ((((((((((2:Int),(-1:Int))::(((5:Int),(2:Int))::[]))).drop (0:Nat)).take (2:Nat))::(((((((2:Int),(-1:Int))::(((5:Int),(2:Int))::[]))).drop (0:Nat)).take (2:Nat))::[]))).drop (0:Nat)).take (2:Nat))) fun y0 =>
 .br (y0.2.1==(0:Int)) (
 .br ((((y0.1).length:Nat):Int)==(2:Int)) (
 .nb (0:Int) (((y0.1).length:Nat):Int) <|
 .br ((((y0.1).getD (Int.toNat (0:Int)) ((0:Int),(0:Int))).1==(4:Int))&&((((y0.1).getD (Int.toNat (0:Int)) ((0:Int),(0:Int))).2==(-2:Int))&&true)) (
 .nb (1:Int) (((y0.1).length:Nat):Int) <|
 .ret (((((y0.1).getD (Int.toNat (1:Int)) ((0:Int),(0:Int))).1==(10:Int))&&((((y0.1).getD (Int.toNat (1:Int)) ((0:Int),(0:Int))).2==(4:Int))&&true)),())) (
 .ret (false,()))) (
 .ret (false,()))) (
 .ret (false,()))
theorem Xq:cD prog f9=some ⟨35,0,dd9.er,[.t 0],[some .bool]⟩:=by kernel_rfl
noncomputable def ct9:Ct:=⟨9,[],.c (.hole .bool),fun x=>ag (F9)⟩
theorem RE:ct9.Ok prog:=bh mixed RD func9 Xq (ai func9 rfl rfl) dd9 (by kernel_rfl) rfl (fun x=>by kernel_rfl)

/- 25 -/
noncomputable def cx25:Cx:=(aN [Mn,Ql] [])
theorem MV:cx25.Ok prog:=au ⟨wF,Cq,trivial⟩ trivial
noncomputable def Xr:D prog 23 none 0:=dO [] (kd prog f25) 0
noncomputable def F25 (a0:List (List (Int×Int))) (a1:Int) (a2:Int):bJ (Int×Unit) :=
 .bd (F38 a0) fun y0 =>
 .br (y0.1==(0:Int)) (
 .bd (F50 a1 (100000:Int)) fun y1 =>
 .br (!y1.1) (
 .ret ((2:Int),())) (
 .bd (F50 a2 (100000:Int)) fun y2 =>
 .br (!y2.1) (
 .ret ((2:Int),())) (
 .ret (y0.1,())))) (
 .ret (y0.1,()))
theorem RG:cD prog f25=some ⟨23,3,Xr.er,[.t 6],[some tI]⟩:=by kernel_rfl
noncomputable def Xs:Ct:=⟨25,[.c (.hole (.list (.list (.prod tI tI)))),hI,hI],hI,fun x=>ag (F25 x.1 x.2.1 x.2.2.1)⟩
theorem MW:Xs.Ok prog:=bh mixed MV func25 RG (ai func25 rfl rfl) Xr (by kernel_rfl) rfl (fun x=>by kernel_rfl)

/- 10 -/
noncomputable def cx10:Cx:=(aN [Xs,Rz] [])
theorem MX:cx10.Ok prog:=au ⟨MW,CS,trivial⟩ trivial
noncomputable def Xt:D prog 20 none 0:=dO [] (kd prog f10) 0
noncomputable def F10 (a0:List (List (Int×Int))) (a1:Int) (a2:Int):bJ (Int×Int×Unit) :=
 .bd (F25 a0 a1 a2) fun y0 =>
 .br (!(y0.1==(0:Int))) (
 .ret ((0:Int),y0.1,())) (
 .bd (F22 a0 a1 a2) fun y1 =>
 .ret (y1.1,(0:Int),()))
theorem RH:cD prog f10=some ⟨20,3,Xt.er,[.t 6,.t 7],[some tI,some tI]⟩:=by kernel_rfl
noncomputable def Xu:Ct:=⟨10,[.c (.hole (.list (.list (.prod tI tI)))),hI,hI],.cq [.hole tI,.hole tI],fun x=>ag (F10 x.1 x.2.1 x.2.2.1)⟩
theorem MY:Xu.Ok prog:=bh mixed MX func10 RH (ai func10 rfl rfl) Xt (by kernel_rfl) rfl (fun x=>by kernel_rfl)

/- 3 -/
noncomputable def cx3:Cx:=(aN [ct4,ct5,ct6,ct7,ct8,ct9,Xu] [])
theorem IW:cx3.Ok prog:=au ⟨Qj,Rq,Rs,RA,RB,RE,MY,trivial⟩ trivial
@[reducible] def p3_0:aC:=aC.mk [(5,.c (.pa 0 (.int .u8) 4)),(6,.c (.pa 1 (.int .u8) 4)),(7,.c (.pa 2 (.int .u8) 4)),(8,.c (.pa 3 (.int .u8) 2)),(9,.c (.pa 4 (.int .i8) 2)),(11,.c (.pa 5 tI 4)),(12,.c (.pa 6 tI 4)),(13,.c (.pa 7 tI 4)),(14,.c (.pa 8 tI 4)),(15,.c (.pa 9 tI 4)),(36,hI)] [(0,.arr (.int .u8) false),(1,.arr (.int .u8) false),(2,.arr (.int .u8) false),(3,.arr (.int .u8) false),(4,.arr (.int .i8) false),(5,.arr tI false),(6,.arr tI false),(7,.arr tI false),(8,.arr tI false),(9,.arr tI false)] [.slot 5,.slot 6,.slot 7,.slot 8,.slot 9,.slot 11,.slot 12,.slot 13,.slot 14,.slot 15] []
@[reducible] def x3_0:aX:=[(.exit 0,aC.mk [(8,.c (.pa 0 (.int .u8) 2)),(9,.c (.pa 1 (.int .i8) 2)),(11,.c (.pa 2 tI 4)),(12,.c (.pa 3 tI 4)),(13,.c (.pa 4 tI 4)),(14,.c (.pa 5 tI 4)),(15,.c (.pa 6 tI 4))] [(0,.arr (.int .u8) false),(1,.arr (.int .i8) false),(2,.arr tI false),(3,.arr tI false),(4,.arr tI false),(5,.arr tI false),(6,.arr tI false)] [.slot 8,.slot 9,.slot 11,.slot 12,.slot 13,.slot 14,.slot 15] [])]
noncomputable def b3_0:D prog 306 none 0:=dO [] (pick (kd prog f3) [(0,false)]) 0
noncomputable def g3_0:Int×List Int×List Int×List Int×List Int×List Int×List Int×List Int×List Int×List Int×List Int×Unit->bJ ((Int×List Int×List Int×List Int×List Int×List Int×List Int×List Int×List Int×List Int×List Int×Unit) ⊕ ((List Int×List Int×List Int×List Int×List Int×List Int×List Int×Unit))):=fun (bE,b0,b1,b2,b3,b4,b5,b6,b7,b8,b9,_) =>
 .br (decide (bE<(4:Int))) (
 .nb bE (4:Int) <|
 .nd (decide ((Int.toNat bE)<(b0).length)) <|
 .ni ((b0).getD (Int.toNat bE) (0:Int)) <|
 .ni (((b0).getD (Int.toNat bE) (0:Int))+(10:Int)) <|
 .nb bE (4:Int) <|
 .nd (decide ((Int.toNat bE)<(b5).length)) <|
 .nb bE (4:Int) <|
 .nd (decide ((Int.toNat bE)<(((b5).set (Int.toNat bE) (((b0).getD (Int.toNat bE) (0:Int))+(10:Int)))).length)) <|
 .nb bE (4:Int) <|
 .nd (decide ((Int.toNat bE)<(b1).length)) <|
 .ni ((b1).getD (Int.toNat bE) (0:Int)) <|
 .nb bE (4:Int) <|
 .nd (decide ((Int.toNat bE)<(b6).length)) <|
 .nb bE (4:Int) <|
 .nd (decide ((Int.toNat bE)<(((b5).set (Int.toNat bE) (((b0).getD (Int.toNat bE) (0:Int))+(10:Int)))).length)) <|
 .nb bE (4:Int) <|
 .nd (decide ((Int.toNat bE)<(((b6).set (Int.toNat bE) (en ((((b5).set (Int.toNat bE) (((b0).getD (Int.toNat bE) (0:Int))+(10:Int)))).getD (Int.toNat bE) (0:Int)) ((b1).getD (Int.toNat bE) (0:Int))))).length)) <|
 .ni (((((b5).set (Int.toNat bE) (((b0).getD (Int.toNat bE) (0:Int))+(10:Int)))).getD (Int.toNat bE) (0:Int)) - ((((b6).set (Int.toNat bE) (en ((((b5).set (Int.toNat bE) (((b0).getD (Int.toNat bE) (0:Int))+(10:Int)))).getD (Int.toNat bE) (0:Int)) ((b1).getD (Int.toNat bE) (0:Int))))).getD (Int.toNat bE) (0:Int))) <|
 .nb bE (4:Int) <|
 .nd (decide ((Int.toNat bE)<(b8).length)) <|
 .nb bE (4:Int) <|
 .nd (decide ((Int.toNat bE)<(((b6).set (Int.toNat bE) (en ((((b5).set (Int.toNat bE) (((b0).getD (Int.toNat bE) (0:Int))+(10:Int)))).getD (Int.toNat bE) (0:Int)) ((b1).getD (Int.toNat bE) (0:Int))))).length)) <|
 .nb bE (4:Int) <|
 .nd (decide ((Int.toNat bE)<(b2).length)) <|
 .ni ((b2).getD (Int.toNat bE) (0:Int)) <|
 .nb bE (4:Int) <|
 .nd (decide ((Int.toNat bE)<(b7).length)) <|
 .nb bE (4:Int) <|
 .nd (decide ((Int.toNat bE)<(((b6).set (Int.toNat bE) (en ((((b5).set (Int.toNat bE) (((b0).getD (Int.toNat bE) (0:Int))+(10:Int)))).getD (Int.toNat bE) (0:Int)) ((b1).getD (Int.toNat bE) (0:Int))))).length)) <|
 .nb bE (4:Int) <|
 .nd (decide ((Int.toNat bE)<(((b7).set (Int.toNat bE) (en ((((b6).set (Int.toNat bE) (en ((((b5).set (Int.toNat bE) (((b0).getD (Int.toNat bE) (0:Int))+(10:Int)))).getD (Int.toNat bE) (0:Int)) ((b1).getD (Int.toNat bE) (0:Int))))).getD (Int.toNat bE) (0:Int)) ((b2).getD (Int.toNat bE) (0:Int))))).length)) <|
 .ni (((((b6).set (Int.toNat bE) (en ((((b5).set (Int.toNat bE) (((b0).getD (Int.toNat bE) (0:Int))+(10:Int)))).getD (Int.toNat bE) (0:Int)) ((b1).getD (Int.toNat bE) (0:Int))))).getD (Int.toNat bE) (0:Int)) - ((((b7).set (Int.toNat bE) (en ((((b6).set (Int.toNat bE) (en ((((b5).set (Int.toNat bE) (((b0).getD (Int.toNat bE) (0:Int))+(10:Int)))).getD (Int.toNat bE) (0:Int)) ((b1).getD (Int.toNat bE) (0:Int))))).getD (Int.toNat bE) (0:Int)) ((b2).getD (Int.toNat bE) (0:Int))))).getD (Int.toNat bE) (0:Int))) <|
 .nb bE (4:Int) <|
 .nd (decide ((Int.toNat bE)<(b9).length)) <|
 .ni (bE+(1:Int)) <|
 .ret (.inl ((bE+(1:Int)),b0,b1,b2,b3,b4,((b5).set (Int.toNat bE) (((b0).getD (Int.toNat bE) (0:Int))+(10:Int))),((b6).set (Int.toNat bE) (en ((((b5).set (Int.toNat bE) (((b0).getD (Int.toNat bE) (0:Int))+(10:Int)))).getD (Int.toNat bE) (0:Int)) ((b1).getD (Int.toNat bE) (0:Int)))),((b7).set (Int.toNat bE) (en ((((b6).set (Int.toNat bE) (en ((((b5).set (Int.toNat bE) (((b0).getD (Int.toNat bE) (0:Int))+(10:Int)))).getD (Int.toNat bE) (0:Int)) ((b1).getD (Int.toNat bE) (0:Int))))).getD (Int.toNat bE) (0:Int)) ((b2).getD (Int.toNat bE) (0:Int)))),((b8).set (Int.toNat bE) (((((b5).set (Int.toNat bE) (((b0).getD (Int.toNat bE) (0:Int))+(10:Int)))).getD (Int.toNat bE) (0:Int)) - ((((b6).set (Int.toNat bE) (en ((((b5).set (Int.toNat bE) (((b0).getD (Int.toNat bE) (0:Int))+(10:Int)))).getD (Int.toNat bE) (0:Int)) ((b1).getD (Int.toNat bE) (0:Int))))).getD (Int.toNat bE) (0:Int)))),((b9).set (Int.toNat bE) (((((b6).set (Int.toNat bE) (en ((((b5).set (Int.toNat bE) (((b0).getD (Int.toNat bE) (0:Int))+(10:Int)))).getD (Int.toNat bE) (0:Int)) ((b1).getD (Int.toNat bE) (0:Int))))).getD (Int.toNat bE) (0:Int)) - ((((b7).set (Int.toNat bE) (en ((((b6).set (Int.toNat bE) (en ((((b5).set (Int.toNat bE) (((b0).getD (Int.toNat bE) (0:Int))+(10:Int)))).getD (Int.toNat bE) (0:Int)) ((b1).getD (Int.toNat bE) (0:Int))))).getD (Int.toNat bE) (0:Int)) ((b2).getD (Int.toNat bE) (0:Int))))).getD (Int.toNat bE) (0:Int)))),()))) (
 .ret (.inr (b3,b4,b5,b6,b7,b8,b9,())))
noncomputable def L3_0:bp prog 306 none 0:=aR mixed cx3 IW [] rfl p3_0 x3_0 rfl (b3_0) (fun x=>ag (g3_0 x)) (fun x=>by kernel_rfl)
noncomputable def dd3:D prog 306 none 0:=dO [.l L3_0] (kd prog f3) 0
noncomputable def F3 (a0:Int×Int×Int×Int) (a1:Int×Int×Int×Int) (a2:Int×Int×Int×Int) (a3:Int×Int) (a4:Int×Int):bJ (Bool×Unit) :=
 .bd (.it g3_0 ((0:Int),(a0.1::(a0.2.1::(a0.2.2.1::(a0.2.2.2::[])))),(a1.1::(a1.2.1::(a1.2.2.1::(a1.2.2.2::[])))),(a2.1::(a2.2.1::(a2.2.2.1::(a2.2.2.2::[])))),(a3.1::(a3.2::[])),(a4.1::(a4.2::[])),(List.replicate (4:Nat) (0:Int)),(List.replicate (4:Nat) (0:Int)),(List.replicate (4:Nat) (0:Int)),(List.replicate (4:Nat) (0:Int)),(List.replicate (4:Nat) (0:Int)),())) fun z0 =>
 .bd (F4 ((3:Int),((((((-1:Int),(0:Int),true,((z0.2.2.1).getD (0:Nat) (0:Int)),((z0.2.2.1).getD (1:Nat) (0:Int)),((z0.2.2.1).getD (2:Nat) (0:Int)),((z0.2.2.1).getD (3:Nat) (0:Int)))::(((0:Int),(1:Int),false,(0:Int),(0:Int),(0:Int),(0:Int))::(((0:Int),(2:Int),false,(0:Int),(0:Int),(0:Int),(0:Int))::(((1:Int),(-1:Int),true,((z0.2.2.2.2.2.2.1).getD (0:Nat) (0:Int)),((z0.2.2.2.2.2.2.1).getD (1:Nat) (0:Int)),((z0.2.2.2.2.2.2.1).getD (2:Nat) (0:Int)),((z0.2.2.2.2.2.2.1).getD (3:Nat) (0:Int)))::(((1:Int),(-1:Int),true,((z0.2.2.2.2.1).getD (0:Nat) (0:Int)),((z0.2.2.2.2.1).getD (1:Nat) (0:Int)),((z0.2.2.2.2.1).getD (2:Nat) (0:Int)),((z0.2.2.2.2.1).getD (3:Nat) (0:Int)))::(((2:Int),(-1:Int),false,(0:Int),(0:Int),(0:Int),(0:Int))::[]))))))).drop (0:Nat)).take (6:Nat)))) fun y1 =>
 .br (!(y1.2.1==(0:Int))) (
 .ret (false,())) (
 .br (!((((y1.1).length:Nat):Int)==(6:Int))) (
 .ret (false,())) (
 .nb (1:Int) (((y1.1).length:Nat):Int) <|
 .br (!((((y1.1).getD (Int.toNat (1:Int)) ((0:Int),(0:Int),(0:Int),(0:Int),(0:Int))).1==(2:Int))&&((((y1.1).getD (Int.toNat (1:Int)) ((0:Int),(0:Int),(0:Int),(0:Int),(0:Int))).2.1==((z0.2.2.2.1).getD (0:Nat) (0:Int)))&&((((y1.1).getD (Int.toNat (1:Int)) ((0:Int),(0:Int),(0:Int),(0:Int),(0:Int))).2.2.1==((z0.2.2.2.1).getD (1:Nat) (0:Int)))&&((((y1.1).getD (Int.toNat (1:Int)) ((0:Int),(0:Int),(0:Int),(0:Int),(0:Int))).2.2.2.1==((z0.2.2.2.1).getD (2:Nat) (0:Int)))&&((((y1.1).getD (Int.toNat (1:Int)) ((0:Int),(0:Int),(0:Int),(0:Int),(0:Int))).2.2.2.2==((z0.2.2.2.1).getD (3:Nat) (0:Int)))&&true)))))) (
 .ret (false,())) (
 .nb (2:Int) (((y1.1).length:Nat):Int) <|
 .br (!((((y1.1).getD (Int.toNat (2:Int)) ((0:Int),(0:Int),(0:Int),(0:Int),(0:Int))).1==(2:Int))&&((((y1.1).getD (Int.toNat (2:Int)) ((0:Int),(0:Int),(0:Int),(0:Int),(0:Int))).2.1==((z0.2.2.2.2.2.1).getD (0:Nat) (0:Int)))&&((((y1.1).getD (Int.toNat (2:Int)) ((0:Int),(0:Int),(0:Int),(0:Int),(0:Int))).2.2.1==((z0.2.2.2.2.2.1).getD (1:Nat) (0:Int)))&&((((y1.1).getD (Int.toNat (2:Int)) ((0:Int),(0:Int),(0:Int),(0:Int),(0:Int))).2.2.2.1==((z0.2.2.2.2.2.1).getD (2:Nat) (0:Int)))&&((((y1.1).getD (Int.toNat (2:Int)) ((0:Int),(0:Int),(0:Int),(0:Int),(0:Int))).2.2.2.2==((z0.2.2.2.2.2.1).getD (3:Nat) (0:Int)))&&true)))))) (
 .ret (false,())) (
 .nb (5:Int) (((y1.1).length:Nat):Int) <|
 .nb (2:Int) (((y1.1).length:Nat):Int) <|
 .br (!((((y1.1).getD (Int.toNat (5:Int)) ((0:Int),(0:Int),(0:Int),(0:Int),(0:Int))).1==((y1.1).getD (Int.toNat (2:Int)) ((0:Int),(0:Int),(0:Int),(0:Int),(0:Int))).1)&&((((y1.1).getD (Int.toNat (5:Int)) ((0:Int),(0:Int),(0:Int),(0:Int),(0:Int))).2.1==((y1.1).getD (Int.toNat (2:Int)) ((0:Int),(0:Int),(0:Int),(0:Int),(0:Int))).2.1)&&((((y1.1).getD (Int.toNat (5:Int)) ((0:Int),(0:Int),(0:Int),(0:Int),(0:Int))).2.2.1==((y1.1).getD (Int.toNat (2:Int)) ((0:Int),(0:Int),(0:Int),(0:Int),(0:Int))).2.2.1)&&((((y1.1).getD (Int.toNat (5:Int)) ((0:Int),(0:Int),(0:Int),(0:Int),(0:Int))).2.2.2.1==((y1.1).getD (Int.toNat (2:Int)) ((0:Int),(0:Int),(0:Int),(0:Int),(0:Int))).2.2.2.1)&&((((y1.1).getD (Int.toNat (5:Int)) ((0:Int),(0:Int),(0:Int),(0:Int),(0:Int))).2.2.2.2==((y1.1).getD (Int.toNat (2:Int)) ((0:Int),(0:Int),(0:Int),(0:Int),(0:Int))).2.2.2.2)&&true)))))) (
 .ret (false,())) (
 .nb (2:Int) (((y1.1).length:Nat):Int) <|
 .jx (
 .br (((y1.1).getD (Int.toNat (2:Int)) ((0:Int),(0:Int),(0:Int),(0:Int),(0:Int))).2.2.2.1==(0:Int)) (
 .nd (decide ((0:Int)<=(0:Int))) <|
 .nd (decide ((0:Int)<=(1:Int))) <|
 .nd (decide ((1:Int)<=(2:Int))) <|
 .ret (.inl (((y1.1).getD (Int.toNat (2:Int)) ((0:Int),(0:Int),(0:Int),(0:Int),(0:Int))).2.2.2.1,((0:Nat)+(Int.toNat (0:Int))),((Int.toNat (1:Int)) - (Int.toNat (0:Int))),z0.1,z0.2.1,z0.2.2.2.2.2.1,(((0:Int),(0:Int))::((((y1.1).getD (Int.toNat (2:Int)) ((0:Int),(0:Int),(0:Int),(0:Int),(0:Int))).2.2.2.1,(0:Int))::[])),()))) (
 .ret (.inl (((y1.1).getD (Int.toNat (2:Int)) ((0:Int),(0:Int),(0:Int),(0:Int),(0:Int))).2.2.2.1,(0:Nat),(2:Nat),z0.1,z0.2.1,z0.2.2.2.2.2.1,(((0:Int),(0:Int))::((((y1.1).getD (Int.toNat (2:Int)) ((0:Int),(0:Int),(0:Int),(0:Int),(0:Int))).2.2.2.1,(0:Int))::[])),())))) fun j2 =>
 .br (decide (j2.1<(0:Int))) (
 .ret (false,())) (
 .br (decide ((1000:Int)<j2.1)) (
 .ret (false,())) (
 .nd (decide ((0:Nat)<(j2.2.2.2.1).length)) <|
 .ni ((j2.2.2.2.1).getD (0:Nat) (0:Int)) <|
 .nd (!((40:Int)==(0:Int))) <|
 .ni ((1:Int)+(Int.tmod ((j2.2.2.2.1).getD (0:Nat) (0:Int)) (40:Int))) <|
 .nd (decide ((1:Nat)<(j2.2.2.2.1).length)) <|
 .ni ((j2.2.2.2.1).getD (1:Nat) (0:Int)) <|
 .nd (!((30:Int)==(0:Int))) <|
 .ni ((0:Int) - ((1:Int)+(Int.tmod ((j2.2.2.2.1).getD (0:Nat) (0:Int)) (40:Int)))) <|
 .nd (decide ((0:Nat)<(j2.2.2.2.2.1).length)) <|
 .ni ((j2.2.2.2.2.1).getD (0:Nat) (0:Int)) <|
 .nd (decide ((1:Nat)<(j2.2.2.2.2.1).length)) <|
 .ni ((j2.2.2.2.2.1).getD (1:Nat) (0:Int)) <|
 .nd (!((4:Int)==(0:Int))) <|
 .ni (Int.tdiv ((j2.2.2.2.2.1).getD (1:Nat) (0:Int)) (4:Int)) <|
 .bd (F5 (((((((j2.2.2.2.2.2.2.1).drop j2.2.1).take j2.2.2.1)::((((((((0:Int) - ((1:Int)+(Int.tmod ((j2.2.2.2.1).getD (0:Nat) (0:Int)) (40:Int)))),(Int.tmod ((j2.2.2.2.1).getD (1:Nat) (0:Int)) (30:Int)))::(((0:Int),(0:Int))::[]))).drop (0:Nat)).take (2:Nat))::[]))).drop (0:Nat)).take (2:Nat)) (((j2.2.2.2.2.1).getD (0:Nat) (0:Int)),(Int.tdiv ((j2.2.2.2.2.1).getD (1:Nat) (0:Int)) (4:Int)))) fun y3 =>
 .br (!(y3.2.1==(0:Int))) (
 .ret (false,())) (
 .jx (
 .br ((Int.tmod ((j2.2.2.2.1).getD (1:Nat) (0:Int)) (30:Int))==(0:Int)) (
 .br ((Int.tdiv ((j2.2.2.2.2.1).getD (1:Nat) (0:Int)) (4:Int))==(0:Int)) (
 .ni ((0:Int) - ((1:Int)+(Int.tmod ((j2.2.2.2.1).getD (0:Nat) (0:Int)) (40:Int)))) <|
 .br (decide (((0:Int) - ((1:Int)+(Int.tmod ((j2.2.2.2.1).getD (0:Nat) (0:Int)) (40:Int))))<=((j2.2.2.2.2.1).getD (0:Nat) (0:Int)))) (
 .nd (decide ((2:Nat)<(j2.2.2.2.2.2.1).length)) <|
 .ret (.inl ((2:Nat),y3.1,(decide (((j2.2.2.2.2.1).getD (0:Nat) (0:Int))<=((j2.2.2.2.2.2.1).getD (2:Nat) (0:Int)))),((((j2.2.2.2.2.2.2.1).drop j2.2.1).take j2.2.2.1)::((((((((0:Int) - ((1:Int)+(Int.tmod ((j2.2.2.2.1).getD (0:Nat) (0:Int)) (40:Int)))),(Int.tmod ((j2.2.2.2.1).getD (1:Nat) (0:Int)) (30:Int)))::(((0:Int),(0:Int))::[]))).drop (0:Nat)).take (2:Nat))::[])),((j2.2.2.2.2.1).getD (0:Nat) (0:Int)),(Int.tdiv ((j2.2.2.2.2.1).getD (1:Nat) (0:Int)) (4:Int)),()))) (
 .ret (.inl ((2:Nat),y3.1,false,((((j2.2.2.2.2.2.2.1).drop j2.2.1).take j2.2.2.1)::((((((((0:Int) - ((1:Int)+(Int.tmod ((j2.2.2.2.1).getD (0:Nat) (0:Int)) (40:Int)))),(Int.tmod ((j2.2.2.2.1).getD (1:Nat) (0:Int)) (30:Int)))::(((0:Int),(0:Int))::[]))).drop (0:Nat)).take (2:Nat))::[])),((j2.2.2.2.2.1).getD (0:Nat) (0:Int)),(Int.tdiv ((j2.2.2.2.2.1).getD (1:Nat) (0:Int)) (4:Int)),())))) (
 .ret (.inl ((2:Nat),y3.1,false,((((j2.2.2.2.2.2.2.1).drop j2.2.1).take j2.2.2.1)::((((((((0:Int) - ((1:Int)+(Int.tmod ((j2.2.2.2.1).getD (0:Nat) (0:Int)) (40:Int)))),(Int.tmod ((j2.2.2.2.1).getD (1:Nat) (0:Int)) (30:Int)))::(((0:Int),(0:Int))::[]))).drop (0:Nat)).take (2:Nat))::[])),((j2.2.2.2.2.1).getD (0:Nat) (0:Int)),(Int.tdiv ((j2.2.2.2.2.1).getD (1:Nat) (0:Int)) (4:Int)),())))) (
 .br (decide ((0:Int)<=(Int.tdiv ((j2.2.2.2.2.1).getD (1:Nat) (0:Int)) (4:Int)))) (
 .br (decide ((Int.tdiv ((j2.2.2.2.2.1).getD (1:Nat) (0:Int)) (4:Int))<=(Int.tmod ((j2.2.2.2.1).getD (1:Nat) (0:Int)) (30:Int)))) (
 .ni ((Int.tmod ((j2.2.2.2.1).getD (1:Nat) (0:Int)) (30:Int)) * ((j2.2.2.2.2.1).getD (0:Nat) (0:Int))) <|
 .ni ((0:Int) - ((1:Int)+(Int.tmod ((j2.2.2.2.1).getD (0:Nat) (0:Int)) (40:Int)))) <|
 .ni (((0:Int) - ((1:Int)+(Int.tmod ((j2.2.2.2.1).getD (0:Nat) (0:Int)) (40:Int)))) * (Int.tdiv ((j2.2.2.2.2.1).getD (1:Nat) (0:Int)) (4:Int))) <|
 .br (decide ((((0:Int) - ((1:Int)+(Int.tmod ((j2.2.2.2.1).getD (0:Nat) (0:Int)) (40:Int)))) * (Int.tdiv ((j2.2.2.2.2.1).getD (1:Nat) (0:Int)) (4:Int)))<=((Int.tmod ((j2.2.2.2.1).getD (1:Nat) (0:Int)) (30:Int)) * ((j2.2.2.2.2.1).getD (0:Nat) (0:Int))))) (
 .ni ((Int.tmod ((j2.2.2.2.1).getD (1:Nat) (0:Int)) (30:Int)) * ((j2.2.2.2.2.1).getD (0:Nat) (0:Int))) <|
 .nd (decide ((2:Nat)<(j2.2.2.2.2.2.1).length)) <|
 .ni ((Int.tmod ((j2.2.2.2.1).getD (1:Nat) (0:Int)) (30:Int)) * ((j2.2.2.2.2.2.1).getD (2:Nat) (0:Int))) <|
 .ni (((1:Int)+(Int.tmod ((j2.2.2.2.1).getD (0:Nat) (0:Int)) (40:Int))) * (Int.tdiv ((j2.2.2.2.2.1).getD (1:Nat) (0:Int)) (4:Int))) <|
 .ni (((Int.tmod ((j2.2.2.2.1).getD (1:Nat) (0:Int)) (30:Int)) * ((j2.2.2.2.2.2.1).getD (2:Nat) (0:Int))) - (((1:Int)+(Int.tmod ((j2.2.2.2.1).getD (0:Nat) (0:Int)) (40:Int))) * (Int.tdiv ((j2.2.2.2.2.1).getD (1:Nat) (0:Int)) (4:Int)))) <|
 .ret (.inl ((2:Nat),y3.1,(decide (((Int.tmod ((j2.2.2.2.1).getD (1:Nat) (0:Int)) (30:Int)) * ((j2.2.2.2.2.1).getD (0:Nat) (0:Int)))<=(((Int.tmod ((j2.2.2.2.1).getD (1:Nat) (0:Int)) (30:Int)) * ((j2.2.2.2.2.2.1).getD (2:Nat) (0:Int))) - (((1:Int)+(Int.tmod ((j2.2.2.2.1).getD (0:Nat) (0:Int)) (40:Int))) * (Int.tdiv ((j2.2.2.2.2.1).getD (1:Nat) (0:Int)) (4:Int)))))),((((j2.2.2.2.2.2.2.1).drop j2.2.1).take j2.2.2.1)::((((((((0:Int) - ((1:Int)+(Int.tmod ((j2.2.2.2.1).getD (0:Nat) (0:Int)) (40:Int)))),(Int.tmod ((j2.2.2.2.1).getD (1:Nat) (0:Int)) (30:Int)))::(((0:Int),(0:Int))::[]))).drop (0:Nat)).take (2:Nat))::[])),((j2.2.2.2.2.1).getD (0:Nat) (0:Int)),(Int.tdiv ((j2.2.2.2.2.1).getD (1:Nat) (0:Int)) (4:Int)),()))) (
 .ret (.inl ((2:Nat),y3.1,false,((((j2.2.2.2.2.2.2.1).drop j2.2.1).take j2.2.2.1)::((((((((0:Int) - ((1:Int)+(Int.tmod ((j2.2.2.2.1).getD (0:Nat) (0:Int)) (40:Int)))),(Int.tmod ((j2.2.2.2.1).getD (1:Nat) (0:Int)) (30:Int)))::(((0:Int),(0:Int))::[]))).drop (0:Nat)).take (2:Nat))::[])),((j2.2.2.2.2.1).getD (0:Nat) (0:Int)),(Int.tdiv ((j2.2.2.2.2.1).getD (1:Nat) (0:Int)) (4:Int)),())))) (
 .ret (.inl ((2:Nat),y3.1,false,((((j2.2.2.2.2.2.2.1).drop j2.2.1).take j2.2.2.1)::((((((((0:Int) - ((1:Int)+(Int.tmod ((j2.2.2.2.1).getD (0:Nat) (0:Int)) (40:Int)))),(Int.tmod ((j2.2.2.2.1).getD (1:Nat) (0:Int)) (30:Int)))::(((0:Int),(0:Int))::[]))).drop (0:Nat)).take (2:Nat))::[])),((j2.2.2.2.2.1).getD (0:Nat) (0:Int)),(Int.tdiv ((j2.2.2.2.2.1).getD (1:Nat) (0:Int)) (4:Int)),())))) (
 .ret (.inl ((2:Nat),y3.1,false,((((j2.2.2.2.2.2.2.1).drop j2.2.1).take j2.2.2.1)::((((((((0:Int) - ((1:Int)+(Int.tmod ((j2.2.2.2.1).getD (0:Nat) (0:Int)) (40:Int)))),(Int.tmod ((j2.2.2.2.1).getD (1:Nat) (0:Int)) (30:Int)))::(((0:Int),(0:Int))::[]))).drop (0:Nat)).take (2:Nat))::[])),((j2.2.2.2.2.1).getD (0:Nat) (0:Int)),(Int.tdiv ((j2.2.2.2.2.1).getD (1:Nat) (0:Int)) (4:Int)),()))))) fun j4 =>
 .br (!(j4.2.1==j4.2.2.1)) (
 .ret (false,())) (
 .bd (F6 (((j4.2.2.2.1).drop (0:Nat)).take j4.1) (j4.2.2.2.2.1,j4.2.2.2.2.2.1)) fun y5 =>
 .bd (F7 (((j4.2.2.2.1).drop (0:Nat)).take j4.1) (j4.2.2.2.2.1,j4.2.2.2.2.2.1)) fun y6 =>
 .br j4.2.1 (
 .br (y5.2.1==(0:Int)) (
 .br (y6.2.2.1==(5:Int)) (
 .bd (F8 (((j4.2.2.2.1).drop (0:Nat)).take j4.1) (j4.2.2.2.2.1,j4.2.2.2.2.2.1) (y5.1.1,y5.1.2)) fun y7 =>
 .br (y7.1==(0:Int)) (
 .bd (F9) fun y8 =>
 .ret (y8.1,())) (
 .ret (false,()))) (
 .ret (false,()))) (
 .ret (false,()))) (
 .bd (F10 (((j4.2.2.2.1).drop (0:Nat)).take j4.1) y6.1 y6.2.1) fun y9 =>
 .br (y5.2.1==(10:Int)) (
 .br (y6.2.2.1==(0:Int)) (
 .br (y9.2.1==(0:Int)) (
 .ni (y6.1 * j4.2.2.2.2.1) <|
 .ni (y6.2.1 * j4.2.2.2.2.2.1) <|
 .ni ((y6.1 * j4.2.2.2.2.1)+(y6.2.1 * j4.2.2.2.2.2.1)) <|
 .br (decide (y9.1<((y6.1 * j4.2.2.2.2.1)+(y6.2.1 * j4.2.2.2.2.2.1)))) (
 .bd (F9) fun y10 =>
 .ret (y10.1,())) (
 .ret (false,()))) (
 .ret (false,()))) (
 .ret (false,()))) (
 .ret (false,()))))))))))))
theorem Xv:cD prog f3=some ⟨306,5,dd3.er,[.t 10],[some .bool]⟩:=by kernel_rfl
noncomputable def ct3:Ct:=⟨3,[.c (.hole (.prod (.int .u8) (.prod (.int .u8) (.prod (.int .u8) (.int .u8))))),.c (.hole (.prod (.int .u8) (.prod (.int .u8) (.prod (.int .u8) (.int .u8))))),.c (.hole (.prod (.int .u8) (.prod (.int .u8) (.prod (.int .u8) (.int .u8))))),.c (.hole (.prod (.int .u8) (.int .u8))),.c (.hole (.prod (.int .i8) (.int .i8)))],.c (.hole .bool),fun x=>ag (F3 x.1 x.2.1 x.2.2.1 x.2.2.2.1 x.2.2.2.2.1)⟩
theorem RI:ct3.Ok prog:=bh mixed IW func3 Xv (ai func3 rfl rfl) dd3 (by kernel_rfl) rfl (fun x=>Eq.trans (b:=ag (flat (F3 x.1 x.2.1 x.2.2.1 x.2.2.2.1 x.2.2.2.2.1))) (by kernel_rfl) kJ)

end Go.Proofs.Try

