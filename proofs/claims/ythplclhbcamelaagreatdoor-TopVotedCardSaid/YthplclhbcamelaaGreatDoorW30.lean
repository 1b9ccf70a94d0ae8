/- Functions of the program as functions of data, part 1; printed by a program of mine. -/
import Derived.Test.YthplclhbcamelaaGreatDoorP3
import Derived.Test.YthplclhbcamelaaGreatDoorProg
set_option linter.unusedSectionVars false
set_option linter.unusedVariables false
set_option linter.unusedSimpArgs false
open Go.AM
namespace Go.Proofs.Tryz
set_option maxRecDepth 100000
set_option synthInstance.maxSize 4000
set_option synthInstance.maxHeartbeats 400000
set_option synthInstance.maxSize 4000
set_option synthInstance.maxHeartbeats 400000
theorem mixed : prog.follows .mixedOrders = true := by kernel_rfl
@[reducible] def oo (n : Nat) (i : I) : dD := .op (some n) none i
@[reducible] def om (n k : Nat) : dD := .op (some n) none (.mv (.t k))
@[reducible] def ol (n k : Nat) : dD := .op (some n) none (.load false 1 (.t k))
@[reducible] def og (n k : Nat) (b : Bool) (i : I) : dD := .op (some n) (some (k, b)) i
@[reducible] def ki (n : Nat) : O := .c (.int .i64 (Int.ofNat n))
@[reducible] def hzI : SP := .c (.hole (.int .i64))
@[reducible] def hzL : SP := .c (.hole (.list (.int .i64)))
@[reducible] def hzM : SP := .c (.hole (.list (.list (.int .i64))))

/- 44 -/
noncomputable def cx44:Cx:=(aV [] [])
theorem T6:cx44.Ok prog:=au trivial trivial
noncomputable def dd44:D prog 9 none 0:=dO [] (kd prog f44) 0
noncomputable def F44 (dg:List (Int×List Int)):bR (Int×Unit) :=
 .nb (0:Int) (((dg).length:Nat):Int) <|
 .ret ((((((dg).getD (Int.toNat (0:Int)) ((0:Int),[])).2).length:Nat):Int),())
theorem Zx:cN prog f44=some ⟨9,1,dd44.er,[.t 2],[some tI]⟩:=by kernel_rfl
noncomputable def Zy:Ct:=⟨44,[.agg [.hole (.list (.prod tI tL))]],hI,fun x=>ag (F44 x.1)⟩
theorem IK:Zy.Ok prog:=bn mixed T6 func44 Zx (ah func44 rfl rfl) dd44 (by kernel_rfl) rfl (fun x=>by kernel_rfl)

/- 53 -/
noncomputable def cx53:Cx:=(aV [] [])
theorem T7:cx53.Ok prog:=au trivial trivial
noncomputable def dd53:D prog 15 none 0:=dO [] (kd prog f53) 0
noncomputable def F53 (a0:Int) (a1:Int) (a2:Int):bR (Bool×Unit) :=
 .br (decide (a0<=a1)) (
 .ret ((decide (a1<=a2)),())) (
 .ret (false,()))
theorem Zz:cN prog f53=some ⟨15,3,dd53.er,[.t 6],[some .bool]⟩:=by kernel_rfl
noncomputable def PM:Ct:=⟨53,[hI,hI,hI],.c (.hole .bool),fun x=>ag (F53 x.1 x.2.1 x.2.2.1)⟩
theorem vD:PM.Ok prog:=bn mixed T7 func53 Zz (ah func53 rfl rfl) dd53 (by kernel_rfl) rfl (fun x=>by kernel_rfl)

/- 63 -/
noncomputable def cx63:Cx:=(aV [PM] [])
theorem T8:cx63.Ok prog:=au ⟨vD,trivial⟩ trivial
noncomputable def dd63:D prog 6 none 0:=dO [] (kd prog f63) 0
noncomputable def F63 (a0:Int):bR (Bool×Unit) :=
 .bd (F53 (0:Int) a0 (1000000:Int)) fun y0 =>
 .ret ((!y0.1),())
theorem ZA:cN prog f63=some ⟨6,1,dd63.er,[.t 2],[some .bool]⟩:=by kernel_rfl
noncomputable def ct63:Ct:=⟨63,[hI],.c (.hole .bool),fun x=>ag (F63 x.1)⟩
theorem Ua:ct63.Ok prog:=bn mixed T8 func63 ZA (ah func63 rfl rfl) dd63 (by kernel_rfl) rfl (fun x=>by kernel_rfl)

/- 51 -/
noncomputable def cx51:Cx:=(aV [ct63] [])
theorem IL:cx51.Ok prog:=au ⟨Ua,trivial⟩ trivial
@[reducible] def ad4:aG:=aG.mk [(0,hL),(1,.c (.fn0 63)),(7,hI),(8,hI)] [] [] []
@[reducible] def ad5:bt:=[(.ret,aG.mk [(4,hI)] [] [] []),(.exit 0,aG.mk [] [] [] [])]
noncomputable def ad6:D prog 19 none 0:=dO [] (pick (kd prog f51) [(0,false)]) 0
noncomputable def g51_0:List Int×Int×Int×Unit->bR ((List Int×Int×Int×Unit) ⊕ ((Int×Unit) ⊕ ((Unit)))):=fun (v0,v7,v8,_) =>
 .br (decide (v8<v7)) (
 .nb v8 (((v0).length:Nat):Int) <|
 .bd (F63 ((v0).getD (Int.toNat v8) (0:Int))) fun y0 =>
 .br y0.1 (
 .ret (.inr <| .inl<|(v8,()))) (
 .ni (v8+(1:Int)) <|
 .ret (.inl (v0,v7,(v8+(1:Int)),())))) (
 .ret (.inr <| .inr<|()))
noncomputable def ad7:bK prog 19 none 0:=bu mixed cx51 IL [] rfl ad4 ad5 rfl (ad6) (fun x=>ag (g51_0 x)) (fun x=>by kernel_rfl)
noncomputable def dd51:D prog 19 none 0:=dO [.l ad7] (kd prog f51) 0
noncomputable def F51 (a0:List Int):bR (Int×Unit) :=
 .bd (.it g51_0 (a0,(((a0).length:Nat):Int),(0:Int),())) fun z1 =>
 .sm z1 (fun z2 =>
 .ret (z2.1,())) fun z3 =>
 .ret ((-1:Int),())
theorem ZB:cN prog f51=some ⟨19,2,dd51.er,[.t 4],[some tI]⟩:=by kernel_rfl
noncomputable def ct51:Ct:=⟨51,[hL,.c (.fn0 63)],hI,fun x=>ag (F51 x.1)⟩
theorem Ub:ct51.Ok prog:=bn mixed IL func51 ZB (ah func51 rfl rfl) dd51 (by kernel_rfl) rfl (fun x=>by kernel_rfl)

/- 27 -/
noncomputable def cx27:Cx:=(aV [ct51] [])
theorem Uc:cx27.Ok prog:=au ⟨Ub,trivial⟩ trivial
noncomputable def dd27:D prog 9 none 0:=dO [] (kd prog f27) 0
noncomputable def F27 (a0:List Int):bR (Bool×Unit) :=
 .bd (F51 a0) fun y0 =>
 .ret ((decide ((0:Int)<=y0.1)),())
theorem ZC:cN prog f27=some ⟨9,2,dd27.er,[.t 4],[some .bool]⟩:=by kernel_rfl
noncomputable def ct27:Ct:=⟨27,[hL,.c (.fn0 63)],.c (.hole .bool),fun x=>ag (F27 x.1)⟩
theorem Ud:ct27.Ok prog:=bn mixed Uc func27 ZC (ah func27 rfl rfl) dd27 (by kernel_rfl) rfl (fun x=>by kernel_rfl)

/- 42 -/
noncomputable def cx42:Cx:=(aV [Zy,PM,ct27] [])
theorem IM:cx42.Ok prog:=au ⟨IK,vD,Ud,trivial⟩ trivial
@[reducible] def aed:aG:=aG.mk [(1,.c (.ptr 0 0)),(3,.c (.fn0 63)),(25,.c (.hole (.list (.prod tI tL)))),(26,hI),(27,hI)] [(0,.cells [.hole (.list (.prod tI tL))] false)] [.slot 1] []
@[reducible] def aee:bt:=[(.ret,aG.mk [(2,hI)] [] [] []),(.exit 1,aG.mk [] [] [] [])]
noncomputable def aef:D prog 50 none 0:=dO [] (pick (kd prog f42) [(0,false)]) 0
noncomputable def g42_0:(List (Int×List Int))×Int×Int×(List (Int×List Int))×Unit->bR (((List (Int×List Int))×Int×Int×(List (Int×List Int))×Unit) ⊕ ((Int×Unit) ⊕ ((Unit)))):=fun (Sq,v26,ZD,bp,_) =>
 .br (decide (ZD<v26)) (
 .nb ZD (((Sq).length:Nat):Int) <|
 .bd (F44 bp) fun y2 =>
 .br (!((((((Sq).getD (Int.toNat ZD) ((0:Int),[])).2).length:Nat):Int)==y2.1)) (
 .ret (.inr <| .inl<|((3:Int),()))) (
 .bd (F53 (1:Int) ((Sq).getD (Int.toNat ZD) ((0:Int),[])).1 (10000000:Int)) fun y3 =>
 .br (!y3.1) (
 .ret (.inr <| .inl<|((2:Int),()))) (
 .bd (F27 ((Sq).getD (Int.toNat ZD) ((0:Int),[])).2) fun y4 =>
 .br y4.1 (
 .ret (.inr <| .inl<|((2:Int),()))) (
 .ni (ZD+(1:Int)) <|
 .ret (.inl (Sq,v26,(ZD+(1:Int)),bp,())))))) (
 .ret (.inr <| .inr<|()))
noncomputable def aeg:bK prog 50 none 0:=bu mixed cx42 IM [] rfl aed aee rfl (aef) (fun x=>ag (g42_0 x)) (fun x=>by kernel_rfl)
noncomputable def dd42:D prog 50 none 0:=dO [.l aeg] (kd prog f42) 0
noncomputable def F42 (dg:List (Int×List Int)):bR (Int×Unit) :=
 .br ((((dg).length:Nat):Int)==(0:Int)) (
 .ret ((4:Int),())) (
 .br (decide ((3:Int)<(((dg).length:Nat):Int))) (
 .ret ((1:Int),())) (
 .bd (F44 dg) fun y0 =>
 .br (y0.1==(0:Int)) (
 .ret ((4:Int),())) (
 .bd (F44 dg) fun y1 =>
 .br (decide ((9:Int)<y1.1)) (
 .ret ((1:Int),())) (
 .bd (.it g42_0 (dg,(((dg).length:Nat):Int),(0:Int),dg,())) fun z5 =>
 .sm z5 (fun z6 =>
 .ret (z6.1,())) fun z7 =>
 .ret ((0:Int),())))))
theorem ZE:cN prog f42=some ⟨50,1,dd42.er,[.t 2],[some tI]⟩:=by kernel_rfl
noncomputable def ct42:Ct:=⟨42,[.agg [.hole (.list (.prod tI tL))]],hI,fun x=>ag (F42 x.1)⟩
theorem Ue:ct42.Ok prog:=bn mixed IM func42 ZE (ah func42 rfl rfl) dd42 (by kernel_rfl) rfl (fun x=>by kernel_rfl)

/- 43 -/
noncomputable def cx43:Cx:=(aV [] [])
theorem IP:cx43.Ok prog:=au trivial trivial
@[reducible] def aek:aG:=aG.mk [(1,hI),(5,.c (.cg 0 (.bU 26 true (.prod tI tL)))),(9,.c (.hole (.list (.prod tI tL)))),(10,hI),(11,hI)] [(0,.arr (.bU 26 true (.prod tI tL)) false)] [.slot 5] []
@[reducible] def ael:bt:=[(.exit 0,aG.mk [(5,.c (.cg 0 (.bU 26 true (.prod tI tL))))] [(0,.arr (.bU 26 true (.prod tI tL)) false)] [.slot 5] [])]
noncomputable def aem:D prog 26 none 0:=dO [] (pick (kd prog f43) [(0,false)]) 0
noncomputable def g43_0:Int×Nat×(List (Int×List Int))×Int×Int×(List (Int×List Int))×Unit->bR ((Int×Nat×(List (Int×List Int))×Int×Int×(List (Int×List Int))×Unit) ⊕ ((Nat×(List (Int×List Int))×Unit))):=fun (v1,FO,v9,v10,v11,b0,_) =>
 .br (decide (v11<v10)) (
 .nb v11 (((v9).length:Nat):Int) <|
 .br (!(v11==v1)) (
 .nd (decide ((FO+((((((((v9).getD (Int.toNat v11) ((0:Int),[])).1,((v9).getD (Int.toNat v11) ((0:Int),[])).2)::[])).drop (0:Nat)).take (1:Nat))).length)<cz)) <|
 .ni (v11+(1:Int)) <|
 .ret (.inl (v1,(FO+((((((((v9).getD (Int.toNat v11) ((0:Int),[])).1,((v9).getD (Int.toNat v11) ((0:Int),[])).2)::[])).drop (0:Nat)).take (1:Nat))).length),v9,v10,(v11+(1:Int)),((((b0).drop (0:Nat)).take FO)++(((((((v9).getD (Int.toNat v11) ((0:Int),[])).1,((v9).getD (Int.toNat v11) ((0:Int),[])).2)::[])).drop (0:Nat)).take (1:Nat))),()))) (
 .ni (v11+(1:Int)) <|
 .ret (.inl (v1,FO,v9,v10,(v11+(1:Int)),b0,())))) (
 .ret (.inr (FO,b0,())))
noncomputable def aen:bK prog 26 none 0:=bu mixed cx43 IP [] rfl aek ael rfl (aem) (fun x=>ag (g43_0 x)) (fun x=>by kernel_rfl)
noncomputable def dd43:D prog 26 none 0:=dO [.l aen] (kd prog f43) 0
noncomputable def F43 (dg:List (Int×List Int)) (a1:Int):bR ((List (Int×List Int))×Unit) :=
 .bd (.it g43_0 (a1,(0:Nat),dg,(((dg).length:Nat):Int),(0:Int),[],())) fun z0 =>
 .ret ((((z0.2.1).drop (0:Nat)).take z0.1),())
theorem ZF:cN prog f43=some ⟨26,2,dd43.er,[.t 4],[some (.list (.bU 26 true (.prod tI tL)))]⟩:=by kernel_rfl
noncomputable def ct43:Ct:=⟨43,[.agg [.hole (.list (.prod tI tL))],hI],.c (.hole (.list (.bU 26 true (.prod tI tL)))),fun x=>ag (F43 x.1 x.2.1)⟩
theorem Uf:ct43.Ok prog:=bn mixed IP func43 ZF (ah func43 rfl rfl) dd43 (by kernel_rfl) rfl (fun x=>by kernel_rfl)

/- 15 -/
noncomputable def cx15:Cx:=(aV [ct42,ct43,Zy] [])
theorem Ug:cx15.Ok prog:=au ⟨Ue,Uf,IK,trivial⟩ trivial
noncomputable def dd15:D prog 22 none 0:=dO [] (kd prog f15) 0
noncomputable def F15 (dg:List (Int×List Int)):bR (((List (Int×List Int))×Int×Int×Int×Unit) ⊕ ((List (Int×List Int))×(List (Int×List Int))×Int×Int×Int×Unit)) :=
 .bd (F42 dg) fun y0 =>
 .br (!(y0.1==(0:Int))) (
 .ret (.inl ([],(0:Int),(0:Int),y0.1,()))) (
 .bd (F43 dg (-1:Int)) fun y1 =>
 .bd (F44 dg) fun y2 =>
 .bd (F44 dg) fun y3 =>
 .nb y3.1 (64:Int) <|
 .nd (cP .u64 (bW.shl (1:Int) y3.1)) <|
 .nd (cP .u64 ((bW.shl (1:Int) y3.1) - (1:Int))) <|
 .ret (.inr (dg,y1.1,y2.1,((bW.shl (1:Int) y3.1) - (1:Int)),(0:Int),())))
theorem ZG:cN prog f15=some ⟨22,1,dd15.er,[.cell 2 true 4,.t 3],[some (.prod (.prod (.list (.prod tI tL)) .unit) (.prod (.bU 26 true (.prod tI tL)) (.prod tI (.int .u64)))),some tI]⟩:=by kernel_rfl
noncomputable def Uh:Ct:=⟨15,[.agg [.hole (.list (.prod tI tL))]],.alt [.zf (.cons (.hole (.list (.prod tI tL))) (.cons .cK (.cons (.hole tI) (.cons (.hole (.int .u64)) .nil)))),.hole tI] [.zf (.cons (.hole (.list (.prod tI tL))) (.cons (.fK 92 false (.cons (.hole (.list (.bU 26 true (.prod tI tL)))) .nil)) (.cons (.hole tI) (.cons (.hole (.int .u64)) .nil)))),.hole tI],fun x=>ag (F15 x.1)⟩
theorem BR:Uh.Ok prog:=bn mixed Ug func15 ZG (ah func15 rfl rfl) dd15 (by kernel_rfl) rfl (fun x=>by kernel_rfl)

/- 16 -/
noncomputable def cx16:Cx:=(aV [] [])
theorem Ui:cx16.Ok prog:=au trivial trivial
noncomputable def dd16:D prog 6 none 0:=dO [] (kd prog f16) 0
noncomputable def F16 (dg:List (Int×List Int)) (iu:Int) (uk:Int) (a1:List Int):bR ((List (Int×List Int))×Int×Int×List Int×Unit) :=
 .ret (dg,iu,uk,a1,())
theorem ZH:cN prog f16=some ⟨6,2,dd16.er,[.t 4],[none]⟩:=by kernel_rfl
noncomputable def ZI:Ct:=⟨16,[.agg [.hole (.list (.prod tI tL)),.cK,.hole tI,.hole (.int .u64)],hL],.fn 45 [] [.aJ (.cons (.hole (.list (.prod tI tL))) (.cons .cK (.cons (.hole tI) (.cons (.hole (.int .u64)) .nil)))),.av tL],fun x=>ag (F16 x.1 x.2.1 x.2.2.1 x.2.2.2.1)⟩
theorem IQ:ZI.Ok prog:=bn mixed Ui func16 ZH (ah func16 rfl rfl) dd16 (by kernel_rfl) rfl (fun x=>by kernel_rfl)

/- 34 -/
noncomputable def cx34:Cx:=(aV [] [])
theorem IU:cx34.Ok prog:=au trivial trivial
@[reducible] def aet:aG:=aG.mk [(0,.c (.hole (.int .u64))),(7,hL),(8,hI),(9,hI)] [] [] []
@[reducible] def aeu:bt:=[(.exit 0,aG.mk [(0,.c (.hole (.int .u64)))] [] [] [])]
noncomputable def aev:D prog 19 none 0:=dO [] (pick (kd prog f34) [(0,false)]) 0
noncomputable def g34_0:Int×List Int×Int×Int×Unit->bR ((Int×List Int×Int×Int×Unit) ⊕ ((Int×Unit))):=fun (v0,v7,v8,v9,_) =>
 .br (decide (v9<v8)) (
 .nb v9 (((v7).length:Nat):Int) <|
 .nb ((v7).getD (Int.toNat v9) (0:Int)) (64:Int) <|
 .nd (cP .u64 (bW.shl (1:Int) ((v7).getD (Int.toNat v9) (0:Int)))) <|
 .ni (v9+(1:Int)) <|
 .ret (.inl ((bW.bits Go.AM.fD.andNot Go.IntKind.u64 v0 (bW.shl (1:Int) ((v7).getD (Int.toNat v9) (0:Int)))),v7,v8,(v9+(1:Int)),()))) (
 .ret (.inr (v0,())))
noncomputable def aew:bK prog 19 none 0:=bu mixed cx34 IU [] rfl aet aeu rfl (aev) (fun x=>ag (g34_0 x)) (fun x=>by kernel_rfl)
noncomputable def dd34:D prog 19 none 0:=dO [.l aew] (kd prog f34) 0
noncomputable def F34 (a0:Int) (a1:List Int):bR (Int×Unit) :=
 .bd (.it g34_0 (a0,a1,(((a1).length:Nat):Int),(0:Int),())) fun z0 =>
 .ret (z0.1,())
theorem ZJ:cN prog f34=some ⟨19,2,dd34.er,[.t 4],[some (.int .u64)]⟩:=by kernel_rfl
noncomputable def Ls:Ct:=⟨34,[.c (.hole (.int .u64)),hL],.c (.hole (.int .u64)),fun x=>ag (F34 x.1 x.2.1)⟩
theorem sy:Ls.Ok prog:=bn mixed IU func34 ZJ (ah func34 rfl rfl) dd34 (by kernel_rfl) rfl (fun x=>by kernel_rfl)

/- 46, lent -/
@[reducible] def pH46:aG:=aG.mk [(0,.c (.hole (.int .u64)))] [] [] []
@[reducible] def qH46:aG:=aG.mk [(0,.fn 64 [] [.ptr 0 0])] [(0,.cells [.hole (.int .u64)] false)] [.part 0 0] []
noncomputable def aey:Cx:=(aV [] [])
theorem PN:aey.Ok prog:=au trivial trivial
noncomputable def Xy:D prog 4 none 0:=dO [] (kd prog f46) 0
noncomputable def FH46 (v0:Int):bR (Int×Unit) :=
 .ret (v0,())
theorem Uj:cN prog f46=some ⟨4,1,Xy.er,[.t 2],[none]⟩:=by kernel_rfl
noncomputable def PO:Ht:=⟨46,pH46,qH46,(fun x=>ag (FH46 x.1))⟩
theorem vE:PO.Ok prog:=lu mixed PN rfl func46 Uj (ah func46 rfl rfl) Xy (by kernel_rfl) rfl rfl ⟨_,rfl⟩ rfl (pre:=[]) rfl (fun x=>by kernel_rfl)

/- 93 -/
noncomputable def cx93:Cx:=(aV [] [])
theorem Uk:cx93.Ok prog:=au trivial trivial
noncomputable def dd93:D prog 14 none 0:=dO [] (kd prog f93) 0
noncomputable def F93 (a0:Int):bR (Int×Unit) :=
 .br (a0==(0:Int)) (
 .ret ((64:Int),())) (
 .nb (58:Int) (64:Int) <|
 .nb (bW.shr (Go.IntKind.wrap .u64 ((bW.bits Go.AM.fD.and Go.IntKind.u64 a0 (Go.IntKind.wrap .u64 ((0:Int) - a0))) * (285870213051353865:Int))) (58:Int)) (64:Int) <|
 .nb (bW.shr (Go.IntKind.wrap .u64 ((bW.bits Go.AM.fD.and Go.IntKind.u64 a0 (Go.IntKind.wrap .u64 ((0:Int) - a0))) * (285870213051353865:Int))) (58:Int)) (((((0:Int)::((1:Int)::((56:Int)::((2:Int)::((57:Int)::((49:Int)::((28:Int)::((3:Int)::((61:Int)::((58:Int)::((42:Int)::((50:Int)::((38:Int)::((29:Int)::((17:Int)::((4:Int)::((62:Int)::((47:Int)::((59:Int)::((36:Int)::((45:Int)::((43:Int)::((51:Int)::((22:Int)::((53:Int)::((39:Int)::((33:Int)::((30:Int)::((24:Int)::((18:Int)::((12:Int)::((5:Int)::((63:Int)::((55:Int)::((48:Int)::((27:Int)::((60:Int)::((41:Int)::((37:Int)::((16:Int)::((46:Int)::((35:Int)::((44:Int)::((21:Int)::((52:Int)::((32:Int)::((23:Int)::((11:Int)::((54:Int)::((26:Int)::((40:Int)::((15:Int)::((34:Int)::((20:Int)::((31:Int)::((10:Int)::((25:Int)::((14:Int)::((19:Int)::((9:Int)::((13:Int)::((8:Int)::((7:Int)::((6:Int)::[]))))))))))))))))))))))))))))))))))))))))))))))))))))))))))))))))).length:Nat):Int) <|
 .ni ((((0:Int)::((1:Int)::((56:Int)::((2:Int)::((57:Int)::((49:Int)::((28:Int)::((3:Int)::((61:Int)::((58:Int)::((42:Int)::((50:Int)::((38:Int)::((29:Int)::((17:Int)::((4:Int)::((62:Int)::((47:Int)::((59:Int)::((36:Int)::((45:Int)::((43:Int)::((51:Int)::((22:Int)::((53:Int)::((39:Int)::((33:Int)::((30:Int)::((24:Int)::((18:Int)::((12:Int)::((5:Int)::((63:Int)::((55:Int)::((48:Int)::((27:Int)::((60:Int)::((41:Int)::((37:Int)::((16:Int)::((46:Int)::((35:Int)::((44:Int)::((21:Int)::((52:Int)::((32:Int)::((23:Int)::((11:Int)::((54:Int)::((26:Int)::((40:Int)::((15:Int)::((34:Int)::((20:Int)::((31:Int)::((10:Int)::((25:Int)::((14:Int)::((19:Int)::((9:Int)::((13:Int)::((8:Int)::((7:Int)::((6:Int)::[]))))))))))))))))))))))))))))))))))))))))))))))))))))))))))))))))).getD (Int.toNat (bW.shr (Go.IntKind.wrap .u64 ((bW.bits Go.AM.fD.and Go.IntKind.u64 a0 (Go.IntKind.wrap .u64 ((0:Int) - a0))) * (285870213051353865:Int))) (58:Int))) (0:Int)) <|
 .ret (((((0:Int)::((1:Int)::((56:Int)::((2:Int)::((57:Int)::((49:Int)::((28:Int)::((3:Int)::((61:Int)::((58:Int)::((42:Int)::((50:Int)::((38:Int)::((29:Int)::((17:Int)::((4:Int)::((62:Int)::((47:Int)::((59:Int)::((36:Int)::((45:Int)::((43:Int)::((51:Int)::((22:Int)::((53:Int)::((39:Int)::((33:Int)::((30:Int)::((24:Int)::((18:Int)::((12:Int)::((5:Int)::((63:Int)::((55:Int)::((48:Int)::((27:Int)::((60:Int)::((41:Int)::((37:Int)::((16:Int)::((46:Int)::((35:Int)::((44:Int)::((21:Int)::((52:Int)::((32:Int)::((23:Int)::((11:Int)::((54:Int)::((26:Int)::((40:Int)::((15:Int)::((34:Int)::((20:Int)::((31:Int)::((10:Int)::((25:Int)::((14:Int)::((19:Int)::((9:Int)::((13:Int)::((8:Int)::((7:Int)::((6:Int)::[]))))))))))))))))))))))))))))))))))))))))))))))))))))))))))))))))).getD (Int.toNat (bW.shr (Go.IntKind.wrap .u64 ((bW.bits Go.AM.fD.and Go.IntKind.u64 a0 (Go.IntKind.wrap .u64 ((0:Int) - a0))) * (285870213051353865:Int))) (58:Int))) (0:Int)),()))
theorem ZK:cN prog f93=some ⟨14,1,dd93.er,[.t 2],[some tI]⟩:=by kernel_rfl
noncomputable def ct93:Ct:=⟨93,[.c (.hole (.int .u64))],hI,fun x=>ag (F93 x.1)⟩
theorem Ul:ct93.Ok prog:=bn mixed Uk func93 ZK (ah func93 rfl rfl) dd93 (by kernel_rfl) rfl (fun x=>by kernel_rfl)

/- 65 -/
noncomputable def cx65:Cx:=(aV [ct93] [])
theorem Um:cx65.Ok prog:=au ⟨Ul,trivial⟩ trivial
noncomputable def dd65:D prog 8 none 0:=dO [] (kd prog f65) 0
noncomputable def F65 (a0:Int):bR (Int×Unit) :=
 .bd (F93 a0) fun y0 =>
 .ret (y0.1,())
theorem ZL:cN prog f65=some ⟨8,1,dd65.er,[.t 2],[some tI]⟩:=by kernel_rfl
noncomputable def PR:Ct:=⟨65,[.c (.hole (.int .u64))],hI,fun x=>ag (F65 x.1)⟩
theorem vF:PR.Ok prog:=bn mixed Um func65 ZL (ah func65 rfl rfl) dd65 (by kernel_rfl) rfl (fun x=>by kernel_rfl)

/- 17 -/
noncomputable def ZM:Cx:=(aV [PR,Ls] [PO])
theorem BS:ZM.Ok prog:=au ⟨vF,sy,trivial⟩ ⟨⟨vE,rfl⟩,trivial⟩
noncomputable def PS:D prog 22 (some 5) 6:=dO [] (pick (kd prog f17) [(0,false)]) 0
noncomputable def PT:D prog 22 (some 5) 6:=dO [] (pick (kd prog f17) [(0,true)]) 0
noncomputable def BT:Cx:=tT ZM (fun kz=>Il kz ZM bW 5 6 [8] (PS) (PT))
theorem xY:(BT).Ok prog:=gQ BS (fun h=>jI mixed BS h)
@[reducible] def PU:aG:=aG.mk [(0,.c (.yl 5)),(1,.c (.ptr 3 0))] [(5,.loop .ready none 4 [(2,.c (.ptr 0 0)),(3,.c (.ptr 1 0)),(4,.c (.ptr 2 0)),(7,.fn 64 [] [.ptr 3 0])] [8] (.cF [.op (some 5) none (.mv (.t 8))]) (.block 1 (.seq (.seq (.draw [[],[0],[],[],[3],[2,3,4],[0,1],[0,1,6],[0,1,2,3,4,5,6,7]] [.op (some 9) none (.qc 1 [true,false] (.t 2)),.op (some 10) none (.load false 1 (.t 9)),.op (some 11) none (.load false 1 (.t 3)),.op (some 12) none (.mv (.t 5)),.op (some 13) none (.bI tI [.t 12]),.call (some 14) none (.c (.fn 34 [] [])) [.t 11,.t 13] [some (.int .u64),some tL],.op (some 15) none (.ex kQ.CJ [.t 10]),.op (some 16) none (.mv (.t 10))]) (.cF [.call (some 17) none (.m 16 [(26,179),(92,182)]) [.t 14] [some (.int .u64)]])) (.cond (.t 17) (.seq (.cF [.op none none (.store 1 (.t 4) (.c (.tf false)))]) .ret) .skip))) 22),(3,.cells [.hole (.int .u64)] false),(4,.fC),(0,.cells [.hole (.list (.prod tI tL)),.cK,.hole tI,.hole (.int .u64)] false),(1,.cells [.hole (.int .u64)] false),(2,.cells [.tf false] false)] [] []
@[reducible] def PV:bt:=[(.exit 0,aG.mk [] [(0,.cells [.hole (.list (.prod tI tL)),.cK,.hole tI,.hole (.int .u64)] false),(1,.cells [.hole (.int .u64)] false),(2,.cells [.tf false] false),(3,.cells [.hole (.int .u64)] false),(4,.fC),(5,.loop .ready none 4 [(2,.c (.ptr 0 0)),(3,.c (.ptr 1 0)),(4,.c (.ptr 2 0)),(7,.fn 64 [] [.ptr 3 0])] [8] (.cF [.op (some 5) none (.mv (.t 8))]) (.block 1 (.seq (.seq (.draw [[],[0],[],[],[3],[2,3,4],[0,1],[0,1,6],[0,1,2,3,4,5,6,7]] [.op (some 9) none (.qc 1 [true,false] (.t 2)),.op (some 10) none (.load false 1 (.t 9)),.op (some 11) none (.load false 1 (.t 3)),.op (some 12) none (.mv (.t 5)),.op (some 13) none (.bI tI [.t 12]),.call (some 14) none (.c (.fn 34 [] [])) [.t 11,.t 13] [some (.int .u64),some tL],.op (some 15) none (.ex kQ.CJ [.t 10]),.op (some 16) none (.mv (.t 10))]) (.cF [.call (some 17) none (.m 16 [(26,179),(92,182)]) [.t 14] [some (.int .u64)]])) (.cond (.t 17) (.seq (.cF [.op none none (.store 1 (.t 4) (.c (.tf false)))]) .ret) .skip))) 22)] [] [])]
noncomputable def PW:D prog 14 none 6:=dO [] (pick (kd prog f64) [(0,false)]) 0
noncomputable def g17_0i_0:Int×(List (Int×List Int))×Int×Int×Int×Unit->bR ((Int×(List (Int×List Int))×Int×Int×Int×Unit) ⊕ (((List (Int×List Int))×Int×Int×Int×Int×Unit))):=fun (jC,bp,bX,lO,bN,_) =>
 .br (!(jC==(0:Int))) (
 .bd (F65 jC) fun y1 =>
 .bd (F34 bN ((((y1.1::[])).drop (0:Nat)).take (1:Nat))) fun y2 =>
 .no) (
 .ret (.inr (bp,bX,lO,bN,jC,())))
noncomputable def PX:bK prog 14 none 6:=bu mixed BT xY [0,1,2,3,4,5] rfl PU PV rfl (PW) (fun x=>ag (g17_0i_0 x)) (fun x=>by kernel_rfl)
@[reducible] def aeC:aG:=aG.mk [(2,.c (.ptr 0 0)),(3,.c (.ptr 1 0)),(4,.c (.ptr 2 0)),(7,.fn 64 [] [.ptr 3 0])] [(0,.cells [.hole (.list (.prod tI tL)),.cK,.hole tI,.hole (.int .u64)] false),(1,.cells [.hole (.int .u64)] false),(2,.cells [.tf false] false),(3,.cells [.hole (.int .u64)] false)] [.slot 2,.slot 3,.slot 4,.part 7 0] []
@[reducible] def aeD:bt:=[(.normal,aG.mk [(2,.c (.ptr 0 0)),(3,.c (.ptr 1 0)),(4,.c (.ptr 2 0))] [(0,.cells [.hole (.list (.prod tI tL)),.cK,.hole tI,.hole (.int .u64)] false),(1,.cells [.hole (.int .u64)] false),(2,.cells [.tf false] false)] [.slot 2,.slot 3,.slot 4] [])]
noncomputable def PY:D prog 14 none 6:=dO [.l PX] (kd prog f64) 0
theorem ZN:cN prog f64=some ⟨14,2,(PY).er,[],[]⟩:=by kernel_rfl
noncomputable def g17_0:(List (Int×List Int))×Int×Int×Int×Int×Unit->bR (((List (Int×List Int))×Int×Int×Int×Unit)):=fun (bp,bX,lO,bN,jC,_) =>
 .bd (.it g17_0i_0 (jC,bp,bX,lO,bN,())) fun z3 =>
 .ret ((z3.1,z3.2.1,z3.2.2.1,z3.2.2.2.1,()))
noncomputable def aeE:fJ prog 22 none 0:=gR mixed BT xY [] rfl aeC aeD ( .t 7) [8] rfl (PS).er (PT).er 64 func64 (ZN) (ah func64 rfl rfl) 6 rfl (PY) rfl (fun x=>ag (g17_0 x)) (fun x=>by kernel_rfl)
noncomputable def dd17:D prog 22 none 0:=dO [.r aeE] (kd prog f17) 0
noncomputable def F17 (dg:List (Int×List Int)) (iu:Int) (uk:Int) (a1:Int):bR (Bool×Unit) :=
 .bd (FH46 a1) fun y0 =>
 .bd (g17_0 (dg,iu,uk,a1,y0.1,())) fun z4 =>
 .no
theorem ZO:cN prog f17=some ⟨22,2,dd17.er,[.cell 4 false 1],[some .bool]⟩:=by kernel_rfl
noncomputable def ct17:Ct:=⟨17,[.agg [.hole (.list (.prod tI tL)),.cK,.hole tI,.hole (.int .u64)],.c (.hole (.int .u64))],.c (.hole .bool),fun x=>ag (F17 x.1 x.2.1 x.2.2.1 x.2.2.2.1)⟩
theorem Un:ct17.Ok prog:=bn mixed BS func17 ZO (ah func17 rfl rfl) dd17 (by kernel_rfl) rfl (fun x=>by kernel_rfl)

/- 18 -/
noncomputable def ZP:Cx:=(aV [PR] [PO])
theorem BU:ZP.Ok prog:=au ⟨vF,trivial⟩ ⟨⟨vE,rfl⟩,trivial⟩
noncomputable def PZ:D prog 13 (some 3) 5:=dO [] (pick (kd prog f18) [(0,false)]) 0
noncomputable def P0:D prog 13 (some 3) 5:=dO [] (pick (kd prog f18) [(0,true)]) 0
noncomputable def BV:Cx:=tT ZP (fun kz=>Il kz ZP bW 3 5 [7] (PZ) (P0))
theorem xZ:(BV).Ok prog:=gQ BU (fun h=>jI mixed BU h)
@[reducible] def P3:aG:=aG.mk [(0,.c (.yl 3)),(1,.c (.ptr 1 0))] [(3,.loop .ready none 2 [(2,.c .bA),(3,.c (.ptr 0 0)),(6,.fn 64 [] [.ptr 1 0])] [7] (.cF [.op (some 4) none (.mv (.t 7))]) (.block 1 (.cF [.op (some 8) none (.load false 1 (.t 3)),.op (some 9) none (.mv (.t 4)),.op (some 10) none (.bI tI [.t 9]),.op (some 11) none (.append 1 (.t 8) (.t 10)),.op none none (.store 1 (.t 3) (.t 11))])) 13),(1,.cells [.hole (.int .u64)] false),(2,.fC),(0,.cells [.cg 4 tI] false),(4,.arr tI false)] [.cell 0 0] []
@[reducible] def P4:bt:=[(.exit 0,aG.mk [] [(0,.cells [.cg 4 tI] false),(1,.cells [.hole (.int .u64)] false),(2,.fC),(3,.loop .ready none 2 [(2,.c .bA),(3,.c (.ptr 0 0)),(6,.fn 64 [] [.ptr 1 0])] [7] (.cF [.op (some 4) none (.mv (.t 7))]) (.block 1 (.cF [.op (some 8) none (.load false 1 (.t 3)),.op (some 9) none (.mv (.t 4)),.op (some 10) none (.bI tI [.t 9]),.op (some 11) none (.append 1 (.t 8) (.t 10)),.op none none (.store 1 (.t 3) (.t 11))])) 13),(4,.arr tI false)] [.cell 0 0] [])]
noncomputable def P5:D prog 14 none 4:=dO [] (pick (kd prog f64) [(0,false)]) 0
noncomputable def g18_0i_0:Int×Nat×List Int×Unit->bR ((Int×Nat×List Int×Unit) ⊕ ((Nat×Int×List Int×Unit))):=fun (bN,IV,b4,_) =>
 .br (!(bN==(0:Int))) (
 .bd (F65 bN) fun y1 =>
 .nd (decide ((IV+(((((y1.1::[])).drop (0:Nat)).take (1:Nat))).length)<cz)) <|
 .nd (cP .u64 (bN - (1:Int))) <|
 .ret (.inl ((bW.bits Go.AM.fD.and Go.IntKind.u64 bN (bN - (1:Int))),(IV+(((((y1.1::[])).drop (0:Nat)).take (1:Nat))).length),((((b4).drop (0:Nat)).take IV)++((((y1.1::[])).drop (0:Nat)).take (1:Nat))),()))) (
 .ret (.inr (IV,bN,b4,())))
noncomputable def P6:bK prog 14 none 4:=bu mixed BV xZ [0,1,2,3] rfl P3 P4 rfl (P5) (fun x=>ag (g18_0i_0 x)) (fun x=>by kernel_rfl)
@[reducible] def aeH:aG:=aG.mk [(2,.c .bA),(3,.c (.ptr 0 0)),(6,.fn 64 [] [.ptr 1 0])] [(0,.cells [.bA] false),(1,.cells [.hole (.int .u64)] false)] [.slot 3,.part 6 0] []
@[reducible] def aeI:bt:=[(.normal,aG.mk [(3,.c (.ptr 0 0))] [(0,.cells [.cg 1 tI] false),(1,.arr tI false)] [.slot 3,.cell 0 0] [])]
noncomputable def P7:D prog 14 none 4:=dO [.l P6] (kd prog f64) 0
theorem ZQ:cN prog f64=some ⟨14,2,(P7).er,[],[]⟩:=by kernel_rfl
noncomputable def g18_0:Int×Unit->bR ((Nat×List Int×Unit)):=fun (bN,_) =>
 .bd (.it g18_0i_0 (bN,(0:Nat),[],())) fun z2 =>
 .ret ((z2.1,z2.2.2.1,()))
noncomputable def aeJ:fJ prog 13 none 0:=gR mixed BV xZ [] rfl aeH aeI ( .t 6) [7] rfl (PZ).er (P0).er 64 func64 (ZQ) (ah func64 rfl rfl) 4 rfl (P7) rfl (fun x=>ag (g18_0 x)) (fun x=>by kernel_rfl)
noncomputable def dd18:D prog 13 none 0:=dO [.r aeJ] (kd prog f18) 0
noncomputable def F18 (a0:Int):bR (List Int×Unit) :=
 .bd (FH46 a0) fun y0 =>
 .bd (g18_0 (y0.1,())) fun z3 =>
 .ret ((((z3.2.1).drop (0:Nat)).take z3.1),())
theorem ZR:cN prog f18=some ⟨13,1,dd18.er,[.t 2],[some tL]⟩:=by kernel_rfl
noncomputable def ct18:Ct:=⟨18,[.c (.hole (.int .u64))],hL,fun x=>ag (F18 x.1)⟩
theorem Uo:ct18.Ok prog:=bn mixed BU func18 ZR (ah func18 rfl rfl) dd18 (by kernel_rfl) rfl (fun x=>by kernel_rfl)

/- 75 -/
noncomputable def cx75:Cx:=(aV [] [])
theorem Up:cx75.Ok prog:=au trivial trivial
noncomputable def dd75:D prog 25 none 0:=dO [] (kd prog f75) 0
noncomputable def F75 (a0:Int):bR (Int×Unit) :=
 .jx (
 .br (decide ((4294967296:Int)<=a0)) (
 .nb (32:Int) (64:Int) <|
 .ret (.inl ((bW.shr a0 (32:Int)),(32:Int),()))) (
 .ret (.inl (a0,(0:Int),())))) fun j0 =>
 .jx (
 .br (decide ((65536:Int)<=j0.1)) (
 .nb (16:Int) (64:Int) <|
 .ni (j0.2.1+(16:Int)) <|
 .ret (.inl ((bW.shr j0.1 (16:Int)),(j0.2.1+(16:Int)),()))) (
 .ret (.inl (j0.1,j0.2.1,())))) fun j1 =>
 .jx (
 .br (decide ((256:Int)<=j1.1)) (
 .nb (8:Int) (64:Int) <|
 .ni (j1.2.1+(8:Int)) <|
 .ret (.inl ((bW.shr j1.1 (8:Int)),(j1.2.1+(8:Int)),()))) (
 .ret (.inl (j1.1,j1.2.1,())))) fun j2 =>
 .nd (cP .u8 j2.1) <|
 .nb j2.1 (((bs [0,1,2,2,3,3,3,3,4,4,4,4,4,4,4,4,5,5,5,5,5,5,5,5,5,5,5,5,5,5,5,5,6,6,6,6,6,6,6,6,6,6,6,6,6,6,6,6,6,6,6,6,6,6,6,6,6,6,6,6,6,6,6,6,7,7,7,7,7,7,7,7,7,7,7,7,7,7,7,7,7,7,7,7,7,7,7,7,7,7,7,7,7,7,7,7,7,7,7,7,7,7,7,7,7,7,7,7,7,7,7,7,7,7,7,7,7,7,7,7,7,7,7,7,7,7,7,7,8,8,8,8,8,8,8,8,8,8,8,8,8,8,8,8,8,8,8,8,8,8,8,8,8,8,8,8,8,8,8,8,8,8,8,8,8,8,8,8,8,8,8,8,8,8,8,8,8,8,8,8,8,8,8,8,8,8,8,8,8,8,8,8,8,8,8,8,8,8,8,8,8,8,8,8,8,8,8,8,8,8,8,8,8,8,8,8,8,8,8,8,8,8,8,8,8,8,8,8,8,8,8,8,8,8,8,8,8,8,8,8,8,8,8,8,8,8,8,8,8,8,8,8,8,8,8,8]).size:Nat):Int) <|
 .ni (E6 (bs [0,1,2,2,3,3,3,3,4,4,4,4,4,4,4,4,5,5,5,5,5,5,5,5,5,5,5,5,5,5,5,5,6,6,6,6,6,6,6,6,6,6,6,6,6,6,6,6,6,6,6,6,6,6,6,6,6,6,6,6,6,6,6,6,7,7,7,7,7,7,7,7,7,7,7,7,7,7,7,7,7,7,7,7,7,7,7,7,7,7,7,7,7,7,7,7,7,7,7,7,7,7,7,7,7,7,7,7,7,7,7,7,7,7,7,7,7,7,7,7,7,7,7,7,7,7,7,7,8,8,8,8,8,8,8,8,8,8,8,8,8,8,8,8,8,8,8,8,8,8,8,8,8,8,8,8,8,8,8,8,8,8,8,8,8,8,8,8,8,8,8,8,8,8,8,8,8,8,8,8,8,8,8,8,8,8,8,8,8,8,8,8,8,8,8,8,8,8,8,8,8,8,8,8,8,8,8,8,8,8,8,8,8,8,8,8,8,8,8,8,8,8,8,8,8,8,8,8,8,8,8,8,8,8,8,8,8,8,8,8,8,8,8,8,8,8,8,8,8,8,8,8,8,8,8,8]) (Int.toNat j2.1)) <|
 .ni (j2.2.1+(E6 (bs [0,1,2,2,3,3,3,3,4,4,4,4,4,4,4,4,5,5,5,5,5,5,5,5,5,5,5,5,5,5,5,5,6,6,6,6,6,6,6,6,6,6,6,6,6,6,6,6,6,6,6,6,6,6,6,6,6,6,6,6,6,6,6,6,7,7,7,7,7,7,7,7,7,7,7,7,7,7,7,7,7,7,7,7,7,7,7,7,7,7,7,7,7,7,7,7,7,7,7,7,7,7,7,7,7,7,7,7,7,7,7,7,7,7,7,7,7,7,7,7,7,7,7,7,7,7,7,7,8,8,8,8,8,8,8,8,8,8,8,8,8,8,8,8,8,8,8,8,8,8,8,8,8,8,8,8,8,8,8,8,8,8,8,8,8,8,8,8,8,8,8,8,8,8,8,8,8,8,8,8,8,8,8,8,8,8,8,8,8,8,8,8,8,8,8,8,8,8,8,8,8,8,8,8,8,8,8,8,8,8,8,8,8,8,8,8,8,8,8,8,8,8,8,8,8,8,8,8,8,8,8,8,8,8,8,8,8,8,8,8,8,8,8,8,8,8,8,8,8,8,8,8,8,8,8,8]) (Int.toNat j2.1))) <|
 .ret ((j2.2.1+(E6 (bs [0,1,2,2,3,3,3,3,4,4,4,4,4,4,4,4,5,5,5,5,5,5,5,5,5,5,5,5,5,5,5,5,6,6,6,6,6,6,6,6,6,6,6,6,6,6,6,6,6,6,6,6,6,6,6,6,6,6,6,6,6,6,6,6,7,7,7,7,7,7,7,7,7,7,7,7,7,7,7,7,7,7,7,7,7,7,7,7,7,7,7,7,7,7,7,7,7,7,7,7,7,7,7,7,7,7,7,7,7,7,7,7,7,7,7,7,7,7,7,7,7,7,7,7,7,7,7,7,8,8,8,8,8,8,8,8,8,8,8,8,8,8,8,8,8,8,8,8,8,8,8,8,8,8,8,8,8,8,8,8,8,8,8,8,8,8,8,8,8,8,8,8,8,8,8,8,8,8,8,8,8,8,8,8,8,8,8,8,8,8,8,8,8,8,8,8,8,8,8,8,8,8,8,8,8,8,8,8,8,8,8,8,8,8,8,8,8,8,8,8,8,8,8,8,8,8,8,8,8,8,8,8,8,8,8,8,8,8,8,8,8,8,8,8,8,8,8,8,8,8,8,8,8,8,8,8]) (Int.toNat j2.1))),())
theorem ZS:cN prog f75=some ⟨25,1,dd75.er,[.t 2],[some tI]⟩:=by kernel_rfl
noncomputable def ct75:Ct:=⟨75,[.c (.hole (.int .u64))],hI,fun x=>ag (F75 x.1)⟩
theorem Uq:ct75.Ok prog:=bn mixed Up func75 ZS (ah func75 rfl rfl) dd75 (by kernel_rfl) rfl (fun x=>Eq.trans (b:=ag (flat (F75 x.1))) (by kernel_rfl) sj)

/- 48 -/
noncomputable def cx48:Cx:=(aV [ct75] [])
theorem Ur:cx48.Ok prog:=au ⟨Uq,trivial⟩ trivial
noncomputable def dd48:D prog 8 none 0:=dO [] (kd prog f48) 0
noncomputable def F48 (a0:Int):bR (Int×Unit) :=
 .bd (F75 a0) fun y0 =>
 .ret (y0.1,())
theorem ZT:cN prog f48=some ⟨8,1,dd48.er,[.t 2],[some tI]⟩:=by kernel_rfl
noncomputable def ct48:Ct:=⟨48,[.c (.hole (.int .u64))],hI,fun x=>ag (F48 x.1)⟩
theorem Us:ct48.Ok prog:=bn mixed Ur func48 ZT (ah func48 rfl rfl) dd48 (by kernel_rfl) rfl (fun x=>by kernel_rfl)

/- 76 -/
noncomputable def cx76:Cx:=(aV [] [])
theorem Ut:cx76.Ok prog:=au trivial trivial
noncomputable def dd76:D prog 6 none 0:=dO [] (kd prog f76) 0
noncomputable def F76 (a0:Int):bR (Bool×Unit) :=
 .ret ((!(a0==a0)),())
theorem ZU:cN prog f76=some ⟨6,1,dd76.er,[.t 2],[some .bool]⟩:=by kernel_rfl
noncomputable def ct76:Ct:=⟨76,[hI],.c (.hole .bool),fun x=>ag (F76 x.1)⟩
theorem Uu:ct76.Ok prog:=bn mixed Ut func76 ZU (ah func76 rfl rfl) dd76 (by kernel_rfl) rfl (fun x=>by kernel_rfl)

/- 49 -/
noncomputable def cx49:Cx:=(aV [ct76] [])
theorem Uv:cx49.Ok prog:=au ⟨Uu,trivial⟩ trivial
noncomputable def dd49:D prog 20 none 0:=dO [] (kd prog f49) 0
noncomputable def F49 (a0:Int) (a1:Int):bR (Int×Unit) :=
 .bd (F76 a0) fun y0 =>
 .bd (F76 a1) fun y1 =>
 .br y0.1 (
 .br y1.1 (
 .ret ((0:Int),())) (
 .ret ((-1:Int),()))) (
 .br y1.1 (
 .ret ((1:Int),())) (
 .br (decide (a0<a1)) (
 .ret ((-1:Int),())) (
 .br (decide (a1<a0)) (
 .ret ((1:Int),())) (
 .ret ((0:Int),())))))
theorem ZV:cN prog f49=some ⟨20,2,dd49.er,[.t 4],[some tI]⟩:=by kernel_rfl
noncomputable def ct49:Ct:=⟨49,[hI,hI],hI,fun x=>ag (F49 x.1 x.2.1)⟩
theorem Uw:ct49.Ok prog:=bn mixed Uv func49 ZV (ah func49 rfl rfl) dd49 (by kernel_rfl) rfl (fun x=>by kernel_rfl)

/- 20 -/
noncomputable def cx20:Cx:=(aV [ct49] [])
theorem IW:cx20.Ok prog:=au ⟨Uw,trivial⟩ trivial
@[reducible] def aeV:aG:=aG.mk [(0,hL),(1,hL),(9,hL),(10,hI),(11,hI)] [] [] []
@[reducible] def aeW:bt:=[(.ret,aG.mk [(4,hI)] [] [] []),(.exit 0,aG.mk [(0,hL),(1,hL)] [] [] [])]
noncomputable def aeX:D prog 36 none 0:=dO [] (pick (kd prog f20) [(0,false)]) 0
noncomputable def g20_0:List Int×List Int×List Int×Int×Int×Unit->bR ((List Int×List Int×List Int×Int×Int×Unit) ⊕ ((Int×Unit) ⊕ ((List Int×List Int×Unit)))):=fun (v0,v1,v9,v10,v11,_) =>
 .br (decide (v11<v10)) (
 .nb v11 (((v9).length:Nat):Int) <|
 .br (decide ((((v1).length:Nat):Int)<=v11)) (
 .ret (.inr <| .inl<|((1:Int),()))) (
 .nb v11 (((v1).length:Nat):Int) <|
 .bd (F49 ((v9).getD (Int.toNat v11) (0:Int)) ((v1).getD (Int.toNat v11) (0:Int))) fun y0 =>
 .br (!(y0.1==(0:Int))) (
 .ret (.inr <| .inl<|(y0.1,()))) (
 .ni (v11+(1:Int)) <|
 .ret (.inl (v0,v1,v9,v10,(v11+(1:Int)),()))))) (
 .ret (.inr <| .inr<|(v0,v1,())))
noncomputable def aeY:bK prog 36 none 0:=bu mixed cx20 IW [] rfl aeV aeW rfl (aeX) (fun x=>ag (g20_0 x)) (fun x=>by kernel_rfl)
noncomputable def dd20:D prog 36 none 0:=dO [.l aeY] (kd prog f20) 0
noncomputable def F20 (a0:List Int) (a1:List Int):bR (Int×Unit) :=
 .bd (.it g20_0 (a0,a1,a0,(((a0).length:Nat):Int),(0:Int),())) fun z1 =>
 .sm z1 (fun z2 =>
 .ret (z2.1,())) fun z3 =>
 .br (decide ((((z3.1).length:Nat):Int)<(((z3.2.1).length:Nat):Int))) (
 .ret ((-1:Int),())) (
 .ret ((0:Int),()))
theorem ZW:cN prog f20=some ⟨36,2,dd20.er,[.t 4],[some tI]⟩:=by kernel_rfl
noncomputable def ct20:Ct:=⟨20,[hL,hL],hI,fun x=>ag (F20 x.1 x.2.1)⟩
theorem Ux:ct20.Ok prog:=bn mixed IW func20 ZW (ah func20 rfl rfl) dd20 (by kernel_rfl) rfl (fun x=>by kernel_rfl)

/- 16 -/
noncomputable def Uy:Cx:=(aV [] [])
theorem FP:Uy.Ok prog:=au trivial trivial
noncomputable def IX:D prog 6 none 0:=dO [] (kd prog f16) 0
noncomputable def F16_v1 (dg:List (Int×List Int)) (um:List (Int×List Int)) (iu:Int) (uk:Int) (a1:List Int):bR ((List (Int×List Int))×(List (Int×List Int))×Int×Int×List Int×Unit) :=
 .ret (dg,um,iu,uk,a1,())
theorem Lt:cN prog f16=some ⟨6,2,IX.er,[.t 4],[none]⟩:=by kernel_rfl
noncomputable def BW:Ct:=⟨16,[.agg [.hole (.list (.prod tI tL)),.fK 92 false (.cons (.hole (.list (.bU 26 true (.prod tI tL)))) .nil),.hole tI,.hole (.int .u64)],hL],.fn 45 [] [.aJ (.cons (.hole (.list (.prod tI tL))) (.cons (.fK 92 false (.cons (.hole (.list (.bU 26 true (.prod tI tL)))) .nil)) (.cons (.hole tI) (.cons (.hole (.int .u64)) .nil)))),.av tL],fun x=>ag (F16_v1 x.1 x.2.1 x.2.2.1 x.2.2.2.1 x.2.2.2.2.1)⟩
theorem x5:BW.Ok prog:=bn mixed FP func16 Lt (ah func16 rfl rfl) IX (by kernel_rfl) rfl (fun x=>by kernel_rfl)

/- 178 -/
noncomputable def P8:Cx:=(aV [PR] [PO])
theorem x6:P8.Ok prog:=au ⟨vF,trivial⟩ ⟨⟨vE,rfl⟩,trivial⟩
noncomputable def IY:D prog 18 (some 4) 5:=dO [] (pick (kd prog f178) [(0,false)]) 0
noncomputable def IZ:D prog 18 (some 4) 5:=dO [] (pick (kd prog f178) [(0,true)]) 0
noncomputable def x7:Cx:=tT P8 (fun kz=>Il kz P8 bW 4 5 [9] (IY) (IZ))
theorem uV:(x7).Ok prog:=gQ x6 (fun h=>jI mixed x6 h)
@[reducible] def Lu:aG:=aG.mk [(0,.c (.yl 4)),(1,.c (.ptr 2 0))] [(4,.loop .ready none 3 [(2,.c (.ptr 0 0)),(4,hI),(5,.c (.ptr 1 0)),(8,.fn 64 [] [.ptr 2 0])] [9] (.cF [.op (some 6) none (.mv (.t 9))]) (.block 1 (.draw [[],[],[1],[],[1,2,3],[1,2,3,4],[0,1,2,3,4,5],[0,1,2,3,4,5,6]] [.op (some 10) none (.load false 1 (.t 5)),.op (some 11) none (.qc 1 [true] (.t 2)),.op (some 12) none (.load false 1 (.t 11)),.op (some 13) none (.mv (.t 6)),.op (some 14) none (.idx 1 (.t 12) (.t 13)),.op (some 15) none (.load false 1 (.t 14)),.op (some 16) none (.bin .add (.t 10) (.t 15)),.op none none (.store 1 (.t 5) (.t 16))])) 18),(2,.cells [.hole (.int .u64)] false),(3,.fC),(0,.cells [.hole tI,.hole tL] false),(1,.cells [.hole tI] false)] [] []
@[reducible] def Lv:bt:=[(.exit 0,aG.mk [] [(0,.cells [.hole tI,.hole tL] false),(1,.cells [.hole tI] false),(2,.cells [.hole (.int .u64)] false),(3,.fC),(4,.loop .ready none 3 [(2,.c (.ptr 0 0)),(4,hI),(5,.c (.ptr 1 0)),(8,.fn 64 [] [.ptr 2 0])] [9] (.cF [.op (some 6) none (.mv (.t 9))]) (.block 1 (.draw [[],[],[1],[],[1,2,3],[1,2,3,4],[0,1,2,3,4,5],[0,1,2,3,4,5,6]] [.op (some 10) none (.load false 1 (.t 5)),.op (some 11) none (.qc 1 [true] (.t 2)),.op (some 12) none (.load false 1 (.t 11)),.op (some 13) none (.mv (.t 6)),.op (some 14) none (.idx 1 (.t 12) (.t 13)),.op (some 15) none (.load false 1 (.t 14)),.op (some 16) none (.bin .add (.t 10) (.t 15)),.op none none (.store 1 (.t 5) (.t 16))])) 18)] [] [])]
noncomputable def Lx:D prog 14 none 5:=dO [] (pick (kd prog f64) [(0,false)]) 0
noncomputable def g178_0i_0:Int×Int×Int×List Int×Int×Unit->bR ((Int×Int×Int×List Int×Int×Unit) ⊕ ((Int×List Int×Int×Int×Int×Unit))):=fun (w4,dV,bp,cq,bN,_) =>
 .br (!(dV==(0:Int))) (
 .bd (F65 dV) fun y1 =>
 .nb y1.1 (((cq).length:Nat):Int) <|
 .ni (bN+((cq).getD (Int.toNat y1.1) (0:Int))) <|
 .nd (cP .u64 (dV - (1:Int))) <|
 .ret (.inl (w4,(bW.bits Go.AM.fD.and Go.IntKind.u64 dV (dV - (1:Int))),bp,cq,(bN+((cq).getD (Int.toNat y1.1) (0:Int))),()))) (
 .ret (.inr (bp,cq,bN,dV,w4,())))
noncomputable def Ly:bK prog 14 none 5:=bu mixed x7 uV [0,1,2,3,4] rfl Lu Lv rfl (Lx) (fun x=>ag (g178_0i_0 x)) (fun x=>by kernel_rfl)
@[reducible] def ZX:aG:=aG.mk [(2,.c (.ptr 0 0)),(4,hI),(5,.c (.ptr 1 0)),(8,.fn 64 [] [.ptr 2 0])] [(0,.cells [.hole tI,.hole tL] false),(1,.cells [.hole tI] false),(2,.cells [.hole (.int .u64)] false)] [.slot 2,.slot 5,.part 8 0] []
@[reducible] def ZY:bt:=[(.normal,aG.mk [(5,.c (.ptr 0 0))] [(0,.cells [.hole tI] false)] [.slot 5] [])]
noncomputable def I0:D prog 14 none 5:=dO [.l Ly] (kd prog f64) 0
theorem Uz:cN prog f64=some ⟨14,2,(I0).er,[],[]⟩:=by kernel_rfl
noncomputable def g178_0:Int×Int×List Int×Int×Int×Unit->bR ((Int×Unit)):=fun (v4,bp,cq,bN,dV,_) =>
 .bd (.it g178_0i_0 (v4,dV,bp,cq,bN,())) fun z2 =>
 .ret ((z2.2.2.1,()))
noncomputable def ZZ:fJ prog 18 none 0:=gR mixed x7 uV [] rfl ZX ZY ( .t 8) [9] rfl (IY).er (IZ).er 64 func64 (Uz) (ah func64 rfl rfl) 5 rfl (I0) rfl (fun x=>ag (g178_0 x)) (fun x=>by kernel_rfl)
noncomputable def Xz:D prog 18 none 0:=dO [.r ZZ] (kd prog f178) 0
noncomputable def F178 (a0:Int×List Int) (a1:Int):bR (Int×Unit) :=
 .bd (FH46 a1) fun y0 =>
 .bd (g178_0 ((0:Int),a0.1,a0.2,(0:Int),y0.1,())) fun z3 =>
 .ret (z3.1,())
theorem UA:cN prog f178=some ⟨18,2,Xz.er,[.t 4],[some tI]⟩:=by kernel_rfl
noncomputable def XA:Ct:=⟨178,[.c (.hole (.prod tI tL)),.c (.hole (.int .u64))],hI,fun x=>ag (F178 x.1 x.2.1)⟩
theorem P9:XA.Ok prog:=bn mixed x6 func178 UA (ah func178 rfl rfl) Xz (by kernel_rfl) rfl (fun x=>by kernel_rfl)

/- 179 -/
noncomputable def ae1:Cx:=(aV [XA] [])
theorem Qa:ae1.Ok prog:=au ⟨P9,trivial⟩ trivial
noncomputable def XB:D prog 11 none 0:=dO [] (kd prog f179) 0
noncomputable def F179 (a0:Int×List Int) (a1:Int):bR (Bool×Unit) :=
 .bd (F178 (a0.1,a0.2) a1) fun y0 =>
 .ret ((decide (a0.1<=y0.1)),())
theorem UB:cN prog f179=some ⟨11,2,XB.er,[.t 4],[some .bool]⟩:=by kernel_rfl
noncomputable def XC:Ct:=⟨179,[.c (.hole (.prod tI tL)),.c (.hole (.int .u64))],.c (.hole .bool),fun x=>ag (F179 x.1 x.2.1)⟩
theorem Qb:XC.Ok prog:=bn mixed Qa func179 UB (ah func179 rfl rfl) XB (by kernel_rfl) rfl (fun x=>by kernel_rfl)

/- 184 -/
noncomputable def ae2:Cx:=(aV [XC] [])
theorem Qd:ae2.Ok prog:=au ⟨Qb,trivial⟩ trivial
noncomputable def XD:D prog 8 none 0:=dO [] (kd prog f184) 0
noncomputable def F184 (a0c0:Int) (a0c1:List Int) (a1:Int):bR (Bool×Unit) :=
 .bd (F179 (a0c0,a0c1) a1) fun y0 =>
 .ret ((!y0.1),())
theorem UC:cN prog f184=some ⟨8,2,XD.er,[.t 3],[some .bool]⟩:=by kernel_rfl
noncomputable def XE:Ct:=⟨184,[.c (.fK 26 true (.cons (.hole tI) (.cons (.hole tL) .nil))),.c (.av (.int .u64))],.c (.hole .bool),fun x=>ag (F184 x.1 x.2.1 x.2.2.1)⟩
theorem Qe:XE.Ok prog:=bn mixed Qd func184 UC (ah func184 rfl rfl) XD (by kernel_rfl) rfl (fun x=>by kernel_rfl)

/- 185 -/
noncomputable def XF:Cx:=(aV [XE] [])
theorem D5:XF.Ok prog:=au ⟨Qe,trivial⟩ trivial
@[reducible] def Z0:aG:=aG.mk [(0,.c (.hole (.list (.bU 26 true (.prod tI tL))))),(1,.fn 184 [] [.av (.int .u64)]),(7,hI),(8,hI)] [] [] []
@[reducible] def Z1:bt:=[(.ret,aG.mk [(4,hI)] [] [] []),(.exit 0,aG.mk [] [] [] [])]
noncomputable def Z2:D prog 19 none 0:=dO [] (pick (kd prog f185) [(0,false)]) 0
noncomputable def g185_0:(List (Int×List Int))×Int×Int×Int×Unit->bR (((List (Int×List Int))×Int×Int×Int×Unit) ⊕ ((Int×Unit) ⊕ ((Unit)))):=fun (v0,ve,v7,v8,_) =>
 .br (decide (v8<v7)) (
 .nb v8 (((v0).length:Nat):Int) <|
 .bd (F184 ((v0).getD (Int.toNat v8) ((0:Int),[])).1 ((v0).getD (Int.toNat v8) ((0:Int),[])).2 ve) fun y0 =>
 .br y0.1 (
 .ret (.inr <| .inl<|(v8,()))) (
 .ni (v8+(1:Int)) <|
 .ret (.inl (v0,ve,v7,(v8+(1:Int)),())))) (
 .ret (.inr <| .inr<|()))
noncomputable def Z3:bK prog 19 none 0:=bu mixed XF D5 [] rfl Z0 Z1 rfl (Z2) (fun x=>ag (g185_0 x)) (fun x=>by kernel_rfl)
noncomputable def XG:D prog 19 none 0:=dO [.l Z3] (kd prog f185) 0
noncomputable def F185 (a0:List (Int×List Int)) (qM:Int):bR (Int×Unit) :=
 .bd (.it g185_0 (a0,qM,(((a0).length:Nat):Int),(0:Int),())) fun z1 =>
 .sm z1 (fun z2 =>
 .ret (z2.1,())) fun z3 =>
 .ret ((-1:Int),())
theorem UD:cN prog f185=some ⟨19,2,XG.er,[.t 4],[some tI]⟩:=by kernel_rfl
noncomputable def XH:Ct:=⟨185,[.c (.hole (.list (.bU 26 true (.prod tI tL)))),.fn 184 [] [.av (.int .u64)]],hI,fun x=>ag (F185 x.1 x.2.1)⟩
theorem Qf:XH.Ok prog:=bn mixed D5 func185 UD (ah func185 rfl rfl) XG (by kernel_rfl) rfl (fun x=>by kernel_rfl)

/- 183 -/
noncomputable def ae3:Cx:=(aV [XH] [])
theorem Qg:ae3.Ok prog:=au ⟨Qf,trivial⟩ trivial
noncomputable def XI:D prog 9 none 0:=dO [] (kd prog f183) 0
noncomputable def F183 (a0:List (Int×List Int)) (qM:Int):bR (Bool×Unit) :=
 .bd (F185 a0 qM) fun y0 =>
 .ret ((decide ((0:Int)<=y0.1)),())
theorem UE:cN prog f183=some ⟨9,2,XI.er,[.t 4],[some .bool]⟩:=by kernel_rfl
noncomputable def XJ:Ct:=⟨183,[.c (.hole (.list (.bU 26 true (.prod tI tL)))),.fn 184 [] [.av (.int .u64)]],.c (.hole .bool),fun x=>ag (F183 x.1 x.2.1)⟩
theorem Qh:XJ.Ok prog:=bn mixed Qg func183 UE (ah func183 rfl rfl) XI (by kernel_rfl) rfl (fun x=>by kernel_rfl)

/- 182 -/
noncomputable def ae4:Cx:=(aV [XJ] [])
theorem Qi:ae4.Ok prog:=au ⟨Qh,trivial⟩ trivial
noncomputable def XK:D prog 9 none 0:=dO [] (kd prog f182) 0
noncomputable def F182 (a0:List (Int×List Int)) (a1:Int):bR (Bool×Unit) :=
 .bd (F183 a0 a1) fun y0 =>
 .ret ((!y0.1),())
theorem UF:cN prog f182=some ⟨9,2,XK.er,[.t 4],[some .bool]⟩:=by kernel_rfl
noncomputable def I2:Ct:=⟨182,[.c (.hole (.list (.bU 26 true (.prod tI tL)))),.c (.hole (.int .u64))],.c (.hole .bool),fun x=>ag (F182 x.1 x.2.1)⟩
theorem x8:I2.Ok prog:=bn mixed Qi func182 UF (ah func182 rfl rfl) XK (by kernel_rfl) rfl (fun x=>by kernel_rfl)

/- 17 -/
noncomputable def BX:Cx:=(aV [PR,Ls,I2] [PO])
theorem qN:BX.Ok prog:=au ⟨vF,sy,x8,trivial⟩ ⟨⟨vE,rfl⟩,trivial⟩
noncomputable def Au:D prog 22 (some 5) 6:=dO [] (pick (kd prog f17) [(0,false)]) 0
noncomputable def Av:D prog 22 (some 5) 6:=dO [] (pick (kd prog f17) [(0,true)]) 0
noncomputable def qO:Cx:=tT BX (fun kz=>Il kz BX bW 5 6 [8] (Au) (Av))
theorem qa:(qO).Ok prog:=gQ qN (fun h=>jI mixed qN h)
@[reducible] def D6:aG:=aG.mk [(0,.c (.yl 5)),(1,.c (.ptr 3 0))] [(5,.loop .ready none 4 [(2,.c (.ptr 0 0)),(3,.c (.ptr 1 0)),(4,.c (.ptr 2 0)),(7,.fn 64 [] [.ptr 3 0])] [8] (.cF [.op (some 5) none (.mv (.t 8))]) (.block 1 (.seq (.seq (.draw [[],[0],[],[],[3],[2,3,4],[0,1],[0,1,6],[0,1,2,3,4,5,6,7]] [.op (some 9) none (.qc 1 [true,false] (.t 2)),.op (some 10) none (.load false 1 (.t 9)),.op (some 11) none (.load false 1 (.t 3)),.op (some 12) none (.mv (.t 5)),.op (some 13) none (.bI tI [.t 12]),.call (some 14) none (.c (.fn 34 [] [])) [.t 11,.t 13] [some (.int .u64),some tL],.op (some 15) none (.ex kQ.CJ [.t 10]),.op (some 16) none (.mv (.t 10))]) (.cF [.call (some 17) none (.m 16 [(26,179),(92,182)]) [.t 14] [some (.int .u64)]])) (.cond (.t 17) (.seq (.cF [.op none none (.store 1 (.t 4) (.c (.tf false)))]) .ret) .skip))) 22),(3,.cells [.hole (.int .u64)] false),(4,.fC),(0,.cells [.hole (.list (.prod tI tL)),.fK 92 false (.cons (.hole (.list (.bU 26 true (.prod tI tL)))) .nil),.hole tI,.hole (.int .u64)] false),(1,.cells [.hole (.int .u64)] false),(2,.cells [.tf false] false)] [] []
@[reducible] def D7:bt:=[(.ret,aG.mk [] [(0,.cells [.hole (.list (.prod tI tL)),.fK 92 false (.cons (.hole (.list (.bU 26 true (.prod tI tL)))) .nil),.hole tI,.hole (.int .u64)] false),(1,.cells [.hole (.int .u64)] false),(2,.cells [.tf false] false),(3,.cells [.hole (.int .u64)] false),(4,.fC),(5,.loop .done (some .ret) 4 [(2,.c (.ptr 0 0)),(3,.c (.ptr 1 0)),(4,.c (.ptr 2 0)),(7,.fn 64 [] [.ptr 3 0])] [8] (.cF [.op (some 5) none (.mv (.t 8))]) (.block 1 (.seq (.seq (.draw [[],[0],[],[],[3],[2,3,4],[0,1],[0,1,6],[0,1,2,3,4,5,6,7]] [.op (some 9) none (.qc 1 [true,false] (.t 2)),.op (some 10) none (.load false 1 (.t 9)),.op (some 11) none (.load false 1 (.t 3)),.op (some 12) none (.mv (.t 5)),.op (some 13) none (.bI tI [.t 12]),.call (some 14) none (.c (.fn 34 [] [])) [.t 11,.t 13] [some (.int .u64),some tL],.op (some 15) none (.ex kQ.CJ [.t 10]),.op (some 16) none (.mv (.t 10))]) (.cF [.call (some 17) none (.m 16 [(26,179),(92,182)]) [.t 14] [some (.int .u64)]])) (.cond (.t 17) (.seq (.cF [.op none none (.store 1 (.t 4) (.c (.tf false)))]) .ret) .skip))) 22)] [] []),(.exit 0,aG.mk [] [(0,.cells [.hole (.list (.prod tI tL)),.fK 92 false (.cons (.hole (.list (.bU 26 true (.prod tI tL)))) .nil),.hole tI,.hole (.int .u64)] false),(1,.cells [.hole (.int .u64)] false),(2,.cells [.tf false] false),(3,.cells [.hole (.int .u64)] false),(4,.fC),(5,.loop .ready none 4 [(2,.c (.ptr 0 0)),(3,.c (.ptr 1 0)),(4,.c (.ptr 2 0)),(7,.fn 64 [] [.ptr 3 0])] [8] (.cF [.op (some 5) none (.mv (.t 8))]) (.block 1 (.seq (.seq (.draw [[],[0],[],[],[3],[2,3,4],[0,1],[0,1,6],[0,1,2,3,4,5,6,7]] [.op (some 9) none (.qc 1 [true,false] (.t 2)),.op (some 10) none (.load false 1 (.t 9)),.op (some 11) none (.load false 1 (.t 3)),.op (some 12) none (.mv (.t 5)),.op (some 13) none (.bI tI [.t 12]),.call (some 14) none (.c (.fn 34 [] [])) [.t 11,.t 13] [some (.int .u64),some tL],.op (some 15) none (.ex kQ.CJ [.t 10]),.op (some 16) none (.mv (.t 10))]) (.cF [.call (some 17) none (.m 16 [(26,179),(92,182)]) [.t 14] [some (.int .u64)]])) (.cond (.t 17) (.seq (.cF [.op none none (.store 1 (.t 4) (.c (.tf false)))]) .ret) .skip))) 22)] [] [])]
noncomputable def D8:D prog 14 none 6:=dO [] (pick (kd prog f64) [(0,false)]) 0
noncomputable def g17_v1_0i_0:Int×(List (Int×List Int))×(List (Int×List Int))×Int×Int×Int×Unit->bR ((Int×(List (Int×List Int))×(List (Int×List Int))×Int×Int×Int×Unit) ⊕ (((List (Int×List Int))×(List (Int×List Int))×Int×Int×Int×Int×Unit) ⊕ (((List (Int×List Int))×(List (Int×List Int))×Int×Int×Int×Int×Unit)))):=fun (jC,bp,gF,bX,lO,bN,_) =>
 .br (!(jC==(0:Int))) (
 .bd (F65 jC) fun y1 =>
 .bd (F34 bN ((((y1.1::[])).drop (0:Nat)).take (1:Nat))) fun y2 =>
 .bd (F182 gF y2.1) fun y3 =>
 .br y3.1 (
 .ret (.inr <| .inl<|(bp,gF,bX,lO,bN,jC,()))) (
 .nd (cP .u64 (jC - (1:Int))) <|
 .ret (.inl ((bW.bits Go.AM.fD.and Go.IntKind.u64 jC (jC - (1:Int))),bp,gF,bX,lO,bN,())))) (
 .ret (.inr <| .inr<|(bp,gF,bX,lO,bN,jC,())))
noncomputable def D9:bK prog 14 none 6:=bu mixed qO qa [0,1,2,3,4,5] rfl D6 D7 rfl (D8) (fun x=>ag (g17_v1_0i_0 x)) (fun x=>by kernel_rfl)
@[reducible] def Qj:aG:=aG.mk [(2,.c (.ptr 0 0)),(3,.c (.ptr 1 0)),(4,.c (.ptr 2 0)),(7,.fn 64 [] [.ptr 3 0])] [(0,.cells [.hole (.list (.prod tI tL)),.fK 92 false (.cons (.hole (.list (.bU 26 true (.prod tI tL)))) .nil),.hole tI,.hole (.int .u64)] false),(1,.cells [.hole (.int .u64)] false),(2,.cells [.tf false] false),(3,.cells [.hole (.int .u64)] false)] [.slot 2,.slot 3,.slot 4,.part 7 0] []
@[reducible] def Qk:bt:=[(.ret,aG.mk [(4,.c (.ptr 0 0))] [(0,.cells [.tf false] false)] [.slot 4] []),(.normal,aG.mk [(2,.c (.ptr 0 0)),(3,.c (.ptr 1 0)),(4,.c (.ptr 2 0))] [(0,.cells [.hole (.list (.prod tI tL)),.fK 92 false (.cons (.hole (.list (.bU 26 true (.prod tI tL)))) .nil),.hole tI,.hole (.int .u64)] false),(1,.cells [.hole (.int .u64)] false),(2,.cells [.tf false] false)] [.slot 2,.slot 3,.slot 4] [])]
noncomputable def Aw:D prog 14 none 6:=dO [.l D9] (kd prog f64) 0
theorem Lz:cN prog f64=some ⟨14,2,(Aw).er,[],[]⟩:=by kernel_rfl
noncomputable def g17_v1_0:(List (Int×List Int))×(List (Int×List Int))×Int×Int×Int×Int×Unit->bR ((Unit) ⊕ (((List (Int×List Int))×(List (Int×List Int))×Int×Int×Int×Unit))):=fun (bp,gF,bX,lO,bN,jC,_) =>
 .bd (.it g17_v1_0i_0 (jC,bp,gF,bX,lO,bN,())) fun z4 =>
 .sm z4 (fun z5 =>
 .ret (.inl<|())) fun z6 =>
 .ret (.inr<|(z6.1,z6.2.1,z6.2.2.1,z6.2.2.2.1,z6.2.2.2.2.1,()))
noncomputable def Ql:fJ prog 22 none 0:=gR mixed qO qa [] rfl Qj Qk ( .t 7) [8] rfl (Au).er (Av).er 64 func64 (Lz) (ah func64 rfl rfl) 6 rfl (Aw) rfl (fun x=>ag (g17_v1_0 x)) (fun x=>by kernel_rfl)
noncomputable def I4:D prog 22 none 0:=dO [.r Ql] (kd prog f17) 0
noncomputable def F17_v1 (dg:List (Int×List Int)) (um:List (Int×List Int)) (iu:Int) (uk:Int) (a1:Int):bR (Bool×Unit) :=
 .bd (FH46 a1) fun y0 =>
 .bd (g17_v1_0 (dg,um,iu,uk,a1,y0.1,())) fun z7 =>
 .sm z7 (fun z8 =>
 .ret (false,())) fun z9 =>
 .bd (F182 z9.2.1 z9.2.2.2.2.1) fun Z4 =>
 .ret (Z4.1,())
theorem LA:cN prog f17=some ⟨22,2,I4.er,[.cell 4 false 1],[some .bool]⟩:=by kernel_rfl
noncomputable def BZ:Ct:=⟨17,[.agg [.hole (.list (.prod tI tL)),.fK 92 false (.cons (.hole (.list (.bU 26 true (.prod tI tL)))) .nil),.hole tI,.hole (.int .u64)],.c (.hole (.int .u64))],.c (.hole .bool),fun x=>ag (F17_v1 x.1 x.2.1 x.2.2.1 x.2.2.2.1 x.2.2.2.2.1)⟩
theorem x9:BZ.Ok prog:=bn mixed qN func17 LA (ah func17 rfl rfl) I4 (by kernel_rfl) rfl (fun x=>by kernel_rfl)

/- 66, lent -/
@[reducible] def UG:aG:=aG.mk [(0,.c (.cg 0 tL)),(1,hI),(2,hI),(3,.c (.fn0 20))] [(0,.arr tL false)] [.slot 0] []
@[reducible] def UH:aG:=aG.mk [(0,.c .any)] [(0,.arr tL false)] [] []
noncomputable def yb:Cx:=(aV [ct20] [])
theorem oH:yb.Ok prog:=au ⟨Ux,trivial⟩ trivial
@[reducible] def LB:aG:=aG.mk [(0,.c (.cg 0 tL)),(1,hI),(2,hI),(3,.c (.fn0 20)),(8,hI),(9,hI)] [(0,.arr tL false)] [] []
@[reducible] def LC:bt:=[(.exit 2,aG.mk [(0,.c (.cg 0 tL)),(1,hI),(2,hI),(3,.c (.fn0 20)),(8,hI)] [(0,.arr tL false)] [] [])]
noncomputable def LD:D prog 53 none 1:=dO [] (pick (kd prog f66) [(0,false),(0,false)]) 0
noncomputable def gH66_v1_1:Nat×Int×Int×Int×Int×List (List Int)×Unit->bR ((Nat×Int×Int×Int×Int×List (List Int)×Unit) ⊕ ((Nat×Int×Int×Int×List (List Int)×Unit))):=fun (yN,v1,v2,v8,v9,b0,_) =>
 .br (decide (v1<v9)) (
 .nb v9 ((yN:Nat):Int) <|
 .nd (decide (((0:Nat)+(Int.toNat v9))<(b0).length)) <|
 .ni (v9 - (1:Int)) <|
 .nb (v9 - (1:Int)) ((yN:Nat):Int) <|
 .nd (decide (((0:Nat)+(Int.toNat (v9 - (1:Int))))<(b0).length)) <|
 .bd (F20 ((b0).getD ((0:Nat)+(Int.toNat v9)) []) ((b0).getD ((0:Nat)+(Int.toNat (v9 - (1:Int)))) [])) fun y0 =>
 .br (decide (y0.1<(0:Int))) (
 .ni (v9 - (1:Int)) <|
 .ni (v9 - (1:Int)) <|
 .nb (v9 - (1:Int)) ((yN:Nat):Int) <|
 .nd (decide (((0:Nat)+(Int.toNat (v9 - (1:Int))))<(b0).length)) <|
 .nb v9 ((yN:Nat):Int) <|
 .nd (decide (((0:Nat)+(Int.toNat v9))<(b0).length)) <|
 .nb v9 ((yN:Nat):Int) <|
 .nd (decide (((0:Nat)+(Int.toNat v9))<(b0).length)) <|
 .nb (v9 - (1:Int)) ((yN:Nat):Int) <|
 .nd (decide (((0:Nat)+(Int.toNat (v9 - (1:Int))))<(((b0).set ((0:Nat)+(Int.toNat v9)) ((b0).getD ((0:Nat)+(Int.toNat (v9 - (1:Int)))) []))).length)) <|
 .ni (v9 - (1:Int)) <|
 .ret (.inl (yN,v1,v2,v8,(v9 - (1:Int)),((((b0).set ((0:Nat)+(Int.toNat v9)) ((b0).getD ((0:Nat)+(Int.toNat (v9 - (1:Int)))) []))).set ((0:Nat)+(Int.toNat (v9 - (1:Int)))) ((b0).getD ((0:Nat)+(Int.toNat v9)) [])),()))) (
 .ret (.inr (yN,v1,v2,v8,b0,())))) (
 .ret (.inr (yN,v1,v2,v8,b0,())))
noncomputable def LF:bK prog 53 none 1:=bu mixed yb oH [0] rfl LB LC rfl (LD) (fun x=>ag (gH66_v1_1 x)) (fun x=>by kernel_rfl)
@[reducible] def LG:aG:=aG.mk [(0,.c (.cg 0 tL)),(1,hI),(2,hI),(3,.c (.fn0 20)),(8,hI)] [(0,.arr tL false)] [] []
@[reducible] def LH:bt:=[(.exit 0,aG.mk [] [(0,.arr tL false)] [] [])]
noncomputable def LI:D prog 53 none 1:=dO [.l LF] (pick (kd prog f66) [(0,false)]) 0
noncomputable def gH66_v1_0:Nat×Int×Int×Int×List (List Int)×Unit->bR ((Nat×Int×Int×Int×List (List Int)×Unit) ⊕ ((List (List Int)×Unit))):=fun (yN,v1,v2,v8,b0,_) =>
 .br (decide (v8<v2)) (
 .bd (.it gH66_v1_1 (yN,v1,v2,v8,v8,b0,())) fun z1 =>
 .ni (z1.2.2.2.1+(1:Int)) <|
 .ret (.inl (z1.1,z1.2.1,z1.2.2.1,(z1.2.2.2.1+(1:Int)),z1.2.2.2.2.1,()))) (
 .ret (.inr (b0,())))
noncomputable def LJ:bK prog 53 none 1:=bu mixed yb oH [0] rfl LG LH rfl (LI) (fun x=>ag (gH66_v1_0 x)) (fun x=>by kernel_rfl)
noncomputable def Ea:D prog 53 none 1:=dO [.l LJ] (kd prog f66) 0
noncomputable def FH66_v1 (yN:Nat) (v1:Int) (v2:Int) (b0:List (List Int)):bR (List (List Int)×Unit) :=
 .ni (v1+(1:Int)) <|
 .bd (.it gH66_v1_0 (yN,v1,v2,(v1+(1:Int)),b0,())) fun z2 =>
 .ret (z2.1,())
theorem FQ:cN prog f66=some ⟨53,4,Ea.er,[],[]⟩:=by kernel_rfl
noncomputable def I5:Ht:=⟨66,UG,UH,(fun x=>ag (FH66_v1 x.1 x.2.1 x.2.2.1 x.2.2.2.1))⟩
theorem FR:I5.Ok prog:=lu mixed oH rfl func66 FQ (ah func66 rfl rfl) Ea (by kernel_rfl) rfl rfl ⟨_,rfl⟩ rfl (pre:=[0]) rfl (fun x=>by kernel_rfl)

/- 47, lent -/
@[reducible] def UI:aG:=aG.mk [(0,.c (.cg 0 tL)),(1,hI),(2,hI),(3,hI),(4,.c (.fn0 20))] [(0,.arr tL false)] [.slot 0] []
@[reducible] def UJ:aG:=aG.mk [(0,.c .any)] [(0,.arr tL false)] [] []
noncomputable def Eb:Cx:=(aV [] [I5])
theorem uW:Eb.Ok prog:=au trivial ⟨⟨FR,rfl⟩,trivial⟩
@[reducible] def LK:aG:=aG.mk [(0,.c (.cg 0 tL)),(1,hI),(2,hI),(3,hI),(4,.c (.fn0 20)),(10,.c (.tf true)),(11,.c (.tf true))] [(0,.arr tL false)] [] []
@[reducible] def LL:bt:=[(.ret,aG.mk [] [(0,.arr tL false)] [] [])]
noncomputable def LM:D prog 148 none 1:=dO [] (pick (kd prog f47) [(0,false)]) 0
noncomputable def gH47_v1_0:Nat×Int×Int×Int×List (List Int)×Unit->bR ((Nat×Int×Int×Int×List (List Int)×Unit) ⊕ ((List (List Int)×Unit))):=fun (yN,v1,v2,v3,b0,_) =>
 .ni (v2 - v1) <|
 .br (decide ((v2 - v1)<=(12:Int))) (
 .bd (FH66_v1 yN v1 v2 b0) fun y0 =>
 .ret (.inr (y0.1,()))) (
 .br (v3==(0:Int)) (
 .no) (
 .no))
noncomputable def LN:bK prog 148 none 1:=bu mixed Eb uW [0] rfl LK LL rfl (LM) (fun x=>ag (gH47_v1_0 x)) (fun x=>by kernel_rfl)
noncomputable def Ec:D prog 148 none 1:=dO [.l LN] (kd prog f47) 0
noncomputable def FH47_v1 (yN:Nat) (v1:Int) (v2:Int) (v3:Int) (b0:List (List Int)):bR (List (List Int)×Unit) :=
 .bd (.it gH47_v1_0 (yN,v1,v2,v3,b0,())) fun z1 =>
 .ret (z1.1,())
theorem FT:cN prog f47=some ⟨148,5,Ec.er,[],[]⟩:=by kernel_rfl
noncomputable def I6:Ht:=⟨47,UI,UJ,(fun x=>ag (FH47_v1 x.1 x.2.1 x.2.2.1 x.2.2.2.1 x.2.2.2.2.1))⟩
theorem FU:I6.Ok prog:=lu mixed uW rfl func47 FT (ah func47 rfl rfl) Ec (by kernel_rfl) rfl rfl ⟨_,rfl⟩ rfl (pre:=[0]) rfl (fun x=>by kernel_rfl)

/- 19, lent -/
@[reducible] def UK:aG:=aG.mk [(0,.c (.cg 0 tL)),(1,.c (.fn0 20))] [(0,.arr tL false)] [.slot 0] []
@[reducible] def UL:aG:=aG.mk [(0,.c .any)] [(0,.arr tL false)] [] []
noncomputable def Qm:Cx:=(aV [ct48] [I6])
theorem Ed:Qm.Ok prog:=au ⟨Us,trivial⟩ ⟨⟨FU,rfl⟩,trivial⟩
noncomputable def Ee:D prog 14 none 1:=dO [] (kd prog f19) 0
noncomputable def FH19_v1 (yN:Nat) (b0:List (List Int)):bR (List (List Int)×Unit) :=
 .nd (cP .u64 ((yN:Nat):Int)) <|
 .bd (F48 ((yN:Nat):Int)) fun y0 =>
 .bd (FH47_v1 yN (0:Int) ((yN:Nat):Int) y0.1 b0) fun y1 =>
 .ret (y1.1,())
theorem FV:cN prog f19=some ⟨14,2,Ee.er,[],[]⟩:=by kernel_rfl
noncomputable def I7:Ht:=⟨19,UK,UL,(fun x=>ag (FH19_v1 x.1 x.2.1))⟩
theorem FW:I7.Ok prog:=lu mixed Ed rfl func19 FV (ah func19 rfl rfl) Ee (by kernel_rfl) rfl rfl ⟨_,rfl⟩ rfl (pre:=[0]) rfl (fun x=>by kernel_rfl)

/- 5 -/
noncomputable def cx5:Cx:=(aV [Uh,ZI,Ls,BZ,ct18,BW] [I7])
theorem FX:cx5.Ok prog:=au ⟨BR,IQ,sy,x9,Uo,x5,trivial⟩ ⟨⟨FW,rfl⟩,trivial⟩
noncomputable def XL:D prog 30 (some 3) 5:=dO [] (pick (kd prog f5) [(0,false)]) 0
noncomputable def XM:D prog 30 (some 3) 5:=dO [] (pick (kd prog f5) [(0,true)]) 0
noncomputable def FY:Cx:=tT cx5 (fun kz=>Il kz cx5 bW 3 5 [18] (XL) (XM))
theorem Ay:(FY).Ok prog:=gQ FX (fun h=>jI mixed FX h)
@[reducible] def UM:aG:=aG.mk [(0,.c (.yl 3)),(1,.c (.aJ (.cons (.hole (.list (.prod tI tL))) (.cons (.fK 92 false (.cons (.hole (.list (.bU 26 true (.prod tI tL)))) .nil)) (.cons (.hole tI) (.cons (.hole (.int .u64)) .nil)))))),(2,.c (.av tL)),(4,.c (.hole (.int .u64)))] [(3,.loop .ready none 2 [(2,.c .bA),(3,hI),(4,.c (.ptr 0 0)),(6,.c (.ptr 1 0)),(17,.fn 45 [] [.aJ (.cons (.hole (.list (.prod tI tL))) (.cons (.fK 92 false (.cons (.hole (.list (.bU 26 true (.prod tI tL)))) .nil)) (.cons (.hole tI) (.cons (.hole (.int .u64)) .nil)))),.av tL])] [18] (.cF [.op (some 7) none (.mv (.t 18))]) (.block 1 (.seq (.cF [.op (some 19) none (.load true 4 (.t 4)),.op (some 20) none (.mv (.t 7)),.call (some 21) none (.c (.fn 17 [] [])) [.t 19,.t 20] [some (.prod (.prod (.list (.prod tI tL)) .unit) (.prod (.bU 26 true (.prod tI tL)) (.prod tI (.int .u64)))),some (.int .u64)]]) (.cond (.t 21) (.draw [[],[],[1],[1,2],[0,1,2,3],[0,1,2,3,4]] [.op (some 22) none (.load false 1 (.t 6)),.op (some 23) none (.mv (.t 7)),.call (some 24) none (.c (.fn 18 [] [])) [.t 23] [some (.int .u64)],.op (some 25) none (.bI tL [.t 24]),.op (some 26) none (.append 1 (.t 22) (.t 25)),.op none none (.store 1 (.t 6) (.t 26))]) .skip))) 30),(2,.fC),(0,.cells [.hole (.list (.prod tI tL)),.fK 92 false (.cons (.hole (.list (.bU 26 true (.prod tI tL)))) .nil),.hole tI,.hole (.int .u64)] false),(1,.cells [.cg 4 tL] false),(4,.arr tL false)] [.cell 1 0] []
@[reducible] def UN:bt:=[(.exit 0,aG.mk [] [(0,.cells [.hole (.list (.prod tI tL)),.fK 92 false (.cons (.hole (.list (.bU 26 true (.prod tI tL)))) .nil),.hole tI,.hole (.int .u64)] false),(1,.cells [.cg 4 tL] false),(2,.fC),(3,.loop .ready none 2 [(2,.c .bA),(3,hI),(4,.c (.ptr 0 0)),(6,.c (.ptr 1 0)),(17,.fn 45 [] [.aJ (.cons (.hole (.list (.prod tI tL))) (.cons (.fK 92 false (.cons (.hole (.list (.bU 26 true (.prod tI tL)))) .nil)) (.cons (.hole tI) (.cons (.hole (.int .u64)) .nil)))),.av tL])] [18] (.cF [.op (some 7) none (.mv (.t 18))]) (.block 1 (.seq (.cF [.op (some 19) none (.load true 4 (.t 4)),.op (some 20) none (.mv (.t 7)),.call (some 21) none (.c (.fn 17 [] [])) [.t 19,.t 20] [some (.prod (.prod (.list (.prod tI tL)) .unit) (.prod (.bU 26 true (.prod tI tL)) (.prod tI (.int .u64)))),some (.int .u64)]]) (.cond (.t 21) (.draw [[],[],[1],[1,2],[0,1,2,3],[0,1,2,3,4]] [.op (some 22) none (.load false 1 (.t 6)),.op (some 23) none (.mv (.t 7)),.call (some 24) none (.c (.fn 18 [] [])) [.t 23] [some (.int .u64)],.op (some 25) none (.bI tL [.t 24]),.op (some 26) none (.append 1 (.t 22) (.t 25)),.op none none (.store 1 (.t 6) (.t 26))]) .skip))) 30),(4,.arr tL false)] [.cell 1 0] [])]
noncomputable def UO:D prog 22 none 4:=dO [] (pick (kd prog f45) [(0,false)]) 0
noncomputable def g5_0i_0:(List (Int×List Int))×(List (Int×List Int))×Int×Int×List Int×Int×Int×(List (Int×List Int))×(List (Int×List Int))×Int×Int×List Int×(List (Int×List Int))×(List (Int×List Int))×Int×Int×Nat×List (List Int)×Unit->bR (((List (Int×List Int))×(List (Int×List Int))×Int×Int×List Int×Int×Int×(List (Int×List Int))×(List (Int×List Int))×Int×Int×List Int×(List (Int×List Int))×(List (Int×List Int))×Int×Int×Nat×List (List Int)×Unit) ⊕ (((List (Int×List Int))×(List (Int×List Int))×Int×Int×Nat×Int×(List (Int×List Int))×(List (Int×List Int))×Int×Int×List Int×List (List Int)×Unit))):=fun (eo,kJ,fh,kS,v2,v4,w3,vG,pz,vH,vI,I8,bp,gF,bX,lO,gh,b4,_) =>
 .br (decide (v4<=kS)) (
 .bd (F34 v4 v2) fun y3 =>
 .br (v4==y3.1) (
 .bd (F17_v1 bp gF bX lO v4) fun y4 =>
 .br y4.1 (
 .bd (F18 v4) fun y5 =>
 .nd (decide ((gh+(((((y5.1::[])).drop (0:Nat)).take (1:Nat))).length)<cz)) <|
 .nd (cP .u64 (v4+(1:Int))) <|
 .ret (.inl (eo,kJ,fh,kS,v2,(v4+(1:Int)),w3,vG,pz,vH,vI,I8,bp,gF,bX,lO,(gh+(((((y5.1::[])).drop (0:Nat)).take (1:Nat))).length),((((b4).drop (0:Nat)).take gh)++((((y5.1::[])).drop (0:Nat)).take (1:Nat))),()))) (
 .nd (cP .u64 (v4+(1:Int))) <|
 .ret (.inl (eo,kJ,fh,kS,v2,(v4+(1:Int)),w3,vG,pz,vH,vI,I8,bp,gF,bX,lO,gh,b4,())))) (
 .nd (cP .u64 (v4+(1:Int))) <|
 .ret (.inl (eo,kJ,fh,kS,v2,(v4+(1:Int)),w3,vG,pz,vH,vI,I8,bp,gF,bX,lO,gh,b4,())))) (
 .ret (.inr (bp,gF,bX,lO,gh,w3,vG,pz,vH,vI,I8,b4,())))
noncomputable def UP:bK prog 22 none 4:=bu mixed FY Ay [0,1,2,3] rfl UM UN rfl (UO) (fun x=>ag (g5_0i_0 x)) (fun x=>by kernel_rfl)
@[reducible] def p5_0:aG:=aG.mk [(2,.c .bA),(3,hI),(4,.c (.ptr 0 0)),(6,.c (.ptr 1 0)),(17,.fn 45 [] [.aJ (.cons (.hole (.list (.prod tI tL))) (.cons (.fK 92 false (.cons (.hole (.list (.bU 26 true (.prod tI tL)))) .nil)) (.cons (.hole tI) (.cons (.hole (.int .u64)) .nil)))),.av tL])] [(0,.cells [.hole (.list (.prod tI tL)),.fK 92 false (.cons (.hole (.list (.bU 26 true (.prod tI tL)))) .nil),.hole tI,.hole (.int .u64)] false),(1,.cells [.bA] false)] [.slot 4,.slot 6] []
@[reducible] def x5_0:bt:=[(.normal,aG.mk [(6,.c (.ptr 0 0))] [(0,.cells [.cg 1 tL] false),(1,.arr tL false)] [.slot 6,.cell 0 0] [])]
noncomputable def XN:D prog 22 none 4:=dO [.l UP] (kd prog f45) 0
theorem ae5:cN prog f45=some ⟨22,3,(XN).er,[],[]⟩:=by kernel_rfl
noncomputable def g5_0:Int×(List (Int×List Int))×(List (Int×List Int))×Int×Int×List Int×(List (Int×List Int))×(List (Int×List Int))×Int×Int×Unit->bR ((Nat×List (List Int)×Unit)):=fun (v3,I9,Az,Ja,Jb,XO,bp,gF,bX,lO,_) =>
 .bd (.it g5_0i_0 (I9,Az,Ja,Jb,XO,(0:Int),v3,I9,Az,Ja,Jb,XO,bp,gF,bX,lO,(0:Nat),[],())) fun z6 =>
 .ret ((z6.2.2.2.2.1,z6.2.2.2.2.2.2.2.2.2.2.2.1,()))
noncomputable def R5_0:fJ prog 30 none 0:=gR mixed FY Ay [] rfl p5_0 x5_0 ( .t 17) [18] rfl (XL).er (XM).er 45 func45 (ae5) (ah func45 rfl rfl) 4 rfl (XN) rfl (fun x=>ag (g5_0 x)) (fun x=>by kernel_rfl)
noncomputable def dd5:D prog 30 none 0:=dO [.r R5_0] (kd prog f5) 0
noncomputable def F5 (dg:List (Int×List Int)):bR (List (List Int)×Int×Unit) :=
 .bd (F15 dg) fun y0 =>
 .sm y0 (fun y1 =>
 .br (!(y1.2.2.2.1==(0:Int))) (
 .ret ([],y1.2.2.2.1,())) (
 .bd (F16 y1.1 y1.2.1 y1.2.2.1 []) fun y2 =>
 .no)) fun y7 =>
 .br (!(y7.2.2.2.2.1==(0:Int))) (
 .ret ([],y7.2.2.2.2.1,())) (
 .bd (F16_v1 y7.1 y7.2.1 y7.2.2.1 y7.2.2.2.1 []) fun y8 =>
 .bd (g5_0 ((0:Int),y8.1,y8.2.1,y8.2.2.1,y8.2.2.2.1,y8.2.2.2.2.1,y7.1,y7.2.1,y7.2.2.1,y7.2.2.2.1,())) fun z9 =>
 .bd (FH19_v1 z9.1 z9.2.1) fun Z4 =>
 .ret ((((Z4.1).drop (0:Nat)).take z9.1),(0:Int),()))
theorem ae6:cN prog f5=some ⟨30,1,dd5.er,[.t 2,.t 3],[some ay,some tI]⟩:=by kernel_rfl
noncomputable def ct5:Ct:=⟨5,[.agg [.hole (.list (.prod tI tL))]],.cG [.hole ay,.hole tI],fun x=>ag (F5 x.1)⟩
theorem Z5:ct5.Ok prog:=bn mixed FX func5 ae6 (ah func5 rfl rfl) dd5 (by kernel_rfl) rfl (fun x=>by kernel_rfl)

/- 7 -/
noncomputable def cx7:Cx:=(aV [] [])
theorem Qn:cx7.Ok prog:=au trivial trivial
@[reducible] def p7_0:aG:=aG.mk [(1,.c (.pa 0 (.int .u8) 3)),(2,.c (.ptr 1 0)),(3,.c (.ptr 2 0)),(4,hI)] [(0,.arr (.int .u8) false),(1,.cells [.bA,.bA] false),(2,.cells [.cg 3 tL,.cg 4 .bool] false),(3,.arr tL false),(4,.arr .bool false)] [.slot 1,.slot 2,.slot 3,.cell 2 0,.cell 2 1] []
@[reducible] def x7_0:bt:=[(.exit 0,aG.mk [(2,.c (.ptr 0 0)),(3,.c (.ptr 1 0))] [(0,.cells [.bA,.bA] false),(1,.cells [.cg 2 tL,.cg 3 .bool] false),(2,.arr tL false),(3,.arr .bool false)] [.slot 2,.slot 3,.cell 1 0,.cell 1 1] [])]
noncomputable def b7_0:D prog 37 none 0:=dO [] (pick (kd prog f7) [(0,false)]) 0
noncomputable def g7_0:Int×List Int×Nat×Nat×List (List Int)×List Bool×Unit->bR ((Int×List Int×Nat×Nat×List (List Int)×List Bool×Unit) ⊕ ((Nat×Nat×List (List Int)×List Bool×Unit))):=fun (v4,b0,dm,Jc,b3,b4,_) =>
 .br (decide (v4<(3:Int))) (
 .nb v4 (3:Int) <|
 .nd (decide ((Int.toNat v4)<(b0).length)) <|
 .ni ((b0).getD (Int.toNat v4) (0:Int)) <|
 .nd (!((3:Int)==(0:Int))) <|
 .nb v4 (3:Int) <|
 .nd (decide ((Int.toNat v4)<(b0).length)) <|
 .ni ((b0).getD (Int.toNat v4) (0:Int)) <|
 .nd (!((3:Int)==(0:Int))) <|
 .ni (Int.tdiv ((b0).getD (Int.toNat v4) (0:Int)) (3:Int)) <|
 .nd (!((3:Int)==(0:Int))) <|
 .nd (decide ((dm+((((((((((Int.tmod ((b0).getD (Int.toNat v4) (0:Int)) (3:Int))::((Int.tmod (Int.tdiv ((b0).getD (Int.toNat v4) (0:Int)) (3:Int)) (3:Int))::[]))).drop (0:Nat)).take (2:Nat))::[])).drop (0:Nat)).take (1:Nat))).length)<cz)) <|
 .nb v4 (3:Int) <|
 .nd (decide ((Int.toNat v4)<(b0).length)) <|
 .nd (decide ((Jc+((((((decide ((100:Int)<((b0).getD (Int.toNat v4) (0:Int))))::[])).drop (0:Nat)).take (1:Nat))).length)<cz)) <|
 .ni (v4+(1:Int)) <|
 .ret (.inl ((v4+(1:Int)),b0,(dm+((((((((((Int.tmod ((b0).getD (Int.toNat v4) (0:Int)) (3:Int))::((Int.tmod (Int.tdiv ((b0).getD (Int.toNat v4) (0:Int)) (3:Int)) (3:Int))::[]))).drop (0:Nat)).take (2:Nat))::[])).drop (0:Nat)).take (1:Nat))).length),(Jc+((((((decide ((100:Int)<((b0).getD (Int.toNat v4) (0:Int))))::[])).drop (0:Nat)).take (1:Nat))).length),((((b3).drop (0:Nat)).take dm)++(((((((((Int.tmod ((b0).getD (Int.toNat v4) (0:Int)) (3:Int))::((Int.tmod (Int.tdiv ((b0).getD (Int.toNat v4) (0:Int)) (3:Int)) (3:Int))::[]))).drop (0:Nat)).take (2:Nat))::[])).drop (0:Nat)).take (1:Nat))),((((b4).drop (0:Nat)).take Jc)++(((((decide ((100:Int)<((b0).getD (Int.toNat v4) (0:Int))))::[])).drop (0:Nat)).take (1:Nat))),()))) (
 .ret (.inr (dm,Jc,b3,b4,())))
noncomputable def L7_0:bK prog 37 none 0:=bu mixed cx7 Qn [] rfl p7_0 x7_0 rfl (b7_0) (fun x=>ag (g7_0 x)) (fun x=>by kernel_rfl)
noncomputable def dd7:D prog 37 none 0:=dO [.l L7_0] (kd prog f7) 0
noncomputable def F7 (a0:Int×Int×Int):bR (((List (List Int))×List Bool)×Unit) :=
 .bd (.it g7_0 ((0:Int),(a0.1::(a0.2.1::(a0.2.2::[]))),(0:Nat),(0:Nat),[],[],())) fun z0 =>
 .ret (((((z0.2.2.1).drop (0:Nat)).take z0.1),(((z0.2.2.2.1).drop (0:Nat)).take z0.2.1)),())
theorem ae7:cN prog f7=some ⟨37,1,dd7.er,[.cell 2 true 2],[some (.prod ay (.list .bool))]⟩:=by kernel_rfl
noncomputable def ct7:Ct:=⟨7,[.c (.hole (.prod (.int .u8) (.prod (.int .u8) (.int .u8))))],.c (.hole (.prod ay (.list .bool))),fun x=>ag (F7 x.1)⟩
theorem Qo:ct7.Ok prog:=bn mixed Qn func7 ae7 (ah func7 rfl rfl) dd7 (by kernel_rfl) rfl (fun x=>by kernel_rfl)

/- 25 -/
noncomputable def cx25:Cx:=(aV [] [])
theorem UQ:cx25.Ok prog:=au trivial trivial
noncomputable def dd25:D prog 8 none 0:=dO [] (kd prog f25) 0
noncomputable def F25 (a0:(List (List Int))×List Bool):bR (Int×Unit) :=
 .nb (0:Int) (((a0.1).length:Nat):Int) <|
 .ret ((((((a0.1).getD (Int.toNat (0:Int)) [])).length:Nat):Int),())
theorem Z6:cN prog f25=some ⟨8,1,dd25.er,[.t 2],[some tI]⟩:=by kernel_rfl
noncomputable def FZ:Ct:=⟨25,[.c (.hole (.prod ay (.list .bool)))],hI,fun x=>ag (F25 x.1)⟩
theorem pE:FZ.Ok prog:=bn mixed UQ func25 Z6 (ah func25 rfl rfl) dd25 (by kernel_rfl) rfl (fun x=>by kernel_rfl)

/- 24 -/
noncomputable def cx24:Cx:=(aV [] [])
theorem UR:cx24.Ok prog:=au trivial trivial
noncomputable def dd24:D prog 15 none 0:=dO [] (kd prog f24) 0
noncomputable def F24 (a0:Int) (a1:Int) (a2:Int):bR (Bool×Unit) :=
 .br (decide (a0<=a1)) (
 .ret ((decide (a1<=a2)),())) (
 .ret (false,()))
theorem Z7:cN prog f24=some ⟨15,3,dd24.er,[.t 6],[some .bool]⟩:=by kernel_rfl
noncomputable def US:Ct:=⟨24,[hI,hI,hI],.c (.hole .bool),fun x=>ag (F24 x.1 x.2.1 x.2.2.1)⟩
theorem B4:US.Ok prog:=bn mixed UR func24 Z7 (ah func24 rfl rfl) dd24 (by kernel_rfl) rfl (fun x=>by kernel_rfl)

/- 26 -/
noncomputable def cx26:Cx:=(aV [US] [])
theorem UT:cx26.Ok prog:=au ⟨B4,trivial⟩ trivial
noncomputable def dd26:D prog 11 none 0:=dO [] (kd prog f26) 0
noncomputable def F26 (a0:Int) (a1:(List (List Int))×List Bool):bR (Bool×Unit) :=
 .ni ((((a1.1).length:Nat):Int) - (1:Int)) <|
 .bd (F24 (0:Int) a0 ((((a1.1).length:Nat):Int) - (1:Int))) fun y0 =>
 .ret ((!y0.1),())
theorem Z8:cN prog f26=some ⟨11,2,dd26.er,[.t 3],[some .bool]⟩:=by kernel_rfl
noncomputable def ct26:Ct:=⟨26,[hI,.c (.av (.prod ay (.list .bool)))],.c (.hole .bool),fun x=>ag (F26 x.1 x.2.1)⟩
theorem UU:ct26.Ok prog:=bn mixed UT func26 Z8 (ah func26 rfl rfl) dd26 (by kernel_rfl) rfl (fun x=>by kernel_rfl)

/- 51 -/
noncomputable def Jd:Cx:=(aV [ct26] [])
theorem yc:Jd.Ok prog:=au ⟨UU,trivial⟩ trivial
@[reducible] def Qp:aG:=aG.mk [(0,hL),(1,.fn 26 [] [.av (.prod ay (.list .bool))]),(7,hI),(8,hI)] [] [] []
@[reducible] def Qq:bt:=[(.ret,aG.mk [(4,hI)] [] [] []),(.exit 0,aG.mk [] [] [] [])]
noncomputable def Qr:D prog 19 none 0:=dO [] (pick (kd prog f51) [(0,false)]) 0
noncomputable def g51_v1_0:List Int×((List (List Int))×List Bool)×Int×Int×Unit->bR ((List Int×((List (List Int))×List Bool)×Int×Int×Unit) ⊕ ((Int×Unit) ⊕ ((Unit)))):=fun (v0,ve,v7,v8,_) =>
 .br (decide (v8<v7)) (
 .nb v8 (((v0).length:Nat):Int) <|
 .bd (F26 ((v0).getD (Int.toNat v8) (0:Int)) (ve.1,ve.2)) fun y0 =>
 .br y0.1 (
 .ret (.inr <| .inl<|(v8,()))) (
 .ni (v8+(1:Int)) <|
 .ret (.inl (v0,(ve.1,ve.2),v7,(v8+(1:Int)),())))) (
 .ret (.inr <| .inr<|()))
noncomputable def Qs:bK prog 19 none 0:=bu mixed Jd yc [] rfl Qp Qq rfl (Qr) (fun x=>ag (g51_v1_0 x)) (fun x=>by kernel_rfl)
noncomputable def Je:D prog 19 none 0:=dO [.l Qs] (kd prog f51) 0
noncomputable def F51_v1 (a0:List Int) (qM:(List (List Int))×List Bool):bR (Int×Unit) :=
 .bd (.it g51_v1_0 (a0,(qM.1,qM.2),(((a0).length:Nat):Int),(0:Int),())) fun z1 =>
 .sm z1 (fun z2 =>
 .ret (z2.1,())) fun z3 =>
 .ret ((-1:Int),())
theorem LO:cN prog f51=some ⟨19,2,Je.er,[.t 4],[some tI]⟩:=by kernel_rfl
noncomputable def Jf:Ct:=⟨51,[hL,.fn 26 [] [.av (.prod ay (.list .bool))]],hI,fun x=>ag (F51_v1 x.1 x.2.1)⟩
theorem Ga:Jf.Ok prog:=bn mixed yc func51 LO (ah func51 rfl rfl) Je (by kernel_rfl) rfl (fun x=>by kernel_rfl)

/- 27 -/
noncomputable def UW:Cx:=(aV [Jf] [])
theorem Gb:UW.Ok prog:=au ⟨Ga,trivial⟩ trivial
noncomputable def Jg:D prog 9 none 0:=dO [] (kd prog f27) 0
noncomputable def F27_v1 (a0:List Int) (qM:(List (List Int))×List Bool):bR (Bool×Unit) :=
 .bd (F51_v1 a0 (qM.1,qM.2)) fun y0 =>
 .ret ((decide ((0:Int)<=y0.1)),())
theorem LP:cN prog f27=some ⟨9,2,Jg.er,[.t 4],[some .bool]⟩:=by kernel_rfl
noncomputable def Jh:Ct:=⟨27,[hL,.fn 26 [] [.av (.prod ay (.list .bool))]],.c (.hole .bool),fun x=>ag (F27_v1 x.1 x.2.1)⟩
theorem Gc:Jh.Ok prog:=bn mixed Gb func27 LP (ah func27 rfl rfl) Jg (by kernel_rfl) rfl (fun x=>by kernel_rfl)

/- 9 -/
noncomputable def cx9:Cx:=(aV [FZ,US,Jh] [])
theorem Qt:cx9.Ok prog:=au ⟨pE,B4,Gc,trivial⟩ trivial
@[reducible] def p9_0:aG:=aG.mk [(1,.c (.ptr 0 0)),(3,.fn 26 [] [.ptr 0 0]),(31,M6),(32,hI),(33,hI)] [(0,.cells [.hole ay,.hole (.list .bool)] false)] [.slot 1] []
@[reducible] def x9_0:bt:=[(.ret,aG.mk [(2,hI)] [] [] []),(.exit 1,aG.mk [] [] [] [])]
noncomputable def b9_0:D prog 48 none 0:=dO [] (pick (kd prog f9) [(0,false)]) 0
noncomputable def g9_0:List (List Int)×Int×Int×List (List Int)×List Bool×Unit->bR ((List (List Int)×Int×Int×List (List Int)×List Bool×Unit) ⊕ ((Int×Unit) ⊕ ((Unit)))):=fun (qP,v32,uX,bp,cq,_) =>
 .br (decide (uX<v32)) (
 .nb uX (((qP).length:Nat):Int) <|
 .bd (F25 (bp,cq)) fun y2 =>
 .br (!((((((qP).getD (Int.toNat uX) [])).length:Nat):Int)==y2.1)) (
 .ret (.inr <| .inl<|((3:Int),()))) (
 .bd (F27_v1 ((qP).getD (Int.toNat uX) []) (bp,cq)) fun y3 =>
 .br y3.1 (
 .ret (.inr <| .inl<|((5:Int),()))) (
 .ni (uX+(1:Int)) <|
 .ret (.inl (qP,v32,(uX+(1:Int)),bp,cq,()))))) (
 .ret (.inr <| .inr<|()))
noncomputable def L9_0:bK prog 48 none 0:=bu mixed cx9 Qt [] rfl p9_0 x9_0 rfl (b9_0) (fun x=>ag (g9_0 x)) (fun x=>by kernel_rfl)
noncomputable def dd9:D prog 48 none 0:=dO [.l L9_0] (kd prog f9) 0
noncomputable def F9 (a0:(List (List Int))×List Bool):bR (Int×Unit) :=
 .br ((((a0.1).length:Nat):Int)==(0:Int)) (
 .ret ((4:Int),())) (
 .br (decide ((40:Int)<(((a0.1).length:Nat):Int))) (
 .ret ((1:Int),())) (
 .bd (F25 (a0.1,a0.2)) fun y0 =>
 .bd (F24 (1:Int) y0.1 (4:Int)) fun y1 =>
 .br (!y1.1) (
 .ret ((2:Int),())) (
 .br (!((((a0.2).length:Nat):Int)==(((a0.1).length:Nat):Int))) (
 .ret ((3:Int),())) (
 .bd (.it g9_0 (a0.1,(((a0.1).length:Nat):Int),(0:Int),a0.1,a0.2,())) fun z4 =>
 .sm z4 (fun z5 =>
 .ret (z5.1,())) fun z6 =>
 .ret ((0:Int),())))))
theorem afd:cN prog f9=some ⟨48,1,dd9.er,[.t 2],[some tI]⟩:=by kernel_rfl
noncomputable def ct9:Ct:=⟨9,[.c (.hole (.prod ay (.list .bool)))],hI,fun x=>ag (F9 x.1)⟩
theorem Gd:ct9.Ok prog:=bn mixed Qt func9 afd (ah func9 rfl rfl) dd9 (by kernel_rfl) rfl (fun x=>by kernel_rfl)

/- 36 -/
noncomputable def cx36:Cx:=(aV [ct9,FZ] [])
theorem Ji:cx36.Ok prog:=au ⟨Gd,pE,trivial⟩ trivial
@[reducible] def afg:aG:=aG.mk [(2,.c (.ptr 0 0)),(3,.c (.ptr 1 0)),(10,.c (.cg 2 (.prod ay (.list .bool)))),(11,hI),(12,hI)] [(0,.cells [.hole ay,.hole (.list .bool)] false),(1,.cells [.hole ay,.hole (.list .bool)] false),(2,.arr (.prod ay (.list .bool)) false)] [.slot 2,.slot 3,.slot 10] []
@[reducible] def afh:bt:=[(.ret,aG.mk [(4,hI)] [] [] []),(.exit 0,aG.mk [(2,.c (.ptr 0 0)),(3,.c (.ptr 1 0))] [(0,.cells [.hole ay,.hole (.list .bool)] false),(1,.cells [.hole ay,.hole (.list .bool)] false)] [.slot 2,.slot 3] [])]
noncomputable def afi:D prog 27 none 0:=dO [] (pick (kd prog f36) [(0,false)]) 0
noncomputable def g36_0:Nat×Int×Int×List (List Int)×List Bool×List (List Int)×List Bool×(List ((List (List Int))×List Bool))×Unit->bR ((Nat×Int×Int×List (List Int)×List Bool×List (List Int)×List Bool×(List ((List (List Int))×List Bool))×Unit) ⊕ ((Int×Unit) ⊕ ((List (List Int)×List Bool×List (List Int)×List Bool×Unit)))):=fun (vf,v11,pF,bp,cq,bN,dK,b2,_) =>
 .br (decide (pF<v11)) (
 .nb pF ((vf:Nat):Int) <|
 .nd (decide (((0:Nat)+(Int.toNat pF))<(b2).length)) <|
 .bd (F9 (((b2).getD ((0:Nat)+(Int.toNat pF)) ([],[])).1,((b2).getD ((0:Nat)+(Int.toNat pF)) ([],[])).2)) fun y0 =>
 .br (!(y0.1==(0:Int))) (
 .ret (.inr <| .inl<|(y0.1,()))) (
 .ni (pF+(1:Int)) <|
 .ret (.inl (vf,v11,(pF+(1:Int)),bp,cq,bN,dK,b2,())))) (
 .ret (.inr <| .inr<|(bp,cq,bN,dK,())))
noncomputable def afj:bK prog 27 none 0:=bu mixed cx36 Ji [] rfl afg afh rfl (afi) (fun x=>ag (g36_0 x)) (fun x=>by kernel_rfl)
noncomputable def dd36:D prog 27 none 0:=dO [.l afj] (kd prog f36) 0
noncomputable def F36 (a0:(List (List Int))×List Bool) (a1:(List (List Int))×List Bool):bR (Int×Unit) :=
 .bd (.it g36_0 ((2:Nat),(2:Int),(0:Int),a0.1,a0.2,a1.1,a1.2,((a0.1,a0.2)::((a1.1,a1.2)::[])),())) fun z1 =>
 .sm z1 (fun z2 =>
 .ret (z2.1,())) fun z3 =>
 .bd (F25 (z3.1,z3.2.1)) fun y4 =>
 .bd (F25 (z3.2.2.1,z3.2.2.2.1)) fun y5 =>
 .br (!(y4.1==y5.1)) (
 .ret ((3:Int),())) (
 .ret ((0:Int),()))
theorem Z9:cN prog f36=some ⟨27,2,dd36.er,[.t 4],[some tI]⟩:=by kernel_rfl
noncomputable def UX:Ct:=⟨36,[.c (.hole (.prod ay (.list .bool))),.c (.hole (.prod ay (.list .bool)))],hI,fun x=>ag (F36 x.1 x.2.1)⟩
theorem B5:UX.Ok prog:=bn mixed Ji func36 Z9 (ah func36 rfl rfl) dd36 (by kernel_rfl) rfl (fun x=>by kernel_rfl)

/- 37 -/
noncomputable def cx37:Cx:=(aV [FZ] [])
theorem UY:cx37.Ok prog:=au ⟨pE,trivial⟩ trivial
noncomputable def dd37:D prog 15 none 0:=dO [] (kd prog f37) 0
noncomputable def F37 (a0:(List (List Int))×List Bool) (a1:(List (List Int))×List Bool) (a2:Int×Int):bR (Int×Int×Int×((List (List Int))×List Bool)×((List (List Int))×List Bool)×((List (List Int))×List Bool)×((List (List Int))×List Bool)×Unit) :=
 .bd (F25 (a0.1,a0.2)) fun y0 =>
 .ret (y0.1,(((a2.1::(a2.2::[]))).getD (0:Nat) (0:Int)),(((a2.1::(a2.2::[]))).getD (1:Nat) (0:Int)),(a0.1,a0.2),(a1.1,a1.2),(a0.1,a0.2),(a1.1,a1.2),())
theorem aaa:cN prog f37=some ⟨15,4,dd37.er,[.cell 8 true 5],[none]⟩:=by kernel_rfl
noncomputable def ct37:Ct:=⟨37,[.c (.hole (.prod ay (.list .bool))),.c (.hole (.prod ay (.list .bool))),.c (.hole (.prod tI tI)),.c (.fn0 22)],.agg [.hole tI,.hole tI,.hole tI,.fn 54 .nil (.cons (.av (.prod ay (.list .bool))) (.cons (.av (.prod ay (.list .bool))) .nil)),.fn 55 .nil (.cons (.aJ (.cons (.fn0 22) .nil)) (.cons (.av (.prod ay (.list .bool))) (.cons (.av (.prod ay (.list .bool))) .nil)))],fun x=>ag (F37 x.1 x.2.1 x.2.2.1)⟩
theorem UZ:ct37.Ok prog:=bn mixed UY func37 aaa (ah func37 rfl rfl) dd37 (by kernel_rfl) rfl (fun x=>by kernel_rfl)

/- 56 -/
noncomputable def cx56:Cx:=(aV [] [])
theorem U0:cx56.Ok prog:=au trivial trivial
noncomputable def dd56:D prog 4 none 0:=dO [] (kd prog f56) 0
noncomputable def F56 (dg:Int) (sA:Int) (iu:Int) (dP:(List (List Int))×List Bool) (dQ:(List (List Int))×List Bool) (dR:(List (List Int))×List Bool) (dS:(List (List Int))×List Bool):bR (Int×Int×Int×((List (List Int))×List Bool)×((List (List Int))×List Bool)×((List (List Int))×List Bool)×((List (List Int))×List Bool)×Unit) :=
 .ret (dg,sA,iu,(dP.1,dP.2),(dQ.1,dQ.2),(dR.1,dR.2),(dS.1,dS.2),())
theorem aab:cN prog f56=some ⟨4,1,dd56.er,[.t 2],[none]⟩:=by kernel_rfl
noncomputable def ct56:Ct:=⟨56,[.agg [.hole tI,.hole tI,.hole tI,.fn 54 .nil (.cons (.av (.prod ay (.list .bool))) (.cons (.av (.prod ay (.list .bool))) .nil)),.fn 55 .nil (.cons (.aJ (.cons (.fn0 22) .nil)) (.cons (.av (.prod ay (.list .bool))) (.cons (.av (.prod ay (.list .bool))) .nil)))]],.fn 81 [] [.aJ (.cons (.hole tI) (.cons (.hole tI) (.cons (.hole tI) (.cons (.fn 54 .nil (.cons (.av (.prod ay (.list .bool))) (.cons (.av (.prod ay (.list .bool))) .nil))) (.cons (.fn 55 .nil (.cons (.aJ (.cons (.fn0 22) .nil)) (.cons (.av (.prod ay (.list .bool))) (.cons (.av (.prod ay (.list .bool))) .nil)))) .nil)))))],fun x=>ag (F56 x.1 x.2.1 x.2.2.1 x.2.2.2.1 x.2.2.2.2.1 x.2.2.2.2.2.1 x.2.2.2.2.2.2.1)⟩
theorem U1:ct56.Ok prog:=bn mixed U0 func56 aab (ah func56 rfl rfl) dd56 (by kernel_rfl) rfl (fun x=>by kernel_rfl)

/- 82 -/
noncomputable def cx82:Cx:=(aV [] [])
theorem U2:cx82.Ok prog:=au trivial trivial
noncomputable def dd82:D prog 8 none 0:=dO [] (kd prog f82) 0
noncomputable def F82 (a0:List Int):bR (List Int×Unit) :=
 .br ((((a0).length:Nat):Int)==(0:Int)) (
 .am inferInstance (
 .ret ([],())) (
 .nd (decide (((0:Nat)+(a0).length)<cz)) <|
 .ret (((((((([]).drop (0:Nat)).take (0:Nat))++a0)).drop (0:Nat)).take ((0:Nat)+(a0).length)),()))) (
 .nd (decide (((0:Nat)+(a0).length)<cz)) <|
 .ret (((((((([]).drop (0:Nat)).take (0:Nat))++a0)).drop (0:Nat)).take ((0:Nat)+(a0).length)),()))
theorem aac:cN prog f82=some ⟨8,1,dd82.er,[.t 2],[some tL]⟩:=by kernel_rfl
noncomputable def LQ:Ct:=⟨82,[hL],hL,fun x=>ag (F82 x.1)⟩
theorem sB:LQ.Ok prog:=bn mixed U2 func82 aac (ah func82 rfl rfl) dd82 (by kernel_rfl) rfl (fun x=>by kernel_rfl)

/- 22 -/
noncomputable def cx22:Cx:=(aV [] [])
theorem U3:cx22.Ok prog:=au trivial trivial
noncomputable def dd22:D prog 9 none 0:=dO [] (kd prog f22) 0
noncomputable def F22 (a0:Bool) (a1:Bool):bR (Bool×Unit) :=
 .br a0 (
 .ret (a1,())) (
 .ret (false,()))
theorem aad:cN prog f22=some ⟨9,2,dd22.er,[.t 4],[some .bool]⟩:=by kernel_rfl
noncomputable def ct22:Ct:=⟨22,[.c (.hole .bool),.c (.hole .bool)],.c (.hole .bool),fun x=>ag (F22 x.1 x.2.1)⟩
theorem U4:ct22.Ok prog:=bn mixed U3 func22 aad (ah func22 rfl rfl) dd22 (by kernel_rfl) rfl (fun x=>by kernel_rfl)

/- 55 -/
noncomputable def cx55:Cx:=(aV [ct22] [])
theorem U5:cx55.Ok prog:=au ⟨U4,trivial⟩ trivial
noncomputable def dd55:D prog 20 none 0:=dO [] (kd prog f55) 0
noncomputable def F55 (a0:Int×Int) (a2:(List (List Int))×List Bool) (a3:(List (List Int))×List Bool):bR (Bool×Unit) :=
 .nd (decide ((0:Nat)<((a0.1::(a0.2::[]))).length)) <|
 .nb (((a0.1::(a0.2::[]))).getD (0:Nat) (0:Int)) (((a2.2).length:Nat):Int) <|
 .nd (decide ((1:Nat)<((a0.1::(a0.2::[]))).length)) <|
 .nb (((a0.1::(a0.2::[]))).getD (1:Nat) (0:Int)) (((a3.2).length:Nat):Int) <|
 .bd (F22 ((a2.2).getD (Int.toNat (((a0.1::(a0.2::[]))).getD (0:Nat) (0:Int))) false) ((a3.2).getD (Int.toNat (((a0.1::(a0.2::[]))).getD (1:Nat) (0:Int))) false)) fun y0 =>
 .ret (y0.1,())
theorem aae:cN prog f55=some ⟨20,4,dd55.er,[.t 5],[some .bool]⟩:=by kernel_rfl
noncomputable def aaf:Ct:=⟨55,[.c (.hole (.prod tI tI)),.c (.aJ (.cons (.fn0 22) .nil)),.c (.av (.prod ay (.list .bool))),.c (.av (.prod ay (.list .bool)))],.c (.hole .bool),fun x=>ag (F55 x.1 x.2.1 x.2.2.1)⟩
theorem Jj:aaf.Ok prog:=bn mixed U5 func55 aae (ah func55 rfl rfl) dd55 (by kernel_rfl) rfl (fun x=>by kernel_rfl)

/- 54 -/
noncomputable def cx54:Cx:=(aV [] [])
theorem U6:cx54.Ok prog:=au trivial trivial
noncomputable def dd54:D prog 26 none 0:=dO [] (kd prog f54) 0
noncomputable def F54 (a0:Int×Int) (a1:Int) (a2:(List (List Int))×List Bool) (a3:(List (List Int))×List Bool):bR ((Int×Int)×Unit) :=
 .nd (decide ((0:Nat)<((a0.1::(a0.2::[]))).length)) <|
 .nb (((a0.1::(a0.2::[]))).getD (0:Nat) (0:Int)) (((a2.1).length:Nat):Int) <|
 .nb a1 (((((a2.1).getD (Int.toNat (((a0.1::(a0.2::[]))).getD (0:Nat) (0:Int))) [])).length:Nat):Int) <|
 .nd (decide ((1:Nat)<((a0.1::(a0.2::[]))).length)) <|
 .nb (((a0.1::(a0.2::[]))).getD (1:Nat) (0:Int)) (((a3.1).length:Nat):Int) <|
 .nb a1 (((((a3.1).getD (Int.toNat (((a0.1::(a0.2::[]))).getD (1:Nat) (0:Int))) [])).length:Nat):Int) <|
 .ret (((((((((a2.1).getD (Int.toNat (((a0.1::(a0.2::[]))).getD (0:Nat) (0:Int))) [])).getD (Int.toNat a1) (0:Int))::(((((a3.1).getD (Int.toNat (((a0.1::(a0.2::[]))).getD (1:Nat) (0:Int))) [])).getD (Int.toNat a1) (0:Int))::[]))).getD (0:Nat) (0:Int)),(((((((a2.1).getD (Int.toNat (((a0.1::(a0.2::[]))).getD (0:Nat) (0:Int))) [])).getD (Int.toNat a1) (0:Int))::(((((a3.1).getD (Int.toNat (((a0.1::(a0.2::[]))).getD (1:Nat) (0:Int))) [])).getD (Int.toNat a1) (0:Int))::[]))).getD (1:Nat) (0:Int))),())
theorem aag:cN prog f54=some ⟨26,4,dd54.er,[.cell 6 true 2],[some (.prod tI tI)]⟩:=by kernel_rfl
noncomputable def Ef:Ct:=⟨54,[.c (.hole (.prod tI tI)),hI,.c (.av (.prod ay (.list .bool))),.c (.av (.prod ay (.list .bool)))],.c (.hole (.prod tI tI)),fun x=>ag (F54 x.1 x.2.1 x.2.2.1 x.2.2.2.1)⟩
theorem nA:Ef.Ok prog:=bn mixed U6 func54 aag (ah func54 rfl rfl) dd54 (by kernel_rfl) rfl (fun x=>by kernel_rfl)

/- 83 -/
noncomputable def cx83:Cx:=(aV [] [])
theorem U7:cx83.Ok prog:=au trivial trivial
noncomputable def dd83:D prog 9 none 0:=dO [] (kd prog f83) 0
noncomputable def F83 (a0:List Int):bR (List Int×Unit) :=
 .nd ((0:Int)==(0:Int)) <|
 .nd ((((a0).length:Nat):Int)==(((a0).length:Nat):Int)) <|
 .nd ((((a0).length:Nat):Int)==(((a0).length:Nat):Int)) <|
 .ret (a0,())
theorem aah:cN prog f83=some ⟨9,1,dd83.er,[.t 2],[some tL]⟩:=by kernel_rfl
noncomputable def LS:Ct:=⟨83,[hL],.c (.kO tI),fun x=>ag (F83 x.1)⟩
theorem sC:LS.Ok prog:=bn mixed U7 func83 aah (ah func83 rfl rfl) dd83 (by kernel_rfl) rfl (fun x=>by kernel_rfl)

/- 99, lent -/
@[reducible] def pH99:aG:=aG.mk [(0,.agg [.hole tI,.hole tI,.fn 78 .nil (.cons (.ptr 0 0) (.cons (.ptr 1 0) (.cons (.ptr 2 0) .nil))),.fn 79 .nil (.cons (.ptr 1 0) (.cons (.ptr 2 0) .nil))])] [(0,.cells [.mp 3] false),(1,.cells [.hole tI,.hole tI,.hole tI,.fn 54 .nil (.cons (.av (.prod ay (.list .bool))) (.cons (.av (.prod ay (.list .bool))) .nil)),.fn 55 .nil (.cons (.aJ (.cons (.fn0 22) .nil)) (.cons (.av (.prod ay (.list .bool))) (.cons (.av (.prod ay (.list .bool))) .nil)))] false),(2,.cells [.mp 4] false),(3,.map (.prod tI tI) true tI false),(4,.map tI false (.prod tI tI) true)] [.part 0 1002,.part 0 2002,.part 0 3002,.cell 0 0,.cell 2 0] []
@[reducible] def qH99:aG:=aG.mk [(0,.fn 112 [] [.ptr 5 0])] [(5,.cells [.hole tI,.hole tI,.fn 78 .nil (.cons (.ptr 0 0) (.cons (.ptr 1 0) (.cons (.ptr 2 0) .nil))),.fn 79 .nil (.cons (.ptr 1 0) (.cons (.ptr 2 0) .nil))] false),(0,.cells [.mp 3] false),(3,.map (.prod tI tI) true tI false),(1,.cells [.hole tI,.hole tI,.hole tI,.fn 54 .nil (.cons (.av (.prod ay (.list .bool))) (.cons (.av (.prod ay (.list .bool))) .nil)),.fn 55 .nil (.cons (.aJ (.cons (.fn0 22) .nil)) (.cons (.av (.prod ay (.list .bool))) (.cons (.av (.prod ay (.list .bool))) .nil)))] false),(2,.cells [.mp 4] false),(4,.map tI false (.prod tI tI) true)] [.part 0 0] []
noncomputable def afv:Cx:=(aV [] [])
theorem Qu:afv.Ok prog:=au trivial trivial
noncomputable def XP:D prog 4 none 5:=dO [] (kd prog f99) 0
noncomputable def FH99 (uo:Int) (uq:Int) (bN:Int) (dK:Int) (dX:Int) (aP:(List (List Int))×List Bool) (aQ:(List (List Int))×List Bool) (aT:(List (List Int))×List Bool) (aU:(List (List Int))×List Bool) (m3:List ((Int×Int)×Int)) (m4:List (Int×Int×Int)):bR (Int×Int×(List ((Int×Int)×Int))×Int×Int×Int×((List (List Int))×List Bool)×((List (List Int))×List Bool)×((List (List Int))×List Bool)×((List (List Int))×List Bool)×(List (Int×Int×Int))×Unit) :=
 .ret (uo,uq,m3,bN,dK,dX,(aP.1,aP.2),(aQ.1,aQ.2),(aT.1,aT.2),(aU.1,aU.2),m4,())
theorem U9:cN prog f99=some ⟨4,1,XP.er,[.t 2],[none]⟩:=by kernel_rfl
noncomputable def ht99:Ht:=⟨99,pH99,qH99,(fun x=>ag (FH99 x.1 x.2.1 x.2.2.1 x.2.2.2.1 x.2.2.2.2.1 x.2.2.2.2.2.1 x.2.2.2.2.2.2.1 x.2.2.2.2.2.2.2.1 x.2.2.2.2.2.2.2.2.1 x.2.2.2.2.2.2.2.2.2.1 x.2.2.2.2.2.2.2.2.2.2.1))⟩
theorem Va:ht99.Ok prog:=lu mixed Qu rfl func99 U9 (ah func99 rfl rfl) XP (by kernel_rfl) rfl rfl ⟨_,rfl⟩ rfl (pre:=[0,1,2,3,4]) rfl (fun x=>by kernel_rfl)

/- 78, lent -/
@[reducible] def pH78:aG:=aG.mk [(0,hI),(1,hI),(2,.c (.ptr 0 0)),(3,.c (.ptr 1 0)),(4,.c (.ptr 2 0))] [(0,.cells [.mp 3] false),(1,.cells [.hole tI,.hole tI,.hole tI,.fn 54 .nil (.cons (.av (.prod ay (.list .bool))) (.cons (.av (.prod ay (.list .bool))) .nil)),.fn 55 .nil (.cons (.aJ (.cons (.fn0 22) .nil)) (.cons (.av (.prod ay (.list .bool))) (.cons (.av (.prod ay (.list .bool))) .nil)))] false),(2,.cells [.mp 4] false),(3,.map (.prod tI tI) true tI false),(4,.map tI false (.prod tI tI) true)] [.slot 2,.slot 3,.slot 4,.cell 0 0,.cell 2 0] []
@[reducible] def qH78:aG:=aG.mk [(0,hI)] [(0,.cells [.mp 3] false),(3,.map (.prod tI tI) true tI false),(1,.cells [.hole tI,.hole tI,.hole tI,.fn 54 .nil (.cons (.av (.prod ay (.list .bool))) (.cons (.av (.prod ay (.list .bool))) .nil)),.fn 55 .nil (.cons (.aJ (.cons (.fn0 22) .nil)) (.cons (.av (.prod ay (.list .bool))) (.cons (.av (.prod ay (.list .bool))) .nil)))] false),(2,.cells [.mp 4] false),(4,.map tI false (.prod tI tI) true)] [] []
noncomputable def afy:Cx:=(aV [Ef] [])
theorem Qv:afy.Ok prog:=au ⟨nA,trivial⟩ trivial
noncomputable def XQ:D prog 17 none 5:=dO [] (kd prog f78) 0
noncomputable def FH78 (v0:Int) (v1:Int) (bN:Int) (dK:Int) (dX:Int) (aP:(List (List Int))×List Bool) (aQ:(List (List Int))×List Bool) (aT:(List (List Int))×List Bool) (aU:(List (List Int))×List Bool) (m3:List ((Int×Int)×Int)) (m4:List (Int×Int×Int)):bR (Int×(List ((Int×Int)×Int))×Int×Int×Int×((List (List Int))×List Bool)×((List (List Int))×List Bool)×((List (List Int))×List Bool)×((List (List Int))×List Bool)×(List (Int×Int×Int))×Unit) :=
 .bd (F54 ((aN (.int .i64) ((0:Int),(0:Int)) m4 v0).1,(aN (.int .i64) ((0:Int),(0:Int)) m4 v0).2) v1 (aP.1,aP.2) (aQ.1,aQ.2)) fun y0 =>
 .ret ((aN (.prod (.int .i64) (.int .i64)) (0:Int) m3 (y0.1.1,y0.1.2)),m3,bN,dK,dX,(aP.1,aP.2),(aQ.1,aQ.2),(aT.1,aT.2),(aU.1,aU.2),m4,())
theorem Vb:cN prog f78=some ⟨17,5,XQ.er,[.t 7],[some tI]⟩:=by kernel_rfl
noncomputable def ht78:Ht:=⟨78,pH78,qH78,(fun x=>ag (FH78 x.1 x.2.1 x.2.2.1 x.2.2.2.1 x.2.2.2.2.1 x.2.2.2.2.2.1 x.2.2.2.2.2.2.1 x.2.2.2.2.2.2.2.1 x.2.2.2.2.2.2.2.2.1 x.2.2.2.2.2.2.2.2.2.1 x.2.2.2.2.2.2.2.2.2.2.1))⟩
theorem Jk:ht78.Ok prog:=lu mixed Qv rfl func78 Vb (ah func78 rfl rfl) XQ (by kernel_rfl) rfl rfl ⟨_,rfl⟩ rfl (pre:=[0,1,2,3,4]) rfl (fun x=>by kernel_rfl)

/- 79, lent -/
@[reducible] def pH79:aG:=aG.mk [(0,hI),(1,.c (.ptr 0 0)),(2,.c (.ptr 1 0))] [(0,.cells [.hole tI,.hole tI,.hole tI,.fn 54 .nil (.cons (.av (.prod ay (.list .bool))) (.cons (.av (.prod ay (.list .bool))) .nil)),.fn 55 .nil (.cons (.aJ (.cons (.fn0 22) .nil)) (.cons (.av (.prod ay (.list .bool))) (.cons (.av (.prod ay (.list .bool))) .nil)))] false),(1,.cells [.mp 2] false),(2,.map tI false (.prod tI tI) true)] [.slot 1,.slot 2,.cell 1 0] []
@[reducible] def qH79:aG:=aG.mk [(0,.c (.hole .bool))] [(0,.cells [.hole tI,.hole tI,.hole tI,.fn 54 .nil (.cons (.av (.prod ay (.list .bool))) (.cons (.av (.prod ay (.list .bool))) .nil)),.fn 55 .nil (.cons (.aJ (.cons (.fn0 22) .nil)) (.cons (.av (.prod ay (.list .bool))) (.cons (.av (.prod ay (.list .bool))) .nil)))] false),(1,.cells [.mp 2] false),(2,.map tI false (.prod tI tI) true)] [] []
noncomputable def afB:Cx:=(aV [aaf] [])
theorem Qw:afB.Ok prog:=au ⟨Jj,trivial⟩ trivial
noncomputable def XR:D prog 11 none 3:=dO [] (kd prog f79) 0
noncomputable def FH79 (v0:Int) (bp:Int) (cq:Int) (bX:Int) (aH:(List (List Int))×List Bool) (aI:(List (List Int))×List Bool) (aC:(List (List Int))×List Bool) (aD:(List (List Int))×List Bool) (m2:List (Int×Int×Int)):bR (Bool×Int×Int×Int×((List (List Int))×List Bool)×((List (List Int))×List Bool)×((List (List Int))×List Bool)×((List (List Int))×List Bool)×(List (Int×Int×Int))×Unit) :=
 .bd (F55 ((aN (.int .i64) ((0:Int),(0:Int)) m2 v0).1,(aN (.int .i64) ((0:Int),(0:Int)) m2 v0).2) (aC.1,aC.2) (aD.1,aD.2)) fun y0 =>
 .ret (y0.1,bp,cq,bX,(aH.1,aH.2),(aI.1,aI.2),(aC.1,aC.2),(aD.1,aD.2),m2,())
theorem Vc:cN prog f79=some ⟨11,3,XR.er,[.t 4],[some .bool]⟩:=by kernel_rfl
noncomputable def ht79:Ht:=⟨79,pH79,qH79,(fun x=>ag (FH79 x.1 x.2.1 x.2.2.1 x.2.2.2.1 x.2.2.2.2.1 x.2.2.2.2.2.1 x.2.2.2.2.2.2.1 x.2.2.2.2.2.2.2.1 x.2.2.2.2.2.2.2.2.1))⟩
theorem Vd:ht79.Ok prog:=lu mixed Qw rfl func79 Vc (ah func79 rfl rfl) XR (by kernel_rfl) rfl rfl ⟨_,rfl⟩ rfl (pre:=[0,1,2]) rfl (fun x=>by kernel_rfl)

/- 78, drawn -/
@[reducible] def qG78:aG:=aG.mk [(0,hI)] [] [] []
noncomputable def Ve (v0:Int) (v1:Int) (bN:Int) (dK:Int) (dX:Int) (aP:(List (List Int))×List Bool) (aQ:(List (List Int))×List Bool) (aT:(List (List Int))×List Bool) (aU:(List (List Int))×List Bool) (m3:List ((Int×Int)×Int)) (m4:List (Int×Int×Int)):bR (Int×Unit) :=
 .bd (FH78 v0 v1 bN dK dX aP aQ aT aU m3 m4) fun y =>
 .ret (y.1,())
noncomputable def gt78:Gt:=⟨78,pH78,qG78,(fun x=>ag (Ve x.1 x.2.1 x.2.2.1 x.2.2.2.1 x.2.2.2.2.1 x.2.2.2.2.2.1 x.2.2.2.2.2.2.1 x.2.2.2.2.2.2.2.1 x.2.2.2.2.2.2.2.2.1 x.2.2.2.2.2.2.2.2.2.1 x.2.2.2.2.2.2.2.2.2.2.1))⟩
theorem Vf:gt78.Ok prog:=Gt.reads Jk rfl rfl (fun x y' h=>by
  obtain ⟨y,h1,h2⟩:=dx (show cZ (ag (FH78 x.1 x.2.1 x.2.2.1 x.2.2.2.1 x.2.2.2.2.1 x.2.2.2.2.2.1 x.2.2.2.2.2.2.1 x.2.2.2.2.2.2.2.1 x.2.2.2.2.2.2.2.2.1 x.2.2.2.2.2.2.2.2.2.1 x.2.2.2.2.2.2.2.2.2.2.1)) (fun y=>some (y.1,()))=some y' from h)
  have h3:=h1
  obtain ⟨z,_,h4⟩:=dx (show cZ (ag _) _=some y from h3)
  cases h4
  cases h2
  refine ⟨_,h1,rfl,fun id=>?_,rfl⟩
  show aq id [(0,_),(1,_),(2,_),(3,_),(4,_)]=aq id [(0,_),(3,_),(1,_),(2,_),(4,_)]
  simp only [aY]
  by_cases e0:0=id
  · subst e0;rfl
  by_cases e1:1=id
  · subst e1;rfl
  by_cases e2:2=id
  · subst e2;rfl
  by_cases e3:3=id
  · subst e3;rfl
  by_cases e4:4=id
  · subst e4;rfl
  simp [e0,e1,e2,e3,e4])

/- 79, drawn -/
@[reducible] def qG79:aG:=aG.mk [(0,.c (.hole .bool))] [] [] []
noncomputable def Vg (v0:Int) (bp:Int) (cq:Int) (bX:Int) (aH:(List (List Int))×List Bool) (aI:(List (List Int))×List Bool) (aC:(List (List Int))×List Bool) (aD:(List (List Int))×List Bool) (m2:List (Int×Int×Int)):bR (Bool×Unit) :=
 .bd (FH79 v0 bp cq bX aH aI aC aD m2) fun y =>
 .ret (y.1,())
noncomputable def gt79:Gt:=⟨79,pH79,qG79,(fun x=>ag (Vg x.1 x.2.1 x.2.2.1 x.2.2.2.1 x.2.2.2.2.1 x.2.2.2.2.2.1 x.2.2.2.2.2.2.1 x.2.2.2.2.2.2.2.1 x.2.2.2.2.2.2.2.2.1))⟩
theorem Vh:gt79.Ok prog:=Gt.reads Vd rfl rfl (fun x y' h=>by
  obtain ⟨y,h1,h2⟩:=dx (show cZ (ag (FH79 x.1 x.2.1 x.2.2.1 x.2.2.2.1 x.2.2.2.2.1 x.2.2.2.2.2.1 x.2.2.2.2.2.2.1 x.2.2.2.2.2.2.2.1 x.2.2.2.2.2.2.2.2.1)) (fun y=>some (y.1,()))=some y' from h)
  have h3:=h1
  obtain ⟨z,_,h4⟩:=dx (show cZ (ag _) _=some y from h3)
  cases h4
  cases h2
  refine ⟨_,h1,rfl,fun id=>?_,rfl⟩
  show aq id [(0,_),(1,_),(2,_)]=aq id [(0,_),(1,_),(2,_)]
  simp only [aY]
  by_cases e0:0=id
  · subst e0;rfl
  by_cases e1:1=id
  · subst e1;rfl
  by_cases e2:2=id
  · subst e2;rfl
  simp [e0,e1,e2])

/- 80, lent -/
@[reducible] def pH80:aG:=aG.mk [(0,.agg [.hole tI,.hole tI,.fn 78 .nil (.cons (.ptr 0 0) (.cons (.ptr 1 0) (.cons (.ptr 2 0) .nil))),.fn 79 .nil (.cons (.ptr 1 0) (.cons (.ptr 2 0) .nil))])] [(0,.cells [.mp 3] false),(1,.cells [.hole tI,.hole tI,.hole tI,.fn 54 .nil (.cons (.av (.prod ay (.list .bool))) (.cons (.av (.prod ay (.list .bool))) .nil)),.fn 55 .nil (.cons (.aJ (.cons (.fn0 22) .nil)) (.cons (.av (.prod ay (.list .bool))) (.cons (.av (.prod ay (.list .bool))) .nil)))] false),(2,.cells [.mp 4] false),(3,.map (.prod tI tI) true tI false),(4,.map tI false (.prod tI tI) true)] [.part 0 1002,.part 0 2002,.part 0 3002,.cell 0 0,.cell 2 0] []
@[reducible] def qH80:aG:=aG.mk [(0,.cG [.zf (.cons (.cg 5 tL) (.cons (.cg 6 .bool) .nil)),.cg 7 tL])] [(5,.arr tL false),(6,.arr .bool false),(7,.arr tL false),(0,.cells [.mp 3] false),(3,.map (.prod tI tI) true tI false),(1,.cells [.hole tI,.hole tI,.hole tI,.fn 54 .nil (.cons (.av (.prod ay (.list .bool))) (.cons (.av (.prod ay (.list .bool))) .nil)),.fn 55 .nil (.cons (.aJ (.cons (.fn0 22) .nil)) (.cons (.av (.prod ay (.list .bool))) (.cons (.av (.prod ay (.list .bool))) .nil)))] false),(2,.cells [.mp 4] false),(4,.map tI false (.prod tI tI) true)] [.part 0 1000,.part 0 2000,.part 0 1] []
noncomputable def Eg:Cx:=(Pk [LQ,LS] [ht99,ht78] [gt78,gt79])
theorem oI:Eg.Ok prog:=DU ⟨sB,sC,trivial⟩ ⟨⟨Va,rfl⟩,⟨Jk,rfl⟩,trivial⟩ ⟨⟨Vf,rfl⟩,⟨Vh,rfl⟩,trivial⟩
noncomputable def Jl:D prog 69 (some 13) 26:=dO [] (pick (kd prog f80) [(0,false)]) 0
noncomputable def Jm:D prog 69 (some 13) 26:=dO [] (pick (kd prog f80) [(0,true)]) 0
noncomputable def sD:Cx:=tT Eg (fun kz=>Il kz Eg bW 13 26 [15,16] (Jl) (Jm))
theorem oJ:(sD).Ok prog:=gQ oI (fun h=>jI mixed oI h)
@[reducible] def LU:aG:=aG.mk [(0,.c (.yl 13)),(1,.c (.ptr 10 0)),(3,.c (.mp 14)),(4,.c (.Aa 15 (.prod tI tL))),(5,.c (.ptr 16 0)),(33,hI),(34,hI)] [(13,.loop .ready none 12 [(1,.c (.ptr 5 0)),(2,.c (.ptr 6 0)),(3,.c (.ptr 7 0)),(4,.c (.ptr 8 0)),(5,.c (.ptr 9 0)),(14,.fn 112 [] [.ptr 10 0])] [15,16] (.seq (.cF [.op (some 6) none (.mv (.t 15))]) (.cF [.op (some 7) none (.mv (.t 16))])) (.block 1 (.seq (.cF [.op (some 17) none (.load false 1 (.t 4)),.op (some 18) none (.mv (.t 6)),.op (some 19) none (.load false 1 (.t 5)),.op (some 20) none (.len (.t 19)),.op none none (.ex (kQ.fM tI false tI false) [.t 17,.t 18,.t 20])]) (.draw [[],[],[1],[0,1,2],[],[],[5],[0,1,2,3,4,5,6],[0,1,2,3,4,5,6,7],[0,1,2,3,4,5,6,7,8]] [.op (some 21) none (.load false 1 (.t 5)),.op (some 22) none (.mv (.t 6)),.op (some 23) none (.bI tI [.t 22]),.op (some 24) none (.append 1 (.t 21) (.t 23)),.op (some 25) none (.load false 1 (.t 3)),.op (some 26) none (.mv (.t 7)),.op (some 27) none (.bI tL [.t 26]),.op (some 28) none (.append 1 (.t 25) (.t 27)),.op none none (.store 1 (.t 5) (.t 24)),.op none none (.store 1 (.t 3) (.t 28))]))) 69),(10,.cells [.hole tI,.hole tI,.fn 78 .nil (.cons (.ptr 0 0) (.cons (.ptr 1 0) (.cons (.ptr 2 0) .nil))),.fn 79 .nil (.cons (.ptr 1 0) (.cons (.ptr 2 0) .nil))] false),(14,.map tI false .bool false),(15,.arr (.prod tI tL) false),(16,.cells [.hole tI,.hole tL] false),(12,.fC),(5,.cells [.hole tI,.hole tI,.fn 78 .nil (.cons (.ptr 0 0) (.cons (.ptr 1 0) (.cons (.ptr 2 0) .nil))),.fn 79 .nil (.cons (.ptr 1 0) (.cons (.ptr 2 0) .nil))] false),(0,.cells [.mp 3] false),(3,.map (.prod tI tI) true tI false),(1,.cells [.hole tI,.hole tI,.hole tI,.fn 54 .nil (.cons (.av (.prod ay (.list .bool))) (.cons (.av (.prod ay (.list .bool))) .nil)),.fn 55 .nil (.cons (.aJ (.cons (.fn0 22) .nil)) (.cons (.av (.prod ay (.list .bool))) (.cons (.av (.prod ay (.list .bool))) .nil)))] false),(2,.cells [.mp 4] false),(4,.map tI false (.prod tI tI) true),(6,.cells [.bA,.bA] false),(7,.cells [.cg 17 tL] false),(8,.cells [.mp 18] false),(9,.cells [.cg 19 tI] false),(17,.arr tL false),(18,.map tI false tI false),(19,.arr tI false)] [.slot 3,.slot 4,.slot 5,.cell 7 0,.cell 8 0,.cell 9 0] []
@[reducible] def LV:bt:=[(.exit 2,aG.mk [(0,.c (.yl 13)),(1,.c (.ptr 10 0)),(3,.c (.mp 14)),(4,.c (.Aa 15 (.prod tI tL)))] [(13,.loop .ready none 12 [(1,.c (.ptr 5 0)),(2,.c (.ptr 6 0)),(3,.c (.ptr 7 0)),(4,.c (.ptr 8 0)),(5,.c (.ptr 9 0)),(14,.fn 112 [] [.ptr 10 0])] [15,16] (.seq (.cF [.op (some 6) none (.mv (.t 15))]) (.cF [.op (some 7) none (.mv (.t 16))])) (.block 1 (.seq (.cF [.op (some 17) none (.load false 1 (.t 4)),.op (some 18) none (.mv (.t 6)),.op (some 19) none (.load false 1 (.t 5)),.op (some 20) none (.len (.t 19)),.op none none (.ex (kQ.fM tI false tI false) [.t 17,.t 18,.t 20])]) (.draw [[],[],[1],[0,1,2],[],[],[5],[0,1,2,3,4,5,6],[0,1,2,3,4,5,6,7],[0,1,2,3,4,5,6,7,8]] [.op (some 21) none (.load false 1 (.t 5)),.op (some 22) none (.mv (.t 6)),.op (some 23) none (.bI tI [.t 22]),.op (some 24) none (.append 1 (.t 21) (.t 23)),.op (some 25) none (.load false 1 (.t 3)),.op (some 26) none (.mv (.t 7)),.op (some 27) none (.bI tL [.t 26]),.op (some 28) none (.append 1 (.t 25) (.t 27)),.op none none (.store 1 (.t 5) (.t 24)),.op none none (.store 1 (.t 3) (.t 28))]))) 69),(10,.cells [.hole tI,.hole tI,.fn 78 .nil (.cons (.ptr 0 0) (.cons (.ptr 1 0) (.cons (.ptr 2 0) .nil))),.fn 79 .nil (.cons (.ptr 1 0) (.cons (.ptr 2 0) .nil))] false),(14,.map tI false .bool false),(15,.arr (.prod tI tL) false),(12,.fC),(5,.cells [.hole tI,.hole tI,.fn 78 .nil (.cons (.ptr 0 0) (.cons (.ptr 1 0) (.cons (.ptr 2 0) .nil))),.fn 79 .nil (.cons (.ptr 1 0) (.cons (.ptr 2 0) .nil))] false),(0,.cells [.mp 3] false),(3,.map (.prod tI tI) true tI false),(1,.cells [.hole tI,.hole tI,.hole tI,.fn 54 .nil (.cons (.av (.prod ay (.list .bool))) (.cons (.av (.prod ay (.list .bool))) .nil)),.fn 55 .nil (.cons (.aJ (.cons (.fn0 22) .nil)) (.cons (.av (.prod ay (.list .bool))) (.cons (.av (.prod ay (.list .bool))) .nil)))] false),(2,.cells [.mp 4] false),(4,.map tI false (.prod tI tI) true),(6,.cells [.bA,.bA] false),(7,.cells [.cg 16 tL] false),(8,.cells [.mp 17] false),(9,.cells [.cg 18 tI] false),(16,.arr tL false),(17,.map tI false tI false),(18,.arr tI false)] [.slot 3,.slot 4,.cell 7 0,.cell 8 0,.cell 9 0] [])]
noncomputable def LW:D prog 61 none 14:=dO [] (pick (kd prog f112) [(0,false),(0,false)]) 0
noncomputable def gH80_0i_1:Nat×Nat×Int×Int×Int×Int×(List (Int×Bool))×(List (Int×List Int))×Int×List Int×Int×Int×(List ((Int×Int)×Int))×Int×Int×Int×((List (List Int))×List Bool)×((List (List Int))×List Bool)×((List (List Int))×List Bool)×((List (List Int))×List Bool)×(List (Int×Int×Int))×Nat×Nat×List (List Int)×(List (Int×Int))×List Int×Unit->bR ((Nat×Nat×Int×Int×Int×Int×(List (Int×Bool))×(List (Int×List Int))×Int×List Int×Int×Int×(List ((Int×Int)×Int))×Int×Int×Int×((List (List Int))×List Bool)×((List (List Int))×List Bool)×((List (List Int))×List Bool)×((List (List Int))×List Bool)×(List (Int×Int×Int))×Nat×Nat×List (List Int)×(List (Int×Int))×List Int×Unit) ⊕ ((Nat×Nat×Int×Int×(List (Int×Bool))×(List (Int×List Int))×Int×Int×(List ((Int×Int)×Int))×Int×Int×Int×((List (List Int))×List Bool)×((List (List Int))×List Bool)×((List (List Int))×List Bool)×((List (List Int))×List Bool)×(List (Int×Int×Int))×Nat×Nat×List (List Int)×(List (Int×Int))×List Int×Unit))):=fun (cI,jJ,uX,fL,iD,gL,vh,ur,yd,ye,iE,jd,m3,bN,dK,dX,aP,aQ,aT,aU,m4,eu,iF,lP,lQ,lR,_) =>
 .br (decide (fL<uX)) (
 .bd (FH78 yd fL bN dK dX (aP.1,aP.2) (aQ.1,aQ.2) (aT.1,aT.2) (aU.1,aU.2) m3 m4) fun y2 =>
 .br (!(aN (.int .i64) false vh y2.1)) (
 .bd (F83 ye) fun y3 =>
 .nd (decide ((0:Nat)<(((((fL::[])).drop (0:Nat)).take (1:Nat))).length)) <|
 .nd (decide (((y3.1).length+(((((fL::[])).drop (0:Nat)).take (1:Nat))).length)<cz)) <|
 .nd (decide ((jJ+((((((y2.1,((((y3.1++((((fL::[])).drop (0:Nat)).take (1:Nat)))).drop (0:Nat)).take ((y3.1).length+(((((fL::[])).drop (0:Nat)).take (1:Nat))).length)))::[])).drop (0:Nat)).take (1:Nat))).length)<cz)) <|
 .ni (fL+(1:Int)) <|
 .ret (.inl ((0:Nat),(jJ+((((((y2.1,((((y3.1++((((fL::[])).drop (0:Nat)).take (1:Nat)))).drop (0:Nat)).take ((y3.1).length+(((((fL::[])).drop (0:Nat)).take (1:Nat))).length)))::[])).drop (0:Nat)).take (1:Nat))).length),uX,(fL+(1:Int)),iD,gL,(bh (.int .i64) vh y2.1 true),((((ur).drop cI).take jJ)++(((((y2.1,((((y3.1++((((fL::[])).drop (0:Nat)).take (1:Nat)))).drop (0:Nat)).take ((y3.1).length+(((((fL::[])).drop (0:Nat)).take (1:Nat))).length)))::[])).drop (0:Nat)).take (1:Nat))),yd,ye,iE,jd,y2.2.1,y2.2.2.1,y2.2.2.2.1,y2.2.2.2.2.1,(y2.2.2.2.2.2.1.1,y2.2.2.2.2.2.1.2),(y2.2.2.2.2.2.2.1.1,y2.2.2.2.2.2.2.1.2),(y2.2.2.2.2.2.2.2.1.1,y2.2.2.2.2.2.2.2.1.2),(y2.2.2.2.2.2.2.2.2.1.1,y2.2.2.2.2.2.2.2.2.1.2),y2.2.2.2.2.2.2.2.2.2.1,eu,iF,lP,lQ,lR,()))) (
 .ni (fL+(1:Int)) <|
 .ret (.inl (cI,jJ,uX,(fL+(1:Int)),iD,gL,vh,ur,yd,ye,iE,jd,y2.2.1,y2.2.2.1,y2.2.2.2.1,y2.2.2.2.2.1,(y2.2.2.2.2.2.1.1,y2.2.2.2.2.2.1.2),(y2.2.2.2.2.2.2.1.1,y2.2.2.2.2.2.2.1.2),(y2.2.2.2.2.2.2.2.1.1,y2.2.2.2.2.2.2.2.1.2),(y2.2.2.2.2.2.2.2.2.1.1,y2.2.2.2.2.2.2.2.2.1.2),y2.2.2.2.2.2.2.2.2.2.1,eu,iF,lP,lQ,lR,())))) (
 .ret (.inr (cI,jJ,iD,gL,vh,ur,iE,jd,m3,bN,dK,dX,(aP.1,aP.2),(aQ.1,aQ.2),(aT.1,aT.2),(aU.1,aU.2),m4,eu,iF,lP,lQ,lR,())))
noncomputable def LX:bK prog 61 none 14:=bu mixed sD oJ [0,1,2,3,4,5,6,7,8,9,10,11,12,13] rfl LU LV rfl (LW) (fun x=>ag (gH80_0i_1 x)) (fun x=>by kernel_rfl)
@[reducible] def LY:aG:=aG.mk [(0,.c (.yl 13)),(1,.c (.ptr 10 0)),(3,.c (.mp 14)),(4,.c (.Aa 15 (.prod tI tL)))] [(13,.loop .ready none 12 [(1,.c (.ptr 5 0)),(2,.c (.ptr 6 0)),(3,.c (.ptr 7 0)),(4,.c (.ptr 8 0)),(5,.c (.ptr 9 0)),(14,.fn 112 [] [.ptr 10 0])] [15,16] (.seq (.cF [.op (some 6) none (.mv (.t 15))]) (.cF [.op (some 7) none (.mv (.t 16))])) (.block 1 (.seq (.cF [.op (some 17) none (.load false 1 (.t 4)),.op (some 18) none (.mv (.t 6)),.op (some 19) none (.load false 1 (.t 5)),.op (some 20) none (.len (.t 19)),.op none none (.ex (kQ.fM tI false tI false) [.t 17,.t 18,.t 20])]) (.draw [[],[],[1],[0,1,2],[],[],[5],[0,1,2,3,4,5,6],[0,1,2,3,4,5,6,7],[0,1,2,3,4,5,6,7,8]] [.op (some 21) none (.load false 1 (.t 5)),.op (some 22) none (.mv (.t 6)),.op (some 23) none (.bI tI [.t 22]),.op (some 24) none (.append 1 (.t 21) (.t 23)),.op (some 25) none (.load false 1 (.t 3)),.op (some 26) none (.mv (.t 7)),.op (some 27) none (.bI tL [.t 26]),.op (some 28) none (.append 1 (.t 25) (.t 27)),.op none none (.store 1 (.t 5) (.t 24)),.op none none (.store 1 (.t 3) (.t 28))]))) 69),(10,.cells [.hole tI,.hole tI,.fn 78 .nil (.cons (.ptr 0 0) (.cons (.ptr 1 0) (.cons (.ptr 2 0) .nil))),.fn 79 .nil (.cons (.ptr 1 0) (.cons (.ptr 2 0) .nil))] false),(14,.map tI false .bool false),(15,.arr (.prod tI tL) false),(12,.fC),(5,.cells [.hole tI,.hole tI,.fn 78 .nil (.cons (.ptr 0 0) (.cons (.ptr 1 0) (.cons (.ptr 2 0) .nil))),.fn 79 .nil (.cons (.ptr 1 0) (.cons (.ptr 2 0) .nil))] false),(0,.cells [.mp 3] false),(3,.map (.prod tI tI) true tI false),(1,.cells [.hole tI,.hole tI,.hole tI,.fn 54 .nil (.cons (.av (.prod ay (.list .bool))) (.cons (.av (.prod ay (.list .bool))) .nil)),.fn 55 .nil (.cons (.aJ (.cons (.fn0 22) .nil)) (.cons (.av (.prod ay (.list .bool))) (.cons (.av (.prod ay (.list .bool))) .nil)))] false),(2,.cells [.mp 4] false),(4,.map tI false (.prod tI tI) true),(6,.cells [.bA,.bA] false),(7,.cells [.cg 16 tL] false),(8,.cells [.mp 17] false),(9,.cells [.cg 18 tI] false),(16,.arr tL false),(17,.map tI false tI false),(18,.arr tI false)] [.slot 3,.slot 4,.cell 7 0,.cell 8 0,.cell 9 0] []
@[reducible] def LZ:bt:=[(.exit 0,aG.mk [] [(0,.cells [.mp 3] false),(3,.map (.prod tI tI) true tI false),(1,.cells [.hole tI,.hole tI,.hole tI,.fn 54 .nil (.cons (.av (.prod ay (.list .bool))) (.cons (.av (.prod ay (.list .bool))) .nil)),.fn 55 .nil (.cons (.aJ (.cons (.fn0 22) .nil)) (.cons (.av (.prod ay (.list .bool))) (.cons (.av (.prod ay (.list .bool))) .nil)))] false),(2,.cells [.mp 4] false),(4,.map tI false (.prod tI tI) true),(5,.cells [.hole tI,.hole tI,.fn 78 .nil (.cons (.ptr 0 0) (.cons (.ptr 1 0) (.cons (.ptr 2 0) .nil))),.fn 79 .nil (.cons (.ptr 1 0) (.cons (.ptr 2 0) .nil))] false),(6,.cells [.bA,.bA] false),(7,.cells [.cg 14 tL] false),(8,.cells [.mp 15] false),(9,.cells [.cg 16 tI] false),(10,.cells [.hole tI,.hole tI,.fn 78 .nil (.cons (.ptr 0 0) (.cons (.ptr 1 0) (.cons (.ptr 2 0) .nil))),.fn 79 .nil (.cons (.ptr 1 0) (.cons (.ptr 2 0) .nil))] false),(12,.fC),(13,.loop .ready none 12 [(1,.c (.ptr 5 0)),(2,.c (.ptr 6 0)),(3,.c (.ptr 7 0)),(4,.c (.ptr 8 0)),(5,.c (.ptr 9 0)),(14,.fn 112 [] [.ptr 10 0])] [15,16] (.seq (.cF [.op (some 6) none (.mv (.t 15))]) (.cF [.op (some 7) none (.mv (.t 16))])) (.block 1 (.seq (.cF [.op (some 17) none (.load false 1 (.t 4)),.op (some 18) none (.mv (.t 6)),.op (some 19) none (.load false 1 (.t 5)),.op (some 20) none (.len (.t 19)),.op none none (.ex (kQ.fM tI false tI false) [.t 17,.t 18,.t 20])]) (.draw [[],[],[1],[0,1,2],[],[],[5],[0,1,2,3,4,5,6],[0,1,2,3,4,5,6,7],[0,1,2,3,4,5,6,7,8]] [.op (some 21) none (.load false 1 (.t 5)),.op (some 22) none (.mv (.t 6)),.op (some 23) none (.bI tI [.t 22]),.op (some 24) none (.append 1 (.t 21) (.t 23)),.op (some 25) none (.load false 1 (.t 3)),.op (some 26) none (.mv (.t 7)),.op (some 27) none (.bI tL [.t 26]),.op (some 28) none (.append 1 (.t 25) (.t 27)),.op none none (.store 1 (.t 5) (.t 24)),.op none none (.store 1 (.t 3) (.t 28))]))) 69),(14,.arr tL false),(15,.map tI false tI false),(16,.arr tI false)] [.cell 7 0,.cell 8 0,.cell 9 0] [])]
noncomputable def L5:D prog 61 none 14:=dO [.l LX] (pick (kd prog f112) [(0,false)]) 0
noncomputable def gH80_0i_0:Nat×Nat×Int×Int×(List (Int×Bool))×(List (Int×List Int))×Int×Int×(List ((Int×Int)×Int))×Int×Int×Int×((List (List Int))×List Bool)×((List (List Int))×List Bool)×((List (List Int))×List Bool)×((List (List Int))×List Bool)×(List (Int×Int×Int))×Nat×Nat×List (List Int)×(List (Int×Int))×List Int×Unit->bR ((Nat×Nat×Int×Int×(List (Int×Bool))×(List (Int×List Int))×Int×Int×(List ((Int×Int)×Int))×Int×Int×Int×((List (List Int))×List Bool)×((List (List Int))×List Bool)×((List (List Int))×List Bool)×((List (List Int))×List Bool)×(List (Int×Int×Int))×Nat×Nat×List (List Int)×(List (Int×Int))×List Int×Unit) ⊕ (((List ((Int×Int)×Int))×Int×Int×Int×((List (List Int))×List Bool)×((List (List Int))×List Bool)×((List (List Int))×List Bool)×((List (List Int))×List Bool)×(List (Int×Int×Int))×Int×Int×Nat×Nat×Int×Int×List (List Int)×(List (Int×Int))×List Int×Unit))):=fun (cI,jJ,iD,gL,vh,ur,iE,jd,m3,bN,dK,dX,aP,aQ,aT,aU,m4,eu,iF,iI,kU,Vi,_) =>
 .br (decide ((0:Int)<((jJ:Nat):Int))) (
 .nb (0:Int) ((jJ:Nat):Int) <|
 .nd (decide ((cI+(Int.toNat (0:Int)))<(ur).length)) <|
 .bd (F82 ((ur).getD (cI+(Int.toNat (0:Int))) ((0:Int),[])).2) fun y1 =>
 .nd (decide ((iF+(((((((ur).getD (cI+(Int.toNat (0:Int))) ((0:Int),[])).1::[])).drop (0:Nat)).take (1:Nat))).length)<cz)) <|
 .nd (decide ((eu+(((((y1.1::[])).drop (0:Nat)).take (1:Nat))).length)<cz)) <|
 .bd (.it gH80_0i_1 (cI,jJ,iD,(0:Int),iD,gL,vh,ur,((ur).getD (cI+(Int.toNat (0:Int))) ((0:Int),[])).1,((ur).getD (cI+(Int.toNat (0:Int))) ((0:Int),[])).2,iE,jd,m3,bN,dK,dX,(aP.1,aP.2),(aQ.1,aQ.2),(aT.1,aT.2),(aU.1,aU.2),m4,(eu+(((((y1.1::[])).drop (0:Nat)).take (1:Nat))).length),(iF+(((((((ur).getD (cI+(Int.toNat (0:Int))) ((0:Int),[])).1::[])).drop (0:Nat)).take (1:Nat))).length),((((iI).drop (0:Nat)).take eu)++((((y1.1::[])).drop (0:Nat)).take (1:Nat))),(bh (.int .i64) kU ((ur).getD (cI+(Int.toNat (0:Int))) ((0:Int),[])).1 ((iF:Nat):Int)),((((Vi).drop (0:Nat)).take iF)++((((((ur).getD (cI+(Int.toNat (0:Int))) ((0:Int),[])).1::[])).drop (0:Nat)).take (1:Nat))),())) fun z4 =>
 .nd (decide ((0:Int)<=(1:Int))) <|
 .nd (decide ((1:Int)<=((z4.2.1:Nat):Int))) <|
 .nd (decide (((z4.2.1:Nat):Int)<=((z4.2.1:Nat):Int))) <|
 .ret (.inl ((z4.1+(Int.toNat (1:Int))),((Int.toNat ((z4.2.1:Nat):Int)) - (Int.toNat (1:Int))),z4.2.2.1,z4.2.2.2.1,z4.2.2.2.2.1,z4.2.2.2.2.2.1,z4.2.2.2.2.2.2.1,z4.2.2.2.2.2.2.2.1,z4.2.2.2.2.2.2.2.2.1,z4.2.2.2.2.2.2.2.2.2.1,z4.2.2.2.2.2.2.2.2.2.2.1,z4.2.2.2.2.2.2.2.2.2.2.2.1,(z4.2.2.2.2.2.2.2.2.2.2.2.2.1.1,z4.2.2.2.2.2.2.2.2.2.2.2.2.1.2),(z4.2.2.2.2.2.2.2.2.2.2.2.2.2.1.1,z4.2.2.2.2.2.2.2.2.2.2.2.2.2.1.2),(z4.2.2.2.2.2.2.2.2.2.2.2.2.2.2.1.1,z4.2.2.2.2.2.2.2.2.2.2.2.2.2.2.1.2),(z4.2.2.2.2.2.2.2.2.2.2.2.2.2.2.2.1.1,z4.2.2.2.2.2.2.2.2.2.2.2.2.2.2.2.1.2),z4.2.2.2.2.2.2.2.2.2.2.2.2.2.2.2.2.1,z4.2.2.2.2.2.2.2.2.2.2.2.2.2.2.2.2.2.1,z4.2.2.2.2.2.2.2.2.2.2.2.2.2.2.2.2.2.2.1,z4.2.2.2.2.2.2.2.2.2.2.2.2.2.2.2.2.2.2.2.1,z4.2.2.2.2.2.2.2.2.2.2.2.2.2.2.2.2.2.2.2.2.1,z4.2.2.2.2.2.2.2.2.2.2.2.2.2.2.2.2.2.2.2.2.2.1,()))) (
 .ret (.inr (m3,bN,dK,dX,(aP.1,aP.2),(aQ.1,aQ.2),(aT.1,aT.2),(aU.1,aU.2),m4,iE,jd,eu,iF,iD,gL,iI,kU,Vi,())))
noncomputable def L6:bK prog 61 none 14:=bu mixed sD oJ [0,1,2,3,4,5,6,7,8,9,10,11,12,13] rfl LY LZ rfl (L5) (fun x=>ag (gH80_0i_0 x)) (fun x=>by kernel_rfl)
@[reducible] def aai:aG:=aG.mk [(1,.c (.ptr 5 0)),(2,.c (.ptr 6 0)),(3,.c (.ptr 7 0)),(4,.c (.ptr 8 0)),(5,.c (.ptr 9 0)),(14,.fn 112 [] [.ptr 10 0])] [(5,.cells [.hole tI,.hole tI,.fn 78 .nil (.cons (.ptr 0 0) (.cons (.ptr 1 0) (.cons (.ptr 2 0) .nil))),.fn 79 .nil (.cons (.ptr 1 0) (.cons (.ptr 2 0) .nil))] false),(6,.cells [.bA,.bA] false),(7,.cells [.bA] false),(8,.cells [.mp 11] false),(9,.cells [.bA] false),(10,.cells [.hole tI,.hole tI,.fn 78 .nil (.cons (.ptr 0 0) (.cons (.ptr 1 0) (.cons (.ptr 2 0) .nil))),.fn 79 .nil (.cons (.ptr 1 0) (.cons (.ptr 2 0) .nil))] false),(0,.cells [.mp 3] false),(3,.map (.prod tI tI) true tI false),(1,.cells [.hole tI,.hole tI,.hole tI,.fn 54 .nil (.cons (.av (.prod ay (.list .bool))) (.cons (.av (.prod ay (.list .bool))) .nil)),.fn 55 .nil (.cons (.aJ (.cons (.fn0 22) .nil)) (.cons (.av (.prod ay (.list .bool))) (.cons (.av (.prod ay (.list .bool))) .nil)))] false),(2,.cells [.mp 4] false),(4,.map tI false (.prod tI tI) true),(11,.map tI false tI false)] [.slot 1,.slot 2,.slot 3,.slot 4,.slot 5,.part 14 0,.cell 8 0] []
@[reducible] def aaj:bt:=[(.normal,aG.mk [(1,.c (.ptr 5 0)),(2,.c (.ptr 6 0)),(3,.c (.ptr 7 0)),(4,.c (.ptr 8 0)),(5,.c (.ptr 9 0))] [(5,.cells [.hole tI,.hole tI,.fn 78 .nil (.cons (.ptr 0 0) (.cons (.ptr 1 0) (.cons (.ptr 2 0) .nil))),.fn 79 .nil (.cons (.ptr 1 0) (.cons (.ptr 2 0) .nil))] false),(6,.cells [.bA,.bA] false),(7,.cells [.cg 10 tL] false),(8,.cells [.mp 11] false),(9,.cells [.cg 12 tI] false),(0,.cells [.mp 3] false),(3,.map (.prod tI tI) true tI false),(1,.cells [.hole tI,.hole tI,.hole tI,.fn 54 .nil (.cons (.av (.prod ay (.list .bool))) (.cons (.av (.prod ay (.list .bool))) .nil)),.fn 55 .nil (.cons (.aJ (.cons (.fn0 22) .nil)) (.cons (.av (.prod ay (.list .bool))) (.cons (.av (.prod ay (.list .bool))) .nil)))] false),(2,.cells [.mp 4] false),(4,.map tI false (.prod tI tI) true),(10,.arr tL false),(11,.map tI false tI false),(12,.arr tI false)] [.slot 1,.slot 2,.slot 3,.slot 4,.slot 5,.cell 7 0,.cell 8 0,.cell 9 0] [])]
noncomputable def Jn:D prog 61 none 14:=dO [.l L6] (kd prog f112) 0
theorem Vj:cN prog f112=some ⟨61,2,(Jn).er,[],[]⟩:=by kernel_rfl
noncomputable def gH80_0:Int×Int×Int×Int×(List ((Int×Int)×Int))×Int×Int×Int×((List (List Int))×List Bool)×((List (List Int))×List Bool)×((List (List Int))×List Bool)×((List (List Int))×List Bool)×(List (Int×Int×Int))×(List (Int×Int))×Unit->bR ((Int×Int×Nat×Nat×(List ((Int×Int)×Int))×Int×Int×Int×((List (List Int))×List Bool)×((List (List Int))×List Bool)×((List (List Int))×List Bool)×((List (List Int))×List Bool)×(List (Int×Int×Int))×List (List Int)×(List (Int×Int))×List Int×Unit)):=fun (iE,jd,iD,gL,m3,bN,dK,dX,aP,aQ,aT,aU,m4,Qx,_) =>
 .bd (.it gH80_0i_0 ((0:Nat),(1:Nat),iD,gL,(bh (.int .i64) [] gL true),((gL,[])::[]),iE,jd,m3,bN,dK,dX,(aP.1,aP.2),(aQ.1,aQ.2),(aT.1,aT.2),(aU.1,aU.2),m4,(0:Nat),(0:Nat),[],Qx,[],())) fun z5 =>
 .ret ((z5.2.2.2.2.2.2.2.2.2.1,z5.2.2.2.2.2.2.2.2.2.2.1,z5.2.2.2.2.2.2.2.2.2.2.2.1,z5.2.2.2.2.2.2.2.2.2.2.2.2.1,z5.1,z5.2.1,z5.2.2.1,z5.2.2.2.1,(z5.2.2.2.2.1.1,z5.2.2.2.2.1.2),(z5.2.2.2.2.2.1.1,z5.2.2.2.2.2.1.2),(z5.2.2.2.2.2.2.1.1,z5.2.2.2.2.2.2.1.2),(z5.2.2.2.2.2.2.2.1.1,z5.2.2.2.2.2.2.2.1.2),z5.2.2.2.2.2.2.2.2.1,z5.2.2.2.2.2.2.2.2.2.2.2.2.2.2.2.1,z5.2.2.2.2.2.2.2.2.2.2.2.2.2.2.2.2.1,z5.2.2.2.2.2.2.2.2.2.2.2.2.2.2.2.2.2.1,()))
noncomputable def aak:fJ prog 69 none 5:=gR mixed sD oJ [0,1,2,3,4] rfl aai aaj ( .t 14) [15,16] rfl (Jl).er (Jm).er 112 func112 (Vj) (ah func112 rfl rfl) 14 rfl (Jn) rfl (fun x=>ag (gH80_0 x)) (fun x=>by kernel_rfl)
@[reducible] def aal:aG:=aG.mk [(1,.c (.ptr 5 0)),(2,.c (.ptr 6 0)),(3,.c (.ptr 7 0)),(4,.c (.ptr 8 0)),(9,hI),(10,.c (.cg 9 tI)),(29,.c (.cg 10 tI)),(30,hI),(31,hI),(36,hI),(37,hI)] [(5,.cells [.hole tI,.hole tI,.fn 78 .nil (.cons (.ptr 0 0) (.cons (.ptr 1 0) (.cons (.ptr 2 0) .nil))),.fn 79 .nil (.cons (.ptr 1 0) (.cons (.ptr 2 0) .nil))] false),(6,.cells [.cg 11 tL,.cg 12 .bool] false),(7,.cells [.cg 13 tL] false),(8,.cells [.mp 14] false),(9,.arr tI false),(10,.arr tI false),(0,.cells [.mp 3] false),(3,.map (.prod tI tI) true tI false),(1,.cells [.hole tI,.hole tI,.hole tI,.fn 54 .nil (.cons (.av (.prod ay (.list .bool))) (.cons (.av (.prod ay (.list .bool))) .nil)),.fn 55 .nil (.cons (.aJ (.cons (.fn0 22) .nil)) (.cons (.av (.prod ay (.list .bool))) (.cons (.av (.prod ay (.list .bool))) .nil)))] false),(2,.cells [.mp 4] false),(4,.map tI false (.prod tI tI) true),(11,.arr tL false),(12,.arr .bool false),(13,.arr tL false),(14,.map tI false tI false)] [.slot 1,.slot 2,.slot 3,.slot 4,.slot 10,.slot 29,.cell 6 0,.cell 6 1,.cell 7 0,.cell 8 0] []
@[reducible] def aam:bt:=[(.exit 4,aG.mk [(1,.c (.ptr 5 0)),(2,.c (.ptr 6 0)),(3,.c (.ptr 7 0)),(4,.c (.ptr 8 0)),(9,hI),(10,.c (.cg 9 tI)),(29,.c (.cg 10 tI)),(30,hI),(31,hI)] [(5,.cells [.hole tI,.hole tI,.fn 78 .nil (.cons (.ptr 0 0) (.cons (.ptr 1 0) (.cons (.ptr 2 0) .nil))),.fn 79 .nil (.cons (.ptr 1 0) (.cons (.ptr 2 0) .nil))] false),(6,.cells [.cg 11 tL,.cg 12 .bool] false),(7,.cells [.cg 13 tL] false),(8,.cells [.mp 14] false),(9,.arr tI false),(10,.arr tI false),(0,.cells [.mp 3] false),(3,.map (.prod tI tI) true tI false),(1,.cells [.hole tI,.hole tI,.hole tI,.fn 54 .nil (.cons (.av (.prod ay (.list .bool))) (.cons (.av (.prod ay (.list .bool))) .nil)),.fn 55 .nil (.cons (.aJ (.cons (.fn0 22) .nil)) (.cons (.av (.prod ay (.list .bool))) (.cons (.av (.prod ay (.list .bool))) .nil)))] false),(2,.cells [.mp 4] false),(4,.map tI false (.prod tI tI) true),(11,.arr tL false),(12,.arr .bool false),(13,.arr tL false),(14,.map tI false tI false)] [.slot 1,.slot 2,.slot 3,.slot 4,.slot 10,.slot 29,.cell 6 0,.cell 6 1,.cell 7 0,.cell 8 0] [])]
noncomputable def aan:D prog 69 none 5:=dO [] (pick (kd prog f80) [(1,false),(0,false)]) 0
noncomputable def gH80_2:Int×Nat×Nat×Int×Int×Int×Int×Int×Int×Nat×Nat×Nat×List Int×List Int×(List ((Int×Int)×Int))×Int×Int×Int×((List (List Int))×List Bool)×((List (List Int))×List Bool)×((List (List Int))×List Bool)×((List (List Int))×List Bool)×(List (Int×Int×Int))×List (List Int)×List Bool×List (List Int)×(List (Int×Int))×Unit->bR ((Int×Nat×Nat×Int×Int×Int×Int×Int×Int×Nat×Nat×Nat×List Int×List Int×(List ((Int×Int)×Int))×Int×Int×Int×((List (List Int))×List Bool)×((List (List Int))×List Bool)×((List (List Int))×List Bool)×((List (List Int))×List Bool)×(List (Int×Int×Int))×List (List Int)×List Bool×List (List Int)×(List (Int×Int))×Unit) ⊕ ((Int×Nat×Nat×Int×Int×Int×Int×Nat×Nat×Nat×List Int×List Int×(List ((Int×Int)×Int))×Int×Int×Int×((List (List Int))×List Bool)×((List (List Int))×List Bool)×((List (List Int))×List Bool)×((List (List Int))×List Bool)×(List (Int×Int×Int))×List (List Int)×List Bool×List (List Int)×(List (Int×Int))×Unit))):=fun (v9,vf,yf,v30,qP,v36,Vk,iE,jd,oK,oL,eu,b9,B6,m3,bN,dK,dX,aP,aQ,aT,aU,m4,oM,oN,qQ,vh,_) =>
 .br (decide (Vk<v36)) (
 .bd (Ve v9 Vk bN dK dX (aP.1,aP.2) (aQ.1,aQ.2) (aT.1,aT.2) (aU.1,aU.2) m3 m4) fun y7 =>
 .nd (decide ((vf+((((((aN (.int .i64) (0:Int) vh y7.1)::[])).drop (0:Nat)).take (1:Nat))).length)<cz)) <|
 .ni (Vk+(1:Int)) <|
 .ret (.inl (v9,(vf+((((((aN (.int .i64) (0:Int) vh y7.1)::[])).drop (0:Nat)).take (1:Nat))).length),yf,v30,qP,v36,(Vk+(1:Int)),iE,jd,oK,oL,eu,((((b9).drop (0:Nat)).take vf)++(((((aN (.int .i64) (0:Int) vh y7.1)::[])).drop (0:Nat)).take (1:Nat))),B6,m3,bN,dK,dX,(aP.1,aP.2),(aQ.1,aQ.2),(aT.1,aT.2),(aU.1,aU.2),m4,oM,oN,qQ,vh,()))) (
 .ret (.inr (v9,vf,yf,v30,qP,iE,jd,oK,oL,eu,b9,B6,m3,bN,dK,dX,(aP.1,aP.2),(aQ.1,aQ.2),(aT.1,aT.2),(aU.1,aU.2),m4,oM,oN,qQ,vh,())))
noncomputable def aao:bK prog 69 none 5:=bu mixed Eg oI [0,1,2,3,4] rfl aal aam rfl (aan) (fun x=>ag (gH80_2 x)) (fun x=>by kernel_rfl)
@[reducible] def aap:aG:=aG.mk [(1,.c (.ptr 5 0)),(2,.c (.ptr 6 0)),(3,.c (.ptr 7 0)),(4,.c (.ptr 8 0)),(29,.c (.cg 9 tI)),(30,hI),(31,hI)] [(5,.cells [.hole tI,.hole tI,.fn 78 .nil (.cons (.ptr 0 0) (.cons (.ptr 1 0) (.cons (.ptr 2 0) .nil))),.fn 79 .nil (.cons (.ptr 1 0) (.cons (.ptr 2 0) .nil))] false),(6,.cells [.cg 10 tL,.cg 11 .bool] false),(7,.cells [.cg 12 tL] false),(8,.cells [.mp 13] false),(9,.arr tI false),(0,.cells [.mp 3] false),(3,.map (.prod tI tI) true tI false),(1,.cells [.hole tI,.hole tI,.hole tI,.fn 54 .nil (.cons (.av (.prod ay (.list .bool))) (.cons (.av (.prod ay (.list .bool))) .nil)),.fn 55 .nil (.cons (.aJ (.cons (.fn0 22) .nil)) (.cons (.av (.prod ay (.list .bool))) (.cons (.av (.prod ay (.list .bool))) .nil)))] false),(2,.cells [.mp 4] false),(4,.map tI false (.prod tI tI) true),(10,.arr tL false),(11,.arr .bool false),(12,.arr tL false),(13,.map tI false tI false)] [.slot 1,.slot 2,.slot 3,.slot 4,.slot 29,.cell 6 0,.cell 6 1,.cell 7 0,.cell 8 0] []
@[reducible] def aaq:bt:=[(.exit 2,aG.mk [(2,.c (.ptr 5 0)),(3,.c (.ptr 6 0))] [(5,.cells [.cg 7 tL,.cg 8 .bool] false),(6,.cells [.cg 9 tL] false),(0,.cells [.mp 3] false),(3,.map (.prod tI tI) true tI false),(1,.cells [.hole tI,.hole tI,.hole tI,.fn 54 .nil (.cons (.av (.prod ay (.list .bool))) (.cons (.av (.prod ay (.list .bool))) .nil)),.fn 55 .nil (.cons (.aJ (.cons (.fn0 22) .nil)) (.cons (.av (.prod ay (.list .bool))) (.cons (.av (.prod ay (.list .bool))) .nil)))] false),(2,.cells [.mp 4] false),(4,.map tI false (.prod tI tI) true),(7,.arr tL false),(8,.arr .bool false),(9,.arr tL false)] [.slot 2,.slot 3,.cell 5 0,.cell 5 1,.cell 6 0] [])]
noncomputable def aar:D prog 69 none 5:=dO [.l aao] (pick (kd prog f80) [(1,false)]) 0
noncomputable def gH80_1:Nat×Int×Int×Int×Int×Nat×Nat×Nat×List Int×(List ((Int×Int)×Int))×Int×Int×Int×((List (List Int))×List Bool)×((List (List Int))×List Bool)×((List (List Int))×List Bool)×((List (List Int))×List Bool)×(List (Int×Int×Int))×List (List Int)×List Bool×List (List Int)×(List (Int×Int))×Unit->bR ((Nat×Int×Int×Int×Int×Nat×Nat×Nat×List Int×(List ((Int×Int)×Int))×Int×Int×Int×((List (List Int))×List Bool)×((List (List Int))×List Bool)×((List (List Int))×List Bool)×((List (List Int))×List Bool)×(List (Int×Int×Int))×List (List Int)×List Bool×List (List Int)×(List (Int×Int))×Unit) ⊕ ((Nat×Nat×Nat×(List ((Int×Int)×Int))×Int×Int×Int×((List (List Int))×List Bool)×((List (List Int))×List Bool)×((List (List Int))×List Bool)×((List (List Int))×List Bool)×(List (Int×Int×Int))×List (List Int)×List Bool×List (List Int)×Unit))):=fun (yf,v30,qP,iE,jd,oK,oL,eu,b9,m3,bN,dK,dX,aP,aQ,aT,aU,m4,B6,oM,oN,m13,_) =>
 .br (decide (qP<v30)) (
 .nb qP ((yf:Nat):Int) <|
 .nd (decide (((0:Nat)+(Int.toNat qP))<(b9).length)) <|
 .bd (.it gH80_2 (((b9).getD ((0:Nat)+(Int.toNat qP)) (0:Int)),(0:Nat),yf,v30,qP,iE,(0:Int),iE,jd,oK,oL,eu,[],b9,m3,bN,dK,dX,(aP.1,aP.2),(aQ.1,aQ.2),(aT.1,aT.2),(aU.1,aU.2),m4,B6,oM,oN,m13,())) fun z8 =>
 .nd (decide ((z8.2.2.2.2.2.2.2.1+((((((((z8.2.2.2.2.2.2.2.2.2.2.1).drop (0:Nat)).take z8.2.1)::[])).drop (0:Nat)).take (1:Nat))).length)<cz)) <|
 .bd (Vg z8.1 z8.2.2.2.2.2.2.2.2.2.2.2.2.2.1 z8.2.2.2.2.2.2.2.2.2.2.2.2.2.2.1 z8.2.2.2.2.2.2.2.2.2.2.2.2.2.2.2.1 (z8.2.2.2.2.2.2.2.2.2.2.2.2.2.2.2.2.1.1,z8.2.2.2.2.2.2.2.2.2.2.2.2.2.2.2.2.1.2) (z8.2.2.2.2.2.2.2.2.2.2.2.2.2.2.2.2.2.1.1,z8.2.2.2.2.2.2.2.2.2.2.2.2.2.2.2.2.2.1.2) (z8.2.2.2.2.2.2.2.2.2.2.2.2.2.2.2.2.2.2.1.1,z8.2.2.2.2.2.2.2.2.2.2.2.2.2.2.2.2.2.2.1.2) (z8.2.2.2.2.2.2.2.2.2.2.2.2.2.2.2.2.2.2.2.1.1,z8.2.2.2.2.2.2.2.2.2.2.2.2.2.2.2.2.2.2.2.1.2) z8.2.2.2.2.2.2.2.2.2.2.2.2.2.2.2.2.2.2.2.2.1) fun y9 =>
 .nd (decide ((z8.2.2.2.2.2.2.2.2.1+(((((y9.1::[])).drop (0:Nat)).take (1:Nat))).length)<cz)) <|
 .ni (z8.2.2.2.2.1+(1:Int)) <|
 .ret (.inl (z8.2.2.1,z8.2.2.2.1,(z8.2.2.2.2.1+(1:Int)),z8.2.2.2.2.2.1,z8.2.2.2.2.2.2.1,(z8.2.2.2.2.2.2.2.1+((((((((z8.2.2.2.2.2.2.2.2.2.2.1).drop (0:Nat)).take z8.2.1)::[])).drop (0:Nat)).take (1:Nat))).length),(z8.2.2.2.2.2.2.2.2.1+(((((y9.1::[])).drop (0:Nat)).take (1:Nat))).length),z8.2.2.2.2.2.2.2.2.2.1,z8.2.2.2.2.2.2.2.2.2.2.2.1,z8.2.2.2.2.2.2.2.2.2.2.2.2.1,z8.2.2.2.2.2.2.2.2.2.2.2.2.2.1,z8.2.2.2.2.2.2.2.2.2.2.2.2.2.2.1,z8.2.2.2.2.2.2.2.2.2.2.2.2.2.2.2.1,(z8.2.2.2.2.2.2.2.2.2.2.2.2.2.2.2.2.1.1,z8.2.2.2.2.2.2.2.2.2.2.2.2.2.2.2.2.1.2),(z8.2.2.2.2.2.2.2.2.2.2.2.2.2.2.2.2.2.1.1,z8.2.2.2.2.2.2.2.2.2.2.2.2.2.2.2.2.2.1.2),(z8.2.2.2.2.2.2.2.2.2.2.2.2.2.2.2.2.2.2.1.1,z8.2.2.2.2.2.2.2.2.2.2.2.2.2.2.2.2.2.2.1.2),(z8.2.2.2.2.2.2.2.2.2.2.2.2.2.2.2.2.2.2.2.1.1,z8.2.2.2.2.2.2.2.2.2.2.2.2.2.2.2.2.2.2.2.1.2),z8.2.2.2.2.2.2.2.2.2.2.2.2.2.2.2.2.2.2.2.2.1,((((z8.2.2.2.2.2.2.2.2.2.2.2.2.2.2.2.2.2.2.2.2.2.1).drop (0:Nat)).take z8.2.2.2.2.2.2.2.1)++(((((((z8.2.2.2.2.2.2.2.2.2.2.1).drop (0:Nat)).take z8.2.1)::[])).drop (0:Nat)).take (1:Nat))),((((z8.2.2.2.2.2.2.2.2.2.2.2.2.2.2.2.2.2.2.2.2.2.2.1).drop (0:Nat)).take z8.2.2.2.2.2.2.2.2.1)++((((y9.1::[])).drop (0:Nat)).take (1:Nat))),z8.2.2.2.2.2.2.2.2.2.2.2.2.2.2.2.2.2.2.2.2.2.2.2.1,z8.2.2.2.2.2.2.2.2.2.2.2.2.2.2.2.2.2.2.2.2.2.2.2.2.1,()))) (
 .ret (.inr (oK,oL,eu,m3,bN,dK,dX,(aP.1,aP.2),(aQ.1,aQ.2),(aT.1,aT.2),(aU.1,aU.2),m4,B6,oM,oN,())))
noncomputable def aas:bK prog 69 none 5:=bu mixed Eg oI [0,1,2,3,4] rfl aap aaq rfl (aar) (fun x=>ag (gH80_1 x)) (fun x=>by kernel_rfl)
noncomputable def XS:D prog 69 none 5:=dO [.r aak,.l aas] (kd prog f80) 0
noncomputable def FH80 (uo:Int) (uq:Int) (bN:Int) (dK:Int) (dX:Int) (aP:(List (List Int))×List Bool) (aQ:(List (List Int))×List Bool) (aT:(List (List Int))×List Bool) (aU:(List (List Int))×List Bool) (m3:List ((Int×Int)×Int)) (m4:List (Int×Int×Int)):bR (Nat×Nat×Nat×List (List Int)×List Bool×List (List Int)×(List ((Int×Int)×Int))×Int×Int×Int×((List (List Int))×List Bool)×((List (List Int))×List Bool)×((List (List Int))×List Bool)×((List (List Int))×List Bool)×(List (Int×Int×Int))×Unit) :=
 .bd (FH99 uo uq bN dK dX (aP.1,aP.2) (aQ.1,aQ.2) (aT.1,aT.2) (aU.1,aU.2) m3 m4) fun y0 =>
 .bd (gH80_0 (uo,uq,y0.1,y0.2.1,y0.2.2.1,y0.2.2.2.1,y0.2.2.2.2.1,y0.2.2.2.2.2.1,(y0.2.2.2.2.2.2.1.1,y0.2.2.2.2.2.2.1.2),(y0.2.2.2.2.2.2.2.1.1,y0.2.2.2.2.2.2.2.1.2),(y0.2.2.2.2.2.2.2.2.1.1,y0.2.2.2.2.2.2.2.2.1.2),(y0.2.2.2.2.2.2.2.2.2.1.1,y0.2.2.2.2.2.2.2.2.2.1.2),y0.2.2.2.2.2.2.2.2.2.2.1,[],())) fun z6 =>
 .bd (.it gH80_1 (z6.2.2.2.1,((z6.2.2.2.1:Nat):Int),(0:Int),z6.1,z6.2.1,(0:Nat),(0:Nat),z6.2.2.1,z6.2.2.2.2.2.2.2.2.2.2.2.2.2.2.2.1,z6.2.2.2.2.1,z6.2.2.2.2.2.1,z6.2.2.2.2.2.2.1,z6.2.2.2.2.2.2.2.1,(z6.2.2.2.2.2.2.2.2.1.1,z6.2.2.2.2.2.2.2.2.1.2),(z6.2.2.2.2.2.2.2.2.2.1.1,z6.2.2.2.2.2.2.2.2.2.1.2),(z6.2.2.2.2.2.2.2.2.2.2.1.1,z6.2.2.2.2.2.2.2.2.2.2.1.2),(z6.2.2.2.2.2.2.2.2.2.2.2.1.1,z6.2.2.2.2.2.2.2.2.2.2.2.1.2),z6.2.2.2.2.2.2.2.2.2.2.2.2.1,[],[],z6.2.2.2.2.2.2.2.2.2.2.2.2.2.1,z6.2.2.2.2.2.2.2.2.2.2.2.2.2.2.1,())) fun eU =>
 .ret (eU.1,eU.2.1,eU.2.2.1,eU.2.2.2.2.2.2.2.2.2.2.2.2.1,eU.2.2.2.2.2.2.2.2.2.2.2.2.2.1,eU.2.2.2.2.2.2.2.2.2.2.2.2.2.2.1,eU.2.2.2.1,eU.2.2.2.2.1,eU.2.2.2.2.2.1,eU.2.2.2.2.2.2.1,(eU.2.2.2.2.2.2.2.1.1,eU.2.2.2.2.2.2.2.1.2),(eU.2.2.2.2.2.2.2.2.1.1,eU.2.2.2.2.2.2.2.2.1.2),(eU.2.2.2.2.2.2.2.2.2.1.1,eU.2.2.2.2.2.2.2.2.2.1.2),(eU.2.2.2.2.2.2.2.2.2.2.1.1,eU.2.2.2.2.2.2.2.2.2.2.1.2),eU.2.2.2.2.2.2.2.2.2.2.2.1,())
theorem Vl:cN prog f80=some ⟨69,1,XS.er,[.cell 2 true 2,.cell 3 false 1],[some (.prod ay (.list .bool)),some ay]⟩:=by kernel_rfl
noncomputable def ht80:Ht:=⟨80,pH80,qH80,(fun x=>ag (FH80 x.1 x.2.1 x.2.2.1 x.2.2.2.1 x.2.2.2.2.1 x.2.2.2.2.2.1 x.2.2.2.2.2.2.1 x.2.2.2.2.2.2.2.1 x.2.2.2.2.2.2.2.2.1 x.2.2.2.2.2.2.2.2.2.1 x.2.2.2.2.2.2.2.2.2.2.1))⟩
theorem Vm:ht80.Ok prog:=lu mixed oI rfl func80 Vl (ah func80 rfl rfl) XS (by kernel_rfl) rfl rfl ⟨_,rfl⟩ rfl (pre:=[0,1,2,3,4]) rfl (fun x=>by kernel_rfl)

/- 77, lent -/
@[reducible] def Vn:aG:=aG.mk [(0,.agg [.hole tI,.hole tI,.hole tI,.fn 54 .nil (.cons (.av (.prod ay (.list .bool))) (.cons (.av (.prod ay (.list .bool))) .nil)),.fn 55 .nil (.cons (.aJ (.cons (.fn0 22) .nil)) (.cons (.av (.prod ay (.list .bool))) (.cons (.av (.prod ay (.list .bool))) .nil)))]),(1,.c (.cg 0 (.prod tI tI))),(2,.c (.mp 1))] [(0,.arr (.prod tI tI) false),(1,.map (.prod tI tI) true tI false)] [.slot 1,.slot 2] []
@[reducible] def Vo:aG:=aG.mk [(0,.cG [.mp 2,.hole tI])] [(2,.map (.prod tI tI) true tI false),(1,.map (.prod tI tI) true tI false),(0,.arr (.prod tI tI) false)] [.part 0 0] []
noncomputable def sE:Cx:=(aV [Ef] [])
theorem oO:sE.Ok prog:=au ⟨nA,trivial⟩ trivial
@[reducible] def L7:aG:=aG.mk [(2,.c (.mp 1)),(3,.c (.ptr 2 0)),(8,.c (.mp 3)),(9,.c (.mp 4)),(11,.c (.pa 5 tI 2)),(12,.c (.pa 6 tI 5)),(18,.c (.cg 0 (.prod tI tI))),(19,hI),(20,hI),(29,hI),(30,hI)] [(1,.map (.prod tI tI) true tI false),(2,.cells [.hole tI,.hole tI,.hole tI,.fn 54 .nil (.cons (.av (.prod ay (.list .bool))) (.cons (.av (.prod ay (.list .bool))) .nil)),.fn 55 .nil (.cons (.aJ (.cons (.fn0 22) .nil)) (.cons (.av (.prod ay (.list .bool))) (.cons (.av (.prod ay (.list .bool))) .nil)))] false),(3,.map (.prod tI (.prod tI (.prod tI (.prod tI tI)))) true tI false),(4,.map (.prod tI tI) true tI false),(5,.arr tI false),(6,.arr tI false),(0,.arr (.prod tI tI) false)] [.slot 3,.slot 8,.slot 9,.slot 11,.slot 12] []
@[reducible] def L8:bt:=[(.exit 2,aG.mk [(2,.c (.mp 1)),(3,.c (.ptr 2 0)),(8,.c (.mp 3)),(9,.c (.mp 4)),(11,.c (.pa 5 tI 2)),(12,.c (.pa 6 tI 5)),(18,.c (.cg 0 (.prod tI tI))),(19,hI),(20,hI)] [(1,.map (.prod tI tI) true tI false),(2,.cells [.hole tI,.hole tI,.hole tI,.fn 54 .nil (.cons (.av (.prod ay (.list .bool))) (.cons (.av (.prod ay (.list .bool))) .nil)),.fn 55 .nil (.cons (.aJ (.cons (.fn0 22) .nil)) (.cons (.av (.prod ay (.list .bool))) (.cons (.av (.prod ay (.list .bool))) .nil)))] false),(3,.map (.prod tI (.prod tI (.prod tI (.prod tI tI)))) true tI false),(4,.map (.prod tI tI) true tI false),(5,.arr tI false),(6,.arr tI false),(0,.arr (.prod tI tI) false)] [.slot 3,.slot 8,.slot 9,.slot 11,.slot 12] [])]
noncomputable def L9:D prog 65 none 2:=dO [] (pick (kd prog f77) [(0,false),(0,false)]) 0
noncomputable def gH77_v1_1:Nat×Int×Int×Int×Int×(List ((Int×Int)×Int))×Int×Int×Int×((List (List Int))×List Bool)×((List (List Int))×List Bool)×((List (List Int))×List Bool)×((List (List Int))×List Bool)×(List ((Int×Int×Int×Int×Int)×Int))×(List ((Int×Int)×Int))×List Int×List Int×(List (Int×Int))×Unit->bR ((Nat×Int×Int×Int×Int×(List ((Int×Int)×Int))×Int×Int×Int×((List (List Int))×List Bool)×((List (List Int))×List Bool)×((List (List Int))×List Bool)×((List (List Int))×List Bool)×(List ((Int×Int×Int×Int×Int)×Int))×(List ((Int×Int)×Int))×List Int×List Int×(List (Int×Int))×Unit) ⊕ ((Nat×Int×Int×(List ((Int×Int)×Int))×Int×Int×Int×((List (List Int))×List Bool)×((List (List Int))×List Bool)×((List (List Int))×List Bool)×((List (List Int))×List Bool)×(List ((Int×Int×Int×Int×Int)×Int))×(List ((Int×Int)×Int))×List Int×List Int×(List (Int×Int))×Unit))):=fun (yg,Qy,v20,Ma,v30,m1,dV,gi,B7,fj,fk,gX,gY,m3,m4,b5,b6,b0,_) =>
 .br (decide (v30<Ma)) (
 .ni (v30+(1:Int)) <|
 .bd (F54 (((b5).getD (0:Nat) (0:Int)),((b5).getD (1:Nat) (0:Int))) v30 (fj.1,fj.2) (fk.1,fk.2)) fun y0 =>
 .nb (v30+(1:Int)) (5:Int) <|
 .nd (decide ((Int.toNat (v30+(1:Int)))<(b6).length)) <|
 .ni (v30+(1:Int)) <|
 .ret (.inl (yg,Qy,v20,Ma,(v30+(1:Int)),m1,dV,gi,B7,(fj.1,fj.2),(fk.1,fk.2),(gX.1,gX.2),(gY.1,gY.2),m3,m4,b5,((b6).set (Int.toNat (v30+(1:Int))) (aN (.prod (.int .i64) (.int .i64)) (0:Int) m1 (y0.1.1,y0.1.2))),b0,()))) (
 .ret (.inr (yg,Qy,v20,m1,dV,gi,B7,(fj.1,fj.2),(fk.1,fk.2),(gX.1,gX.2),(gY.1,gY.2),m3,m4,b5,b6,b0,())))
noncomputable def Mb:bK prog 65 none 2:=bu mixed sE oO [0,1] rfl L7 L8 rfl (L9) (fun x=>ag (gH77_v1_1 x)) (fun x=>by kernel_rfl)
@[reducible] def uu:aG:=aG.mk [(2,.c (.mp 1)),(3,.c (.ptr 2 0)),(8,.c (.mp 3)),(9,.c (.mp 4)),(18,.c (.cg 0 (.prod tI tI))),(19,hI),(20,hI)] [(1,.map (.prod tI tI) true tI false),(2,.cells [.hole tI,.hole tI,.hole tI,.fn 54 .nil (.cons (.av (.prod ay (.list .bool))) (.cons (.av (.prod ay (.list .bool))) .nil)),.fn 55 .nil (.cons (.aJ (.cons (.fn0 22) .nil)) (.cons (.av (.prod ay (.list .bool))) (.cons (.av (.prod ay (.list .bool))) .nil)))] false),(3,.map (.prod tI (.prod tI (.prod tI (.prod tI tI)))) true tI false),(4,.map (.prod tI tI) true tI false),(0,.arr (.prod tI tI) false)] [.slot 3,.slot 8,.slot 9] []
@[reducible] def uv:bt:=[(.exit 0,aG.mk [(8,.c (.mp 2)),(9,.c (.mp 3))] [(2,.map (.prod tI (.prod tI (.prod tI (.prod tI tI)))) true tI false),(3,.map (.prod tI tI) true tI false),(1,.map (.prod tI tI) true tI false),(0,.arr (.prod tI tI) false)] [.slot 8,.slot 9] [])]
noncomputable def AA:D prog 65 none 2:=dO [.l Mb] (pick (kd prog f77) [(0,false)]) 0
noncomputable def gH77_v1_0:Nat×Int×Int×(List ((Int×Int)×Int))×Int×Int×Int×((List (List Int))×List Bool)×((List (List Int))×List Bool)×((List (List Int))×List Bool)×((List (List Int))×List Bool)×(List ((Int×Int×Int×Int×Int)×Int))×(List ((Int×Int)×Int))×(List (Int×Int))×Unit->bR ((Nat×Int×Int×(List ((Int×Int)×Int))×Int×Int×Int×((List (List Int))×List Bool)×((List (List Int))×List Bool)×((List (List Int))×List Bool)×((List (List Int))×List Bool)×(List ((Int×Int×Int×Int×Int)×Int))×(List ((Int×Int)×Int))×(List (Int×Int))×Unit) ⊕ (((List ((Int×Int×Int×Int×Int)×Int))×(List ((Int×Int)×Int))×(List ((Int×Int)×Int))×(List (Int×Int))×Unit))):=fun (yg,Qy,v20,m1,dV,gi,B7,fj,fk,gX,gY,m3,m4,b0,_) =>
 .br (decide (v20<Qy)) (
 .nb v20 ((yg:Nat):Int) <|
 .nd (decide (((0:Nat)+(Int.toNat v20))<(b0).length)) <|
 .bd (.it gH77_v1_1 (yg,Qy,v20,dV,(0:Int),m1,dV,gi,B7,(fj.1,fj.2),(fk.1,fk.2),(gX.1,gX.2),(gY.1,gY.2),m3,m4,(((b0).getD ((0:Nat)+(Int.toNat v20)) ((0:Int),(0:Int))).1::(((b0).getD ((0:Nat)+(Int.toNat v20)) ((0:Int),(0:Int))).2::[])),((aN (.prod (.int .i64) (.int .i64)) (0:Int) m1 ((((((b0).getD ((0:Nat)+(Int.toNat v20)) ((0:Int),(0:Int))).1::(((b0).getD ((0:Nat)+(Int.toNat v20)) ((0:Int),(0:Int))).2::[]))).getD (0:Nat) (0:Int)),(((((b0).getD ((0:Nat)+(Int.toNat v20)) ((0:Int),(0:Int))).1::(((b0).getD ((0:Nat)+(Int.toNat v20)) ((0:Int),(0:Int))).2::[]))).getD (1:Nat) (0:Int))))::((0:Int)::((0:Int)::((0:Int)::((0:Int)::[]))))),b0,())) fun z1 =>
 .jx (
 .br (!(bT (.prod (.int .i64) (.prod (.int .i64) (.prod (.int .i64) (.prod (.int .i64) (.int .i64))))) z1.2.2.2.2.2.2.2.2.2.2.2.1 (((z1.2.2.2.2.2.2.2.2.2.2.2.2.2.2.1).getD (0:Nat) (0:Int)),((z1.2.2.2.2.2.2.2.2.2.2.2.2.2.2.1).getD (1:Nat) (0:Int)),((z1.2.2.2.2.2.2.2.2.2.2.2.2.2.2.1).getD (2:Nat) (0:Int)),((z1.2.2.2.2.2.2.2.2.2.2.2.2.2.2.1).getD (3:Nat) (0:Int)),((z1.2.2.2.2.2.2.2.2.2.2.2.2.2.2.1).getD (4:Nat) (0:Int))))) (
 .ret (.inl (z1.1,z1.2.1,z1.2.2.1,z1.2.2.2.1,z1.2.2.2.2.1,z1.2.2.2.2.2.1,z1.2.2.2.2.2.2.1,(z1.2.2.2.2.2.2.2.1.1,z1.2.2.2.2.2.2.2.1.2),(z1.2.2.2.2.2.2.2.2.1.1,z1.2.2.2.2.2.2.2.2.1.2),(z1.2.2.2.2.2.2.2.2.2.1.1,z1.2.2.2.2.2.2.2.2.2.1.2),(z1.2.2.2.2.2.2.2.2.2.2.1.1,z1.2.2.2.2.2.2.2.2.2.2.1.2),(bh (.prod (.int .i64) (.prod (.int .i64) (.prod (.int .i64) (.prod (.int .i64) (.int .i64))))) z1.2.2.2.2.2.2.2.2.2.2.2.1 (((z1.2.2.2.2.2.2.2.2.2.2.2.2.2.2.1).getD (0:Nat) (0:Int)),((z1.2.2.2.2.2.2.2.2.2.2.2.2.2.2.1).getD (1:Nat) (0:Int)),((z1.2.2.2.2.2.2.2.2.2.2.2.2.2.2.1).getD (2:Nat) (0:Int)),((z1.2.2.2.2.2.2.2.2.2.2.2.2.2.2.1).getD (3:Nat) (0:Int)),((z1.2.2.2.2.2.2.2.2.2.2.2.2.2.2.1).getD (4:Nat) (0:Int))) (((z1.2.2.2.2.2.2.2.2.2.2.2.1).length:Nat):Int)),z1.2.2.2.2.2.2.2.2.2.2.2.2.1,z1.2.2.2.2.2.2.2.2.2.2.2.2.2.1,z1.2.2.2.2.2.2.2.2.2.2.2.2.2.2.1,z1.2.2.2.2.2.2.2.2.2.2.2.2.2.2.2.1,()))) (
 .ret (.inl (z1.1,z1.2.1,z1.2.2.1,z1.2.2.2.1,z1.2.2.2.2.1,z1.2.2.2.2.2.1,z1.2.2.2.2.2.2.1,(z1.2.2.2.2.2.2.2.1.1,z1.2.2.2.2.2.2.2.1.2),(z1.2.2.2.2.2.2.2.2.1.1,z1.2.2.2.2.2.2.2.2.1.2),(z1.2.2.2.2.2.2.2.2.2.1.1,z1.2.2.2.2.2.2.2.2.2.1.2),(z1.2.2.2.2.2.2.2.2.2.2.1.1,z1.2.2.2.2.2.2.2.2.2.2.1.2),z1.2.2.2.2.2.2.2.2.2.2.2.1,z1.2.2.2.2.2.2.2.2.2.2.2.2.1,z1.2.2.2.2.2.2.2.2.2.2.2.2.2.1,z1.2.2.2.2.2.2.2.2.2.2.2.2.2.2.1,z1.2.2.2.2.2.2.2.2.2.2.2.2.2.2.2.1,())))) fun j2 =>
 .ni (j2.2.2.1+(1:Int)) <|
 .ret (.inl (j2.1,j2.2.1,(j2.2.2.1+(1:Int)),j2.2.2.2.1,j2.2.2.2.2.1,j2.2.2.2.2.2.1,j2.2.2.2.2.2.2.1,(j2.2.2.2.2.2.2.2.1.1,j2.2.2.2.2.2.2.2.1.2),(j2.2.2.2.2.2.2.2.2.1.1,j2.2.2.2.2.2.2.2.2.1.2),(j2.2.2.2.2.2.2.2.2.2.1.1,j2.2.2.2.2.2.2.2.2.2.1.2),(j2.2.2.2.2.2.2.2.2.2.2.1.1,j2.2.2.2.2.2.2.2.2.2.2.1.2),j2.2.2.2.2.2.2.2.2.2.2.2.1,(bh (.prod (.int .i64) (.int .i64)) j2.2.2.2.2.2.2.2.2.2.2.2.2.1 (((j2.2.2.2.2.2.2.2.2.2.2.2.2.2.1).getD (0:Nat) (0:Int)),((j2.2.2.2.2.2.2.2.2.2.2.2.2.2.1).getD (1:Nat) (0:Int))) (aN (.prod (.int .i64) (.prod (.int .i64) (.prod (.int .i64) (.prod (.int .i64) (.int .i64))))) (0:Int) j2.2.2.2.2.2.2.2.2.2.2.2.1 (((j2.2.2.2.2.2.2.2.2.2.2.2.2.2.2.1).getD (0:Nat) (0:Int)),((j2.2.2.2.2.2.2.2.2.2.2.2.2.2.2.1).getD (1:Nat) (0:Int)),((j2.2.2.2.2.2.2.2.2.2.2.2.2.2.2.1).getD (2:Nat) (0:Int)),((j2.2.2.2.2.2.2.2.2.2.2.2.2.2.2.1).getD (3:Nat) (0:Int)),((j2.2.2.2.2.2.2.2.2.2.2.2.2.2.2.1).getD (4:Nat) (0:Int))))),j2.2.2.2.2.2.2.2.2.2.2.2.2.2.2.2.1,()))) (
 .ret (.inr (m3,m4,m1,b0,())))
theorem Mc:∀x,BG (jv (uu.T ⊕ uv.T)) sE bW [0,1] uu uv (AA) (fun y=>some (.inl y)) (fun b=>some (.inr b)) x=ag (gH77_v1_0 x):=fun x=>Eq.trans (b:=ag (flat (gH77_v1_0 x))) (by kernel_rfl) sj
noncomputable def Md:bK prog 65 none 2:=bu mixed sE oO [0,1] rfl uu uv rfl (AA) (fun x=>ag (gH77_v1_0 x)) (Mc)
noncomputable def Eh:D prog 65 none 2:=dO [.l Md] (kd prog f77) 0
noncomputable def FH77_v1 (uo:Int) (uq:Int) (aat:Int) (yh:(List (List Int))×List Bool) (yj:(List (List Int))×List Bool) (ym:(List (List Int))×List Bool) (yp:(List (List Int))×List Bool) (nv1:Nat) (b0:List (Int×Int)) (m1:List ((Int×Int)×Int)):bR (Int×(List ((Int×Int)×Int))×(List ((Int×Int)×Int))×(List (Int×Int))×Unit) :=
 .bd (.it gH77_v1_0 (nv1,((nv1:Nat):Int),(0:Int),m1,uo,uq,aat,(yh.1,yh.2),(yj.1,yj.2),(ym.1,ym.2),(yp.1,yp.2),[],[],b0,())) fun z3 =>
 .ret ((((z3.1).length:Nat):Int),z3.2.1,z3.2.2.1,z3.2.2.2.1,())
theorem Ge:cN prog f77=some ⟨65,3,Eh.er,[.t 6,.t 7],[none,some tI]⟩:=by kernel_rfl
noncomputable def Jo:Ht:=⟨77,Vn,Vo,(fun x=>ag (FH77_v1 x.1 x.2.1 x.2.2.1 x.2.2.2.1 x.2.2.2.2.1 x.2.2.2.2.2.1 x.2.2.2.2.2.2.1 x.2.2.2.2.2.2.2.1 x.2.2.2.2.2.2.2.2.1 x.2.2.2.2.2.2.2.2.2.1))⟩
theorem Gf:Jo.Ok prog:=lu mixed oO rfl func77 Ge (ah func77 rfl rfl) Eh (by kernel_rfl) rfl rfl ⟨_,rfl⟩ rfl (pre:=[0,1]) rfl (fun x=>by kernel_rfl)

/- 50 -/
noncomputable def Qz:Cx:=(aV [ct56,LQ,aaf,Ef,LS] [Jo,ht80])
theorem sF:Qz.Ok prog:=au ⟨U1,sB,Jj,nA,sC,trivial⟩ ⟨⟨Gf,rfl⟩,⟨Vm,rfl⟩,trivial⟩
noncomputable def QA:D prog 81 (some 6) 18:=dO [] (pick (kd prog f50) [(0,false)]) 0
noncomputable def QB:D prog 81 (some 6) 18:=dO [] (pick (kd prog f50) [(0,true)]) 0
noncomputable def vJ:Cx:=tT Qz (fun kz=>Il kz Qz bW 6 18 [19,20] (QA) (QB))
theorem qR:(vJ).Ok prog:=gQ sF (fun h=>jI mixed sF h)
@[reducible] def QC:aG:=aG.mk [(0,.c (.yl 6)),(1,.c (.aJ (.cons (.hole tI) (.cons (.hole tI) (.cons (.hole tI) (.cons (.fn 54 .nil (.cons (.av (.prod ay (.list .bool))) (.cons (.av (.prod ay (.list .bool))) .nil))) (.cons (.fn 55 .nil (.cons (.aJ (.cons (.fn0 22) .nil)) (.cons (.av (.prod ay (.list .bool))) (.cons (.av (.prod ay (.list .bool))) .nil)))) .nil))))))),(3,.c (.mp 7)),(4,.c (.Aa 8 (.prod (.prod tI tI) tL))),(5,.c (.ptr 9 0)),(33,hI),(34,hI)] [(6,.loop .ready none 5 [(1,.c (.ptr 0 0)),(2,.c (.ptr 1 0)),(3,.c .bA),(4,.c (.ptr 2 0)),(5,.c (.ptr 3 0)),(18,.fn 81 [] [.aJ (.cons (.hole tI) (.cons (.hole tI) (.cons (.hole tI) (.cons (.fn 54 .nil (.cons (.av (.prod ay (.list .bool))) (.cons (.av (.prod ay (.list .bool))) .nil))) (.cons (.fn 55 .nil (.cons (.aJ (.cons (.fn0 22) .nil)) (.cons (.av (.prod ay (.list .bool))) (.cons (.av (.prod ay (.list .bool))) .nil)))) .nil)))))])] [19,20] (.cF [.op (some 6) none (.ex (kQ.gy tI 2) []),.op none none (.store 2 (.t 6) (.t 19))]) (.block 1 (.seq (.cF [.op (some 21) none (.load false 1 (.t 4)),.op (some 22) none (.load true 2 (.t 6)),.op (some 23) none (.bI (.prod tI tI) [.t 22]),.op (some 24) none (.append 2 (.t 21) (.t 23)),.op none none (.store 1 (.t 4) (.t 24))]) (.seq (.cF [.op (some 25) none (.qc 4 [true,true,true] (.t 1)),.op (some 26) none (.load false 1 (.t 25)),.op (some 27) none (.load true 2 (.t 6)),.call (some 28) none (.t 26) [.t 27] [some (.prod tI tI)]]) (.cond (.t 28) (.cF [.op (some 29) none (.load false 1 (.t 5)),.op (some 30) none (.load true 2 (.t 6)),.op none none (.ex (kQ.fM (.prod tI tI) true tI false) [.t 29,.t 30,.c (.int .i64 (Int.ofNat 1))])]) .skip)))) 81),(7,.map (.prod tI tI) true .bool false),(8,.arr (.prod (.prod tI tI) tL) false),(9,.cells [.hole tI,.hole tI,.hole tL] false),(5,.fC),(0,.cells [.hole tI,.hole tI,.hole tI,.fn 54 .nil (.cons (.av (.prod ay (.list .bool))) (.cons (.av (.prod ay (.list .bool))) .nil)),.fn 55 .nil (.cons (.aJ (.cons (.fn0 22) .nil)) (.cons (.av (.prod ay (.list .bool))) (.cons (.av (.prod ay (.list .bool))) .nil)))] false),(1,.cells [.bA,.bA] false),(2,.cells [.cg 10 (.prod tI tI)] false),(3,.cells [.mp 11] false),(10,.arr (.prod tI tI) false),(11,.map (.prod tI tI) true tI false)] [.slot 3,.slot 4,.slot 5,.cell 2 0,.cell 3 0] []
@[reducible] def QD:bt:=[(.exit 2,aG.mk [(0,.c (.yl 6)),(1,.c (.aJ (.cons (.hole tI) (.cons (.hole tI) (.cons (.hole tI) (.cons (.fn 54 .nil (.cons (.av (.prod ay (.list .bool))) (.cons (.av (.prod ay (.list .bool))) .nil))) (.cons (.fn 55 .nil (.cons (.aJ (.cons (.fn0 22) .nil)) (.cons (.av (.prod ay (.list .bool))) (.cons (.av (.prod ay (.list .bool))) .nil)))) .nil))))))),(3,.c (.mp 7)),(4,.c (.Aa 8 (.prod (.prod tI tI) tL)))] [(6,.loop .ready none 5 [(1,.c (.ptr 0 0)),(2,.c (.ptr 1 0)),(3,.c .bA),(4,.c (.ptr 2 0)),(5,.c (.ptr 3 0)),(18,.fn 81 [] [.aJ (.cons (.hole tI) (.cons (.hole tI) (.cons (.hole tI) (.cons (.fn 54 .nil (.cons (.av (.prod ay (.list .bool))) (.cons (.av (.prod ay (.list .bool))) .nil))) (.cons (.fn 55 .nil (.cons (.aJ (.cons (.fn0 22) .nil)) (.cons (.av (.prod ay (.list .bool))) (.cons (.av (.prod ay (.list .bool))) .nil)))) .nil)))))])] [19,20] (.cF [.op (some 6) none (.ex (kQ.gy tI 2) []),.op none none (.store 2 (.t 6) (.t 19))]) (.block 1 (.seq (.cF [.op (some 21) none (.load false 1 (.t 4)),.op (some 22) none (.load true 2 (.t 6)),.op (some 23) none (.bI (.prod tI tI) [.t 22]),.op (some 24) none (.append 2 (.t 21) (.t 23)),.op none none (.store 1 (.t 4) (.t 24))]) (.seq (.cF [.op (some 25) none (.qc 4 [true,true,true] (.t 1)),.op (some 26) none (.load false 1 (.t 25)),.op (some 27) none (.load true 2 (.t 6)),.call (some 28) none (.t 26) [.t 27] [some (.prod tI tI)]]) (.cond (.t 28) (.cF [.op (some 29) none (.load false 1 (.t 5)),.op (some 30) none (.load true 2 (.t 6)),.op none none (.ex (kQ.fM (.prod tI tI) true tI false) [.t 29,.t 30,.c (.int .i64 (Int.ofNat 1))])]) .skip)))) 81),(7,.map (.prod tI tI) true .bool false),(8,.arr (.prod (.prod tI tI) tL) false),(5,.fC),(0,.cells [.hole tI,.hole tI,.hole tI,.fn 54 .nil (.cons (.av (.prod ay (.list .bool))) (.cons (.av (.prod ay (.list .bool))) .nil)),.fn 55 .nil (.cons (.aJ (.cons (.fn0 22) .nil)) (.cons (.av (.prod ay (.list .bool))) (.cons (.av (.prod ay (.list .bool))) .nil)))] false),(1,.cells [.bA,.bA] false),(2,.cells [.cg 9 (.prod tI tI)] false),(3,.cells [.mp 10] false),(9,.arr (.prod tI tI) false),(10,.map (.prod tI tI) true tI false)] [.slot 3,.slot 4,.cell 2 0,.cell 3 0] [])]
noncomputable def QE:D prog 61 none 7:=dO [] (pick (kd prog f81) [(0,false),(0,false)]) 0
noncomputable def g50_0i_1:Int×Int×Int×((List (List Int))×List Bool)×((List (List Int))×List Bool)×((List (List Int))×List Bool)×((List (List Int))×List Bool)×Nat×Nat×Int×Int×Int×Int×Int×((List (List Int))×List Bool)×((List (List Int))×List Bool)×((List (List Int))×List Bool)×((List (List Int))×List Bool)×(List ((Int×Int)×Bool))×(List ((Int×Int)×List Int))×Int×Int×List Int×Int×Int×Int×((List (List Int))×List Bool)×((List (List Int))×List Bool)×((List (List Int))×List Bool)×((List (List Int))×List Bool)×Nat×(List (Int×Int))×(List ((Int×Int)×Int))×Unit->bR ((Int×Int×Int×((List (List Int))×List Bool)×((List (List Int))×List Bool)×((List (List Int))×List Bool)×((List (List Int))×List Bool)×Nat×Nat×Int×Int×Int×Int×Int×((List (List Int))×List Bool)×((List (List Int))×List Bool)×((List (List Int))×List Bool)×((List (List Int))×List Bool)×(List ((Int×Int)×Bool))×(List ((Int×Int)×List Int))×Int×Int×List Int×Int×Int×Int×((List (List Int))×List Bool)×((List (List Int))×List Bool)×((List (List Int))×List Bool)×((List (List Int))×List Bool)×Nat×(List (Int×Int))×(List ((Int×Int)×Int))×Unit) ⊕ ((Int×Int×Int×((List (List Int))×List Bool)×((List (List Int))×List Bool)×((List (List Int))×List Bool)×((List (List Int))×List Bool)×Nat×Nat×Int×Int×Int×((List (List Int))×List Bool)×((List (List Int))×List Bool)×((List (List Int))×List Bool)×((List (List Int))×List Bool)×(List ((Int×Int)×Bool))×(List ((Int×Int)×List Int))×Int×Int×Int×((List (List Int))×List Bool)×((List (List Int))×List Bool)×((List (List Int))×List Bool)×((List (List Int))×List Bool)×Nat×(List (Int×Int))×(List ((Int×Int)×Int))×Unit))):=fun (eo,nB,fh,bY,bZ,cC,cD,cI,jJ,uX,fL,fq,fu,fy,bD,bE,bF,bG,m7,b8,Gg,Gh,Gi,bp,cq,bX,aH,aI,aC,aD,dm,B6,Qx,_) =>
 .br (decide (fL<uX)) (
 .bd (F54 (Gg,Gh) fL (bY.1,bY.2) (bZ.1,bZ.2)) fun y3 =>
 .br (!(aN (.prod (.int .i64) (.int .i64)) false m7 ((((y3.1.1::(y3.1.2::[]))).getD (0:Nat) (0:Int)),(((y3.1.1::(y3.1.2::[]))).getD (1:Nat) (0:Int))))) (
 .bd (F83 Gi) fun y4 =>
 .nd (decide ((0:Nat)<(((((fL::[])).drop (0:Nat)).take (1:Nat))).length)) <|
 .nd (decide (((y4.1).length+(((((fL::[])).drop (0:Nat)).take (1:Nat))).length)<cz)) <|
 .nd (decide ((jJ+((((((((((y3.1.1::(y3.1.2::[]))).getD (0:Nat) (0:Int)),(((y3.1.1::(y3.1.2::[]))).getD (1:Nat) (0:Int))),((((y4.1++((((fL::[])).drop (0:Nat)).take (1:Nat)))).drop (0:Nat)).take ((y4.1).length+(((((fL::[])).drop (0:Nat)).take (1:Nat))).length)))::[])).drop (0:Nat)).take (1:Nat))).length)<cz)) <|
 .ni (fL+(1:Int)) <|
 .ret (.inl (eo,nB,fh,(bY.1,bY.2),(bZ.1,bZ.2),(cC.1,cC.2),(cD.1,cD.2),(0:Nat),(jJ+((((((((((y3.1.1::(y3.1.2::[]))).getD (0:Nat) (0:Int)),(((y3.1.1::(y3.1.2::[]))).getD (1:Nat) (0:Int))),((((y4.1++((((fL::[])).drop (0:Nat)).take (1:Nat)))).drop (0:Nat)).take ((y4.1).length+(((((fL::[])).drop (0:Nat)).take (1:Nat))).length)))::[])).drop (0:Nat)).take (1:Nat))).length),uX,(fL+(1:Int)),fq,fu,fy,(bD.1,bD.2),(bE.1,bE.2),(bF.1,bF.2),(bG.1,bG.2),(bh (.prod (.int .i64) (.int .i64)) m7 ((((y3.1.1::(y3.1.2::[]))).getD (0:Nat) (0:Int)),(((y3.1.1::(y3.1.2::[]))).getD (1:Nat) (0:Int))) true),((((b8).drop cI).take jJ)++(((((((((y3.1.1::(y3.1.2::[]))).getD (0:Nat) (0:Int)),(((y3.1.1::(y3.1.2::[]))).getD (1:Nat) (0:Int))),((((y4.1++((((fL::[])).drop (0:Nat)).take (1:Nat)))).drop (0:Nat)).take ((y4.1).length+(((((fL::[])).drop (0:Nat)).take (1:Nat))).length)))::[])).drop (0:Nat)).take (1:Nat))),Gg,Gh,Gi,bp,cq,bX,(aH.1,aH.2),(aI.1,aI.2),(aC.1,aC.2),(aD.1,aD.2),dm,B6,Qx,()))) (
 .ni (fL+(1:Int)) <|
 .ret (.inl (eo,nB,fh,(bY.1,bY.2),(bZ.1,bZ.2),(cC.1,cC.2),(cD.1,cD.2),cI,jJ,uX,(fL+(1:Int)),fq,fu,fy,(bD.1,bD.2),(bE.1,bE.2),(bF.1,bF.2),(bG.1,bG.2),m7,b8,Gg,Gh,Gi,bp,cq,bX,(aH.1,aH.2),(aI.1,aI.2),(aC.1,aC.2),(aD.1,aD.2),dm,B6,Qx,())))) (
 .ret (.inr (eo,nB,fh,(bY.1,bY.2),(bZ.1,bZ.2),(cC.1,cC.2),(cD.1,cD.2),cI,jJ,fq,fu,fy,(bD.1,bD.2),(bE.1,bE.2),(bF.1,bF.2),(bG.1,bG.2),m7,b8,bp,cq,bX,(aH.1,aH.2),(aI.1,aI.2),(aC.1,aC.2),(aD.1,aD.2),dm,B6,Qx,())))
noncomputable def QF:bK prog 61 none 7:=bu mixed vJ qR [0,1,2,3,4,5,6] rfl QC QD rfl (QE) (fun x=>ag (g50_0i_1 x)) (fun x=>by kernel_rfl)
@[reducible] def QG:aG:=aG.mk [(0,.c (.yl 6)),(1,.c (.aJ (.cons (.hole tI) (.cons (.hole tI) (.cons (.hole tI) (.cons (.fn 54 .nil (.cons (.av (.prod ay (.list .bool))) (.cons (.av (.prod ay (.list .bool))) .nil))) (.cons (.fn 55 .nil (.cons (.aJ (.cons (.fn0 22) .nil)) (.cons (.av (.prod ay (.list .bool))) (.cons (.av (.prod ay (.list .bool))) .nil)))) .nil))))))),(3,.c (.mp 7)),(4,.c (.Aa 8 (.prod (.prod tI tI) tL)))] [(6,.loop .ready none 5 [(1,.c (.ptr 0 0)),(2,.c (.ptr 1 0)),(3,.c .bA),(4,.c (.ptr 2 0)),(5,.c (.ptr 3 0)),(18,.fn 81 [] [.aJ (.cons (.hole tI) (.cons (.hole tI) (.cons (.hole tI) (.cons (.fn 54 .nil (.cons (.av (.prod ay (.list .bool))) (.cons (.av (.prod ay (.list .bool))) .nil))) (.cons (.fn 55 .nil (.cons (.aJ (.cons (.fn0 22) .nil)) (.cons (.av (.prod ay (.list .bool))) (.cons (.av (.prod ay (.list .bool))) .nil)))) .nil)))))])] [19,20] (.cF [.op (some 6) none (.ex (kQ.gy tI 2) []),.op none none (.store 2 (.t 6) (.t 19))]) (.block 1 (.seq (.cF [.op (some 21) none (.load false 1 (.t 4)),.op (some 22) none (.load true 2 (.t 6)),.op (some 23) none (.bI (.prod tI tI) [.t 22]),.op (some 24) none (.append 2 (.t 21) (.t 23)),.op none none (.store 1 (.t 4) (.t 24))]) (.seq (.cF [.op (some 25) none (.qc 4 [true,true,true] (.t 1)),.op (some 26) none (.load false 1 (.t 25)),.op (some 27) none (.load true 2 (.t 6)),.call (some 28) none (.t 26) [.t 27] [some (.prod tI tI)]]) (.cond (.t 28) (.cF [.op (some 29) none (.load false 1 (.t 5)),.op (some 30) none (.load true 2 (.t 6)),.op none none (.ex (kQ.fM (.prod tI tI) true tI false) [.t 29,.t 30,.c (.int .i64 (Int.ofNat 1))])]) .skip)))) 81),(7,.map (.prod tI tI) true .bool false),(8,.arr (.prod (.prod tI tI) tL) false),(5,.fC),(0,.cells [.hole tI,.hole tI,.hole tI,.fn 54 .nil (.cons (.av (.prod ay (.list .bool))) (.cons (.av (.prod ay (.list .bool))) .nil)),.fn 55 .nil (.cons (.aJ (.cons (.fn0 22) .nil)) (.cons (.av (.prod ay (.list .bool))) (.cons (.av (.prod ay (.list .bool))) .nil)))] false),(1,.cells [.bA,.bA] false),(2,.cells [.cg 9 (.prod tI tI)] false),(3,.cells [.mp 10] false),(9,.arr (.prod tI tI) false),(10,.map (.prod tI tI) true tI false)] [.slot 3,.slot 4,.cell 2 0,.cell 3 0] []
@[reducible] def QH:bt:=[(.exit 0,aG.mk [] [(0,.cells [.hole tI,.hole tI,.hole tI,.fn 54 .nil (.cons (.av (.prod ay (.list .bool))) (.cons (.av (.prod ay (.list .bool))) .nil)),.fn 55 .nil (.cons (.aJ (.cons (.fn0 22) .nil)) (.cons (.av (.prod ay (.list .bool))) (.cons (.av (.prod ay (.list .bool))) .nil)))] false),(1,.cells [.bA,.bA] false),(2,.cells [.cg 7 (.prod tI tI)] false),(3,.cells [.mp 8] false),(5,.fC),(6,.loop .ready none 5 [(1,.c (.ptr 0 0)),(2,.c (.ptr 1 0)),(3,.c .bA),(4,.c (.ptr 2 0)),(5,.c (.ptr 3 0)),(18,.fn 81 [] [.aJ (.cons (.hole tI) (.cons (.hole tI) (.cons (.hole tI) (.cons (.fn 54 .nil (.cons (.av (.prod ay (.list .bool))) (.cons (.av (.prod ay (.list .bool))) .nil))) (.cons (.fn 55 .nil (.cons (.aJ (.cons (.fn0 22) .nil)) (.cons (.av (.prod ay (.list .bool))) (.cons (.av (.prod ay (.list .bool))) .nil)))) .nil)))))])] [19,20] (.cF [.op (some 6) none (.ex (kQ.gy tI 2) []),.op none none (.store 2 (.t 6) (.t 19))]) (.block 1 (.seq (.cF [.op (some 21) none (.load false 1 (.t 4)),.op (some 22) none (.load true 2 (.t 6)),.op (some 23) none (.bI (.prod tI tI) [.t 22]),.op (some 24) none (.append 2 (.t 21) (.t 23)),.op none none (.store 1 (.t 4) (.t 24))]) (.seq (.cF [.op (some 25) none (.qc 4 [true,true,true] (.t 1)),.op (some 26) none (.load false 1 (.t 25)),.op (some 27) none (.load true 2 (.t 6)),.call (some 28) none (.t 26) [.t 27] [some (.prod tI tI)]]) (.cond (.t 28) (.cF [.op (some 29) none (.load false 1 (.t 5)),.op (some 30) none (.load true 2 (.t 6)),.op none none (.ex (kQ.fM (.prod tI tI) true tI false) [.t 29,.t 30,.c (.int .i64 (Int.ofNat 1))])]) .skip)))) 81),(7,.arr (.prod tI tI) false),(8,.map (.prod tI tI) true tI false)] [.cell 2 0,.cell 3 0] [])]
noncomputable def QI:D prog 61 none 7:=dO [.l QF] (pick (kd prog f81) [(0,false)]) 0
noncomputable def g50_0i_0:Int×Int×Int×((List (List Int))×List Bool)×((List (List Int))×List Bool)×((List (List Int))×List Bool)×((List (List Int))×List Bool)×Nat×Nat×Int×Int×Int×((List (List Int))×List Bool)×((List (List Int))×List Bool)×((List (List Int))×List Bool)×((List (List Int))×List Bool)×(List ((Int×Int)×Bool))×(List ((Int×Int)×List Int))×Int×Int×Int×((List (List Int))×List Bool)×((List (List Int))×List Bool)×((List (List Int))×List Bool)×((List (List Int))×List Bool)×Nat×(List (Int×Int))×(List ((Int×Int)×Int))×Unit->bR ((Int×Int×Int×((List (List Int))×List Bool)×((List (List Int))×List Bool)×((List (List Int))×List Bool)×((List (List Int))×List Bool)×Nat×Nat×Int×Int×Int×((List (List Int))×List Bool)×((List (List Int))×List Bool)×((List (List Int))×List Bool)×((List (List Int))×List Bool)×(List ((Int×Int)×Bool))×(List ((Int×Int)×List Int))×Int×Int×Int×((List (List Int))×List Bool)×((List (List Int))×List Bool)×((List (List Int))×List Bool)×((List (List Int))×List Bool)×Nat×(List (Int×Int))×(List ((Int×Int)×Int))×Unit) ⊕ ((Int×Int×Int×((List (List Int))×List Bool)×((List (List Int))×List Bool)×((List (List Int))×List Bool)×((List (List Int))×List Bool)×Nat×Int×Int×Int×((List (List Int))×List Bool)×((List (List Int))×List Bool)×((List (List Int))×List Bool)×((List (List Int))×List Bool)×(List (Int×Int))×(List ((Int×Int)×Int))×Unit))):=fun (eo,nB,fh,bY,bZ,cC,cD,cI,jJ,fq,fu,fy,bD,bE,bF,bG,m7,b8,bp,cq,bX,aH,aI,aC,aD,dm,b9,m10,_) =>
 .br (decide ((0:Int)<((jJ:Nat):Int))) (
 .nb (0:Int) ((jJ:Nat):Int) <|
 .nd (decide ((cI+(Int.toNat (0:Int)))<(b8).length)) <|
 .bd (F82 ((b8).getD (cI+(Int.toNat (0:Int))) (((0:Int),(0:Int)),[])).2) fun y1 =>
 .nd (decide ((dm+(((((((((((b8).getD (cI+(Int.toNat (0:Int))) (((0:Int),(0:Int)),[])).1.1::(((b8).getD (cI+(Int.toNat (0:Int))) (((0:Int),(0:Int)),[])).1.2::[]))).getD (0:Nat) (0:Int)),(((((b8).getD (cI+(Int.toNat (0:Int))) (((0:Int),(0:Int)),[])).1.1::(((b8).getD (cI+(Int.toNat (0:Int))) (((0:Int),(0:Int)),[])).1.2::[]))).getD (1:Nat) (0:Int)))::[])).drop (0:Nat)).take (1:Nat))).length)<cz)) <|
 .bd (F55 ((((((b8).getD (cI+(Int.toNat (0:Int))) (((0:Int),(0:Int)),[])).1.1::(((b8).getD (cI+(Int.toNat (0:Int))) (((0:Int),(0:Int)),[])).1.2::[]))).getD (0:Nat) (0:Int)),(((((b8).getD (cI+(Int.toNat (0:Int))) (((0:Int),(0:Int)),[])).1.1::(((b8).getD (cI+(Int.toNat (0:Int))) (((0:Int),(0:Int)),[])).1.2::[]))).getD (1:Nat) (0:Int))) (aC.1,aC.2) (aD.1,aD.2)) fun y2 =>
 .br y2.1 (
 .bd (.it g50_0i_1 (eo,nB,fh,(bY.1,bY.2),(bZ.1,bZ.2),(cC.1,cC.2),(cD.1,cD.2),cI,jJ,eo,(0:Int),fq,fu,fy,(bD.1,bD.2),(bE.1,bE.2),(bF.1,bF.2),(bG.1,bG.2),m7,b8,((b8).getD (cI+(Int.toNat (0:Int))) (((0:Int),(0:Int)),[])).1.1,((b8).getD (cI+(Int.toNat (0:Int))) (((0:Int),(0:Int)),[])).1.2,((b8).getD (cI+(Int.toNat (0:Int))) (((0:Int),(0:Int)),[])).2,bp,cq,bX,(aH.1,aH.2),(aI.1,aI.2),(aC.1,aC.2),(aD.1,aD.2),(dm+(((((((((((b8).getD (cI+(Int.toNat (0:Int))) (((0:Int),(0:Int)),[])).1.1::(((b8).getD (cI+(Int.toNat (0:Int))) (((0:Int),(0:Int)),[])).1.2::[]))).getD (0:Nat) (0:Int)),(((((b8).getD (cI+(Int.toNat (0:Int))) (((0:Int),(0:Int)),[])).1.1::(((b8).getD (cI+(Int.toNat (0:Int))) (((0:Int),(0:Int)),[])).1.2::[]))).getD (1:Nat) (0:Int)))::[])).drop (0:Nat)).take (1:Nat))).length),((((b9).drop (0:Nat)).take dm)++((((((((((b8).getD (cI+(Int.toNat (0:Int))) (((0:Int),(0:Int)),[])).1.1::(((b8).getD (cI+(Int.toNat (0:Int))) (((0:Int),(0:Int)),[])).1.2::[]))).getD (0:Nat) (0:Int)),(((((b8).getD (cI+(Int.toNat (0:Int))) (((0:Int),(0:Int)),[])).1.1::(((b8).getD (cI+(Int.toNat (0:Int))) (((0:Int),(0:Int)),[])).1.2::[]))).getD (1:Nat) (0:Int)))::[])).drop (0:Nat)).take (1:Nat))),(bh (.prod (.int .i64) (.int .i64)) m10 ((((((b8).getD (cI+(Int.toNat (0:Int))) (((0:Int),(0:Int)),[])).1.1::(((b8).getD (cI+(Int.toNat (0:Int))) (((0:Int),(0:Int)),[])).1.2::[]))).getD (0:Nat) (0:Int)),(((((b8).getD (cI+(Int.toNat (0:Int))) (((0:Int),(0:Int)),[])).1.1::(((b8).getD (cI+(Int.toNat (0:Int))) (((0:Int),(0:Int)),[])).1.2::[]))).getD (1:Nat) (0:Int))) (1:Int)),())) fun z5 =>
 .nd (decide ((0:Int)<=(1:Int))) <|
 .nd (decide ((1:Int)<=((z5.2.2.2.2.2.2.2.2.1:Nat):Int))) <|
 .nd (decide (((z5.2.2.2.2.2.2.2.2.1:Nat):Int)<=((z5.2.2.2.2.2.2.2.2.1:Nat):Int))) <|
 .ret (.inl (z5.1,z5.2.1,z5.2.2.1,(z5.2.2.2.1.1,z5.2.2.2.1.2),(z5.2.2.2.2.1.1,z5.2.2.2.2.1.2),(z5.2.2.2.2.2.1.1,z5.2.2.2.2.2.1.2),(z5.2.2.2.2.2.2.1.1,z5.2.2.2.2.2.2.1.2),(z5.2.2.2.2.2.2.2.1+(Int.toNat (1:Int))),((Int.toNat ((z5.2.2.2.2.2.2.2.2.1:Nat):Int)) - (Int.toNat (1:Int))),z5.2.2.2.2.2.2.2.2.2.1,z5.2.2.2.2.2.2.2.2.2.2.1,z5.2.2.2.2.2.2.2.2.2.2.2.1,(z5.2.2.2.2.2.2.2.2.2.2.2.2.1.1,z5.2.2.2.2.2.2.2.2.2.2.2.2.1.2),(z5.2.2.2.2.2.2.2.2.2.2.2.2.2.1.1,z5.2.2.2.2.2.2.2.2.2.2.2.2.2.1.2),(z5.2.2.2.2.2.2.2.2.2.2.2.2.2.2.1.1,z5.2.2.2.2.2.2.2.2.2.2.2.2.2.2.1.2),(z5.2.2.2.2.2.2.2.2.2.2.2.2.2.2.2.1.1,z5.2.2.2.2.2.2.2.2.2.2.2.2.2.2.2.1.2),z5.2.2.2.2.2.2.2.2.2.2.2.2.2.2.2.2.1,z5.2.2.2.2.2.2.2.2.2.2.2.2.2.2.2.2.2.1,z5.2.2.2.2.2.2.2.2.2.2.2.2.2.2.2.2.2.2.1,z5.2.2.2.2.2.2.2.2.2.2.2.2.2.2.2.2.2.2.2.1,z5.2.2.2.2.2.2.2.2.2.2.2.2.2.2.2.2.2.2.2.2.1,(z5.2.2.2.2.2.2.2.2.2.2.2.2.2.2.2.2.2.2.2.2.2.1.1,z5.2.2.2.2.2.2.2.2.2.2.2.2.2.2.2.2.2.2.2.2.2.1.2),(z5.2.2.2.2.2.2.2.2.2.2.2.2.2.2.2.2.2.2.2.2.2.2.1.1,z5.2.2.2.2.2.2.2.2.2.2.2.2.2.2.2.2.2.2.2.2.2.2.1.2),(z5.2.2.2.2.2.2.2.2.2.2.2.2.2.2.2.2.2.2.2.2.2.2.2.1.1,z5.2.2.2.2.2.2.2.2.2.2.2.2.2.2.2.2.2.2.2.2.2.2.2.1.2),(z5.2.2.2.2.2.2.2.2.2.2.2.2.2.2.2.2.2.2.2.2.2.2.2.2.1.1,z5.2.2.2.2.2.2.2.2.2.2.2.2.2.2.2.2.2.2.2.2.2.2.2.2.1.2),z5.2.2.2.2.2.2.2.2.2.2.2.2.2.2.2.2.2.2.2.2.2.2.2.2.2.1,z5.2.2.2.2.2.2.2.2.2.2.2.2.2.2.2.2.2.2.2.2.2.2.2.2.2.2.1,z5.2.2.2.2.2.2.2.2.2.2.2.2.2.2.2.2.2.2.2.2.2.2.2.2.2.2.2.1,()))) (
 .bd (.it g50_0i_1 (eo,nB,fh,(bY.1,bY.2),(bZ.1,bZ.2),(cC.1,cC.2),(cD.1,cD.2),cI,jJ,eo,(0:Int),fq,fu,fy,(bD.1,bD.2),(bE.1,bE.2),(bF.1,bF.2),(bG.1,bG.2),m7,b8,((b8).getD (cI+(Int.toNat (0:Int))) (((0:Int),(0:Int)),[])).1.1,((b8).getD (cI+(Int.toNat (0:Int))) (((0:Int),(0:Int)),[])).1.2,((b8).getD (cI+(Int.toNat (0:Int))) (((0:Int),(0:Int)),[])).2,bp,cq,bX,(aH.1,aH.2),(aI.1,aI.2),(aC.1,aC.2),(aD.1,aD.2),(dm+(((((((((((b8).getD (cI+(Int.toNat (0:Int))) (((0:Int),(0:Int)),[])).1.1::(((b8).getD (cI+(Int.toNat (0:Int))) (((0:Int),(0:Int)),[])).1.2::[]))).getD (0:Nat) (0:Int)),(((((b8).getD (cI+(Int.toNat (0:Int))) (((0:Int),(0:Int)),[])).1.1::(((b8).getD (cI+(Int.toNat (0:Int))) (((0:Int),(0:Int)),[])).1.2::[]))).getD (1:Nat) (0:Int)))::[])).drop (0:Nat)).take (1:Nat))).length),((((b9).drop (0:Nat)).take dm)++((((((((((b8).getD (cI+(Int.toNat (0:Int))) (((0:Int),(0:Int)),[])).1.1::(((b8).getD (cI+(Int.toNat (0:Int))) (((0:Int),(0:Int)),[])).1.2::[]))).getD (0:Nat) (0:Int)),(((((b8).getD (cI+(Int.toNat (0:Int))) (((0:Int),(0:Int)),[])).1.1::(((b8).getD (cI+(Int.toNat (0:Int))) (((0:Int),(0:Int)),[])).1.2::[]))).getD (1:Nat) (0:Int)))::[])).drop (0:Nat)).take (1:Nat))),m10,())) fun z6 =>
 .nd (decide ((0:Int)<=(1:Int))) <|
 .nd (decide ((1:Int)<=((z6.2.2.2.2.2.2.2.2.1:Nat):Int))) <|
 .nd (decide (((z6.2.2.2.2.2.2.2.2.1:Nat):Int)<=((z6.2.2.2.2.2.2.2.2.1:Nat):Int))) <|
 .ret (.inl (z6.1,z6.2.1,z6.2.2.1,(z6.2.2.2.1.1,z6.2.2.2.1.2),(z6.2.2.2.2.1.1,z6.2.2.2.2.1.2),(z6.2.2.2.2.2.1.1,z6.2.2.2.2.2.1.2),(z6.2.2.2.2.2.2.1.1,z6.2.2.2.2.2.2.1.2),(z6.2.2.2.2.2.2.2.1+(Int.toNat (1:Int))),((Int.toNat ((z6.2.2.2.2.2.2.2.2.1:Nat):Int)) - (Int.toNat (1:Int))),z6.2.2.2.2.2.2.2.2.2.1,z6.2.2.2.2.2.2.2.2.2.2.1,z6.2.2.2.2.2.2.2.2.2.2.2.1,(z6.2.2.2.2.2.2.2.2.2.2.2.2.1.1,z6.2.2.2.2.2.2.2.2.2.2.2.2.1.2),(z6.2.2.2.2.2.2.2.2.2.2.2.2.2.1.1,z6.2.2.2.2.2.2.2.2.2.2.2.2.2.1.2),(z6.2.2.2.2.2.2.2.2.2.2.2.2.2.2.1.1,z6.2.2.2.2.2.2.2.2.2.2.2.2.2.2.1.2),(z6.2.2.2.2.2.2.2.2.2.2.2.2.2.2.2.1.1,z6.2.2.2.2.2.2.2.2.2.2.2.2.2.2.2.1.2),z6.2.2.2.2.2.2.2.2.2.2.2.2.2.2.2.2.1,z6.2.2.2.2.2.2.2.2.2.2.2.2.2.2.2.2.2.1,z6.2.2.2.2.2.2.2.2.2.2.2.2.2.2.2.2.2.2.1,z6.2.2.2.2.2.2.2.2.2.2.2.2.2.2.2.2.2.2.2.1,z6.2.2.2.2.2.2.2.2.2.2.2.2.2.2.2.2.2.2.2.2.1,(z6.2.2.2.2.2.2.2.2.2.2.2.2.2.2.2.2.2.2.2.2.2.1.1,z6.2.2.2.2.2.2.2.2.2.2.2.2.2.2.2.2.2.2.2.2.2.1.2),(z6.2.2.2.2.2.2.2.2.2.2.2.2.2.2.2.2.2.2.2.2.2.2.1.1,z6.2.2.2.2.2.2.2.2.2.2.2.2.2.2.2.2.2.2.2.2.2.2.1.2),(z6.2.2.2.2.2.2.2.2.2.2.2.2.2.2.2.2.2.2.2.2.2.2.2.1.1,z6.2.2.2.2.2.2.2.2.2.2.2.2.2.2.2.2.2.2.2.2.2.2.2.1.2),(z6.2.2.2.2.2.2.2.2.2.2.2.2.2.2.2.2.2.2.2.2.2.2.2.2.1.1,z6.2.2.2.2.2.2.2.2.2.2.2.2.2.2.2.2.2.2.2.2.2.2.2.2.1.2),z6.2.2.2.2.2.2.2.2.2.2.2.2.2.2.2.2.2.2.2.2.2.2.2.2.2.1,z6.2.2.2.2.2.2.2.2.2.2.2.2.2.2.2.2.2.2.2.2.2.2.2.2.2.2.1,z6.2.2.2.2.2.2.2.2.2.2.2.2.2.2.2.2.2.2.2.2.2.2.2.2.2.2.2.1,())))) (
 .ret (.inr (bp,cq,bX,(aH.1,aH.2),(aI.1,aI.2),(aC.1,aC.2),(aD.1,aD.2),dm,fq,fu,fy,(bD.1,bD.2),(bE.1,bE.2),(bF.1,bF.2),(bG.1,bG.2),b9,m10,())))
noncomputable def QJ:bK prog 61 none 7:=bu mixed vJ qR [0,1,2,3,4,5,6] rfl QG QH rfl (QI) (fun x=>ag (g50_0i_0 x)) (fun x=>by kernel_rfl)
@[reducible] def afH:aG:=aG.mk [(1,.c (.ptr 0 0)),(2,.c (.ptr 1 0)),(3,.c .bA),(4,.c (.ptr 2 0)),(5,.c (.ptr 3 0)),(18,.fn 81 [] [.aJ (.cons (.hole tI) (.cons (.hole tI) (.cons (.hole tI) (.cons (.fn 54 .nil (.cons (.av (.prod ay (.list .bool))) (.cons (.av (.prod ay (.list .bool))) .nil))) (.cons (.fn 55 .nil (.cons (.aJ (.cons (.fn0 22) .nil)) (.cons (.av (.prod ay (.list .bool))) (.cons (.av (.prod ay (.list .bool))) .nil)))) .nil)))))])] [(0,.cells [.hole tI,.hole tI,.hole tI,.fn 54 .nil (.cons (.av (.prod ay (.list .bool))) (.cons (.av (.prod ay (.list .bool))) .nil)),.fn 55 .nil (.cons (.aJ (.cons (.fn0 22) .nil)) (.cons (.av (.prod ay (.list .bool))) (.cons (.av (.prod ay (.list .bool))) .nil)))] false),(1,.cells [.bA,.bA] false),(2,.cells [.bA] false),(3,.cells [.mp 4] false),(4,.map (.prod tI tI) true tI false)] [.slot 1,.slot 2,.slot 4,.slot 5,.cell 3 0] []
@[reducible] def afI:bt:=[(.normal,aG.mk [(1,.c (.ptr 0 0)),(2,.c (.ptr 1 0)),(4,.c (.ptr 2 0)),(5,.c (.ptr 3 0))] [(0,.cells [.hole tI,.hole tI,.hole tI,.fn 54 .nil (.cons (.av (.prod ay (.list .bool))) (.cons (.av (.prod ay (.list .bool))) .nil)),.fn 55 .nil (.cons (.aJ (.cons (.fn0 22) .nil)) (.cons (.av (.prod ay (.list .bool))) (.cons (.av (.prod ay (.list .bool))) .nil)))] false),(1,.cells [.bA,.bA] false),(2,.cells [.cg 4 (.prod tI tI)] false),(3,.cells [.mp 5] false),(4,.arr (.prod tI tI) false),(5,.map (.prod tI tI) true tI false)] [.slot 1,.slot 2,.slot 4,.slot 5,.cell 2 0,.cell 3 0] [])]
noncomputable def QK:D prog 61 none 7:=dO [.l QJ] (kd prog f81) 0
theorem aav:cN prog f81=some ⟨61,2,(QK).er,[],[]⟩:=by kernel_rfl
noncomputable def g50_0:Int×Int×Int×((List (List Int))×List Bool)×((List (List Int))×List Bool)×((List (List Int))×List Bool)×((List (List Int))×List Bool)×Int×Int×Int×((List (List Int))×List Bool)×((List (List Int))×List Bool)×((List (List Int))×List Bool)×((List (List Int))×List Bool)×(List ((Int×Int)×Int))×Unit->bR ((Int×Int×Int×((List (List Int))×List Bool)×((List (List Int))×List Bool)×((List (List Int))×List Bool)×((List (List Int))×List Bool)×Nat×(List (Int×Int))×(List ((Int×Int)×Int))×Unit)):=fun (sG,jU,jV,gq,gr,gu,gv,bp,cq,bX,aH,aI,aC,aD,m4,_) =>
 .bd (.it g50_0i_0 (sG,jU,jV,(gq.1,gq.2),(gr.1,gr.2),(gu.1,gu.2),(gv.1,gv.2),(0:Nat),(1:Nat),sG,jU,jV,(gq.1,gq.2),(gr.1,gr.2),(gu.1,gu.2),(gv.1,gv.2),(bh (.prod (.int .i64) (.int .i64)) [] (jU,jV) true),(((jU,jV),[])::[]),bp,cq,bX,(aH.1,aH.2),(aI.1,aI.2),(aC.1,aC.2),(aD.1,aD.2),(0:Nat),[],m4,())) fun z7 =>
 .ret ((z7.1,z7.2.1,z7.2.2.1,(z7.2.2.2.1.1,z7.2.2.2.1.2),(z7.2.2.2.2.1.1,z7.2.2.2.2.1.2),(z7.2.2.2.2.2.1.1,z7.2.2.2.2.2.1.2),(z7.2.2.2.2.2.2.1.1,z7.2.2.2.2.2.2.1.2),z7.2.2.2.2.2.2.2.1,z7.2.2.2.2.2.2.2.2.2.2.2.2.2.2.2.1,z7.2.2.2.2.2.2.2.2.2.2.2.2.2.2.2.2.1,()))
noncomputable def afJ:fJ prog 81 none 0:=gR mixed vJ qR [] rfl afH afI ( .t 18) [19,20] rfl (QA).er (QB).er 81 func81 (aav) (ah func81 rfl rfl) 7 rfl (QK) rfl (fun x=>ag (g50_0 x)) (fun x=>by kernel_rfl)
@[reducible] def afK:aG:=aG.mk [(1,.c (.ptr 0 0)),(2,.c (.ptr 1 0)),(4,.c (.ptr 2 0)),(5,.c (.ptr 3 0)),(7,hI)] [(0,.cells [.hole tI,.hole tI,.hole tI,.fn 54 .nil (.cons (.av (.prod ay (.list .bool))) (.cons (.av (.prod ay (.list .bool))) .nil)),.fn 55 .nil (.cons (.aJ (.cons (.fn0 22) .nil)) (.cons (.av (.prod ay (.list .bool))) (.cons (.av (.prod ay (.list .bool))) .nil)))] false),(1,.cells [.bA,.bA] false),(2,.cells [.cg 4 (.prod tI tI)] false),(3,.cells [.mp 5] false),(4,.arr (.prod tI tI) false),(5,.map (.prod tI tI) true tI false)] [.slot 1,.slot 2,.slot 4,.slot 5,.cell 2 0,.cell 3 0] []
@[reducible] def afL:bt:=[(.exit 2,aG.mk [(1,.c (.ptr 0 0)),(2,.c (.ptr 1 0)),(4,.c (.ptr 2 0)),(5,.c (.ptr 3 0))] [(0,.cells [.hole tI,.hole tI,.hole tI,.fn 54 .nil (.cons (.av (.prod ay (.list .bool))) (.cons (.av (.prod ay (.list .bool))) .nil)),.fn 55 .nil (.cons (.aJ (.cons (.fn0 22) .nil)) (.cons (.av (.prod ay (.list .bool))) (.cons (.av (.prod ay (.list .bool))) .nil)))] false),(1,.cells [.bA,.bA] false),(2,.cells [.cg 4 (.prod tI tI)] false),(3,.cells [.mp 5] false),(4,.arr (.prod tI tI) false),(5,.map (.prod tI tI) true tI false)] [.slot 1,.slot 2,.slot 4,.slot 5,.cell 2 0,.cell 3 0] [])]
noncomputable def afM:D prog 81 none 0:=dO [] (pick (kd prog f50) [(1,false)]) 0
noncomputable def g50_1:Int×Int×Int×Int×((List (List Int))×List Bool)×((List (List Int))×List Bool)×((List (List Int))×List Bool)×((List (List Int))×List Bool)×Nat×(List (Int×Int))×(List ((Int×Int)×Int))×Unit->bR ((Int×Int×Int×Int×((List (List Int))×List Bool)×((List (List Int))×List Bool)×((List (List Int))×List Bool)×((List (List Int))×List Bool)×Nat×(List (Int×Int))×(List ((Int×Int)×Int))×Unit) ⊕ ((Int×Int×Int×((List (List Int))×List Bool)×((List (List Int))×List Bool)×((List (List Int))×List Bool)×((List (List Int))×List Bool)×Nat×(List (Int×Int))×(List ((Int×Int)×Int))×Unit))):=fun (v7,bp,cq,bX,aH,aI,aC,aD,dm,b4,m5,_) =>
 .bd (FH77_v1 bp cq bX (aH.1,aH.2) (aI.1,aI.2) (aC.1,aC.2) (aD.1,aD.2) dm b4 m5) fun y9 =>
 .br (y9.1==v7) (
 .ret (.inr (bp,cq,bX,(aH.1,aH.2),(aI.1,aI.2),(aC.1,aC.2),(aD.1,aD.2),dm,y9.2.2.2.1,y9.2.1,()))) (
 .ret (.inl (y9.1,bp,cq,bX,(aH.1,aH.2),(aI.1,aI.2),(aC.1,aC.2),(aD.1,aD.2),dm,y9.2.2.2.1,y9.2.1,())))
noncomputable def afN:bK prog 81 none 0:=bu mixed Qz sF [] rfl afK afL rfl (afM) (fun x=>ag (g50_1 x)) (fun x=>by kernel_rfl)
@[reducible] def afO:aG:=aG.mk [(1,.c (.ptr 0 0)),(2,.c (.ptr 1 0)),(5,.c (.ptr 2 0)),(10,.c (.ptr 3 0)),(11,.c (.ptr 4 0)),(51,.c (.cg 5 (.prod tI tI))),(52,hI),(53,hI)] [(0,.cells [.hole tI,.hole tI,.hole tI,.fn 54 .nil (.cons (.av (.prod ay (.list .bool))) (.cons (.av (.prod ay (.list .bool))) .nil)),.fn 55 .nil (.cons (.aJ (.cons (.fn0 22) .nil)) (.cons (.av (.prod ay (.list .bool))) (.cons (.av (.prod ay (.list .bool))) .nil)))] false),(1,.cells [.bA,.bA] false),(2,.cells [.mp 6] false),(3,.cells [.hole tI,.hole tI,.cu,.cu] false),(4,.cells [.mp 7] false),(5,.arr (.prod tI tI) false),(6,.map (.prod tI tI) true tI false),(7,.map tI false (.prod tI tI) true)] [.slot 1,.slot 2,.slot 5,.slot 10,.slot 11,.slot 51,.cell 2 0,.cell 4 0] []
@[reducible] def afP:bt:=[(.exit 4,aG.mk [(1,.c (.ptr 0 0)),(2,.c (.ptr 1 0)),(5,.c (.ptr 2 0)),(10,.c (.ptr 3 0)),(11,.c (.ptr 4 0))] [(0,.cells [.hole tI,.hole tI,.hole tI,.fn 54 .nil (.cons (.av (.prod ay (.list .bool))) (.cons (.av (.prod ay (.list .bool))) .nil)),.fn 55 .nil (.cons (.aJ (.cons (.fn0 22) .nil)) (.cons (.av (.prod ay (.list .bool))) (.cons (.av (.prod ay (.list .bool))) .nil)))] false),(1,.cells [.bA,.bA] false),(2,.cells [.mp 5] false),(3,.cells [.hole tI,.hole tI,.cu,.cu] false),(4,.cells [.mp 6] false),(5,.map (.prod tI tI) true tI false),(6,.map tI false (.prod tI tI) true)] [.slot 1,.slot 2,.slot 5,.slot 10,.slot 11,.cell 2 0,.cell 4 0] [])]
noncomputable def afQ:D prog 81 none 0:=dO [] (pick (kd prog f50) [(2,false)]) 0
noncomputable def g50_2:Nat×Int×Int×Int×Int×Int×((List (List Int))×List Bool)×((List (List Int))×List Bool)×((List (List Int))×List Bool)×((List (List Int))×List Bool)×Int×Int×(List (Int×Int))×(List ((Int×Int)×Int))×(List (Int×Int×Int))×Unit->bR ((Nat×Int×Int×Int×Int×Int×((List (List Int))×List Bool)×((List (List Int))×List Bool)×((List (List Int))×List Bool)×((List (List Int))×List Bool)×Int×Int×(List (Int×Int))×(List ((Int×Int)×Int))×(List (Int×Int×Int))×Unit) ⊕ ((Int×Int×Int×((List (List Int))×List Bool)×((List (List Int))×List Bool)×((List (List Int))×List Bool)×((List (List Int))×List Bool)×Int×Int×(List ((Int×Int)×Int))×(List (Int×Int×Int))×Unit))):=fun (Gj,v52,nC,bp,cq,bX,aH,aI,aC,aD,jC,zm,b5,m6,m7,_) =>
 .br (decide (nC<v52)) (
 .nb nC ((Gj:Nat):Int) <|
 .nd (decide (((0:Nat)+(Int.toNat nC))<(b5).length)) <|
 .br (!(bT (.int .i64) m7 (aN (.prod (.int .i64) (.int .i64)) (0:Int) m6 ((((((b5).getD ((0:Nat)+(Int.toNat nC)) ((0:Int),(0:Int))).1::(((b5).getD ((0:Nat)+(Int.toNat nC)) ((0:Int),(0:Int))).2::[]))).getD (0:Nat) (0:Int)),(((((b5).getD ((0:Nat)+(Int.toNat nC)) ((0:Int),(0:Int))).1::(((b5).getD ((0:Nat)+(Int.toNat nC)) ((0:Int),(0:Int))).2::[]))).getD (1:Nat) (0:Int)))))) (
 .ni (nC+(1:Int)) <|
 .ret (.inl (Gj,v52,(nC+(1:Int)),bp,cq,bX,(aH.1,aH.2),(aI.1,aI.2),(aC.1,aC.2),(aD.1,aD.2),jC,zm,b5,m6,(bh (.int .i64) m7 (aN (.prod (.int .i64) (.int .i64)) (0:Int) m6 ((((((b5).getD ((0:Nat)+(Int.toNat nC)) ((0:Int),(0:Int))).1::(((b5).getD ((0:Nat)+(Int.toNat nC)) ((0:Int),(0:Int))).2::[]))).getD (0:Nat) (0:Int)),(((((b5).getD ((0:Nat)+(Int.toNat nC)) ((0:Int),(0:Int))).1::(((b5).getD ((0:Nat)+(Int.toNat nC)) ((0:Int),(0:Int))).2::[]))).getD (1:Nat) (0:Int)))) ((((((b5).getD ((0:Nat)+(Int.toNat nC)) ((0:Int),(0:Int))).1::(((b5).getD ((0:Nat)+(Int.toNat nC)) ((0:Int),(0:Int))).2::[]))).getD (0:Nat) (0:Int)),(((((b5).getD ((0:Nat)+(Int.toNat nC)) ((0:Int),(0:Int))).1::(((b5).getD ((0:Nat)+(Int.toNat nC)) ((0:Int),(0:Int))).2::[]))).getD (1:Nat) (0:Int)))),()))) (
 .ni (nC+(1:Int)) <|
 .ret (.inl (Gj,v52,(nC+(1:Int)),bp,cq,bX,(aH.1,aH.2),(aI.1,aI.2),(aC.1,aC.2),(aD.1,aD.2),jC,zm,b5,m6,m7,())))) (
 .ret (.inr (bp,cq,bX,(aH.1,aH.2),(aI.1,aI.2),(aC.1,aC.2),(aD.1,aD.2),jC,zm,m6,m7,())))
noncomputable def afR:bK prog 81 none 0:=bu mixed Qz sF [] rfl afO afP rfl (afQ) (fun x=>ag (g50_2 x)) (fun x=>by kernel_rfl)
noncomputable def dd50:D prog 81 none 0:=dO [.r afJ,.l afN,.l afR] (kd prog f50) 0
noncomputable def F50 (dg:Int) (sA:Int) (iu:Int) (dP:(List (List Int))×List Bool) (dQ:(List (List Int))×List Bool) (dR:(List (List Int))×List Bool) (dS:(List (List Int))×List Bool):bR (((List (List Int))×List Bool)×List (List Int)×Unit) :=
 .bd (F56 dg sA iu (dP.1,dP.2) (dQ.1,dQ.2) (dR.1,dR.2) (dS.1,dS.2)) fun y0 =>
 .bd (g50_0 (y0.1,y0.2.1,y0.2.2.1,(y0.2.2.2.1.1,y0.2.2.2.1.2),(y0.2.2.2.2.1.1,y0.2.2.2.2.1.2),(y0.2.2.2.2.2.1.1,y0.2.2.2.2.2.1.2),(y0.2.2.2.2.2.2.1.1,y0.2.2.2.2.2.2.1.2),dg,sA,iu,(dP.1,dP.2),(dQ.1,dQ.2),(dR.1,dR.2),(dS.1,dS.2),[],())) fun z8 =>
 .bd (.it g50_1 ((0:Int),z8.1,z8.2.1,z8.2.2.1,(z8.2.2.2.1.1,z8.2.2.2.1.2),(z8.2.2.2.2.1.1,z8.2.2.2.2.1.2),(z8.2.2.2.2.2.1.1,z8.2.2.2.2.2.1.2),(z8.2.2.2.2.2.2.1.1,z8.2.2.2.2.2.2.1.2),z8.2.2.2.2.2.2.2.1,z8.2.2.2.2.2.2.2.2.1,z8.2.2.2.2.2.2.2.2.2.1,())) fun eU =>
 .bd (.it g50_2 (eU.2.2.2.2.2.2.2.1,((eU.2.2.2.2.2.2.2.1:Nat):Int),(0:Int),eU.1,eU.2.1,eU.2.2.1,(eU.2.2.2.1.1,eU.2.2.2.1.2),(eU.2.2.2.2.1.1,eU.2.2.2.2.1.2),(eU.2.2.2.2.2.1.1,eU.2.2.2.2.2.1.2),(eU.2.2.2.2.2.2.1.1,eU.2.2.2.2.2.2.1.2),eU.1,(aN (.prod (.int .i64) (.int .i64)) (0:Int) eU.2.2.2.2.2.2.2.2.2.1 (eU.2.1,eU.2.2.1)),eU.2.2.2.2.2.2.2.2.1,eU.2.2.2.2.2.2.2.2.2.1,[],())) fun mR =>
 .bd (FH80 mR.2.2.2.2.2.2.2.1 mR.2.2.2.2.2.2.2.2.1 mR.1 mR.2.1 mR.2.2.1 (mR.2.2.2.1.1,mR.2.2.2.1.2) (mR.2.2.2.2.1.1,mR.2.2.2.2.1.2) (mR.2.2.2.2.2.1.1,mR.2.2.2.2.2.1.2) (mR.2.2.2.2.2.2.1.1,mR.2.2.2.2.2.2.1.2) mR.2.2.2.2.2.2.2.2.2.1 mR.2.2.2.2.2.2.2.2.2.2.1) fun Gk =>
 .ret (((((Gk.2.2.2.1).drop (0:Nat)).take Gk.1),(((Gk.2.2.2.2.1).drop (0:Nat)).take Gk.2.1)),(((Gk.2.2.2.2.2.1).drop (0:Nat)).take Gk.2.2.1),())
theorem aax:cN prog f50=some ⟨81,1,dd50.er,[.cell 2 true 2,.t 3],[some (.prod ay (.list .bool)),some ay]⟩:=by kernel_rfl
noncomputable def ct50:Ct:=⟨50,[.agg [.hole tI,.hole tI,.hole tI,.fn 54 .nil (.cons (.av (.prod ay (.list .bool))) (.cons (.av (.prod ay (.list .bool))) .nil)),.fn 55 .nil (.cons (.aJ (.cons (.fn0 22) .nil)) (.cons (.av (.prod ay (.list .bool))) (.cons (.av (.prod ay (.list .bool))) .nil)))]],.cG [.hole (.prod ay (.list .bool)),.hole ay],fun x=>ag (F50 x.1 x.2.1 x.2.2.1 x.2.2.2.1 x.2.2.2.2.1 x.2.2.2.2.2.1 x.2.2.2.2.2.2.1)⟩
theorem Vp:ct50.Ok prog:=bn mixed sF func50 aax (ah func50 rfl rfl) dd50 (by kernel_rfl) rfl (fun x=>by kernel_rfl)

/- 21 -/
noncomputable def cx21:Cx:=(aV [UX,ct37,ct50] [])
theorem Vq:cx21.Ok prog:=au ⟨B5,UZ,Vp,trivial⟩ trivial
noncomputable def dd21:D prog 33 none 0:=dO [] (kd prog f21) 0
noncomputable def F21 (a0:(List (List Int))×List Bool) (a1:(List (List Int))×List Bool):bR (((List (List Int))×List Bool)×Int×Unit) :=
 .bd (F36 (a0.1,a0.2) (a1.1,a1.2)) fun y0 =>
 .br (!(y0.1==(0:Int))) (
 .ret (([],[]),y0.1,())) (
 .bd (F37 (a0.1,a0.2) (a1.1,a1.2) ((0:Int),(0:Int))) fun y1 =>
 .bd (F50 y1.1 y1.2.1 y1.2.2.1 (y1.2.2.2.1.1,y1.2.2.2.1.2) (y1.2.2.2.2.1.1,y1.2.2.2.2.1.2) (y1.2.2.2.2.2.1.1,y1.2.2.2.2.2.1.2) (y1.2.2.2.2.2.2.1.1,y1.2.2.2.2.2.2.1.2)) fun y2 =>
 .br (decide ((40:Int)<(((y2.1.1).length:Nat):Int))) (
 .ret (([],[]),(15:Int),())) (
 .ret ((y2.1.1,y2.1.2),(0:Int),())))
theorem aay:cN prog f21=some ⟨33,3,dd21.er,[.cell 6 true 2,.t 7],[some (.prod ay (.list .bool)),some tI]⟩:=by kernel_rfl
noncomputable def ct21:Ct:=⟨21,[.c (.hole (.prod ay (.list .bool))),.c (.hole (.prod ay (.list .bool))),.c (.fn0 22)],.cG [.hole (.prod ay (.list .bool)),.hole tI],fun x=>ag (F21 x.1 x.2.1)⟩
theorem Vr:ct21.Ok prog:=bn mixed Vq func21 aay (ah func21 rfl rfl) dd21 (by kernel_rfl) rfl (fun x=>by kernel_rfl)

/- 6 -/
noncomputable def cx6:Cx:=(aV [ct21] [])
theorem aaz:cx6.Ok prog:=au ⟨Vr,trivial⟩ trivial
noncomputable def dd6:D prog 11 none 0:=dO [] (kd prog f6) 0
noncomputable def F6 (a0:(List (List Int))×List Bool) (a1:(List (List Int))×List Bool):bR (((List (List Int))×List Bool)×Int×Unit) :=
 .bd (F21 (a0.1,a0.2) (a1.1,a1.2)) fun y0 =>
 .ret ((y0.1.1,y0.1.2),y0.2.1,())
theorem afW:cN prog f6=some ⟨11,2,dd6.er,[.cell 4 true 2,.t 5],[some (.prod ay (.list .bool)),some tI]⟩:=by kernel_rfl
noncomputable def ct6:Ct:=⟨6,[.c (.hole (.prod ay (.list .bool))),.c (.hole (.prod ay (.list .bool)))],.cG [.hole (.prod ay (.list .bool)),.hole tI],fun x=>ag (F6 x.1 x.2.1)⟩
theorem aaA:ct6.Ok prog:=bn mixed aaz func6 afW (ah func6 rfl rfl) dd6 (by kernel_rfl) rfl (fun x=>by kernel_rfl)

/- 37 -/
noncomputable def Vt:Cx:=(aV [FZ] [])
theorem Gl:Vt.Ok prog:=au ⟨pE,trivial⟩ trivial
noncomputable def Jp:D prog 15 none 0:=dO [] (kd prog f37) 0
noncomputable def F37_v1 (a0:(List (List Int))×List Bool) (a1:(List (List Int))×List Bool) (a2:Int×Int):bR (Int×Int×Int×((List (List Int))×List Bool)×((List (List Int))×List Bool)×((List (List Int))×List Bool)×((List (List Int))×List Bool)×Unit) :=
 .bd (F25 (a0.1,a0.2)) fun y0 =>
 .ret (y0.1,(((a2.1::(a2.2::[]))).getD (0:Nat) (0:Int)),(((a2.1::(a2.2::[]))).getD (1:Nat) (0:Int)),(a0.1,a0.2),(a1.1,a1.2),(a0.1,a0.2),(a1.1,a1.2),())
theorem Me:cN prog f37=some ⟨15,4,Jp.er,[.cell 8 true 5],[none]⟩:=by kernel_rfl
noncomputable def Jq:Ct:=⟨37,[.c (.hole (.prod ay (.list .bool))),.c (.hole (.prod ay (.list .bool))),.c (.hole (.prod tI tI)),.c (.fn0 23)],.agg [.hole tI,.hole tI,.hole tI,.fn 54 .nil (.cons (.av (.prod ay (.list .bool))) (.cons (.av (.prod ay (.list .bool))) .nil)),.fn 55 .nil (.cons (.aJ (.cons (.fn0 23) .nil)) (.cons (.av (.prod ay (.list .bool))) (.cons (.av (.prod ay (.list .bool))) .nil)))],fun x=>ag (F37_v1 x.1 x.2.1 x.2.2.1)⟩
theorem Gm:Jq.Ok prog:=bn mixed Gl func37 Me (ah func37 rfl rfl) Jp (by kernel_rfl) rfl (fun x=>by kernel_rfl)

/- 56 -/
noncomputable def Vu:Cx:=(aV [] [])
theorem Gn:Vu.Ok prog:=au trivial trivial
noncomputable def Jr:D prog 4 none 0:=dO [] (kd prog f56) 0
noncomputable def F56_v1 (dg:Int) (sA:Int) (iu:Int) (dP:(List (List Int))×List Bool) (dQ:(List (List Int))×List Bool) (dR:(List (List Int))×List Bool) (dS:(List (List Int))×List Bool):bR (Int×Int×Int×((List (List Int))×List Bool)×((List (List Int))×List Bool)×((List (List Int))×List Bool)×((List (List Int))×List Bool)×Unit) :=
 .ret (dg,sA,iu,(dP.1,dP.2),(dQ.1,dQ.2),(dR.1,dR.2),(dS.1,dS.2),())
theorem Mf:cN prog f56=some ⟨4,1,Jr.er,[.t 2],[none]⟩:=by kernel_rfl
noncomputable def Js:Ct:=⟨56,[.agg [.hole tI,.hole tI,.hole tI,.fn 54 .nil (.cons (.av (.prod ay (.list .bool))) (.cons (.av (.prod ay (.list .bool))) .nil)),.fn 55 .nil (.cons (.aJ (.cons (.fn0 23) .nil)) (.cons (.av (.prod ay (.list .bool))) (.cons (.av (.prod ay (.list .bool))) .nil)))]],.fn 81 [] [.aJ (.cons (.hole tI) (.cons (.hole tI) (.cons (.hole tI) (.cons (.fn 54 .nil (.cons (.av (.prod ay (.list .bool))) (.cons (.av (.prod ay (.list .bool))) .nil))) (.cons (.fn 55 .nil (.cons (.aJ (.cons (.fn0 23) .nil)) (.cons (.av (.prod ay (.list .bool))) (.cons (.av (.prod ay (.list .bool))) .nil)))) .nil)))))],fun x=>ag (F56_v1 x.1 x.2.1 x.2.2.1 x.2.2.2.1 x.2.2.2.2.1 x.2.2.2.2.2.1 x.2.2.2.2.2.2.1)⟩
theorem Gp:Js.Ok prog:=bn mixed Gn func56 Mf (ah func56 rfl rfl) Jr (by kernel_rfl) rfl (fun x=>by kernel_rfl)

/- 23 -/
noncomputable def cx23:Cx:=(aV [] [])
theorem Vv:cx23.Ok prog:=au trivial trivial
noncomputable def dd23:D prog 9 none 0:=dO [] (kd prog f23) 0
noncomputable def F23 (a0:Bool) (a1:Bool):bR (Bool×Unit) :=
 .br a0 (
 .ret (true,())) (
 .ret (a1,()))
theorem aaB:cN prog f23=some ⟨9,2,dd23.er,[.t 4],[some .bool]⟩:=by kernel_rfl
noncomputable def ct23:Ct:=⟨23,[.c (.hole .bool),.c (.hole .bool)],.c (.hole .bool),fun x=>ag (F23 x.1 x.2.1)⟩
theorem Vx:ct23.Ok prog:=bn mixed Vv func23 aaB (ah func23 rfl rfl) dd23 (by kernel_rfl) rfl (fun x=>by kernel_rfl)

/- 55 -/
noncomputable def Vy:Cx:=(aV [ct23] [])
theorem Gq:Vy.Ok prog:=au ⟨Vx,trivial⟩ trivial
noncomputable def Jt:D prog 20 none 0:=dO [] (kd prog f55) 0
noncomputable def F55_v1 (a0:Int×Int) (a2:(List (List Int))×List Bool) (a3:(List (List Int))×List Bool):bR (Bool×Unit) :=
 .nd (decide ((0:Nat)<((a0.1::(a0.2::[]))).length)) <|
 .nb (((a0.1::(a0.2::[]))).getD (0:Nat) (0:Int)) (((a2.2).length:Nat):Int) <|
 .nd (decide ((1:Nat)<((a0.1::(a0.2::[]))).length)) <|
 .nb (((a0.1::(a0.2::[]))).getD (1:Nat) (0:Int)) (((a3.2).length:Nat):Int) <|
 .bd (F23 ((a2.2).getD (Int.toNat (((a0.1::(a0.2::[]))).getD (0:Nat) (0:Int))) false) ((a3.2).getD (Int.toNat (((a0.1::(a0.2::[]))).getD (1:Nat) (0:Int))) false)) fun y0 =>
 .ret (y0.1,())
theorem Mg:cN prog f55=some ⟨20,4,Jt.er,[.t 5],[some .bool]⟩:=by kernel_rfl
noncomputable def B8:Ct:=⟨55,[.c (.hole (.prod tI tI)),.c (.aJ (.cons (.fn0 23) .nil)),.c (.av (.prod ay (.list .bool))),.c (.av (.prod ay (.list .bool)))],.c (.hole .bool),fun x=>ag (F55_v1 x.1 x.2.1 x.2.2.1)⟩
theorem yq:B8.Ok prog:=bn mixed Gq func55 Mg (ah func55 rfl rfl) Jt (by kernel_rfl) rfl (fun x=>by kernel_rfl)

/- 99, lent -/
@[reducible] def Vz:aG:=aG.mk [(0,.agg [.hole tI,.hole tI,.fn 78 .nil (.cons (.ptr 0 0) (.cons (.ptr 1 0) (.cons (.ptr 2 0) .nil))),.fn 79 .nil (.cons (.ptr 1 0) (.cons (.ptr 2 0) .nil))])] [(0,.cells [.mp 3] false),(1,.cells [.hole tI,.hole tI,.hole tI,.fn 54 .nil (.cons (.av (.prod ay (.list .bool))) (.cons (.av (.prod ay (.list .bool))) .nil)),.fn 55 .nil (.cons (.aJ (.cons (.fn0 23) .nil)) (.cons (.av (.prod ay (.list .bool))) (.cons (.av (.prod ay (.list .bool))) .nil)))] false),(2,.cells [.mp 4] false),(3,.map (.prod tI tI) true tI false),(4,.map tI false (.prod tI tI) true)] [.part 0 1002,.part 0 2002,.part 0 3002,.cell 0 0,.cell 2 0] []
@[reducible] def VA:aG:=aG.mk [(0,.fn 112 [] [.ptr 5 0])] [(5,.cells [.hole tI,.hole tI,.fn 78 .nil (.cons (.ptr 0 0) (.cons (.ptr 1 0) (.cons (.ptr 2 0) .nil))),.fn 79 .nil (.cons (.ptr 1 0) (.cons (.ptr 2 0) .nil))] false),(0,.cells [.mp 3] false),(3,.map (.prod tI tI) true tI false),(1,.cells [.hole tI,.hole tI,.hole tI,.fn 54 .nil (.cons (.av (.prod ay (.list .bool))) (.cons (.av (.prod ay (.list .bool))) .nil)),.fn 55 .nil (.cons (.aJ (.cons (.fn0 23) .nil)) (.cons (.av (.prod ay (.list .bool))) (.cons (.av (.prod ay (.list .bool))) .nil)))] false),(2,.cells [.mp 4] false),(4,.map tI false (.prod tI tI) true)] [.part 0 0] []
noncomputable def QL:Cx:=(aV [] [])
theorem Ei:QL.Ok prog:=au trivial trivial
noncomputable def Ej:D prog 4 none 5:=dO [] (kd prog f99) 0
noncomputable def FH99_v1 (uo:Int) (uq:Int) (bN:Int) (dK:Int) (dX:Int) (aP:(List (List Int))×List Bool) (aQ:(List (List Int))×List Bool) (aT:(List (List Int))×List Bool) (aU:(List (List Int))×List Bool) (m3:List ((Int×Int)×Int)) (m4:List (Int×Int×Int)):bR (Int×Int×(List ((Int×Int)×Int))×Int×Int×Int×((List (List Int))×List Bool)×((List (List Int))×List Bool)×((List (List Int))×List Bool)×((List (List Int))×List Bool)×(List (Int×Int×Int))×Unit) :=
 .ret (uo,uq,m3,bN,dK,dX,(aP.1,aP.2),(aQ.1,aQ.2),(aT.1,aT.2),(aU.1,aU.2),m4,())
theorem Gr:cN prog f99=some ⟨4,1,Ej.er,[.t 2],[none]⟩:=by kernel_rfl
noncomputable def Ju:Ht:=⟨99,Vz,VA,(fun x=>ag (FH99_v1 x.1 x.2.1 x.2.2.1 x.2.2.2.1 x.2.2.2.2.1 x.2.2.2.2.2.1 x.2.2.2.2.2.2.1 x.2.2.2.2.2.2.2.1 x.2.2.2.2.2.2.2.2.1 x.2.2.2.2.2.2.2.2.2.1 x.2.2.2.2.2.2.2.2.2.2.1))⟩
theorem Gs:Ju.Ok prog:=lu mixed Ei rfl func99 Gr (ah func99 rfl rfl) Ej (by kernel_rfl) rfl rfl ⟨_,rfl⟩ rfl (pre:=[0,1,2,3,4]) rfl (fun x=>by kernel_rfl)

/- 78, lent -/
@[reducible] def Jv:aG:=aG.mk [(0,hI),(1,hI),(2,.c (.ptr 0 0)),(3,.c (.ptr 1 0)),(4,.c (.ptr 2 0))] [(0,.cells [.mp 3] false),(1,.cells [.hole tI,.hole tI,.hole tI,.fn 54 .nil (.cons (.av (.prod ay (.list .bool))) (.cons (.av (.prod ay (.list .bool))) .nil)),.fn 55 .nil (.cons (.aJ (.cons (.fn0 23) .nil)) (.cons (.av (.prod ay (.list .bool))) (.cons (.av (.prod ay (.list .bool))) .nil)))] false),(2,.cells [.mp 4] false),(3,.map (.prod tI tI) true tI false),(4,.map tI false (.prod tI tI) true)] [.slot 2,.slot 3,.slot 4,.cell 0 0,.cell 2 0] []
@[reducible] def VB:aG:=aG.mk [(0,hI)] [(0,.cells [.mp 3] false),(3,.map (.prod tI tI) true tI false),(1,.cells [.hole tI,.hole tI,.hole tI,.fn 54 .nil (.cons (.av (.prod ay (.list .bool))) (.cons (.av (.prod ay (.list .bool))) .nil)),.fn 55 .nil (.cons (.aJ (.cons (.fn0 23) .nil)) (.cons (.av (.prod ay (.list .bool))) (.cons (.av (.prod ay (.list .bool))) .nil)))] false),(2,.cells [.mp 4] false),(4,.map tI false (.prod tI tI) true)] [] []
noncomputable def QM:Cx:=(aV [Ef] [])
theorem Ek:QM.Ok prog:=au ⟨nA,trivial⟩ trivial
noncomputable def El:D prog 17 none 5:=dO [] (kd prog f78) 0
noncomputable def FH78_v1 (v0:Int) (v1:Int) (bN:Int) (dK:Int) (dX:Int) (aP:(List (List Int))×List Bool) (aQ:(List (List Int))×List Bool) (aT:(List (List Int))×List Bool) (aU:(List (List Int))×List Bool) (m3:List ((Int×Int)×Int)) (m4:List (Int×Int×Int)):bR (Int×(List ((Int×Int)×Int))×Int×Int×Int×((List (List Int))×List Bool)×((List (List Int))×List Bool)×((List (List Int))×List Bool)×((List (List Int))×List Bool)×(List (Int×Int×Int))×Unit) :=
 .bd (F54 ((aN (.int .i64) ((0:Int),(0:Int)) m4 v0).1,(aN (.int .i64) ((0:Int),(0:Int)) m4 v0).2) v1 (aP.1,aP.2) (aQ.1,aQ.2)) fun y0 =>
 .ret ((aN (.prod (.int .i64) (.int .i64)) (0:Int) m3 (y0.1.1,y0.1.2)),m3,bN,dK,dX,(aP.1,aP.2),(aQ.1,aQ.2),(aT.1,aT.2),(aU.1,aU.2),m4,())
theorem Gu:cN prog f78=some ⟨17,5,El.er,[.t 7],[some tI]⟩:=by kernel_rfl
noncomputable def Jw:Ht:=⟨78,Jv,VB,(fun x=>ag (FH78_v1 x.1 x.2.1 x.2.2.1 x.2.2.2.1 x.2.2.2.2.1 x.2.2.2.2.2.1 x.2.2.2.2.2.2.1 x.2.2.2.2.2.2.2.1 x.2.2.2.2.2.2.2.2.1 x.2.2.2.2.2.2.2.2.2.1 x.2.2.2.2.2.2.2.2.2.2.1))⟩
theorem yu:Jw.Ok prog:=lu mixed Ek rfl func78 Gu (ah func78 rfl rfl) El (by kernel_rfl) rfl rfl ⟨_,rfl⟩ rfl (pre:=[0,1,2,3,4]) rfl (fun x=>by kernel_rfl)

/- 79, lent -/
@[reducible] def Jx:aG:=aG.mk [(0,hI),(1,.c (.ptr 0 0)),(2,.c (.ptr 1 0))] [(0,.cells [.hole tI,.hole tI,.hole tI,.fn 54 .nil (.cons (.av (.prod ay (.list .bool))) (.cons (.av (.prod ay (.list .bool))) .nil)),.fn 55 .nil (.cons (.aJ (.cons (.fn0 23) .nil)) (.cons (.av (.prod ay (.list .bool))) (.cons (.av (.prod ay (.list .bool))) .nil)))] false),(1,.cells [.mp 2] false),(2,.map tI false (.prod tI tI) true)] [.slot 1,.slot 2,.cell 1 0] []
@[reducible] def VC:aG:=aG.mk [(0,.c (.hole .bool))] [(0,.cells [.hole tI,.hole tI,.hole tI,.fn 54 .nil (.cons (.av (.prod ay (.list .bool))) (.cons (.av (.prod ay (.list .bool))) .nil)),.fn 55 .nil (.cons (.aJ (.cons (.fn0 23) .nil)) (.cons (.av (.prod ay (.list .bool))) (.cons (.av (.prod ay (.list .bool))) .nil)))] false),(1,.cells [.mp 2] false),(2,.map tI false (.prod tI tI) true)] [] []
noncomputable def QN:Cx:=(aV [B8] [])
theorem Em:QN.Ok prog:=au ⟨yq,trivial⟩ trivial
noncomputable def Eo:D prog 11 none 3:=dO [] (kd prog f79) 0
noncomputable def FH79_v1 (v0:Int) (bp:Int) (cq:Int) (bX:Int) (aH:(List (List Int))×List Bool) (aI:(List (List Int))×List Bool) (aC:(List (List Int))×List Bool) (aD:(List (List Int))×List Bool) (m2:List (Int×Int×Int)):bR (Bool×Int×Int×Int×((List (List Int))×List Bool)×((List (List Int))×List Bool)×((List (List Int))×List Bool)×((List (List Int))×List Bool)×(List (Int×Int×Int))×Unit) :=
 .bd (F55_v1 ((aN (.int .i64) ((0:Int),(0:Int)) m2 v0).1,(aN (.int .i64) ((0:Int),(0:Int)) m2 v0).2) (aC.1,aC.2) (aD.1,aD.2)) fun y0 =>
 .ret (y0.1,bp,cq,bX,(aH.1,aH.2),(aI.1,aI.2),(aC.1,aC.2),(aD.1,aD.2),m2,())
theorem Gv:cN prog f79=some ⟨11,3,Eo.er,[.t 4],[some .bool]⟩:=by kernel_rfl
noncomputable def VD:Ht:=⟨79,Jx,VC,(fun x=>ag (FH79_v1 x.1 x.2.1 x.2.2.1 x.2.2.2.1 x.2.2.2.2.1 x.2.2.2.2.2.1 x.2.2.2.2.2.2.1 x.2.2.2.2.2.2.2.1 x.2.2.2.2.2.2.2.2.1))⟩
theorem Gw:VD.Ok prog:=lu mixed Em rfl func79 Gv (ah func79 rfl rfl) Eo (by kernel_rfl) rfl rfl ⟨_,rfl⟩ rfl (pre:=[0,1,2]) rfl (fun x=>by kernel_rfl)

/- 78, drawn -/
@[reducible] def VE:aG:=aG.mk [(0,hI)] [] [] []
noncomputable def vK (v0:Int) (v1:Int) (bN:Int) (dK:Int) (dX:Int) (aP:(List (List Int))×List Bool) (aQ:(List (List Int))×List Bool) (aT:(List (List Int))×List Bool) (aU:(List (List Int))×List Bool) (m3:List ((Int×Int)×Int)) (m4:List (Int×Int×Int)):bR (Int×Unit) :=
 .bd (FH78_v1 v0 v1 bN dK dX aP aQ aT aU m3 m4) fun y =>
 .ret (y.1,())
noncomputable def Jy:Gt:=⟨78,Jv,VE,(fun x=>ag (vK x.1 x.2.1 x.2.2.1 x.2.2.2.1 x.2.2.2.2.1 x.2.2.2.2.2.1 x.2.2.2.2.2.2.1 x.2.2.2.2.2.2.2.1 x.2.2.2.2.2.2.2.2.1 x.2.2.2.2.2.2.2.2.2.1 x.2.2.2.2.2.2.2.2.2.2.1))⟩
theorem Gx:Jy.Ok prog:=Gt.reads yu rfl rfl (fun x y' h=>by
  obtain ⟨y,h1,h2⟩:=dx (show cZ (ag (FH78_v1 x.1 x.2.1 x.2.2.1 x.2.2.2.1 x.2.2.2.2.1 x.2.2.2.2.2.1 x.2.2.2.2.2.2.1 x.2.2.2.2.2.2.2.1 x.2.2.2.2.2.2.2.2.1 x.2.2.2.2.2.2.2.2.2.1 x.2.2.2.2.2.2.2.2.2.2.1)) (fun y=>some (y.1,()))=some y' from h)
  have h3:=h1
  obtain ⟨z,_,h4⟩:=dx (show cZ (ag _) _=some y from h3)
  cases h4
  cases h2
  refine ⟨_,h1,rfl,fun id=>?_,rfl⟩
  show aq id [(0,_),(1,_),(2,_),(3,_),(4,_)]=aq id [(0,_),(3,_),(1,_),(2,_),(4,_)]
  simp only [aY]
  by_cases e0:0=id
  · subst e0;rfl
  by_cases e1:1=id
  · subst e1;rfl
  by_cases e2:2=id
  · subst e2;rfl
  by_cases e3:3=id
  · subst e3;rfl
  by_cases e4:4=id
  · subst e4;rfl
  simp [e0,e1,e2,e3,e4])

/- 79, drawn -/
@[reducible] def VF:aG:=aG.mk [(0,.c (.hole .bool))] [] [] []
noncomputable def vL (v0:Int) (bp:Int) (cq:Int) (bX:Int) (aH:(List (List Int))×List Bool) (aI:(List (List Int))×List Bool) (aC:(List (List Int))×List Bool) (aD:(List (List Int))×List Bool) (m2:List (Int×Int×Int)):bR (Bool×Unit) :=
 .bd (FH79_v1 v0 bp cq bX aH aI aC aD m2) fun y =>
 .ret (y.1,())
noncomputable def Jz:Gt:=⟨79,Jx,VF,(fun x=>ag (vL x.1 x.2.1 x.2.2.1 x.2.2.2.1 x.2.2.2.2.1 x.2.2.2.2.2.1 x.2.2.2.2.2.2.1 x.2.2.2.2.2.2.2.1 x.2.2.2.2.2.2.2.2.1))⟩
theorem Gy:Jz.Ok prog:=Gt.reads Gw rfl rfl (fun x y' h=>by
  obtain ⟨y,h1,h2⟩:=dx (show cZ (ag (FH79_v1 x.1 x.2.1 x.2.2.1 x.2.2.2.1 x.2.2.2.2.1 x.2.2.2.2.2.1 x.2.2.2.2.2.2.1 x.2.2.2.2.2.2.2.1 x.2.2.2.2.2.2.2.2.1)) (fun y=>some (y.1,()))=some y' from h)
  have h3:=h1
  obtain ⟨z,_,h4⟩:=dx (show cZ (ag _) _=some y from h3)
  cases h4
  cases h2
  refine ⟨_,h1,rfl,fun id=>?_,rfl⟩
  show aq id [(0,_),(1,_),(2,_)]=aq id [(0,_),(1,_),(2,_)]
  simp only [aY]
  by_cases e0:0=id
  · subst e0;rfl
  by_cases e1:1=id
  · subst e1;rfl
  by_cases e2:2=id
  · subst e2;rfl
  simp [e0,e1,e2])

/- 80, lent -/
@[reducible] def VG:aG:=aG.mk [(0,.agg [.hole tI,.hole tI,.fn 78 .nil (.cons (.ptr 0 0) (.cons (.ptr 1 0) (.cons (.ptr 2 0) .nil))),.fn 79 .nil (.cons (.ptr 1 0) (.cons (.ptr 2 0) .nil))])] [(0,.cells [.mp 3] false),(1,.cells [.hole tI,.hole tI,.hole tI,.fn 54 .nil (.cons (.av (.prod ay (.list .bool))) (.cons (.av (.prod ay (.list .bool))) .nil)),.fn 55 .nil (.cons (.aJ (.cons (.fn0 23) .nil)) (.cons (.av (.prod ay (.list .bool))) (.cons (.av (.prod ay (.list .bool))) .nil)))] false),(2,.cells [.mp 4] false),(3,.map (.prod tI tI) true tI false),(4,.map tI false (.prod tI tI) true)] [.part 0 1002,.part 0 2002,.part 0 3002,.cell 0 0,.cell 2 0] []
@[reducible] def VH:aG:=aG.mk [(0,.cG [.zf (.cons (.cg 5 tL) (.cons (.cg 6 .bool) .nil)),.cg 7 tL])] [(5,.arr tL false),(6,.arr .bool false),(7,.arr tL false),(0,.cells [.mp 3] false),(3,.map (.prod tI tI) true tI false),(1,.cells [.hole tI,.hole tI,.hole tI,.fn 54 .nil (.cons (.av (.prod ay (.list .bool))) (.cons (.av (.prod ay (.list .bool))) .nil)),.fn 55 .nil (.cons (.aJ (.cons (.fn0 23) .nil)) (.cons (.av (.prod ay (.list .bool))) (.cons (.av (.prod ay (.list .bool))) .nil)))] false),(2,.cells [.mp 4] false),(4,.map tI false (.prod tI tI) true)] [.part 0 1000,.part 0 2000,.part 0 1] []
noncomputable def oP:Cx:=(Pk [LQ,LS] [Ju,Jw] [Jy,Jz])
theorem jD:oP.Ok prog:=DU ⟨sB,sC,trivial⟩ ⟨⟨Gs,rfl⟩,⟨yu,rfl⟩,trivial⟩ ⟨⟨Gx,rfl⟩,⟨Gy,rfl⟩,trivial⟩
noncomputable def yw:D prog 69 (some 13) 26:=dO [] (pick (kd prog f80) [(0,false)]) 0
noncomputable def yx:D prog 69 (some 13) 26:=dO [] (pick (kd prog f80) [(0,true)]) 0
noncomputable def lD:Cx:=tT oP (fun kz=>Il kz oP bW 13 26 [15,16] (yw) (yx))
theorem kK:(lD).Ok prog:=gQ jD (fun h=>jI mixed jD h)
@[reducible] def B9:aG:=aG.mk [(0,.c (.yl 13)),(1,.c (.ptr 10 0)),(3,.c (.mp 14)),(4,.c (.Aa 15 (.prod tI tL))),(5,.c (.ptr 16 0)),(33,hI),(34,hI)] [(13,.loop .ready none 12 [(1,.c (.ptr 5 0)),(2,.c (.ptr 6 0)),(3,.c (.ptr 7 0)),(4,.c (.ptr 8 0)),(5,.c (.ptr 9 0)),(14,.fn 112 [] [.ptr 10 0])] [15,16] (.seq (.cF [.op (some 6) none (.mv (.t 15))]) (.cF [.op (some 7) none (.mv (.t 16))])) (.block 1 (.seq (.cF [.op (some 17) none (.load false 1 (.t 4)),.op (some 18) none (.mv (.t 6)),.op (some 19) none (.load false 1 (.t 5)),.op (some 20) none (.len (.t 19)),.op none none (.ex (kQ.fM tI false tI false) [.t 17,.t 18,.t 20])]) (.draw [[],[],[1],[0,1,2],[],[],[5],[0,1,2,3,4,5,6],[0,1,2,3,4,5,6,7],[0,1,2,3,4,5,6,7,8]] [.op (some 21) none (.load false 1 (.t 5)),.op (some 22) none (.mv (.t 6)),.op (some 23) none (.bI tI [.t 22]),.op (some 24) none (.append 1 (.t 21) (.t 23)),.op (some 25) none (.load false 1 (.t 3)),.op (some 26) none (.mv (.t 7)),.op (some 27) none (.bI tL [.t 26]),.op (some 28) none (.append 1 (.t 25) (.t 27)),.op none none (.store 1 (.t 5) (.t 24)),.op none none (.store 1 (.t 3) (.t 28))]))) 69),(10,.cells [.hole tI,.hole tI,.fn 78 .nil (.cons (.ptr 0 0) (.cons (.ptr 1 0) (.cons (.ptr 2 0) .nil))),.fn 79 .nil (.cons (.ptr 1 0) (.cons (.ptr 2 0) .nil))] false),(14,.map tI false .bool false),(15,.arr (.prod tI tL) false),(16,.cells [.hole tI,.hole tL] false),(12,.fC),(5,.cells [.hole tI,.hole tI,.fn 78 .nil (.cons (.ptr 0 0) (.cons (.ptr 1 0) (.cons (.ptr 2 0) .nil))),.fn 79 .nil (.cons (.ptr 1 0) (.cons (.ptr 2 0) .nil))] false),(0,.cells [.mp 3] false),(3,.map (.prod tI tI) true tI false),(1,.cells [.hole tI,.hole tI,.hole tI,.fn 54 .nil (.cons (.av (.prod ay (.list .bool))) (.cons (.av (.prod ay (.list .bool))) .nil)),.fn 55 .nil (.cons (.aJ (.cons (.fn0 23) .nil)) (.cons (.av (.prod ay (.list .bool))) (.cons (.av (.prod ay (.list .bool))) .nil)))] false),(2,.cells [.mp 4] false),(4,.map tI false (.prod tI tI) true),(6,.cells [.bA,.bA] false),(7,.cells [.cg 17 tL] false),(8,.cells [.mp 18] false),(9,.cells [.cg 19 tI] false),(17,.arr tL false),(18,.map tI false tI false),(19,.arr tI false)] [.slot 3,.slot 4,.slot 5,.cell 7 0,.cell 8 0,.cell 9 0] []
@[reducible] def Ca:bt:=[(.exit 2,aG.mk [(0,.c (.yl 13)),(1,.c (.ptr 10 0)),(3,.c (.mp 14)),(4,.c (.Aa 15 (.prod tI tL)))] [(13,.loop .ready none 12 [(1,.c (.ptr 5 0)),(2,.c (.ptr 6 0)),(3,.c (.ptr 7 0)),(4,.c (.ptr 8 0)),(5,.c (.ptr 9 0)),(14,.fn 112 [] [.ptr 10 0])] [15,16] (.seq (.cF [.op (some 6) none (.mv (.t 15))]) (.cF [.op (some 7) none (.mv (.t 16))])) (.block 1 (.seq (.cF [.op (some 17) none (.load false 1 (.t 4)),.op (some 18) none (.mv (.t 6)),.op (some 19) none (.load false 1 (.t 5)),.op (some 20) none (.len (.t 19)),.op none none (.ex (kQ.fM tI false tI false) [.t 17,.t 18,.t 20])]) (.draw [[],[],[1],[0,1,2],[],[],[5],[0,1,2,3,4,5,6],[0,1,2,3,4,5,6,7],[0,1,2,3,4,5,6,7,8]] [.op (some 21) none (.load false 1 (.t 5)),.op (some 22) none (.mv (.t 6)),.op (some 23) none (.bI tI [.t 22]),.op (some 24) none (.append 1 (.t 21) (.t 23)),.op (some 25) none (.load false 1 (.t 3)),.op (some 26) none (.mv (.t 7)),.op (some 27) none (.bI tL [.t 26]),.op (some 28) none (.append 1 (.t 25) (.t 27)),.op none none (.store 1 (.t 5) (.t 24)),.op none none (.store 1 (.t 3) (.t 28))]))) 69),(10,.cells [.hole tI,.hole tI,.fn 78 .nil (.cons (.ptr 0 0) (.cons (.ptr 1 0) (.cons (.ptr 2 0) .nil))),.fn 79 .nil (.cons (.ptr 1 0) (.cons (.ptr 2 0) .nil))] false),(14,.map tI false .bool false),(15,.arr (.prod tI tL) false),(12,.fC),(5,.cells [.hole tI,.hole tI,.fn 78 .nil (.cons (.ptr 0 0) (.cons (.ptr 1 0) (.cons (.ptr 2 0) .nil))),.fn 79 .nil (.cons (.ptr 1 0) (.cons (.ptr 2 0) .nil))] false),(0,.cells [.mp 3] false),(3,.map (.prod tI tI) true tI false),(1,.cells [.hole tI,.hole tI,.hole tI,.fn 54 .nil (.cons (.av (.prod ay (.list .bool))) (.cons (.av (.prod ay (.list .bool))) .nil)),.fn 55 .nil (.cons (.aJ (.cons (.fn0 23) .nil)) (.cons (.av (.prod ay (.list .bool))) (.cons (.av (.prod ay (.list .bool))) .nil)))] false),(2,.cells [.mp 4] false),(4,.map tI false (.prod tI tI) true),(6,.cells [.bA,.bA] false),(7,.cells [.cg 16 tL] false),(8,.cells [.mp 17] false),(9,.cells [.cg 18 tI] false),(16,.arr tL false),(17,.map tI false tI false),(18,.arr tI false)] [.slot 3,.slot 4,.cell 7 0,.cell 8 0,.cell 9 0] [])]
noncomputable def Cb:D prog 61 none 14:=dO [] (pick (kd prog f112) [(0,false),(0,false)]) 0
noncomputable def gH80_v1_0i_1:Nat×Nat×Int×Int×Int×Int×(List (Int×Bool))×(List (Int×List Int))×Int×List Int×Int×Int×(List ((Int×Int)×Int))×Int×Int×Int×((List (List Int))×List Bool)×((List (List Int))×List Bool)×((List (List Int))×List Bool)×((List (List Int))×List Bool)×(List (Int×Int×Int))×Nat×Nat×List (List Int)×(List (Int×Int))×List Int×Unit->bR ((Nat×Nat×Int×Int×Int×Int×(List (Int×Bool))×(List (Int×List Int))×Int×List Int×Int×Int×(List ((Int×Int)×Int))×Int×Int×Int×((List (List Int))×List Bool)×((List (List Int))×List Bool)×((List (List Int))×List Bool)×((List (List Int))×List Bool)×(List (Int×Int×Int))×Nat×Nat×List (List Int)×(List (Int×Int))×List Int×Unit) ⊕ ((Nat×Nat×Int×Int×(List (Int×Bool))×(List (Int×List Int))×Int×Int×(List ((Int×Int)×Int))×Int×Int×Int×((List (List Int))×List Bool)×((List (List Int))×List Bool)×((List (List Int))×List Bool)×((List (List Int))×List Bool)×(List (Int×Int×Int))×Nat×Nat×List (List Int)×(List (Int×Int))×List Int×Unit))):=fun (cI,jJ,uX,fL,iD,gL,vh,ur,yd,ye,iE,jd,m3,bN,dK,dX,aP,aQ,aT,aU,m4,eu,iF,lP,lQ,lR,_) =>
 .br (decide (fL<uX)) (
 .bd (FH78_v1 yd fL bN dK dX (aP.1,aP.2) (aQ.1,aQ.2) (aT.1,aT.2) (aU.1,aU.2) m3 m4) fun y2 =>
 .br (!(aN (.int .i64) false vh y2.1)) (
 .bd (F83 ye) fun y3 =>
 .nd (decide ((0:Nat)<(((((fL::[])).drop (0:Nat)).take (1:Nat))).length)) <|
 .nd (decide (((y3.1).length+(((((fL::[])).drop (0:Nat)).take (1:Nat))).length)<cz)) <|
 .nd (decide ((jJ+((((((y2.1,((((y3.1++((((fL::[])).drop (0:Nat)).take (1:Nat)))).drop (0:Nat)).take ((y3.1).length+(((((fL::[])).drop (0:Nat)).take (1:Nat))).length)))::[])).drop (0:Nat)).take (1:Nat))).length)<cz)) <|
 .ni (fL+(1:Int)) <|
 .ret (.inl ((0:Nat),(jJ+((((((y2.1,((((y3.1++((((fL::[])).drop (0:Nat)).take (1:Nat)))).drop (0:Nat)).take ((y3.1).length+(((((fL::[])).drop (0:Nat)).take (1:Nat))).length)))::[])).drop (0:Nat)).take (1:Nat))).length),uX,(fL+(1:Int)),iD,gL,(bh (.int .i64) vh y2.1 true),((((ur).drop cI).take jJ)++(((((y2.1,((((y3.1++((((fL::[])).drop (0:Nat)).take (1:Nat)))).drop (0:Nat)).take ((y3.1).length+(((((fL::[])).drop (0:Nat)).take (1:Nat))).length)))::[])).drop (0:Nat)).take (1:Nat))),yd,ye,iE,jd,y2.2.1,y2.2.2.1,y2.2.2.2.1,y2.2.2.2.2.1,(y2.2.2.2.2.2.1.1,y2.2.2.2.2.2.1.2),(y2.2.2.2.2.2.2.1.1,y2.2.2.2.2.2.2.1.2),(y2.2.2.2.2.2.2.2.1.1,y2.2.2.2.2.2.2.2.1.2),(y2.2.2.2.2.2.2.2.2.1.1,y2.2.2.2.2.2.2.2.2.1.2),y2.2.2.2.2.2.2.2.2.2.1,eu,iF,lP,lQ,lR,()))) (
 .ni (fL+(1:Int)) <|
 .ret (.inl (cI,jJ,uX,(fL+(1:Int)),iD,gL,vh,ur,yd,ye,iE,jd,y2.2.1,y2.2.2.1,y2.2.2.2.1,y2.2.2.2.2.1,(y2.2.2.2.2.2.1.1,y2.2.2.2.2.2.1.2),(y2.2.2.2.2.2.2.1.1,y2.2.2.2.2.2.2.1.2),(y2.2.2.2.2.2.2.2.1.1,y2.2.2.2.2.2.2.2.1.2),(y2.2.2.2.2.2.2.2.2.1.1,y2.2.2.2.2.2.2.2.2.1.2),y2.2.2.2.2.2.2.2.2.2.1,eu,iF,lP,lQ,lR,())))) (
 .ret (.inr (cI,jJ,iD,gL,vh,ur,iE,jd,m3,bN,dK,dX,(aP.1,aP.2),(aQ.1,aQ.2),(aT.1,aT.2),(aU.1,aU.2),m4,eu,iF,lP,lQ,lR,())))
noncomputable def Cc:bK prog 61 none 14:=bu mixed lD kK [0,1,2,3,4,5,6,7,8,9,10,11,12,13] rfl B9 Ca rfl (Cb) (fun x=>ag (gH80_v1_0i_1 x)) (fun x=>by kernel_rfl)
@[reducible] def Cd:aG:=aG.mk [(0,.c (.yl 13)),(1,.c (.ptr 10 0)),(3,.c (.mp 14)),(4,.c (.Aa 15 (.prod tI tL)))] [(13,.loop .ready none 12 [(1,.c (.ptr 5 0)),(2,.c (.ptr 6 0)),(3,.c (.ptr 7 0)),(4,.c (.ptr 8 0)),(5,.c (.ptr 9 0)),(14,.fn 112 [] [.ptr 10 0])] [15,16] (.seq (.cF [.op (some 6) none (.mv (.t 15))]) (.cF [.op (some 7) none (.mv (.t 16))])) (.block 1 (.seq (.cF [.op (some 17) none (.load false 1 (.t 4)),.op (some 18) none (.mv (.t 6)),.op (some 19) none (.load false 1 (.t 5)),.op (some 20) none (.len (.t 19)),.op none none (.ex (kQ.fM tI false tI false) [.t 17,.t 18,.t 20])]) (.draw [[],[],[1],[0,1,2],[],[],[5],[0,1,2,3,4,5,6],[0,1,2,3,4,5,6,7],[0,1,2,3,4,5,6,7,8]] [.op (some 21) none (.load false 1 (.t 5)),.op (some 22) none (.mv (.t 6)),.op (some 23) none (.bI tI [.t 22]),.op (some 24) none (.append 1 (.t 21) (.t 23)),.op (some 25) none (.load false 1 (.t 3)),.op (some 26) none (.mv (.t 7)),.op (some 27) none (.bI tL [.t 26]),.op (some 28) none (.append 1 (.t 25) (.t 27)),.op none none (.store 1 (.t 5) (.t 24)),.op none none (.store 1 (.t 3) (.t 28))]))) 69),(10,.cells [.hole tI,.hole tI,.fn 78 .nil (.cons (.ptr 0 0) (.cons (.ptr 1 0) (.cons (.ptr 2 0) .nil))),.fn 79 .nil (.cons (.ptr 1 0) (.cons (.ptr 2 0) .nil))] false),(14,.map tI false .bool false),(15,.arr (.prod tI tL) false),(12,.fC),(5,.cells [.hole tI,.hole tI,.fn 78 .nil (.cons (.ptr 0 0) (.cons (.ptr 1 0) (.cons (.ptr 2 0) .nil))),.fn 79 .nil (.cons (.ptr 1 0) (.cons (.ptr 2 0) .nil))] false),(0,.cells [.mp 3] false),(3,.map (.prod tI tI) true tI false),(1,.cells [.hole tI,.hole tI,.hole tI,.fn 54 .nil (.cons (.av (.prod ay (.list .bool))) (.cons (.av (.prod ay (.list .bool))) .nil)),.fn 55 .nil (.cons (.aJ (.cons (.fn0 23) .nil)) (.cons (.av (.prod ay (.list .bool))) (.cons (.av (.prod ay (.list .bool))) .nil)))] false),(2,.cells [.mp 4] false),(4,.map tI false (.prod tI tI) true),(6,.cells [.bA,.bA] false),(7,.cells [.cg 16 tL] false),(8,.cells [.mp 17] false),(9,.cells [.cg 18 tI] false),(16,.arr tL false),(17,.map tI false tI false),(18,.arr tI false)] [.slot 3,.slot 4,.cell 7 0,.cell 8 0,.cell 9 0] []
@[reducible] def Ce:bt:=[(.exit 0,aG.mk [] [(0,.cells [.mp 3] false),(3,.map (.prod tI tI) true tI false),(1,.cells [.hole tI,.hole tI,.hole tI,.fn 54 .nil (.cons (.av (.prod ay (.list .bool))) (.cons (.av (.prod ay (.list .bool))) .nil)),.fn 55 .nil (.cons (.aJ (.cons (.fn0 23) .nil)) (.cons (.av (.prod ay (.list .bool))) (.cons (.av (.prod ay (.list .bool))) .nil)))] false),(2,.cells [.mp 4] false),(4,.map tI false (.prod tI tI) true),(5,.cells [.hole tI,.hole tI,.fn 78 .nil (.cons (.ptr 0 0) (.cons (.ptr 1 0) (.cons (.ptr 2 0) .nil))),.fn 79 .nil (.cons (.ptr 1 0) (.cons (.ptr 2 0) .nil))] false),(6,.cells [.bA,.bA] false),(7,.cells [.cg 14 tL] false),(8,.cells [.mp 15] false),(9,.cells [.cg 16 tI] false),(10,.cells [.hole tI,.hole tI,.fn 78 .nil (.cons (.ptr 0 0) (.cons (.ptr 1 0) (.cons (.ptr 2 0) .nil))),.fn 79 .nil (.cons (.ptr 1 0) (.cons (.ptr 2 0) .nil))] false),(12,.fC),(13,.loop .ready none 12 [(1,.c (.ptr 5 0)),(2,.c (.ptr 6 0)),(3,.c (.ptr 7 0)),(4,.c (.ptr 8 0)),(5,.c (.ptr 9 0)),(14,.fn 112 [] [.ptr 10 0])] [15,16] (.seq (.cF [.op (some 6) none (.mv (.t 15))]) (.cF [.op (some 7) none (.mv (.t 16))])) (.block 1 (.seq (.cF [.op (some 17) none (.load false 1 (.t 4)),.op (some 18) none (.mv (.t 6)),.op (some 19) none (.load false 1 (.t 5)),.op (some 20) none (.len (.t 19)),.op none none (.ex (kQ.fM tI false tI false) [.t 17,.t 18,.t 20])]) (.draw [[],[],[1],[0,1,2],[],[],[5],[0,1,2,3,4,5,6],[0,1,2,3,4,5,6,7],[0,1,2,3,4,5,6,7,8]] [.op (some 21) none (.load false 1 (.t 5)),.op (some 22) none (.mv (.t 6)),.op (some 23) none (.bI tI [.t 22]),.op (some 24) none (.append 1 (.t 21) (.t 23)),.op (some 25) none (.load false 1 (.t 3)),.op (some 26) none (.mv (.t 7)),.op (some 27) none (.bI tL [.t 26]),.op (some 28) none (.append 1 (.t 25) (.t 27)),.op none none (.store 1 (.t 5) (.t 24)),.op none none (.store 1 (.t 3) (.t 28))]))) 69),(14,.arr tL false),(15,.map tI false tI false),(16,.arr tI false)] [.cell 7 0,.cell 8 0,.cell 9 0] [])]
noncomputable def Cf:D prog 61 none 14:=dO [.l Cc] (pick (kd prog f112) [(0,false)]) 0
noncomputable def gH80_v1_0i_0:Nat×Nat×Int×Int×(List (Int×Bool))×(List (Int×List Int))×Int×Int×(List ((Int×Int)×Int))×Int×Int×Int×((List (List Int))×List Bool)×((List (List Int))×List Bool)×((List (List Int))×List Bool)×((List (List Int))×List Bool)×(List (Int×Int×Int))×Nat×Nat×List (List Int)×(List (Int×Int))×List Int×Unit->bR ((Nat×Nat×Int×Int×(List (Int×Bool))×(List (Int×List Int))×Int×Int×(List ((Int×Int)×Int))×Int×Int×Int×((List (List Int))×List Bool)×((List (List Int))×List Bool)×((List (List Int))×List Bool)×((List (List Int))×List Bool)×(List (Int×Int×Int))×Nat×Nat×List (List Int)×(List (Int×Int))×List Int×Unit) ⊕ (((List ((Int×Int)×Int))×Int×Int×Int×((List (List Int))×List Bool)×((List (List Int))×List Bool)×((List (List Int))×List Bool)×((List (List Int))×List Bool)×(List (Int×Int×Int))×Int×Int×Nat×Nat×Int×Int×List (List Int)×(List (Int×Int))×List Int×Unit))):=fun (cI,jJ,iD,gL,vh,ur,iE,jd,m3,bN,dK,dX,aP,aQ,aT,aU,m4,eu,iF,iI,kU,Vi,_) =>
 .br (decide ((0:Int)<((jJ:Nat):Int))) (
 .nb (0:Int) ((jJ:Nat):Int) <|
 .nd (decide ((cI+(Int.toNat (0:Int)))<(ur).length)) <|
 .bd (F82 ((ur).getD (cI+(Int.toNat (0:Int))) ((0:Int),[])).2) fun y1 =>
 .nd (decide ((iF+(((((((ur).getD (cI+(Int.toNat (0:Int))) ((0:Int),[])).1::[])).drop (0:Nat)).take (1:Nat))).length)<cz)) <|
 .nd (decide ((eu+(((((y1.1::[])).drop (0:Nat)).take (1:Nat))).length)<cz)) <|
 .bd (.it gH80_v1_0i_1 (cI,jJ,iD,(0:Int),iD,gL,vh,ur,((ur).getD (cI+(Int.toNat (0:Int))) ((0:Int),[])).1,((ur).getD (cI+(Int.toNat (0:Int))) ((0:Int),[])).2,iE,jd,m3,bN,dK,dX,(aP.1,aP.2),(aQ.1,aQ.2),(aT.1,aT.2),(aU.1,aU.2),m4,(eu+(((((y1.1::[])).drop (0:Nat)).take (1:Nat))).length),(iF+(((((((ur).getD (cI+(Int.toNat (0:Int))) ((0:Int),[])).1::[])).drop (0:Nat)).take (1:Nat))).length),((((iI).drop (0:Nat)).take eu)++((((y1.1::[])).drop (0:Nat)).take (1:Nat))),(bh (.int .i64) kU ((ur).getD (cI+(Int.toNat (0:Int))) ((0:Int),[])).1 ((iF:Nat):Int)),((((Vi).drop (0:Nat)).take iF)++((((((ur).getD (cI+(Int.toNat (0:Int))) ((0:Int),[])).1::[])).drop (0:Nat)).take (1:Nat))),())) fun z4 =>
 .nd (decide ((0:Int)<=(1:Int))) <|
 .nd (decide ((1:Int)<=((z4.2.1:Nat):Int))) <|
 .nd (decide (((z4.2.1:Nat):Int)<=((z4.2.1:Nat):Int))) <|
 .ret (.inl ((z4.1+(Int.toNat (1:Int))),((Int.toNat ((z4.2.1:Nat):Int)) - (Int.toNat (1:Int))),z4.2.2.1,z4.2.2.2.1,z4.2.2.2.2.1,z4.2.2.2.2.2.1,z4.2.2.2.2.2.2.1,z4.2.2.2.2.2.2.2.1,z4.2.2.2.2.2.2.2.2.1,z4.2.2.2.2.2.2.2.2.2.1,z4.2.2.2.2.2.2.2.2.2.2.1,z4.2.2.2.2.2.2.2.2.2.2.2.1,(z4.2.2.2.2.2.2.2.2.2.2.2.2.1.1,z4.2.2.2.2.2.2.2.2.2.2.2.2.1.2),(z4.2.2.2.2.2.2.2.2.2.2.2.2.2.1.1,z4.2.2.2.2.2.2.2.2.2.2.2.2.2.1.2),(z4.2.2.2.2.2.2.2.2.2.2.2.2.2.2.1.1,z4.2.2.2.2.2.2.2.2.2.2.2.2.2.2.1.2),(z4.2.2.2.2.2.2.2.2.2.2.2.2.2.2.2.1.1,z4.2.2.2.2.2.2.2.2.2.2.2.2.2.2.2.1.2),z4.2.2.2.2.2.2.2.2.2.2.2.2.2.2.2.2.1,z4.2.2.2.2.2.2.2.2.2.2.2.2.2.2.2.2.2.1,z4.2.2.2.2.2.2.2.2.2.2.2.2.2.2.2.2.2.2.1,z4.2.2.2.2.2.2.2.2.2.2.2.2.2.2.2.2.2.2.2.1,z4.2.2.2.2.2.2.2.2.2.2.2.2.2.2.2.2.2.2.2.2.1,z4.2.2.2.2.2.2.2.2.2.2.2.2.2.2.2.2.2.2.2.2.2.1,()))) (
 .ret (.inr (m3,bN,dK,dX,(aP.1,aP.2),(aQ.1,aQ.2),(aT.1,aT.2),(aU.1,aU.2),m4,iE,jd,eu,iF,iD,gL,iI,kU,Vi,())))
noncomputable def Cg:bK prog 61 none 14:=bu mixed lD kK [0,1,2,3,4,5,6,7,8,9,10,11,12,13] rfl Cd Ce rfl (Cf) (fun x=>ag (gH80_v1_0i_0 x)) (fun x=>by kernel_rfl)
@[reducible] def Mh:aG:=aG.mk [(1,.c (.ptr 5 0)),(2,.c (.ptr 6 0)),(3,.c (.ptr 7 0)),(4,.c (.ptr 8 0)),(5,.c (.ptr 9 0)),(14,.fn 112 [] [.ptr 10 0])] [(5,.cells [.hole tI,.hole tI,.fn 78 .nil (.cons (.ptr 0 0) (.cons (.ptr 1 0) (.cons (.ptr 2 0) .nil))),.fn 79 .nil (.cons (.ptr 1 0) (.cons (.ptr 2 0) .nil))] false),(6,.cells [.bA,.bA] false),(7,.cells [.bA] false),(8,.cells [.mp 11] false),(9,.cells [.bA] false),(10,.cells [.hole tI,.hole tI,.fn 78 .nil (.cons (.ptr 0 0) (.cons (.ptr 1 0) (.cons (.ptr 2 0) .nil))),.fn 79 .nil (.cons (.ptr 1 0) (.cons (.ptr 2 0) .nil))] false),(0,.cells [.mp 3] false),(3,.map (.prod tI tI) true tI false),(1,.cells [.hole tI,.hole tI,.hole tI,.fn 54 .nil (.cons (.av (.prod ay (.list .bool))) (.cons (.av (.prod ay (.list .bool))) .nil)),.fn 55 .nil (.cons (.aJ (.cons (.fn0 23) .nil)) (.cons (.av (.prod ay (.list .bool))) (.cons (.av (.prod ay (.list .bool))) .nil)))] false),(2,.cells [.mp 4] false),(4,.map tI false (.prod tI tI) true),(11,.map tI false tI false)] [.slot 1,.slot 2,.slot 3,.slot 4,.slot 5,.part 14 0,.cell 8 0] []
@[reducible] def Mi:bt:=[(.normal,aG.mk [(1,.c (.ptr 5 0)),(2,.c (.ptr 6 0)),(3,.c (.ptr 7 0)),(4,.c (.ptr 8 0)),(5,.c (.ptr 9 0))] [(5,.cells [.hole tI,.hole tI,.fn 78 .nil (.cons (.ptr 0 0) (.cons (.ptr 1 0) (.cons (.ptr 2 0) .nil))),.fn 79 .nil (.cons (.ptr 1 0) (.cons (.ptr 2 0) .nil))] false),(6,.cells [.bA,.bA] false),(7,.cells [.cg 10 tL] false),(8,.cells [.mp 11] false),(9,.cells [.cg 12 tI] false),(0,.cells [.mp 3] false),(3,.map (.prod tI tI) true tI false),(1,.cells [.hole tI,.hole tI,.hole tI,.fn 54 .nil (.cons (.av (.prod ay (.list .bool))) (.cons (.av (.prod ay (.list .bool))) .nil)),.fn 55 .nil (.cons (.aJ (.cons (.fn0 23) .nil)) (.cons (.av (.prod ay (.list .bool))) (.cons (.av (.prod ay (.list .bool))) .nil)))] false),(2,.cells [.mp 4] false),(4,.map tI false (.prod tI tI) true),(10,.arr tL false),(11,.map tI false tI false),(12,.arr tI false)] [.slot 1,.slot 2,.slot 3,.slot 4,.slot 5,.cell 7 0,.cell 8 0,.cell 9 0] [])]
noncomputable def yy:D prog 61 none 14:=dO [.l Cg] (kd prog f112) 0
theorem Gz:cN prog f112=some ⟨61,2,(yy).er,[],[]⟩:=by kernel_rfl
noncomputable def gH80_v1_0:Int×Int×Int×Int×(List ((Int×Int)×Int))×Int×Int×Int×((List (List Int))×List Bool)×((List (List Int))×List Bool)×((List (List Int))×List Bool)×((List (List Int))×List Bool)×(List (Int×Int×Int))×(List (Int×Int))×Unit->bR ((Int×Int×Nat×Nat×(List ((Int×Int)×Int))×Int×Int×Int×((List (List Int))×List Bool)×((List (List Int))×List Bool)×((List (List Int))×List Bool)×((List (List Int))×List Bool)×(List (Int×Int×Int))×List (List Int)×(List (Int×Int))×List Int×Unit)):=fun (iE,jd,iD,gL,m3,bN,dK,dX,aP,aQ,aT,aU,m4,Qx,_) =>
 .bd (.it gH80_v1_0i_0 ((0:Nat),(1:Nat),iD,gL,(bh (.int .i64) [] gL true),((gL,[])::[]),iE,jd,m3,bN,dK,dX,(aP.1,aP.2),(aQ.1,aQ.2),(aT.1,aT.2),(aU.1,aU.2),m4,(0:Nat),(0:Nat),[],Qx,[],())) fun z5 =>
 .ret ((z5.2.2.2.2.2.2.2.2.2.1,z5.2.2.2.2.2.2.2.2.2.2.1,z5.2.2.2.2.2.2.2.2.2.2.2.1,z5.2.2.2.2.2.2.2.2.2.2.2.2.1,z5.1,z5.2.1,z5.2.2.1,z5.2.2.2.1,(z5.2.2.2.2.1.1,z5.2.2.2.2.1.2),(z5.2.2.2.2.2.1.1,z5.2.2.2.2.2.1.2),(z5.2.2.2.2.2.2.1.1,z5.2.2.2.2.2.2.1.2),(z5.2.2.2.2.2.2.2.1.1,z5.2.2.2.2.2.2.2.1.2),z5.2.2.2.2.2.2.2.2.1,z5.2.2.2.2.2.2.2.2.2.2.2.2.2.2.2.1,z5.2.2.2.2.2.2.2.2.2.2.2.2.2.2.2.2.1,z5.2.2.2.2.2.2.2.2.2.2.2.2.2.2.2.2.2.1,()))
noncomputable def Mj:fJ prog 69 none 5:=gR mixed lD kK [0,1,2,3,4] rfl Mh Mi ( .t 14) [15,16] rfl (yw).er (yx).er 112 func112 (Gz) (ah func112 rfl rfl) 14 rfl (yy) rfl (fun x=>ag (gH80_v1_0 x)) (fun x=>by kernel_rfl)
@[reducible] def Ml:aG:=aG.mk [(1,.c (.ptr 5 0)),(2,.c (.ptr 6 0)),(3,.c (.ptr 7 0)),(4,.c (.ptr 8 0)),(9,hI),(10,.c (.cg 9 tI)),(29,.c (.cg 10 tI)),(30,hI),(31,hI),(36,hI),(37,hI)] [(5,.cells [.hole tI,.hole tI,.fn 78 .nil (.cons (.ptr 0 0) (.cons (.ptr 1 0) (.cons (.ptr 2 0) .nil))),.fn 79 .nil (.cons (.ptr 1 0) (.cons (.ptr 2 0) .nil))] false),(6,.cells [.cg 11 tL,.cg 12 .bool] false),(7,.cells [.cg 13 tL] false),(8,.cells [.mp 14] false),(9,.arr tI false),(10,.arr tI false),(0,.cells [.mp 3] false),(3,.map (.prod tI tI) true tI false),(1,.cells [.hole tI,.hole tI,.hole tI,.fn 54 .nil (.cons (.av (.prod ay (.list .bool))) (.cons (.av (.prod ay (.list .bool))) .nil)),.fn 55 .nil (.cons (.aJ (.cons (.fn0 23) .nil)) (.cons (.av (.prod ay (.list .bool))) (.cons (.av (.prod ay (.list .bool))) .nil)))] false),(2,.cells [.mp 4] false),(4,.map tI false (.prod tI tI) true),(11,.arr tL false),(12,.arr .bool false),(13,.arr tL false),(14,.map tI false tI false)] [.slot 1,.slot 2,.slot 3,.slot 4,.slot 10,.slot 29,.cell 6 0,.cell 6 1,.cell 7 0,.cell 8 0] []
@[reducible] def Mm:bt:=[(.exit 4,aG.mk [(1,.c (.ptr 5 0)),(2,.c (.ptr 6 0)),(3,.c (.ptr 7 0)),(4,.c (.ptr 8 0)),(9,hI),(10,.c (.cg 9 tI)),(29,.c (.cg 10 tI)),(30,hI),(31,hI)] [(5,.cells [.hole tI,.hole tI,.fn 78 .nil (.cons (.ptr 0 0) (.cons (.ptr 1 0) (.cons (.ptr 2 0) .nil))),.fn 79 .nil (.cons (.ptr 1 0) (.cons (.ptr 2 0) .nil))] false),(6,.cells [.cg 11 tL,.cg 12 .bool] false),(7,.cells [.cg 13 tL] false),(8,.cells [.mp 14] false),(9,.arr tI false),(10,.arr tI false),(0,.cells [.mp 3] false),(3,.map (.prod tI tI) true tI false),(1,.cells [.hole tI,.hole tI,.hole tI,.fn 54 .nil (.cons (.av (.prod ay (.list .bool))) (.cons (.av (.prod ay (.list .bool))) .nil)),.fn 55 .nil (.cons (.aJ (.cons (.fn0 23) .nil)) (.cons (.av (.prod ay (.list .bool))) (.cons (.av (.prod ay (.list .bool))) .nil)))] false),(2,.cells [.mp 4] false),(4,.map tI false (.prod tI tI) true),(11,.arr tL false),(12,.arr .bool false),(13,.arr tL false),(14,.map tI false tI false)] [.slot 1,.slot 2,.slot 3,.slot 4,.slot 10,.slot 29,.cell 6 0,.cell 6 1,.cell 7 0,.cell 8 0] [])]
noncomputable def Mn:D prog 69 none 5:=dO [] (pick (kd prog f80) [(1,false),(0,false)]) 0
noncomputable def gH80_v1_2:Int×Nat×Nat×Int×Int×Int×Int×Int×Int×Nat×Nat×Nat×List Int×List Int×(List ((Int×Int)×Int))×Int×Int×Int×((List (List Int))×List Bool)×((List (List Int))×List Bool)×((List (List Int))×List Bool)×((List (List Int))×List Bool)×(List (Int×Int×Int))×List (List Int)×List Bool×List (List Int)×(List (Int×Int))×Unit->bR ((Int×Nat×Nat×Int×Int×Int×Int×Int×Int×Nat×Nat×Nat×List Int×List Int×(List ((Int×Int)×Int))×Int×Int×Int×((List (List Int))×List Bool)×((List (List Int))×List Bool)×((List (List Int))×List Bool)×((List (List Int))×List Bool)×(List (Int×Int×Int))×List (List Int)×List Bool×List (List Int)×(List (Int×Int))×Unit) ⊕ ((Int×Nat×Nat×Int×Int×Int×Int×Nat×Nat×Nat×List Int×List Int×(List ((Int×Int)×Int))×Int×Int×Int×((List (List Int))×List Bool)×((List (List Int))×List Bool)×((List (List Int))×List Bool)×((List (List Int))×List Bool)×(List (Int×Int×Int))×List (List Int)×List Bool×List (List Int)×(List (Int×Int))×Unit))):=fun (v9,vf,yf,v30,qP,v36,Vk,iE,jd,oK,oL,eu,b9,B6,m3,bN,dK,dX,aP,aQ,aT,aU,m4,oM,oN,qQ,vh,_) =>
 .br (decide (Vk<v36)) (
 .bd (vK v9 Vk bN dK dX (aP.1,aP.2) (aQ.1,aQ.2) (aT.1,aT.2) (aU.1,aU.2) m3 m4) fun y7 =>
 .nd (decide ((vf+((((((aN (.int .i64) (0:Int) vh y7.1)::[])).drop (0:Nat)).take (1:Nat))).length)<cz)) <|
 .ni (Vk+(1:Int)) <|
 .ret (.inl (v9,(vf+((((((aN (.int .i64) (0:Int) vh y7.1)::[])).drop (0:Nat)).take (1:Nat))).length),yf,v30,qP,v36,(Vk+(1:Int)),iE,jd,oK,oL,eu,((((b9).drop (0:Nat)).take vf)++(((((aN (.int .i64) (0:Int) vh y7.1)::[])).drop (0:Nat)).take (1:Nat))),B6,m3,bN,dK,dX,(aP.1,aP.2),(aQ.1,aQ.2),(aT.1,aT.2),(aU.1,aU.2),m4,oM,oN,qQ,vh,()))) (
 .ret (.inr (v9,vf,yf,v30,qP,iE,jd,oK,oL,eu,b9,B6,m3,bN,dK,dX,(aP.1,aP.2),(aQ.1,aQ.2),(aT.1,aT.2),(aU.1,aU.2),m4,oM,oN,qQ,vh,())))
noncomputable def Mo:bK prog 69 none 5:=bu mixed oP jD [0,1,2,3,4] rfl Ml Mm rfl (Mn) (fun x=>ag (gH80_v1_2 x)) (fun x=>by kernel_rfl)
@[reducible] def Mp:aG:=aG.mk [(1,.c (.ptr 5 0)),(2,.c (.ptr 6 0)),(3,.c (.ptr 7 0)),(4,.c (.ptr 8 0)),(29,.c (.cg 9 tI)),(30,hI),(31,hI)] [(5,.cells [.hole tI,.hole tI,.fn 78 .nil (.cons (.ptr 0 0) (.cons (.ptr 1 0) (.cons (.ptr 2 0) .nil))),.fn 79 .nil (.cons (.ptr 1 0) (.cons (.ptr 2 0) .nil))] false),(6,.cells [.cg 10 tL,.cg 11 .bool] false),(7,.cells [.cg 12 tL] false),(8,.cells [.mp 13] false),(9,.arr tI false),(0,.cells [.mp 3] false),(3,.map (.prod tI tI) true tI false),(1,.cells [.hole tI,.hole tI,.hole tI,.fn 54 .nil (.cons (.av (.prod ay (.list .bool))) (.cons (.av (.prod ay (.list .bool))) .nil)),.fn 55 .nil (.cons (.aJ (.cons (.fn0 23) .nil)) (.cons (.av (.prod ay (.list .bool))) (.cons (.av (.prod ay (.list .bool))) .nil)))] false),(2,.cells [.mp 4] false),(4,.map tI false (.prod tI tI) true),(10,.arr tL false),(11,.arr .bool false),(12,.arr tL false),(13,.map tI false tI false)] [.slot 1,.slot 2,.slot 3,.slot 4,.slot 29,.cell 6 0,.cell 6 1,.cell 7 0,.cell 8 0] []
@[reducible] def Mq:bt:=[(.exit 2,aG.mk [(2,.c (.ptr 5 0)),(3,.c (.ptr 6 0))] [(5,.cells [.cg 7 tL,.cg 8 .bool] false),(6,.cells [.cg 9 tL] false),(0,.cells [.mp 3] false),(3,.map (.prod tI tI) true tI false),(1,.cells [.hole tI,.hole tI,.hole tI,.fn 54 .nil (.cons (.av (.prod ay (.list .bool))) (.cons (.av (.prod ay (.list .bool))) .nil)),.fn 55 .nil (.cons (.aJ (.cons (.fn0 23) .nil)) (.cons (.av (.prod ay (.list .bool))) (.cons (.av (.prod ay (.list .bool))) .nil)))] false),(2,.cells [.mp 4] false),(4,.map tI false (.prod tI tI) true),(7,.arr tL false),(8,.arr .bool false),(9,.arr tL false)] [.slot 2,.slot 3,.cell 5 0,.cell 5 1,.cell 6 0] [])]
noncomputable def Mr:D prog 69 none 5:=dO [.l Mo] (pick (kd prog f80) [(1,false)]) 0
noncomputable def gH80_v1_1:Nat×Int×Int×Int×Int×Nat×Nat×Nat×List Int×(List ((Int×Int)×Int))×Int×Int×Int×((List (List Int))×List Bool)×((List (List Int))×List Bool)×((List (List Int))×List Bool)×((List (List Int))×List Bool)×(List (Int×Int×Int))×List (List Int)×List Bool×List (List Int)×(List (Int×Int))×Unit->bR ((Nat×Int×Int×Int×Int×Nat×Nat×Nat×List Int×(List ((Int×Int)×Int))×Int×Int×Int×((List (List Int))×List Bool)×((List (List Int))×List Bool)×((List (List Int))×List Bool)×((List (List Int))×List Bool)×(List (Int×Int×Int))×List (List Int)×List Bool×List (List Int)×(List (Int×Int))×Unit) ⊕ ((Nat×Nat×Nat×(List ((Int×Int)×Int))×Int×Int×Int×((List (List Int))×List Bool)×((List (List Int))×List Bool)×((List (List Int))×List Bool)×((List (List Int))×List Bool)×(List (Int×Int×Int))×List (List Int)×List Bool×List (List Int)×Unit))):=fun (yf,v30,qP,iE,jd,oK,oL,eu,b9,m3,bN,dK,dX,aP,aQ,aT,aU,m4,B6,oM,oN,m13,_) =>
 .br (decide (qP<v30)) (
 .nb qP ((yf:Nat):Int) <|
 .nd (decide (((0:Nat)+(Int.toNat qP))<(b9).length)) <|
 .bd (.it gH80_v1_2 (((b9).getD ((0:Nat)+(Int.toNat qP)) (0:Int)),(0:Nat),yf,v30,qP,iE,(0:Int),iE,jd,oK,oL,eu,[],b9,m3,bN,dK,dX,(aP.1,aP.2),(aQ.1,aQ.2),(aT.1,aT.2),(aU.1,aU.2),m4,B6,oM,oN,m13,())) fun z8 =>
 .nd (decide ((z8.2.2.2.2.2.2.2.1+((((((((z8.2.2.2.2.2.2.2.2.2.2.1).drop (0:Nat)).take z8.2.1)::[])).drop (0:Nat)).take (1:Nat))).length)<cz)) <|
 .bd (vL z8.1 z8.2.2.2.2.2.2.2.2.2.2.2.2.2.1 z8.2.2.2.2.2.2.2.2.2.2.2.2.2.2.1 z8.2.2.2.2.2.2.2.2.2.2.2.2.2.2.2.1 (z8.2.2.2.2.2.2.2.2.2.2.2.2.2.2.2.2.1.1,z8.2.2.2.2.2.2.2.2.2.2.2.2.2.2.2.2.1.2) (z8.2.2.2.2.2.2.2.2.2.2.2.2.2.2.2.2.2.1.1,z8.2.2.2.2.2.2.2.2.2.2.2.2.2.2.2.2.2.1.2) (z8.2.2.2.2.2.2.2.2.2.2.2.2.2.2.2.2.2.2.1.1,z8.2.2.2.2.2.2.2.2.2.2.2.2.2.2.2.2.2.2.1.2) (z8.2.2.2.2.2.2.2.2.2.2.2.2.2.2.2.2.2.2.2.1.1,z8.2.2.2.2.2.2.2.2.2.2.2.2.2.2.2.2.2.2.2.1.2) z8.2.2.2.2.2.2.2.2.2.2.2.2.2.2.2.2.2.2.2.2.1) fun y9 =>
 .nd (decide ((z8.2.2.2.2.2.2.2.2.1+(((((y9.1::[])).drop (0:Nat)).take (1:Nat))).length)<cz)) <|
 .ni (z8.2.2.2.2.1+(1:Int)) <|
 .ret (.inl (z8.2.2.1,z8.2.2.2.1,(z8.2.2.2.2.1+(1:Int)),z8.2.2.2.2.2.1,z8.2.2.2.2.2.2.1,(z8.2.2.2.2.2.2.2.1+((((((((z8.2.2.2.2.2.2.2.2.2.2.1).drop (0:Nat)).take z8.2.1)::[])).drop (0:Nat)).take (1:Nat))).length),(z8.2.2.2.2.2.2.2.2.1+(((((y9.1::[])).drop (0:Nat)).take (1:Nat))).length),z8.2.2.2.2.2.2.2.2.2.1,z8.2.2.2.2.2.2.2.2.2.2.2.1,z8.2.2.2.2.2.2.2.2.2.2.2.2.1,z8.2.2.2.2.2.2.2.2.2.2.2.2.2.1,z8.2.2.2.2.2.2.2.2.2.2.2.2.2.2.1,z8.2.2.2.2.2.2.2.2.2.2.2.2.2.2.2.1,(z8.2.2.2.2.2.2.2.2.2.2.2.2.2.2.2.2.1.1,z8.2.2.2.2.2.2.2.2.2.2.2.2.2.2.2.2.1.2),(z8.2.2.2.2.2.2.2.2.2.2.2.2.2.2.2.2.2.1.1,z8.2.2.2.2.2.2.2.2.2.2.2.2.2.2.2.2.2.1.2),(z8.2.2.2.2.2.2.2.2.2.2.2.2.2.2.2.2.2.2.1.1,z8.2.2.2.2.2.2.2.2.2.2.2.2.2.2.2.2.2.2.1.2),(z8.2.2.2.2.2.2.2.2.2.2.2.2.2.2.2.2.2.2.2.1.1,z8.2.2.2.2.2.2.2.2.2.2.2.2.2.2.2.2.2.2.2.1.2),z8.2.2.2.2.2.2.2.2.2.2.2.2.2.2.2.2.2.2.2.2.1,((((z8.2.2.2.2.2.2.2.2.2.2.2.2.2.2.2.2.2.2.2.2.2.1).drop (0:Nat)).take z8.2.2.2.2.2.2.2.1)++(((((((z8.2.2.2.2.2.2.2.2.2.2.1).drop (0:Nat)).take z8.2.1)::[])).drop (0:Nat)).take (1:Nat))),((((z8.2.2.2.2.2.2.2.2.2.2.2.2.2.2.2.2.2.2.2.2.2.2.1).drop (0:Nat)).take z8.2.2.2.2.2.2.2.2.1)++((((y9.1::[])).drop (0:Nat)).take (1:Nat))),z8.2.2.2.2.2.2.2.2.2.2.2.2.2.2.2.2.2.2.2.2.2.2.2.1,z8.2.2.2.2.2.2.2.2.2.2.2.2.2.2.2.2.2.2.2.2.2.2.2.2.1,()))) (
 .ret (.inr (oK,oL,eu,m3,bN,dK,dX,(aP.1,aP.2),(aQ.1,aQ.2),(aT.1,aT.2),(aU.1,aU.2),m4,B6,oM,oN,())))
noncomputable def Ms:bK prog 69 none 5:=bu mixed oP jD [0,1,2,3,4] rfl Mp Mq rfl (Mr) (fun x=>ag (gH80_v1_1 x)) (fun x=>by kernel_rfl)
noncomputable def Ep:D prog 69 none 5:=dO [.r Mj,.l Ms] (kd prog f80) 0
noncomputable def FH80_v1 (uo:Int) (uq:Int) (bN:Int) (dK:Int) (dX:Int) (aP:(List (List Int))×List Bool) (aQ:(List (List Int))×List Bool) (aT:(List (List Int))×List Bool) (aU:(List (List Int))×List Bool) (m3:List ((Int×Int)×Int)) (m4:List (Int×Int×Int)):bR (Nat×Nat×Nat×List (List Int)×List Bool×List (List Int)×(List ((Int×Int)×Int))×Int×Int×Int×((List (List Int))×List Bool)×((List (List Int))×List Bool)×((List (List Int))×List Bool)×((List (List Int))×List Bool)×(List (Int×Int×Int))×Unit) :=
 .bd (FH99_v1 uo uq bN dK dX (aP.1,aP.2) (aQ.1,aQ.2) (aT.1,aT.2) (aU.1,aU.2) m3 m4) fun y0 =>
 .bd (gH80_v1_0 (uo,uq,y0.1,y0.2.1,y0.2.2.1,y0.2.2.2.1,y0.2.2.2.2.1,y0.2.2.2.2.2.1,(y0.2.2.2.2.2.2.1.1,y0.2.2.2.2.2.2.1.2),(y0.2.2.2.2.2.2.2.1.1,y0.2.2.2.2.2.2.2.1.2),(y0.2.2.2.2.2.2.2.2.1.1,y0.2.2.2.2.2.2.2.2.1.2),(y0.2.2.2.2.2.2.2.2.2.1.1,y0.2.2.2.2.2.2.2.2.2.1.2),y0.2.2.2.2.2.2.2.2.2.2.1,[],())) fun z6 =>
 .bd (.it gH80_v1_1 (z6.2.2.2.1,((z6.2.2.2.1:Nat):Int),(0:Int),z6.1,z6.2.1,(0:Nat),(0:Nat),z6.2.2.1,z6.2.2.2.2.2.2.2.2.2.2.2.2.2.2.2.1,z6.2.2.2.2.1,z6.2.2.2.2.2.1,z6.2.2.2.2.2.2.1,z6.2.2.2.2.2.2.2.1,(z6.2.2.2.2.2.2.2.2.1.1,z6.2.2.2.2.2.2.2.2.1.2),(z6.2.2.2.2.2.2.2.2.2.1.1,z6.2.2.2.2.2.2.2.2.2.1.2),(z6.2.2.2.2.2.2.2.2.2.2.1.1,z6.2.2.2.2.2.2.2.2.2.2.1.2),(z6.2.2.2.2.2.2.2.2.2.2.2.1.1,z6.2.2.2.2.2.2.2.2.2.2.2.1.2),z6.2.2.2.2.2.2.2.2.2.2.2.2.1,[],[],z6.2.2.2.2.2.2.2.2.2.2.2.2.2.1,z6.2.2.2.2.2.2.2.2.2.2.2.2.2.2.1,())) fun eU =>
 .ret (eU.1,eU.2.1,eU.2.2.1,eU.2.2.2.2.2.2.2.2.2.2.2.2.1,eU.2.2.2.2.2.2.2.2.2.2.2.2.2.1,eU.2.2.2.2.2.2.2.2.2.2.2.2.2.2.1,eU.2.2.2.1,eU.2.2.2.2.1,eU.2.2.2.2.2.1,eU.2.2.2.2.2.2.1,(eU.2.2.2.2.2.2.2.1.1,eU.2.2.2.2.2.2.2.1.2),(eU.2.2.2.2.2.2.2.2.1.1,eU.2.2.2.2.2.2.2.2.1.2),(eU.2.2.2.2.2.2.2.2.2.1.1,eU.2.2.2.2.2.2.2.2.2.1.2),(eU.2.2.2.2.2.2.2.2.2.2.1.1,eU.2.2.2.2.2.2.2.2.2.2.1.2),eU.2.2.2.2.2.2.2.2.2.2.2.1,())
theorem GA:cN prog f80=some ⟨69,1,Ep.er,[.cell 2 true 2,.cell 3 false 1],[some (.prod ay (.list .bool)),some ay]⟩:=by kernel_rfl
noncomputable def JA:Ht:=⟨80,VG,VH,(fun x=>ag (FH80_v1 x.1 x.2.1 x.2.2.1 x.2.2.2.1 x.2.2.2.2.1 x.2.2.2.2.2.1 x.2.2.2.2.2.2.1 x.2.2.2.2.2.2.2.1 x.2.2.2.2.2.2.2.2.1 x.2.2.2.2.2.2.2.2.2.1 x.2.2.2.2.2.2.2.2.2.2.1))⟩
theorem GB:JA.Ok prog:=lu mixed jD rfl func80 GA (ah func80 rfl rfl) Ep (by kernel_rfl) rfl rfl ⟨_,rfl⟩ rfl (pre:=[0,1,2,3,4]) rfl (fun x=>by kernel_rfl)

/- 77, lent -/
@[reducible] def VI:aG:=aG.mk [(0,.agg [.hole tI,.hole tI,.hole tI,.fn 54 .nil (.cons (.av (.prod ay (.list .bool))) (.cons (.av (.prod ay (.list .bool))) .nil)),.fn 55 .nil (.cons (.aJ (.cons (.fn0 23) .nil)) (.cons (.av (.prod ay (.list .bool))) (.cons (.av (.prod ay (.list .bool))) .nil)))]),(1,.c (.cg 0 (.prod tI tI))),(2,.c (.mp 1))] [(0,.arr (.prod tI tI) false),(1,.map (.prod tI tI) true tI false)] [.slot 1,.slot 2] []
@[reducible] def VJ:aG:=aG.mk [(0,.cG [.mp 2,.hole tI])] [(2,.map (.prod tI tI) true tI false),(1,.map (.prod tI tI) true tI false),(0,.arr (.prod tI tI) false)] [.part 0 0] []
noncomputable def sH:Cx:=(aV [Ef] [])
theorem oQ:sH.Ok prog:=au ⟨nA,trivial⟩ trivial
@[reducible] def Mt:aG:=aG.mk [(2,.c (.mp 1)),(3,.c (.ptr 2 0)),(8,.c (.mp 3)),(9,.c (.mp 4)),(11,.c (.pa 5 tI 2)),(12,.c (.pa 6 tI 5)),(18,.c (.cg 0 (.prod tI tI))),(19,hI),(20,hI),(29,hI),(30,hI)] [(1,.map (.prod tI tI) true tI false),(2,.cells [.hole tI,.hole tI,.hole tI,.fn 54 .nil (.cons (.av (.prod ay (.list .bool))) (.cons (.av (.prod ay (.list .bool))) .nil)),.fn 55 .nil (.cons (.aJ (.cons (.fn0 23) .nil)) (.cons (.av (.prod ay (.list .bool))) (.cons (.av (.prod ay (.list .bool))) .nil)))] false),(3,.map (.prod tI (.prod tI (.prod tI (.prod tI tI)))) true tI false),(4,.map (.prod tI tI) true tI false),(5,.arr tI false),(6,.arr tI false),(0,.arr (.prod tI tI) false)] [.slot 3,.slot 8,.slot 9,.slot 11,.slot 12] []
@[reducible] def Mv:bt:=[(.exit 2,aG.mk [(2,.c (.mp 1)),(3,.c (.ptr 2 0)),(8,.c (.mp 3)),(9,.c (.mp 4)),(11,.c (.pa 5 tI 2)),(12,.c (.pa 6 tI 5)),(18,.c (.cg 0 (.prod tI tI))),(19,hI),(20,hI)] [(1,.map (.prod tI tI) true tI false),(2,.cells [.hole tI,.hole tI,.hole tI,.fn 54 .nil (.cons (.av (.prod ay (.list .bool))) (.cons (.av (.prod ay (.list .bool))) .nil)),.fn 55 .nil (.cons (.aJ (.cons (.fn0 23) .nil)) (.cons (.av (.prod ay (.list .bool))) (.cons (.av (.prod ay (.list .bool))) .nil)))] false),(3,.map (.prod tI (.prod tI (.prod tI (.prod tI tI)))) true tI false),(4,.map (.prod tI tI) true tI false),(5,.arr tI false),(6,.arr tI false),(0,.arr (.prod tI tI) false)] [.slot 3,.slot 8,.slot 9,.slot 11,.slot 12] [])]
noncomputable def Mw:D prog 65 none 2:=dO [] (pick (kd prog f77) [(0,false),(0,false)]) 0
noncomputable def gH77_v3_1:Nat×Int×Int×Int×Int×(List ((Int×Int)×Int))×Int×Int×Int×((List (List Int))×List Bool)×((List (List Int))×List Bool)×((List (List Int))×List Bool)×((List (List Int))×List Bool)×(List ((Int×Int×Int×Int×Int)×Int))×(List ((Int×Int)×Int))×List Int×List Int×(List (Int×Int))×Unit->bR ((Nat×Int×Int×Int×Int×(List ((Int×Int)×Int))×Int×Int×Int×((List (List Int))×List Bool)×((List (List Int))×List Bool)×((List (List Int))×List Bool)×((List (List Int))×List Bool)×(List ((Int×Int×Int×Int×Int)×Int))×(List ((Int×Int)×Int))×List Int×List Int×(List (Int×Int))×Unit) ⊕ ((Nat×Int×Int×(List ((Int×Int)×Int))×Int×Int×Int×((List (List Int))×List Bool)×((List (List Int))×List Bool)×((List (List Int))×List Bool)×((List (List Int))×List Bool)×(List ((Int×Int×Int×Int×Int)×Int))×(List ((Int×Int)×Int))×List Int×List Int×(List (Int×Int))×Unit))):=fun (yg,Qy,v20,Ma,v30,m1,dV,gi,B7,fj,fk,gX,gY,m3,m4,b5,b6,b0,_) =>
 .br (decide (v30<Ma)) (
 .ni (v30+(1:Int)) <|
 .bd (F54 (((b5).getD (0:Nat) (0:Int)),((b5).getD (1:Nat) (0:Int))) v30 (fj.1,fj.2) (fk.1,fk.2)) fun y0 =>
 .nb (v30+(1:Int)) (5:Int) <|
 .nd (decide ((Int.toNat (v30+(1:Int)))<(b6).length)) <|
 .ni (v30+(1:Int)) <|
 .ret (.inl (yg,Qy,v20,Ma,(v30+(1:Int)),m1,dV,gi,B7,(fj.1,fj.2),(fk.1,fk.2),(gX.1,gX.2),(gY.1,gY.2),m3,m4,b5,((b6).set (Int.toNat (v30+(1:Int))) (aN (.prod (.int .i64) (.int .i64)) (0:Int) m1 (y0.1.1,y0.1.2))),b0,()))) (
 .ret (.inr (yg,Qy,v20,m1,dV,gi,B7,(fj.1,fj.2),(fk.1,fk.2),(gX.1,gX.2),(gY.1,gY.2),m3,m4,b5,b6,b0,())))
noncomputable def Mx:bK prog 65 none 2:=bu mixed sH oQ [0,1] rfl Mt Mv rfl (Mw) (fun x=>ag (gH77_v3_1 x)) (fun x=>by kernel_rfl)
@[reducible] def uw:aG:=aG.mk [(2,.c (.mp 1)),(3,.c (.ptr 2 0)),(8,.c (.mp 3)),(9,.c (.mp 4)),(18,.c (.cg 0 (.prod tI tI))),(19,hI),(20,hI)] [(1,.map (.prod tI tI) true tI false),(2,.cells [.hole tI,.hole tI,.hole tI,.fn 54 .nil (.cons (.av (.prod ay (.list .bool))) (.cons (.av (.prod ay (.list .bool))) .nil)),.fn 55 .nil (.cons (.aJ (.cons (.fn0 23) .nil)) (.cons (.av (.prod ay (.list .bool))) (.cons (.av (.prod ay (.list .bool))) .nil)))] false),(3,.map (.prod tI (.prod tI (.prod tI (.prod tI tI)))) true tI false),(4,.map (.prod tI tI) true tI false),(0,.arr (.prod tI tI) false)] [.slot 3,.slot 8,.slot 9] []
@[reducible] def ux:bt:=[(.exit 0,aG.mk [(8,.c (.mp 2)),(9,.c (.mp 3))] [(2,.map (.prod tI (.prod tI (.prod tI (.prod tI tI)))) true tI false),(3,.map (.prod tI tI) true tI false),(1,.map (.prod tI tI) true tI false),(0,.arr (.prod tI tI) false)] [.slot 8,.slot 9] [])]
noncomputable def AB:D prog 65 none 2:=dO [.l Mx] (pick (kd prog f77) [(0,false)]) 0
noncomputable def gH77_v3_0:Nat×Int×Int×(List ((Int×Int)×Int))×Int×Int×Int×((List (List Int))×List Bool)×((List (List Int))×List Bool)×((List (List Int))×List Bool)×((List (List Int))×List Bool)×(List ((Int×Int×Int×Int×Int)×Int))×(List ((Int×Int)×Int))×(List (Int×Int))×Unit->bR ((Nat×Int×Int×(List ((Int×Int)×Int))×Int×Int×Int×((List (List Int))×List Bool)×((List (List Int))×List Bool)×((List (List Int))×List Bool)×((List (List Int))×List Bool)×(List ((Int×Int×Int×Int×Int)×Int))×(List ((Int×Int)×Int))×(List (Int×Int))×Unit) ⊕ (((List ((Int×Int×Int×Int×Int)×Int))×(List ((Int×Int)×Int))×(List ((Int×Int)×Int))×(List (Int×Int))×Unit))):=fun (yg,Qy,v20,m1,dV,gi,B7,fj,fk,gX,gY,m3,m4,b0,_) =>
 .br (decide (v20<Qy)) (
 .nb v20 ((yg:Nat):Int) <|
 .nd (decide (((0:Nat)+(Int.toNat v20))<(b0).length)) <|
 .bd (.it gH77_v3_1 (yg,Qy,v20,dV,(0:Int),m1,dV,gi,B7,(fj.1,fj.2),(fk.1,fk.2),(gX.1,gX.2),(gY.1,gY.2),m3,m4,(((b0).getD ((0:Nat)+(Int.toNat v20)) ((0:Int),(0:Int))).1::(((b0).getD ((0:Nat)+(Int.toNat v20)) ((0:Int),(0:Int))).2::[])),((aN (.prod (.int .i64) (.int .i64)) (0:Int) m1 ((((((b0).getD ((0:Nat)+(Int.toNat v20)) ((0:Int),(0:Int))).1::(((b0).getD ((0:Nat)+(Int.toNat v20)) ((0:Int),(0:Int))).2::[]))).getD (0:Nat) (0:Int)),(((((b0).getD ((0:Nat)+(Int.toNat v20)) ((0:Int),(0:Int))).1::(((b0).getD ((0:Nat)+(Int.toNat v20)) ((0:Int),(0:Int))).2::[]))).getD (1:Nat) (0:Int))))::((0:Int)::((0:Int)::((0:Int)::((0:Int)::[]))))),b0,())) fun z1 =>
 .jx (
 .br (!(bT (.prod (.int .i64) (.prod (.int .i64) (.prod (.int .i64) (.prod (.int .i64) (.int .i64))))) z1.2.2.2.2.2.2.2.2.2.2.2.1 (((z1.2.2.2.2.2.2.2.2.2.2.2.2.2.2.1).getD (0:Nat) (0:Int)),((z1.2.2.2.2.2.2.2.2.2.2.2.2.2.2.1).getD (1:Nat) (0:Int)),((z1.2.2.2.2.2.2.2.2.2.2.2.2.2.2.1).getD (2:Nat) (0:Int)),((z1.2.2.2.2.2.2.2.2.2.2.2.2.2.2.1).getD (3:Nat) (0:Int)),((z1.2.2.2.2.2.2.2.2.2.2.2.2.2.2.1).getD (4:Nat) (0:Int))))) (
 .ret (.inl (z1.1,z1.2.1,z1.2.2.1,z1.2.2.2.1,z1.2.2.2.2.1,z1.2.2.2.2.2.1,z1.2.2.2.2.2.2.1,(z1.2.2.2.2.2.2.2.1.1,z1.2.2.2.2.2.2.2.1.2),(z1.2.2.2.2.2.2.2.2.1.1,z1.2.2.2.2.2.2.2.2.1.2),(z1.2.2.2.2.2.2.2.2.2.1.1,z1.2.2.2.2.2.2.2.2.2.1.2),(z1.2.2.2.2.2.2.2.2.2.2.1.1,z1.2.2.2.2.2.2.2.2.2.2.1.2),(bh (.prod (.int .i64) (.prod (.int .i64) (.prod (.int .i64) (.prod (.int .i64) (.int .i64))))) z1.2.2.2.2.2.2.2.2.2.2.2.1 (((z1.2.2.2.2.2.2.2.2.2.2.2.2.2.2.1).getD (0:Nat) (0:Int)),((z1.2.2.2.2.2.2.2.2.2.2.2.2.2.2.1).getD (1:Nat) (0:Int)),((z1.2.2.2.2.2.2.2.2.2.2.2.2.2.2.1).getD (2:Nat) (0:Int)),((z1.2.2.2.2.2.2.2.2.2.2.2.2.2.2.1).getD (3:Nat) (0:Int)),((z1.2.2.2.2.2.2.2.2.2.2.2.2.2.2.1).getD (4:Nat) (0:Int))) (((z1.2.2.2.2.2.2.2.2.2.2.2.1).length:Nat):Int)),z1.2.2.2.2.2.2.2.2.2.2.2.2.1,z1.2.2.2.2.2.2.2.2.2.2.2.2.2.1,z1.2.2.2.2.2.2.2.2.2.2.2.2.2.2.1,z1.2.2.2.2.2.2.2.2.2.2.2.2.2.2.2.1,()))) (
 .ret (.inl (z1.1,z1.2.1,z1.2.2.1,z1.2.2.2.1,z1.2.2.2.2.1,z1.2.2.2.2.2.1,z1.2.2.2.2.2.2.1,(z1.2.2.2.2.2.2.2.1.1,z1.2.2.2.2.2.2.2.1.2),(z1.2.2.2.2.2.2.2.2.1.1,z1.2.2.2.2.2.2.2.2.1.2),(z1.2.2.2.2.2.2.2.2.2.1.1,z1.2.2.2.2.2.2.2.2.2.1.2),(z1.2.2.2.2.2.2.2.2.2.2.1.1,z1.2.2.2.2.2.2.2.2.2.2.1.2),z1.2.2.2.2.2.2.2.2.2.2.2.1,z1.2.2.2.2.2.2.2.2.2.2.2.2.1,z1.2.2.2.2.2.2.2.2.2.2.2.2.2.1,z1.2.2.2.2.2.2.2.2.2.2.2.2.2.2.1,z1.2.2.2.2.2.2.2.2.2.2.2.2.2.2.2.1,())))) fun j2 =>
 .ni (j2.2.2.1+(1:Int)) <|
 .ret (.inl (j2.1,j2.2.1,(j2.2.2.1+(1:Int)),j2.2.2.2.1,j2.2.2.2.2.1,j2.2.2.2.2.2.1,j2.2.2.2.2.2.2.1,(j2.2.2.2.2.2.2.2.1.1,j2.2.2.2.2.2.2.2.1.2),(j2.2.2.2.2.2.2.2.2.1.1,j2.2.2.2.2.2.2.2.2.1.2),(j2.2.2.2.2.2.2.2.2.2.1.1,j2.2.2.2.2.2.2.2.2.2.1.2),(j2.2.2.2.2.2.2.2.2.2.2.1.1,j2.2.2.2.2.2.2.2.2.2.2.1.2),j2.2.2.2.2.2.2.2.2.2.2.2.1,(bh (.prod (.int .i64) (.int .i64)) j2.2.2.2.2.2.2.2.2.2.2.2.2.1 (((j2.2.2.2.2.2.2.2.2.2.2.2.2.2.1).getD (0:Nat) (0:Int)),((j2.2.2.2.2.2.2.2.2.2.2.2.2.2.1).getD (1:Nat) (0:Int))) (aN (.prod (.int .i64) (.prod (.int .i64) (.prod (.int .i64) (.prod (.int .i64) (.int .i64))))) (0:Int) j2.2.2.2.2.2.2.2.2.2.2.2.1 (((j2.2.2.2.2.2.2.2.2.2.2.2.2.2.2.1).getD (0:Nat) (0:Int)),((j2.2.2.2.2.2.2.2.2.2.2.2.2.2.2.1).getD (1:Nat) (0:Int)),((j2.2.2.2.2.2.2.2.2.2.2.2.2.2.2.1).getD (2:Nat) (0:Int)),((j2.2.2.2.2.2.2.2.2.2.2.2.2.2.2.1).getD (3:Nat) (0:Int)),((j2.2.2.2.2.2.2.2.2.2.2.2.2.2.2.1).getD (4:Nat) (0:Int))))),j2.2.2.2.2.2.2.2.2.2.2.2.2.2.2.2.1,()))) (
 .ret (.inr (m3,m4,m1,b0,())))
theorem My:∀x,BG (jv (uw.T ⊕ ux.T)) sH bW [0,1] uw ux (AB) (fun y=>some (.inl y)) (fun b=>some (.inr b)) x=ag (gH77_v3_0 x):=fun x=>Eq.trans (b:=ag (flat (gH77_v3_0 x))) (by kernel_rfl) sj
noncomputable def Mz:bK prog 65 none 2:=bu mixed sH oQ [0,1] rfl uw ux rfl (AB) (fun x=>ag (gH77_v3_0 x)) (My)
noncomputable def Er:D prog 65 none 2:=dO [.l Mz] (kd prog f77) 0
noncomputable def FH77_v3 (uo:Int) (uq:Int) (aat:Int) (yh:(List (List Int))×List Bool) (yj:(List (List Int))×List Bool) (ym:(List (List Int))×List Bool) (yp:(List (List Int))×List Bool) (nv1:Nat) (b0:List (Int×Int)) (m1:List ((Int×Int)×Int)):bR (Int×(List ((Int×Int)×Int))×(List ((Int×Int)×Int))×(List (Int×Int))×Unit) :=
 .bd (.it gH77_v3_0 (nv1,((nv1:Nat):Int),(0:Int),m1,uo,uq,aat,(yh.1,yh.2),(yj.1,yj.2),(ym.1,ym.2),(yp.1,yp.2),[],[],b0,())) fun z3 =>
 .ret ((((z3.1).length:Nat):Int),z3.2.1,z3.2.2.1,z3.2.2.2.1,())
theorem GD:cN prog f77=some ⟨65,3,Er.er,[.t 6,.t 7],[none,some tI]⟩:=by kernel_rfl
noncomputable def JB:Ht:=⟨77,VI,VJ,(fun x=>ag (FH77_v3 x.1 x.2.1 x.2.2.1 x.2.2.2.1 x.2.2.2.2.1 x.2.2.2.2.2.1 x.2.2.2.2.2.2.1 x.2.2.2.2.2.2.2.1 x.2.2.2.2.2.2.2.2.1 x.2.2.2.2.2.2.2.2.2.1))⟩
theorem GF:JB.Ok prog:=lu mixed oQ rfl func77 GD (ah func77 rfl rfl) Er (by kernel_rfl) rfl rfl ⟨_,rfl⟩ rfl (pre:=[0,1]) rfl (fun x=>by kernel_rfl)

end Go.Proofs.Tryz

