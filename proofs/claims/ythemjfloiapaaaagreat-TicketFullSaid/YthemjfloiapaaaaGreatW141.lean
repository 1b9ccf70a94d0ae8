/- Functions of the program as functions of data, part 2; printed by a program of mine. -/
import Derived.Test.YthemjfloiapaaaaGreatW140
import Derived.Test.YthemjfloiapaaaaGreatProg
set_option linter.unusedSectionVars false
set_option linter.unusedVariables false
set_option linter.unusedSimpArgs false
open Go.AM
namespace Go.Proofs.Tryz
set_option maxRecDepth 100000
set_option synthInstance.maxSize 4000
set_option synthInstance.maxHeartbeats 400000


/- 45, lent -/
@[reducible] def Yw:ah:=ah.mk [(0,.c .b7)] [] [] []
@[reducible] def Yx:ah:=ah.mk [(0,.c (.cB 0 .str))] [(0,.arr .str false)] [.slot 0] []
noncomputable def sj:Cx:=(aF [] [fI,kX,Od,Cf,Cg,tD,XJ,XM,vz])
theorem kY:sj.Ok prog:=ag trivial ⟨⟨dS,rfl⟩,⟨kj,rfl⟩,⟨rY,rfl⟩,⟨kR,rfl⟩,⟨kU,rfl⟩,⟨jr,rfl⟩,⟨CD,rfl⟩,⟨CE,rfl⟩,⟨qx,rfl⟩,trivial⟩
@[reducible] def CL:ah:=ah.mk [(3,.c (.ptr 0 0)),(4,.c (.ptr 1 0)),(18,.c (.cB 18 .str)),(19,hI),(20,hI)] [(0,.cells [.ptr 3 0] false),(1,.cells [.mp 19] false),(18,.arr .str false),(3,.cells [.mp 5,.mp 6,.mp 7,.mp 8] false),(5,.map .str false tG true),(6,.map .str false (.list .str) false),(7,.map .str false .bool false),(8,.map .str false .bool false),(2,.cells [.ptr 3 0] false),(9,.ff),(10,.loop .busy none 9 [(2,.c .bG),(3,.c (.ptr 0 0)),(4,.c (.ptr 1 0)),(15,.fn 106 [] [.ptr 2 0])] [16,17] (.aN [.op (some 6) none (.mv (.t 17))]) (.block 1 (.seq (.aN [.op (some 18) none (.mv (.t 6)),.op (some 19) none (.len (.t 18)),.op (some 20) none (.mv (.c (.int .i64 (Int.ofNat 0))))]) (.block 2 (.loop (.seq (.aN [.op (some 21) none (.bin .lss (.t 20) (.t 19))]) (.seq (.cond (.t 21) .skip (.exit 2)) (.seq (.block 3 (.seq (.aN [.op (some 22) none (.idx 1 (.t 18) (.t 20)),.op (some 23) none (.load false 1 (.t 22)),.op (some 8) none (.mv (.t 23))]) (.seq (.draw [[],[],[1],[1,2],[1,2,3],[],[1,2,3,4,5],[1,2,3,4,5,6],[0,1,2,3,4,5,6,7]] [.op (some 24) none (.load false 1 (.t 4)),.op (some 25) none (.load false 1 (.t 3)),.op (some 26) none (.ex dB.eA [.t 25]),.op (some 27) none (.jl 0 [false] (.t 26)),.op (some 28) none (.load false 1 (.t 27)),.op (some 29) none (.mv (.t 8)),.op (some 30) none (.ex (dB.dG .str false tG true false) [.t 28,.t 29]),.op (some 31) none (.field false 3 1 (.t 30))]) (.aN [.call (some 32) none (.c (.fn 80 [] [])) [.t 24,.t 31] [none,some .str]])))) (.aN [.op (some 33) none (.bin .add (.t 20) (.c (.int .i64 (Int.ofNat 1)))),.op (some 20) none (.mv (.t 33))])))))))) 37),(11,.arr .str false),(19,.map .str false .unit true)] [.cell 1 0] []
@[reducible] def CM:aR:=[(.exit 2,ah.mk [] [(0,.cells [.ptr 3 0] false),(3,.cells [.mp 5,.mp 6,.mp 7,.mp 8] false),(5,.map .str false tG true),(6,.map .str false (.list .str) false),(7,.map .str false .bool false),(8,.map .str false .bool false),(1,.cells [.mp 19] false),(2,.cells [.ptr 3 0] false),(9,.ff),(10,.loop .busy none 9 [(2,.c .bG),(3,.c (.ptr 0 0)),(4,.c (.ptr 1 0)),(15,.fn 106 [] [.ptr 2 0])] [16,17] (.aN [.op (some 6) none (.mv (.t 17))]) (.block 1 (.seq (.aN [.op (some 18) none (.mv (.t 6)),.op (some 19) none (.len (.t 18)),.op (some 20) none (.mv (.c (.int .i64 (Int.ofNat 0))))]) (.block 2 (.loop (.seq (.aN [.op (some 21) none (.bin .lss (.t 20) (.t 19))]) (.seq (.cond (.t 21) .skip (.exit 2)) (.seq (.block 3 (.seq (.aN [.op (some 22) none (.idx 1 (.t 18) (.t 20)),.op (some 23) none (.load false 1 (.t 22)),.op (some 8) none (.mv (.t 23))]) (.seq (.draw [[],[],[1],[1,2],[1,2,3],[],[1,2,3,4,5],[1,2,3,4,5,6],[0,1,2,3,4,5,6,7]] [.op (some 24) none (.load false 1 (.t 4)),.op (some 25) none (.load false 1 (.t 3)),.op (some 26) none (.ex dB.eA [.t 25]),.op (some 27) none (.jl 0 [false] (.t 26)),.op (some 28) none (.load false 1 (.t 27)),.op (some 29) none (.mv (.t 8)),.op (some 30) none (.ex (dB.dG .str false tG true false) [.t 28,.t 29]),.op (some 31) none (.field false 3 1 (.t 30))]) (.aN [.call (some 32) none (.c (.fn 80 [] [])) [.t 24,.t 31] [none,some .str]])))) (.aN [.op (some 33) none (.bin .add (.t 20) (.c (.int .i64 (Int.ofNat 1)))),.op (some 20) none (.mv (.t 33))])))))))) 37),(11,.arr .str false),(18,.arr .str false),(19,.map .str false .unit true)] [.cell 1 0] [])]
noncomputable def CO:D prog 37 (some 10) 19:=dO [] (pick (kd prog f45) [(0,true),(0,false)]) 0
noncomputable def gH45_v1_0b_1:Nat×Int×Int×List ByteArray×bF×bI×aJ×aJ×List ByteArray×(List (ByteArray×Unit))×Unit→aY ((Nat×Int×Int×List ByteArray×bF×bI×aJ×aJ×List ByteArray×(List (ByteArray×Unit))×Unit) ⊕ ((bF×bI×aJ×aJ×List ByteArray×List ByteArray×(List (ByteArray×Unit))×Unit))):=fun (Ft,IY,v20,b18,m5,m6,m7,m8,b11,m19,_) =>
 .br (decide (v20<IY)) (
 .nb v20 ((Ft:Nat):Int) <|
 .nd (decide (((0:Nat)+(Int.toNat v20))<(b18).length)) <|
 .bd (FH80 (ak .str ((bs []),(0:Int),(bs []),(bs []),(0:Int)) m5 ((b18).getD ((0:Nat)+(Int.toNat v20)) (bs []))).2.2.2.1 m19) fun y6 =>
 .ni (v20+(1:Int)) <|
 .ret (.inl (Ft,IY,(v20+(1:Int)),b18,m5,m6,m7,m8,b11,y6.1,()))) (
 .ret (.inr (m5,m6,m7,m8,b11,b18,m19,())))
noncomputable def CQ:bL prog 37 (some 10) 19:=bp mixed sj kY [0,1,2,3,4,5,6,7,8,9,10,11,12,13,14,15,16,17,18] rfl CL CM rfl (CO) (fun x=>ai (gH45_v1_0b_1 x)) (fun x=>by kernel_rfl)
noncomputable def yp:D prog 37 (some 10) 19:=dO [] (pick (kd prog f45) [(0,false)]) 0
noncomputable def yq:D prog 37 (some 10) 19:=dO [.l CQ] (pick (kd prog f45) [(0,true)]) 0
noncomputable def ou:Cx:=uJ sj (fun kz=>NJ kz sj dN 10 19 [16,17] (yp) (yq))
theorem ov:(ou).Ok prog:=gF kY (fun h=>jU mixed kY h)
@[reducible] def CR:ah:=ah.mk [(0,.c (.yl 10)),(1,.c (.ptr 2 0)),(10,.c (.cB 11 .str)),(11,hI),(12,hI)] [(10,.loop .ready none 9 [(2,.c .bG),(3,.c (.ptr 0 0)),(4,.c (.ptr 1 0)),(15,.fn 106 [] [.ptr 2 0])] [16,17] (.aN [.op (some 6) none (.mv (.t 17))]) (.block 1 (.seq (.aN [.op (some 18) none (.mv (.t 6)),.op (some 19) none (.len (.t 18)),.op (some 20) none (.mv (.c (.int .i64 (Int.ofNat 0))))]) (.block 2 (.loop (.seq (.aN [.op (some 21) none (.bin .lss (.t 20) (.t 19))]) (.seq (.cond (.t 21) .skip (.exit 2)) (.seq (.block 3 (.seq (.aN [.op (some 22) none (.idx 1 (.t 18) (.t 20)),.op (some 23) none (.load false 1 (.t 22)),.op (some 8) none (.mv (.t 23))]) (.seq (.draw [[],[],[1],[1,2],[1,2,3],[],[1,2,3,4,5],[1,2,3,4,5,6],[0,1,2,3,4,5,6,7]] [.op (some 24) none (.load false 1 (.t 4)),.op (some 25) none (.load false 1 (.t 3)),.op (some 26) none (.ex dB.eA [.t 25]),.op (some 27) none (.jl 0 [false] (.t 26)),.op (some 28) none (.load false 1 (.t 27)),.op (some 29) none (.mv (.t 8)),.op (some 30) none (.ex (dB.dG .str false tG true false) [.t 28,.t 29]),.op (some 31) none (.field false 3 1 (.t 30))]) (.aN [.call (some 32) none (.c (.fn 80 [] [])) [.t 24,.t 31] [none,some .str]])))) (.aN [.op (some 33) none (.bin .add (.t 20) (.c (.int .i64 (Int.ofNat 1)))),.op (some 20) none (.mv (.t 33))])))))))) 37),(2,.cells [.ptr 3 0] false),(11,.arr .str false),(9,.ff),(0,.cells [.ptr 3 0] false),(3,.cells [.mp 5,.mp 6,.mp 7,.mp 8] false),(5,.map .str false tG true),(6,.map .str false (.list .str) false),(7,.map .str false .bool false),(8,.map .str false .bool false),(1,.cells [.mp 12] false),(12,.map .str false .unit true)] [.slot 10,.cell 1 0] []
@[reducible] def CS:aR:=[(.exit 0,ah.mk [] [(0,.cells [.ptr 3 0] false),(3,.cells [.mp 5,.mp 6,.mp 7,.mp 8] false),(5,.map .str false tG true),(6,.map .str false (.list .str) false),(7,.map .str false .bool false),(8,.map .str false .bool false),(1,.cells [.mp 11] false),(2,.cells [.ptr 3 0] false),(9,.ff),(10,.loop .ready none 9 [(2,.c .bG),(3,.c (.ptr 0 0)),(4,.c (.ptr 1 0)),(15,.fn 106 [] [.ptr 2 0])] [16,17] (.aN [.op (some 6) none (.mv (.t 17))]) (.block 1 (.seq (.aN [.op (some 18) none (.mv (.t 6)),.op (some 19) none (.len (.t 18)),.op (some 20) none (.mv (.c (.int .i64 (Int.ofNat 0))))]) (.block 2 (.loop (.seq (.aN [.op (some 21) none (.bin .lss (.t 20) (.t 19))]) (.seq (.cond (.t 21) .skip (.exit 2)) (.seq (.block 3 (.seq (.aN [.op (some 22) none (.idx 1 (.t 18) (.t 20)),.op (some 23) none (.load false 1 (.t 22)),.op (some 8) none (.mv (.t 23))]) (.seq (.draw [[],[],[1],[1,2],[1,2,3],[],[1,2,3,4,5],[1,2,3,4,5,6],[0,1,2,3,4,5,6,7]] [.op (some 24) none (.load false 1 (.t 4)),.op (some 25) none (.load false 1 (.t 3)),.op (some 26) none (.ex dB.eA [.t 25]),.op (some 27) none (.jl 0 [false] (.t 26)),.op (some 28) none (.load false 1 (.t 27)),.op (some 29) none (.mv (.t 8)),.op (some 30) none (.ex (dB.dG .str false tG true false) [.t 28,.t 29]),.op (some 31) none (.field false 3 1 (.t 30))]) (.aN [.call (some 32) none (.c (.fn 80 [] [])) [.t 24,.t 31] [none,some .str]])))) (.aN [.op (some 33) none (.bin .add (.t 20) (.c (.int .i64 (Int.ofNat 1)))),.op (some 20) none (.mv (.t 33))])))))))) 37),(11,.map .str false .unit true)] [.cell 1 0] [])]
noncomputable def CT:D prog 34 none 11:=dO [] (pick (kd prog f106) [(0,false)]) 0
noncomputable def gH45_v1_0i_0:Nat×Int×Int×List ByteArray×bF×bI×aJ×aJ×(List (ByteArray×Unit))×Unit→aY ((Nat×Int×Int×List ByteArray×bF×bI×aJ×aJ×(List (ByteArray×Unit))×Unit) ⊕ ((bF×bI×aJ×aJ×(List (ByteArray×Unit))×Unit))):=fun (mN,v11,v12,b11,m5,m6,m7,m8,m12,_) =>
 .br (decide (v12<v11)) (
 .nb v12 ((mN:Nat):Int) <|
 .nd (decide (((0:Nat)+(Int.toNat v12))<(b11).length)) <|
 .br ((ak .str ((bs []),(0:Int),(bs []),(bs []),(0:Int)) m5 ((b11).getD ((0:Nat)+(Int.toNat v12)) (bs []))).2.1==(1:Int)) (
 .bd (FH76fix ((b11).getD ((0:Nat)+(Int.toNat v12)) (bs [])) m5 m6 m7 m8) fun y5 =>
 .bd (.it gH45_v1_0b_1 (y5.1,((y5.1:Nat):Int),(0:Int),y5.2.1,y5.2.2.1,y5.2.2.2.1,y5.2.2.2.2.1,y5.2.2.2.2.2.1,b11,m12,())) fun z7 =>
 .ni (v12+(1:Int)) <|
 .ret (.inl (mN,v11,(v12+(1:Int)),z7.2.2.2.2.1,z7.1,z7.2.1,z7.2.2.1,z7.2.2.2.1,z7.2.2.2.2.2.2.1,()))) (
 .ni (v12+(1:Int)) <|
 .ret (.inl (mN,v11,(v12+(1:Int)),b11,m5,m6,m7,m8,m12,())))) (
 .ret (.inr (m5,m6,m7,m8,m12,())))
noncomputable def CU:bL prog 34 none 11:=bp mixed ou ov [0,1,2,3,4,5,6,7,8,9,10] rfl CR CS rfl (CT) (fun x=>ai (gH45_v1_0i_0 x)) (fun x=>by kernel_rfl)
@[reducible] def O8:ah:=ah.mk [(2,.c .bG),(3,.c (.ptr 0 0)),(4,.c (.ptr 1 0)),(15,.fn 106 [] [.ptr 2 0])] [(0,.cells [.ptr 3 0] false),(1,.cells [.mp 4] false),(2,.cells [.ptr 3 0] false),(3,.cells [.mp 5,.mp 6,.mp 7,.mp 8] false),(4,.map .str false .unit true),(5,.map .str false tG true),(6,.map .str false (.list .str) false),(7,.map .str false .bool false),(8,.map .str false .bool false)] [.slot 3,.slot 4,.part 15 0,.cell 0 0,.cell 1 0,.cell 3 0,.cell 3 1,.cell 3 2,.cell 3 3] []
@[reducible] def O9:aR:=[(.normal,ah.mk [(4,.c (.ptr 0 0))] [(0,.cells [.mp 1] false),(1,.map .str false .unit true)] [.slot 4,.cell 0 0] [])]
noncomputable def yu:D prog 34 none 11:=dO [.l CU] (kd prog f106) 0
theorem JI:bK prog f106=some ⟨34,2,(yu).er,[],[]⟩:=by kernel_rfl
noncomputable def gH45_v1_0:(List (ByteArray×Unit))×bF×bI×aJ×aJ×Unit→aY (((List (ByteArray×Unit))×Unit)):=fun (m4,m5,m6,m7,m8,_) =>
 .bd (FH95 m5) fun y3 =>
 .bd (FH81 y3.1) fun y4 =>
 .bd (.it gH45_v1_0i_0 (y4.1,((y4.1:Nat):Int),(0:Int),y4.2.1,y4.2.2.1,m6,m7,m8,m4,())) fun z8 =>
 .ret ((z8.2.2.2.2.1,()))
noncomputable def Pa:eL prog 37 none 0:=mH mixed ou ov [] rfl O8 O9 ( .t 15) [16,17] rfl (yp).er (yq).er 106 func106 (JI) (enters_of func106 rfl rfl) 11 rfl (yu) rfl (fun x=>ai (gH45_v1_0 x)) (fun x=>by kernel_rfl)
noncomputable def Gg:D prog 37 none 0:=dO [.r Pa] (kd prog f45) 0
noncomputable def FH45_v1:aY (Nat×List ByteArray×Unit) :=
 .bd (FH54_v1) fun y0 =>
 .br y0.1 (
 .ret ((0:Nat),[],())) (
 .bd (FH66_v1) fun y1 =>
 .bd (FH79 y1.1 y1.2.1 y1.2.2.1 y1.2.2.2.1) fun y2 =>
 .bd (gH45_v1_0 ([],y2.1,y2.2.1,y2.2.2.1,y2.2.2.2.1,())) fun z9 =>
 .bd (FH82 z9.1) fun PZ =>
 .bd (FH81_v1 PZ.1) fun HE =>
 .ret (HE.1,HE.2.1,()))
theorem JJ:bK prog f45=some ⟨37,1,Gg.er,[.t 2],[some (.list .str)]⟩:=by kernel_rfl
noncomputable def Mo:Ht:=⟨45,Yw,Yx,(fun x=>ai (FH45_v1))⟩
theorem JK:Mo.Ok prog:=aM mixed kY rfl func45 JJ (enters_of func45 rfl rfl) Gg (by kernel_rfl) rfl rfl ⟨_,rfl⟩ rfl (pre:=[]) rfl (fun x=>by kernel_rfl)

/- 52, lent -/
@[reducible] def pH52:ah:=ah.mk [(0,.c .b7),(1,.c (.ptr 0 0))] [(0,.cells [.mp 1] false),(1,.map tG true .bool false)] [.slot 1,.cell 0 0] []
@[reducible] def qH52:ah:=ah.mk [(0,.c (.hole .bool))] [(0,.cells [.mp 2] false),(2,.map tG true .bool false)] [.cell 0 0] []
noncomputable def aiH:Cx:=(aF [] [Md,Me,CJ,Mf,Mh,Mj,Ml,Mn,vA,Mo])
theorem TZ:aiH.Ok prog:=ag trivial ⟨⟨Jn,rfl⟩,⟨Jq,rfl⟩,⟨ym,rfl⟩,⟨Jt,rfl⟩,⟨Jv,rfl⟩,⟨Jz,rfl⟩,⟨JD,rfl⟩,⟨JH,rfl⟩,⟨qy,rfl⟩,⟨JK,rfl⟩,trivial⟩
noncomputable def abB:D prog 88 none 2:=dO [] (kd prog f52) 0
noncomputable def FH52 (m1:List ((GG)×Bool)):aY (Bool×(List ((GG)×Bool))×Unit) :=
 .bd (FH32_v1 (bs [116,49])) fun y0 =>
 .bd (FH33_v1 (bs [116,49])) fun y1 =>
 .bd (FH23_v1 (bs [])) fun y2 =>
 .bd (FH25_v1 (bs [])) fun y3 =>
 .bd (FH37_v1) fun y4 =>
 .bd (FH20_v1 ((bs []),(0:Int),(bs []),(bs []),(0:Int))) fun y5 =>
 .br (y5.1==(9:Int)) (
 .bd (FH48_v2 m1) fun y6 =>
 .br (y6.1==(9:Int)) (
 .bd (FH48_v3 y6.2.1) fun y7 =>
 .br (y7.1==(9:Int)) (
 .br (y0.2.1==(9:Int)) (
 .br (y1.2.1==(9:Int)) (
 .br (y2.2.1==(9:Int)) (
 .br (y3.2.1==(9:Int)) (
 .br (y4.2.1==(9:Int)) (
 .bd (FH47_v1) fun y8 =>
 .br ((0:Int)==(0:Int)) (
 .bd (FH45_v1) fun y9 =>
 .ret ((((y9.1:Nat):Int)==(0:Int)),y7.2.1,())) (
 .ret (false,y7.2.1,()))) (
 .ret (false,y7.2.1,()))) (
 .ret (false,y7.2.1,()))) (
 .ret (false,y7.2.1,()))) (
 .ret (false,y7.2.1,()))) (
 .ret (false,y7.2.1,()))) (
 .ret (false,y7.2.1,()))) (
 .ret (false,y6.2.1,()))) (
 .ret (false,m1,()))
theorem Yy:bK prog f52=some ⟨88,2,abB.er,[.t 4],[some .bool]⟩:=by kernel_rfl
noncomputable def ht52:Ht:=⟨52,pH52,qH52,(fun x=>ai (FH52 x.1))⟩
theorem Yz:ht52.Ok prog:=aM mixed TZ rfl func52 Yy (enters_of func52 rfl rfl) abB (by kernel_rfl) rfl rfl ⟨_,rfl⟩ rfl (pre:=[0,1]) rfl (fun x=>by kernel_rfl)

/- 54, lent -/
@[reducible] def YA:ah:=ah.mk [(0,.c (.ptr 0 0))] [(0,.cells [.aO] false)] [.slot 0] []
@[reducible] def YB:ah:=ah.mk [(0,.c (.hole .bool))] [(0,.cells [.aO] false)] [] []
noncomputable def T0:Cx:=(aF [] [])
theorem Gi:T0.Ok prog:=ag trivial trivial
noncomputable def Gj:D prog 12 none 1:=dO [] (kd prog f54) 0
noncomputable def FH54_v2:aY (Bool×Unit) :=
 .ret (true,())
theorem JL:bK prog f54=some ⟨12,1,Gj.er,[.t 2],[some .bool]⟩:=by kernel_rfl
noncomputable def fJ:Ht:=⟨54,YA,YB,(fun x=>ai (FH54_v2))⟩
theorem dU:fJ.Ok prog:=aM mixed Gi rfl func54 JL (enters_of func54 rfl rfl) Gj (by kernel_rfl) rfl rfl ⟨_,rfl⟩ rfl (pre:=[0]) rfl (fun x=>by kernel_rfl)

/- 84, lent -/
@[reducible] def YC:ah:=ah.mk [(0,.c .aO)] [] [] []
@[reducible] def YD:ah:=ah.mk [(0,.fn 111 [] [.ptr 0 0])] [(0,.cells [.aO] false)] [.part 0 0] []
noncomputable def T1:Cx:=(aF [] [])
theorem Gk:T1.Ok prog:=ag trivial trivial
noncomputable def Gl:D prog 4 none 0:=dO [] (kd prog f84) 0
noncomputable def FH84_v1:aY (Unit) :=
 .ret ()
theorem JM:bK prog f84=some ⟨4,1,Gl.er,[.t 2],[none]⟩:=by kernel_rfl
noncomputable def Mp:Ht:=⟨84,YC,YD,(fun x=>ai (FH84_v1))⟩
theorem JN:Mp.Ok prog:=aM mixed Gk rfl func84 JM (enters_of func84 rfl rfl) Gl (by kernel_rfl) rfl rfl ⟨_,rfl⟩ rfl (pre:=[]) rfl (fun x=>by kernel_rfl)

/- 83, lent -/
@[reducible] def YE:ah:=ah.mk [(0,.fn 111 [] [.ptr 0 0]),(1,.c (.fn0 85))] [(0,.cells [.aO] false)] [.part 0 0] []
@[reducible] def YF:ah:=ah.mk [(0,.c .any)] [] [] []
noncomputable def T2:Cx:=(aF [] [])
theorem Gm:T2.Ok prog:=ag trivial trivial
noncomputable def Gn:D prog 12 none 1:=dO [] (kd prog f83) 0
noncomputable def FH83_v1:aY (Unit) :=
 .no
theorem JO:bK prog f83=some ⟨12,2,Gn.er,[.t 4],[some (.list tG)]⟩:=by kernel_rfl
noncomputable def Mq:Ht:=⟨83,YE,YF,(fun x=>ai (FH83_v1))⟩
theorem JP:Mq.Ok prog:=aM mixed Gm rfl func83 JO (enters_of func83 rfl rfl) Gn (by kernel_rfl) rfl rfl ⟨_,rfl⟩ rfl (pre:=[0]) rfl (fun x=>by kernel_rfl)

/- 47, lent -/
@[reducible] def YG:ah:=ah.mk [(0,.c (.ptr 0 0))] [(0,.cells [.aO] false)] [.slot 0] []
@[reducible] def YH:ah:=ah.mk [(0,.c .bG)] [(0,.cells [.aO] false)] [] []
noncomputable def T3:Cx:=(aF [] [fJ,Mp,Mq])
theorem Gp:T3.Ok prog:=ag trivial ⟨⟨dU,rfl⟩,⟨JN,rfl⟩,⟨JP,rfl⟩,trivial⟩
noncomputable def Gq:D prog 11 none 1:=dO [] (kd prog f47) 0
noncomputable def FH47_v2:aY (Unit) :=
 .bd (FH54_v2) fun y0 =>
 .br y0.1 (
 .ret ()) (
 .bd (FH84_v1) fun y1 =>
 .bd (FH83_v1) fun y2 =>
 .no)
theorem JQ:bK prog f47=some ⟨11,1,Gq.er,[.t 2],[some (.list tG)]⟩:=by kernel_rfl
noncomputable def vB:Ht:=⟨47,YG,YH,(fun x=>ai (FH47_v2))⟩
theorem qz:vB.Ok prog:=aM mixed Gp rfl func47 JQ (enters_of func47 rfl rfl) Gq (by kernel_rfl) rfl rfl ⟨_,rfl⟩ rfl (pre:=[0]) rfl (fun x=>by kernel_rfl)

/- 66, lent -/
@[reducible] def YI:ah:=ah.mk [(0,.c (.ptr 0 0))] [(0,.cells [.aO] false)] [.slot 0] []
@[reducible] def YJ:ah:=ah.mk [(0,.c (.ptr 1 0))] [(1,.cells [.mp 2,.mp 3,.mp 4,.mp 5] false),(0,.cells [.aO] false),(2,.map .str false tG true),(3,.map .str false (.list .str) false),(4,.map .str false .bool false),(5,.map .str false .bool false)] [.slot 0,.cell 1 0,.cell 1 1,.cell 1 2,.cell 1 3] []
noncomputable def ow:Cx:=(aF [] [vB,Cf,Cg,Sz,W7,W9])
theorem iK:ow.Ok prog:=ag trivial ⟨⟨qz,rfl⟩,⟨kR,rfl⟩,⟨kU,rfl⟩,⟨vu,rfl⟩,⟨Ch,rfl⟩,⟨Ci,rfl⟩,trivial⟩
@[reducible] def Pb:ah:=ah.mk [(3,.c (.ptr 1 0)),(26,.c .bG),(27,hI),(28,hI)] [(1,.cells [.ptr 2 0] false),(0,.cells [.aO] false),(2,.cells [.mp 3,.mp 4,.mp 5,.mp 6] false),(3,.map .str false tG true),(4,.map .str false (.list .str) false),(5,.map .str false .bool false),(6,.map .str false .bool false)] [.slot 3,.cell 1 0,.cell 2 0,.cell 2 1,.cell 2 2,.cell 2 3] []
@[reducible] def Pc:aR:=[(.exit 0,ah.mk [(3,.c (.ptr 1 0))] [(1,.cells [.ptr 2 0] false),(0,.cells [.aO] false),(2,.cells [.mp 3,.mp 4,.mp 5,.mp 6] false),(3,.map .str false tG true),(4,.map .str false (.list .str) false),(5,.map .str false .bool false),(6,.map .str false .bool false)] [.slot 3,.cell 1 0,.cell 2 0,.cell 2 1,.cell 2 2,.cell 2 3] [])]
noncomputable def Pd:D prog 148 none 1:=dO [] (pick (kd prog f66) [(0,false)]) 0
noncomputable def gH66_v2_0:Int×Int×bF×bI×aJ×aJ×Unit→aY ((Int×Int×bF×bI×aJ×aJ×Unit) ⊕ ((bF×bI×aJ×aJ×Unit))):=fun (v27,v28,m3,m4,m5,m6,_) =>
 .br (decide (v28<v27)) (
 .no) (
 .ret (.inr (m3,m4,m5,m6,())))
noncomputable def Pe:bL prog 148 none 1:=bp mixed ow iK [0] rfl Pb Pc rfl (Pd) (fun x=>ai (gH66_v2_0 x)) (fun x=>by kernel_rfl)
@[reducible] def Pf:ah:=ah.mk [(3,.c (.ptr 1 0)),(57,.c (.cB 2 .str)),(58,hI),(59,hI)] [(1,.cells [.ptr 3 0] false),(2,.arr .str false),(0,.cells [.aO] false),(3,.cells [.mp 4,.mp 5,.mp 6,.mp 7] false),(4,.map .str false tG true),(5,.map .str false (.list .str) false),(6,.map .str false .bool false),(7,.map .str false .bool false)] [.slot 3,.slot 57,.cell 1 0,.cell 3 0,.cell 3 1,.cell 3 2,.cell 3 3] []
@[reducible] def Pg:aR:=[(.exit 2,ah.mk [(3,.c (.ptr 1 0))] [(1,.cells [.ptr 2 0] false),(0,.cells [.aO] false),(2,.cells [.mp 3,.mp 4,.mp 5,.mp 6] false),(3,.map .str false tG true),(4,.map .str false (.list .str) false),(5,.map .str false .bool false),(6,.map .str false .bool false)] [.slot 3,.cell 1 0,.cell 2 0,.cell 2 1,.cell 2 2,.cell 2 3] [])]
noncomputable def Ph:D prog 148 none 1:=dO [] (pick (kd prog f66) [(1,false)]) 0
noncomputable def gH66_v2_1:Nat×Int×Int×List ByteArray×bF×bI×aJ×aJ×Unit→aY ((Nat×Int×Int×List ByteArray×bF×bI×aJ×aJ×Unit) ⊕ ((bF×bI×aJ×aJ×Unit))):=fun (cF,v58,v59,b2,m4,m5,m6,m7,_) =>
 .br (decide (v59<v58)) (
 .nb v59 ((cF:Nat):Int) <|
 .nd (decide (((0:Nat)+(Int.toNat v59))<(b2).length)) <|
 .br ((ak .str ((bs []),(0:Int),(bs []),(bs []),(0:Int)) m4 ((b2).getD ((0:Nat)+(Int.toNat v59)) (bs []))).2.1==(3:Int)) (
 .ni (v59+(1:Int)) <|
 .ret (.inl (cF,v58,(v59+(1:Int)),b2,m4,m5,(aS .str m6 (ak .str ((bs []),(0:Int),(bs []),(bs []),(0:Int)) m4 ((b2).getD ((0:Nat)+(Int.toNat v59)) (bs []))).2.2.1 true),m7,()))) (
 .br ((ak .str ((bs []),(0:Int),(bs []),(bs []),(0:Int)) m4 ((b2).getD ((0:Nat)+(Int.toNat v59)) (bs []))).2.1==(2:Int)) (
 .no) (
 .ni (v59+(1:Int)) <|
 .ret (.inl (cF,v58,(v59+(1:Int)),b2,m4,m5,m6,m7,()))))) (
 .ret (.inr (m4,m5,m6,m7,())))
noncomputable def Pj:bL prog 148 none 1:=bp mixed ow iK [0] rfl Pf Pg rfl (Ph) (fun x=>ai (gH66_v2_1 x)) (fun x=>by kernel_rfl)
@[reducible] def CV:ah:=ah.mk [(3,.c (.ptr 1 0)),(11,.c (.ptr 2 0)),(16,.c (.PU 9 .str)),(102,.c (.mp 4)),(103,.c (.ptr 8 0)),(121,.c (.ptr 10 1)),(122,hI),(123,.c (.hole .bool)),(132,.c (.hole (.list .str))),(133,hI),(134,hI)] [(1,.cells [.ptr 3 0] false),(2,.cells [.fn 96 .nil (.cons (.ptr 1 0) (.cons (.ptr 2 0) .nil))] false),(9,.arr .str false),(4,.map .str false (.list .str) false),(10,.cells [.hole .str,.hole tI,.hole .str,.hole .str,.hole tI] false),(3,.cells [.mp 5,.mp 4,.mp 6,.mp 7] false),(5,.map .str false tG true),(6,.map .str false .bool false),(7,.map .str false .bool false),(0,.cells [.aO] false)] [.slot 16,.slot 121] []
@[reducible] def CW:aR:=[(.exit 7,ah.mk [(3,.c (.ptr 1 0)),(11,.c (.ptr 2 0)),(102,.c (.mp 4)),(103,.c (.ptr 8 0)),(121,.c (.ptr 9 1)),(122,hI),(123,.c (.hole .bool))] [(1,.cells [.ptr 3 0] false),(2,.cells [.fn 96 .nil (.cons (.ptr 1 0) (.cons (.ptr 2 0) .nil))] false),(4,.map .str false (.list .str) false),(9,.cells [.hole .str,.hole tI,.hole .str,.hole .str,.hole tI] false),(3,.cells [.mp 5,.mp 4,.mp 6,.mp 7] false),(5,.map .str false tG true),(6,.map .str false .bool false),(7,.map .str false .bool false),(0,.cells [.aO] false)] [.slot 121] [])]
noncomputable def CX:D prog 148 none 9:=dO [] (pick (kd prog f66) [(2,false),(0,false)]) 0
noncomputable def gH66_v2_2b_3:Nat×Nat×Int×Bool×List ByteArray×Int×Int×List ByteArray×bI×ByteArray×Int×ByteArray×ByteArray×Int×bF×aJ×aJ×Unit→aY ((Nat×Nat×Int×Bool×List ByteArray×Int×Int×List ByteArray×bI×ByteArray×Int×ByteArray×ByteArray×Int×bF×aJ×aJ×Unit) ⊕ ((Int×Bool×bI×ByteArray×Int×ByteArray×ByteArray×Int×bF×aJ×aJ×Unit))):=fun (rV,xQ,pg,pn,nZ,xR,iH,b9,m4,T4,T5,T6,T7,T8,m5,m6,m7,_) =>
 .br (decide (iH<xR)) (
 .nb iH (((nZ).length:Nat):Int) <|
 .nb (0:Int) ((xQ:Nat):Int) <|
 .nd (decide ((rV+(Int.toNat (0:Int)))<(b9).length)) <|
 .br (!(seq ((nZ).getD (Int.toNat iH) (bs [])) ((b9).getD (rV+(Int.toNat (0:Int))) (bs [])))) (
 .bd (FH96fix ((nZ).getD (Int.toNat iH) (bs [])) m5 m4 m6 m7) fun y7 =>
 .ni (iH+(1:Int)) <|
 .ret (.inl (rV,xQ,pg,pn,nZ,xR,(iH+(1:Int)),b9,y7.2.1,T4,T5,T6,T7,T8,y7.1,y7.2.2.1,y7.2.2.2.1,()))) (
 .ni (iH+(1:Int)) <|
 .ret (.inl (rV,xQ,pg,pn,nZ,xR,(iH+(1:Int)),b9,m4,T4,T5,T6,T7,T8,m5,m6,m7,())))) (
 .ret (.inr (pg,pn,m4,T4,T5,T6,T7,T8,m5,m6,m7,())))
noncomputable def CY:bL prog 148 none 9:=bp mixed ow iK [0,1,2,3,4,5,6,7,8] rfl CV CW rfl (CX) (fun x=>ai (gH66_v2_2b_3 x)) (fun x=>by kernel_rfl)
@[reducible] def Pk:ah:=ah.mk [(3,.c (.ptr 1 0)),(11,.c (.ptr 2 0)),(102,.c (.mp 4))] [(1,.cells [.ptr 3 0] false),(2,.cells [.fn 96 .nil (.cons (.ptr 1 0) (.cons (.ptr 2 0) .nil))] false),(3,.cells [.mp 5,.mp 4,.mp 6,.mp 7] false),(4,.map .str false (.list .str) false),(0,.cells [.aO] false),(5,.map .str false tG true),(6,.map .str false .bool false),(7,.map .str false .bool false)] [.slot 3,.slot 11,.cell 1 0,.cell 3 1,.cell 3 0,.cell 3 2,.cell 3 3] []
noncomputable def Pm:D prog 148 none 9:=dO [.l CY] (pick (kd prog f66) [(2,false)]) 0
noncomputable def gH66_v2_2:((ByteArray)×(List ByteArray))→bI×bF×aJ×aJ×Unit→aY (bI×bF×aJ×aJ×Unit):=fun e (m4,m5,m6,m7,_) =>
 .br (!(aL .str m5 e.1)) (
 .nd (eu m4 m4) <|
 .ret (m4,m5,m6,m7,())) (
 .br ((ak .str ((bs []),(0:Int),(bs []),(bs []),(0:Int)) m5 e.1).2.1==(3:Int)) (
 .nd (eu m4 m4) <|
 .ret (m4,m5,m6,m7,())) (
 .bd (FH98 e.2) fun y5 =>
 .bd (FH97 y5.1 y5.2.1 m5 m4 m6 m7) fun y6 =>
 .br (!(((y6.2.1:Nat):Int)==(1:Int))) (
 .nd (eu y6.2.2.2.2.1 m4) <|
 .ret (y6.2.2.2.2.1,y6.2.2.2.1,y6.2.2.2.2.2.1,y6.2.2.2.2.2.2.1,())) (
 .bd (.it gH66_v2_2b_3 (y6.1,y6.2.1,(ak .str ((bs []),(0:Int),(bs []),(bs []),(0:Int)) m5 e.1).2.1,((ak .str ((bs []),(0:Int),(bs []),(bs []),(0:Int)) m5 e.1).2.1==(3:Int)),e.2,(((e.2).length:Nat):Int),(0:Int),y6.2.2.1,y6.2.2.2.2.1,(ak .str ((bs []),(0:Int),(bs []),(bs []),(0:Int)) m5 e.1).1,(ak .str ((bs []),(0:Int),(bs []),(bs []),(0:Int)) m5 e.1).2.1,(ak .str ((bs []),(0:Int),(bs []),(bs []),(0:Int)) m5 e.1).2.2.1,(ak .str ((bs []),(0:Int),(bs []),(bs []),(0:Int)) m5 e.1).2.2.2.1,(ak .str ((bs []),(0:Int),(bs []),(bs []),(0:Int)) m5 e.1).2.2.2.2,y6.2.2.2.1,y6.2.2.2.2.2.1,y6.2.2.2.2.2.2.1,())) fun z8 =>
 .nd (eu z8.2.2.1 m4) <|
 .ret (z8.2.2.1,z8.2.2.2.2.2.2.2.2.1,z8.2.2.2.2.2.2.2.2.2.1,z8.2.2.2.2.2.2.2.2.2.2.1,()))))
noncomputable def Pn:o5 prog 148 none 1:=rH mixed ow iK [0] rfl Pk ( [.op (some 99) none (.load false 1 (.t 3)),.op (some 100) none (.ex dB.eA [.t 99]),.op (some 101) none (.jl 1 [true,false] (.t 100)),.op (some 102) none (.load false 1 (.t 101))]) 102 103 [104,105] (some 106) ( .str)  false ( .list .str)  false 5 rfl 9 rfl (Pm) (fun e x=>ai (gH66_v2_2 e x)) (fun e=>fun x=>by kernel_rfl)
noncomputable def Gr:D prog 148 none 1:=dO [.l Pe,.l Pj,.m Pn] (kd prog f66) 0
noncomputable def FH66_v2:aY (bF×bI×aJ×aJ×Unit) :=
 .bd (FH47_v2) fun y0 =>
 .bd (.it gH66_v2_0 ((0:Int),(0:Int),[],[],[],[],())) fun z1 =>
 .bd (FH95 z1.1) fun y2 =>
 .bd (FH81 y2.1) fun y3 =>
 .bd (.it gH66_v2_1 (y3.1,((y3.1:Nat):Int),(0:Int),y3.2.1,y3.2.2.1,z1.2.1,z1.2.2.1,z1.2.2.2.1,())) fun z4 =>
 .bd (.mq gH66_v2_2 z4.2.1 (z4.2.1,z4.1,z4.2.2.1,z4.2.2.2.1,())) fun z9 =>
 .ret (z9.2.1,z9.1,z9.2.2.1,z9.2.2.2.1,())
theorem JR:bK prog f66=some ⟨148,1,Gr.er,[.t 2],[none]⟩:=by kernel_rfl
noncomputable def kZ:Ht:=⟨66,YI,YJ,(fun x=>ai (FH66_v2))⟩
theorem kn:kZ.Ok prog:=aM mixed iK rfl func66 JR (enters_of func66 rfl rfl) Gr (by kernel_rfl) rfl rfl ⟨_,rfl⟩ rfl (pre:=[0]) rfl (fun x=>by kernel_rfl)

/- 32, lent -/
@[reducible] def YK:ah:=ah.mk [(0,.c (.ptr 0 0)),(1,.c (.hole .str))] [(0,.cells [.aO] false)] [.slot 0] []
@[reducible] def YL:ah:=ah.mk [(0,.bX [.hole tI,.hole tI])] [(0,.cells [.aO] false)] [] []
noncomputable def yw:Cx:=(aF [I1] [fJ,kZ,IZ])
theorem zG:yw.Ok prog:=ag (sA:=[I1]) (hts:=[fJ,kZ,IZ]) ⟨Ck,trivial⟩ ⟨⟨dU,rfl⟩,⟨kn,rfl⟩,⟨Cj,rfl⟩,trivial⟩
@[reducible] noncomputable def JS:Go.AM.Fn:=⟨29,2,(dO [] (kd prog f73) 0:D prog 29 none 0).er,[.t 4,.cell 5 true 5,.t 6],[none,some tG,some tI]⟩
noncomputable def yx:Cx:=uL prog yw 73 JS (fun _=>dO [] (kd prog f73) 0)
theorem zH:yx.Ok prog:=ij mixed zG func73 (by kernel_rfl) (enters_of func73 rfl rfl) (fun _=>by kernel_rfl)
noncomputable def T9:Cx:=yx
theorem Gs:T9.Ok prog:=zH
noncomputable def Gt:D prog 51 none 1:=dO [] (kd prog f32) 0
noncomputable def FH32_v2 (v1:ByteArray):aY (Int×Int×Unit) :=
 .bd (FH54_v2) fun y0 =>
 .br y0.1 (
 .br (!((9:Int)==(0:Int))) (
 .ret ((0:Int),(9:Int),())) (
 .br ((0:Int)==(3:Int)) (
 .ret ((0:Int),(18:Int),())) (
 .no))) (
 .bd (FH66_v2) fun y1 =>
 .br (!(aL .str y1.1 v1)) (
 .br (!((5:Int)==(0:Int))) (
 .ret ((0:Int),(5:Int),())) (
 .br ((0:Int)==(3:Int)) (
 .ret ((0:Int),(18:Int),())) (
 .no))) (
 .br (!((0:Int)==(0:Int))) (
 .ret ((0:Int),(0:Int),())) (
 .br ((ak .str ((bs []),(0:Int),(bs []),(bs []),(0:Int)) y1.1 v1).2.1==(3:Int)) (
 .ret ((0:Int),(18:Int),())) (
 .br (ak .str false y1.2.2.2.1 v1) (
 .ret ((2:Int),(0:Int),())) (
 .bd (FH74 v1 y1.1 y1.2.1 y1.2.2.1 y1.2.2.2.1) fun y2 =>
 .br (!y2.2.1) (
 .ret ((1:Int),(0:Int),())) (
 .bd (F75 (((y2.2.2.1).drop (0:Nat)).take y2.1) v1) fun y3 =>
 .br (!y3.1) (
 .ret ((3:Int),(0:Int),())) (
 .br (decide ((1:Int)<((y2.1:Nat):Int))) (
 .ret ((5:Int),(0:Int),())) (
 .ret ((4:Int),(0:Int),())))))))))
theorem JT:bK prog f32=some ⟨51,2,Gt.er,[.t 4,.t 5],[some tI,some tI]⟩:=by kernel_rfl
noncomputable def Mr:Ht:=⟨32,YK,YL,(fun x=>ai (FH32_v2 x.1))⟩
theorem JU:Mr.Ok prog:=aM mixed Gs rfl func32 JT (enters_of func32 rfl rfl) Gt (by kernel_rfl) rfl rfl ⟨_,rfl⟩ rfl (pre:=[0]) rfl (fun x=>by kernel_rfl)

/- 33, lent -/
@[reducible] def YM:ah:=ah.mk [(0,.c (.ptr 0 0)),(1,.c (.hole .str))] [(0,.cells [.aO] false)] [.slot 0] []
@[reducible] def YN:ah:=ah.mk [(0,.bX [.cB 1 .str,.hole tI])] [(1,.arr .str false),(0,.cells [.aO] false)] [.part 0 0] []
noncomputable def yy:Cx:=(aF [] [fJ,mM,kZ,tD])
theorem zI:yy.Ok prog:=ag (sA:=[]) (hts:=[fJ,mM,kZ,tD]) trivial ⟨⟨dU,rfl⟩,⟨qp,rfl⟩,⟨kn,rfl⟩,⟨jr,rfl⟩,trivial⟩
@[reducible] noncomputable def JV:Go.AM.Fn:=⟨29,2,(dO [] (kd prog f73) 0:D prog 29 none 0).er,[.t 4,.cell 5 true 5,.t 6],[none,some tG,some tI]⟩
noncomputable def yz:Cx:=uL prog yy 73 JV (fun _=>dO [] (kd prog f73) 0)
theorem zJ:yz.Ok prog:=ij mixed zI func73 (by kernel_rfl) (enters_of func73 rfl rfl) (fun _=>by kernel_rfl)
noncomputable def Ua:Cx:=yz
theorem Gu:Ua.Ok prog:=zJ
noncomputable def Gv:D prog 27 none 1:=dO [] (kd prog f33) 0
noncomputable def FH33_v2 (v1:ByteArray):aY (Nat×Int×List ByteArray×Unit) :=
 .bd (FH54_v2) fun y0 =>
 .br y0.1 (
 .br (!((9:Int)==(0:Int))) (
 .ret ((0:Nat),(9:Int),[],())) (
 .br (!((0:Int)==(1:Int))) (
 .ret ((0:Nat),(18:Int),[],())) (
 .bd (FH76_v1 v1) fun y1 =>
 .no))) (
 .bd (FH66_v2) fun y2 =>
 .br (!(aL .str y2.1 v1)) (
 .br (!((5:Int)==(0:Int))) (
 .ret ((0:Nat),(5:Int),[],())) (
 .br (!((0:Int)==(1:Int))) (
 .ret ((0:Nat),(18:Int),[],())) (
 .bd (FH76_v1 v1) fun y3 =>
 .no))) (
 .br (!((0:Int)==(0:Int))) (
 .ret ((0:Nat),(0:Int),[],())) (
 .br (!((ak .str ((bs []),(0:Int),(bs []),(bs []),(0:Int)) y2.1 v1).2.1==(1:Int))) (
 .ret ((0:Nat),(18:Int),[],())) (
 .bd (FH76fix v1 y2.1 y2.2.1 y2.2.2.1 y2.2.2.2.1) fun y4 =>
 .ret (y4.1,(0:Int),y4.2.1,())))))
theorem JW:bK prog f33=some ⟨27,2,Gv.er,[.t 4,.t 5],[some (.list .str),some tI]⟩:=by kernel_rfl
noncomputable def Ms:Ht:=⟨33,YM,YN,(fun x=>ai (FH33_v2 x.1))⟩
theorem JX:Ms.Ok prog:=aM mixed Gu rfl func33 JW (enters_of func33 rfl rfl) Gv (by kernel_rfl) rfl rfl ⟨_,rfl⟩ rfl (pre:=[0]) rfl (fun x=>by kernel_rfl)

/- 23, lent -/
@[reducible] def YO:ah:=ah.mk [(0,.c (.ptr 0 0)),(1,.c (.hole .str))] [(0,.cells [.aO] false)] [.slot 0] []
@[reducible] def YP:ah:=ah.mk [(0,.bX [.cB 1 tI,.hole tI])] [(1,.arr tI false),(0,.cells [.aO] false)] [.part 0 0] []
noncomputable def Ub:Cx:=(aF [IC] [fJ,kZ,Xw])
theorem Gw:Ub.Ok prog:=ag ⟨oT,trivial⟩ ⟨⟨dU,rfl⟩,⟨kn,rfl⟩,⟨Cp,rfl⟩,trivial⟩
noncomputable def Gx:D prog 15 none 1:=dO [] (kd prog f23) 0
noncomputable def FH23_v2 (v1:ByteArray):aY (Nat×Int×List Int×Unit) :=
 .bd (FH54_v2) fun y0 =>
 .br y0.1 (
 .ret ((0:Nat),(9:Int),[],())) (
 .bd (F65 v1) fun y1 =>
 .br (!y1.1) (
 .ret ((0:Nat),(8:Int),[],())) (
 .bd (FH66_v2) fun y2 =>
 .bd (FH67 v1 y2.1 y2.2.1 y2.2.2.1 y2.2.2.2.1) fun y3 =>
 .ret (y3.1,(0:Int),y3.2.1,())))
theorem JY:bK prog f23=some ⟨15,2,Gx.er,[.t 4,.t 5],[some tL,some tI]⟩:=by kernel_rfl
noncomputable def C0:Ht:=⟨23,YO,YP,(fun x=>ai (FH23_v2 x.1))⟩
theorem yA:C0.Ok prog:=aM mixed Gw rfl func23 JY (enters_of func23 rfl rfl) Gx (by kernel_rfl) rfl rfl ⟨_,rfl⟩ rfl (pre:=[0]) rfl (fun x=>by kernel_rfl)

/- 25, lent -/
@[reducible] def YQ:ah:=ah.mk [(0,.c (.ptr 0 0)),(1,.c (.hole .str))] [(0,.cells [.aO] false)] [.slot 0] []
@[reducible] def YR:ah:=ah.mk [(0,.bX [.hole (.prod tI tI),.hole tI])] [(0,.cells [.aO] false)] [] []
noncomputable def Uc:Cx:=(aF [Ja] [C0])
theorem Gy:Uc.Ok prog:=ag ⟨oU,trivial⟩ ⟨⟨yA,rfl⟩,trivial⟩
noncomputable def Gz:D prog 20 none 1:=dO [] (kd prog f25) 0
noncomputable def FH25_v2 (v1:ByteArray):aY ((Int×Int)×Int×Unit) :=
 .bd (FH23_v2 v1) fun y0 =>
 .br (!(y0.2.1==(0:Int))) (
 .ret (((0:Int),(0:Int)),y0.2.1,())) (
 .bd (F72 (((y0.2.2.1).drop (0:Nat)).take y0.1)) fun y1 =>
 .ret ((y1.1.1,y1.1.2),(0:Int),()))
theorem JZ:bK prog f25=some ⟨20,2,Gz.er,[.cell 4 true 2,.t 5],[some (.prod tI tI),some tI]⟩:=by kernel_rfl
noncomputable def Mt:Ht:=⟨25,YQ,YR,(fun x=>ai (FH25_v2 x.1))⟩
theorem J1:Mt.Ok prog:=aM mixed Gy rfl func25 JZ (enters_of func25 rfl rfl) Gz (by kernel_rfl) rfl rfl ⟨_,rfl⟩ rfl (pre:=[0]) rfl (fun x=>by kernel_rfl)

/- 37, lent -/
@[reducible] def YS:ah:=ah.mk [(0,.c (.ptr 0 0))] [(0,.cells [.aO] false)] [.slot 0] []
@[reducible] def YT:ah:=ah.mk [(0,.bX [.hole (.prod tI tI),.hole tI])] [(0,.cells [.aO] false)] [] []
noncomputable def Ud:Cx:=(aF [Ja] [fJ,kZ,vw])
theorem GA:Ud.Ok prog:=ag ⟨oU,trivial⟩ ⟨⟨dU,rfl⟩,⟨kn,rfl⟩,⟨qv,rfl⟩,trivial⟩
noncomputable def GB:D prog 11 none 1:=dO [] (kd prog f37) 0
noncomputable def FH37_v2:aY ((Int×Int)×Int×Unit) :=
 .bd (FH54_v2) fun y0 =>
 .br y0.1 (
 .ret (((0:Int),(0:Int)),(9:Int),())) (
 .bd (FH66_v2) fun y1 =>
 .bd (FH67_v1 y1.1 y1.2.1 y1.2.2.1 y1.2.2.2.1) fun y2 =>
 .bd (F72 (((y2.2.1).drop (0:Nat)).take y2.1)) fun y3 =>
 .ret ((y3.1.1,y3.1.2),(0:Int),()))
theorem J2:bK prog f37=some ⟨11,1,GB.er,[.cell 2 true 2,.t 3],[some (.prod tI tI),some tI]⟩:=by kernel_rfl
noncomputable def Mv:Ht:=⟨37,YS,YT,(fun x=>ai (FH37_v2))⟩
theorem J3:Mv.Ok prog:=aM mixed GA rfl func37 J2 (enters_of func37 rfl rfl) GB (by kernel_rfl) rfl rfl ⟨_,rfl⟩ rfl (pre:=[0]) rfl (fun x=>by kernel_rfl)

/- 89, of data: never -/
@[reducible] def YU:ah:=ah.mk [(0,.c .aO)] [] [] []
@[reducible] def YV:ah:=ah.mk [(0,.c .any)] [] [] []
noncomputable def FH89_v1:aY (Unit) :=
 .no
noncomputable def C1:Ht:=⟨89,YU,YV,(fun x=>ai (FH89_v1))⟩
theorem yB:C1.Ok prog:=fun x y h=>by have h':(none:Option _)=some y:=h;cases h'

/- 56, lent -/
@[reducible] def YW:ah:=ah.mk [(0,.c (.ptr 0 0)),(1,.c (.ru 33 true (.cons (.hole .str) (.cons (.hole tI) (.cons (.hole .str) (.cons (.hole .str) (.cons (.hole tI) .nil)))))))] [(0,.cells [.aO] false)] [.slot 0] []
@[reducible] def YX:ah:=ah.mk [(0,.c .any)] [] [] []
noncomputable def GC:Cx:=(aF [] [C1,Sj])
theorem uv:GC.Ok prog:=ag trivial ⟨⟨yB,rfl⟩,⟨ER,rfl⟩,trivial⟩
@[reducible] def Po:ah:=ah.mk [(0,.c (.ptr 0 0)),(14,.c (.cB 1 tG)),(15,hI),(16,hI)] [(0,.cells [.aO] false),(1,.arr tG false)] [.slot 14] []
@[reducible] def Pp:aR:=[(.exit 0,ah.mk [(0,.c (.ptr 0 0))] [(0,.cells [.aO] false)] [] [])]
noncomputable def Pq:D prog 30 none 1:=dO [] (pick (kd prog f56) [(0,false)]) 0
noncomputable def gH56_v6_0:Nat×Int×Int×(List (GG))×Unit→aY ((Nat×Int×Int×(List (GG))×Unit) ⊕ ((Unit))):=fun (Cc,NU,o9,b1,_) =>
 .br (decide (o9<NU)) (
 .nb o9 ((Cc:Nat):Int) <|
 .nd (decide (((0:Nat)+(Int.toNat o9))<(b1).length)) <|
 .no) (
 .ret (.inr ()))
noncomputable def Pr:bL prog 30 none 1:=bp mixed GC uv [0] rfl Po Pp rfl (Pq) (fun x=>ai (gH56_v6_0 x)) (fun x=>by kernel_rfl)
noncomputable def GD:D prog 30 none 1:=dO [.l Pr] (kd prog f56) 0
noncomputable def FH56_v6 (Wz:ByteArray) (WA:Int) (WB:ByteArray) (WC:ByteArray) (WD:Int):aY (Unit) :=
 .bd (FH89_v1) fun y0 =>
 .bd (FH193 (Wz,WA,WB,WC,WD)) fun y1 =>
 .bd (.it gH56_v6_0 (y1.1,((y1.1:Nat):Int),(0:Int),y1.2.1,())) fun z2 =>
 .no
theorem J4:bK prog f56=some ⟨30,2,GD.er,[.t 4],[some tI]⟩:=by kernel_rfl
noncomputable def Mw:Ht:=⟨56,YW,YX,(fun x=>ai (FH56_v6 x.1 x.2.1 x.2.2.1 x.2.2.2.1 x.2.2.2.2.1))⟩
theorem J5:Mw.Ok prog:=aM mixed uv rfl func56 J4 (enters_of func56 rfl rfl) GD (by kernel_rfl) rfl rfl ⟨_,rfl⟩ rfl (pre:=[0]) rfl (fun x=>by kernel_rfl)

/- 20, lent -/
@[reducible] def YY:ah:=ah.mk [(0,.c (.ptr 0 0)),(1,.c (.hole tG))] [(0,.cells [.aO] false)] [.slot 0] []
@[reducible] def YZ:ah:=ah.mk [(0,hI)] [(0,.cells [.aO] false)] [] []
noncomputable def Ue:Cx:=(aF [Wy] [fJ,Mw])
theorem GF:Ue.Ok prog:=ag ⟨Cb,trivial⟩ ⟨⟨dU,rfl⟩,⟨J5,rfl⟩,trivial⟩
noncomputable def GH:D prog 17 none 1:=dO [] (kd prog f20) 0
noncomputable def FH20_v2 (v1:GG):aY (Int×Unit) :=
 .bd (FH54_v2) fun y0 =>
 .br y0.1 (
 .ret ((9:Int),())) (
 .bd (F55 (v1.1,v1.2.1,v1.2.2.1,v1.2.2.2.1,v1.2.2.2.2)) fun y1 =>
 .br (!(y1.1==(0:Int))) (
 .ret (y1.1,())) (
 .bd (FH56_v6 v1.1 v1.2.1 v1.2.2.1 v1.2.2.2.1 v1.2.2.2.2) fun y2 =>
 .no))
theorem J6:bK prog f20=some ⟨17,2,GH.er,[.t 4],[some tI]⟩:=by kernel_rfl
noncomputable def Mx:Ht:=⟨20,YY,YZ,(fun x=>ai (FH20_v2 x.1))⟩
theorem J7:Mx.Ok prog:=aM mixed GF rfl func20 J6 (enters_of func20 rfl rfl) GH (by kernel_rfl) rfl rfl ⟨_,rfl⟩ rfl (pre:=[0]) rfl (fun x=>by kernel_rfl)

/- 56, lent -/
@[reducible] def Y4:ah:=ah.mk [(0,.c (.ptr 0 0)),(1,.c (.ru 26 false (.cons (.ptr 1 0) .nil)))] [(0,.cells [.aO] false),(1,.cells [.mp 2] false),(2,.map tG true .bool false)] [.slot 0,.slot 1,.cell 1 0] []
@[reducible] def Y5:ah:=ah.mk [(0,.c .any)] [] [] []
noncomputable def GI:Cx:=(aF [] [C1,TI])
theorem uw:GI.Ok prog:=ag trivial ⟨⟨yB,rfl⟩,⟨Fw,rfl⟩,trivial⟩
@[reducible] def Pt:ah:=ah.mk [(0,.c (.ptr 0 0)),(14,.c (.cB 3 tG)),(15,hI),(16,hI)] [(0,.cells [.aO] false),(3,.arr tG false),(1,.cells [.mp 2] false),(2,.map tG true .bool false)] [.slot 14] []
@[reducible] def Pu:aR:=[(.exit 0,ah.mk [(0,.c (.ptr 0 0))] [(0,.cells [.aO] false),(1,.cells [.mp 2] false),(2,.map tG true .bool false)] [] [])]
noncomputable def Pv:D prog 30 none 3:=dO [] (pick (kd prog f56) [(0,false)]) 0
noncomputable def gH56_v7_0:Nat×Int×Int×(List (GG))×(List ((GG)×Bool))×Unit→aY ((Nat×Int×Int×(List (GG))×(List ((GG)×Bool))×Unit) ⊕ (((List ((GG)×Bool))×Unit))):=fun (Cc,NU,o9,b3,m2,_) =>
 .br (decide (o9<NU)) (
 .nb o9 ((Cc:Nat):Int) <|
 .nd (decide (((0:Nat)+(Int.toNat o9))<(b3).length)) <|
 .no) (
 .ret (.inr (m2,())))
noncomputable def Pw:bL prog 30 none 3:=bp mixed GI uw [0,1,2] rfl Pt Pu rfl (Pv) (fun x=>ai (gH56_v7_0 x)) (fun x=>by kernel_rfl)
noncomputable def GJ:D prog 30 none 3:=dO [.l Pw] (kd prog f56) 0
noncomputable def FH56_v7 (m2:List ((GG)×Bool)):aY (Unit) :=
 .bd (FH89_v1) fun y0 =>
 .bd (FH192 m2) fun y1 =>
 .bd (.it gH56_v7_0 (y1.1,((y1.1:Nat):Int),(0:Int),y1.2.1,y1.2.2.1,())) fun z2 =>
 .no
theorem J8:bK prog f56=some ⟨30,2,GJ.er,[.t 4],[some tI]⟩:=by kernel_rfl
noncomputable def My:Ht:=⟨56,Y4,Y5,(fun x=>ai (FH56_v7 x.1))⟩
theorem J9:My.Ok prog:=aM mixed uw rfl func56 J8 (enters_of func56 rfl rfl) GJ (by kernel_rfl) rfl rfl ⟨_,rfl⟩ rfl (pre:=[0,1,2]) rfl (fun x=>by kernel_rfl)

/- 48, lent -/
@[reducible] def Y6:ah:=ah.mk [(0,.c (.ptr 0 0)),(1,.c (.ptr 1 0))] [(0,.cells [.aO] false),(1,.cells [.mp 2] false),(2,.map tG true .bool false)] [.slot 0,.slot 1,.cell 1 0] []
@[reducible] def Y7:ah:=ah.mk [(0,hI)] [(0,.cells [.aO] false),(1,.cells [.mp 3] false),(3,.map tG true .bool false)] [.cell 1 0] []
noncomputable def Uf:Cx:=(aF [] [fJ,ql,My])
theorem GK:Uf.Ok prog:=ag trivial ⟨⟨dU,rfl⟩,⟨fH,rfl⟩,⟨J9,rfl⟩,trivial⟩
noncomputable def GL:D prog 15 none 3:=dO [] (kd prog f48) 0
noncomputable def FH48_v4 (m2:List ((GG)×Bool)):aY (Int×(List ((GG)×Bool))×Unit) :=
 .bd (FH54_v2) fun y0 =>
 .br y0.1 (
 .ret ((9:Int),m2,())) (
 .bd (FH54 m2) fun y1 =>
 .br y1.1 (
 .ret ((9:Int),y1.2.1,())) (
 .bd (FH56_v7 y1.2.1) fun y2 =>
 .no))
theorem Ka:bK prog f48=some ⟨15,2,GL.er,[.t 4],[some tI]⟩:=by kernel_rfl
noncomputable def Mz:Ht:=⟨48,Y6,Y7,(fun x=>ai (FH48_v4 x.1))⟩
theorem Kb:Mz.Ok prog:=aM mixed GK rfl func48 Ka (enters_of func48 rfl rfl) GL (by kernel_rfl) rfl rfl ⟨_,rfl⟩ rfl (pre:=[0,1,2]) rfl (fun x=>by kernel_rfl)

/- 192, lent -/
@[reducible] def Ug:ah:=ah.mk [(0,.c (.ptr 0 0))] [(0,.cells [.aO] false)] [.slot 0] []
@[reducible] def Uh:ah:=ah.mk [(0,.c .bG)] [(0,.cells [.aO] false)] [] []
noncomputable def Px:Cx:=(aF [] [vB])
theorem C2:Px.Ok prog:=ag trivial ⟨⟨qz,rfl⟩,trivial⟩
noncomputable def AW:D prog 5 none 1:=dO [] (kd prog f192) 0
noncomputable def FH192_v2:aY (Unit) :=
 .bd (FH47_v2) fun y0 =>
 .ret ()
theorem GM:bK prog f192=some ⟨5,1,AW.er,[.t 2],[some (.list tG)]⟩:=by kernel_rfl
noncomputable def GN:Ht:=⟨192,Ug,Uh,(fun x=>ai (FH192_v2))⟩
theorem GO:GN.Ok prog:=aM mixed C2 rfl func192 GM (enters_of func192 rfl rfl) AW (by kernel_rfl) rfl rfl ⟨_,rfl⟩ rfl (pre:=[0]) rfl (fun x=>by kernel_rfl)

/- 56, lent -/
@[reducible] def Y8:ah:=ah.mk [(0,.c (.ptr 0 0)),(1,.c (.ru 26 false (.cons (.ptr 1 0) .nil)))] [(0,.cells [.mp 2] false),(1,.cells [.aO] false),(2,.map tG true .bool false)] [.slot 0,.slot 1,.cell 0 0] []
@[reducible] def Y9:ah:=ah.mk [(0,hI)] [(0,.cells [.mp 3] false),(1,.cells [.aO] false),(3,.map tG true .bool false)] [.cell 0 0] []
noncomputable def GP:Cx:=(aF [] [Sf,GN])
theorem ux:GP.Ok prog:=ag trivial ⟨⟨vm,rfl⟩,⟨GO,rfl⟩,trivial⟩
@[reducible] def Py:ah:=ah.mk [(0,.c (.ptr 0 0)),(5,.c (.mp 3)),(14,.c .bG),(15,hI),(16,hI)] [(0,.cells [.mp 2] false),(3,.map tG true .bool false),(2,.map tG true .bool false),(1,.cells [.aO] false)] [.slot 5] []
@[reducible] def Pz:aR:=[(.exit 0,ah.mk [(0,.c (.ptr 0 0)),(5,.c (.mp 3))] [(0,.cells [.mp 2] false),(3,.map tG true .bool false),(2,.map tG true .bool false),(1,.cells [.aO] false)] [.slot 5] [])]
noncomputable def PA:D prog 30 none 3:=dO [] (pick (kd prog f56) [(0,false)]) 0
noncomputable def gH56_v8_0:Int×Int×(List ((GG)×Bool))×(List ((GG)×Bool))×Unit→aY ((Int×Int×(List ((GG)×Bool))×(List ((GG)×Bool))×Unit) ⊕ (((List ((GG)×Bool))×(List ((GG)×Bool))×Unit))):=fun (NU,o9,m3,m2,_) =>
 .br (decide (o9<NU)) (
 .no) (
 .ret (.inr (m3,m2,())))
noncomputable def PB:bL prog 30 none 3:=bp mixed GP ux [0,1,2] rfl Py Pz rfl (PA) (fun x=>ai (gH56_v8_0 x)) (fun x=>by kernel_rfl)
noncomputable def GQ:D prog 30 none 3:=dO [.l PB] (kd prog f56) 0
noncomputable def FH56_v8 (m2:List ((GG)×Bool)):aY (Int×(List ((GG)×Bool))×Unit) :=
 .bd (FH89 m2) fun y0 =>
 .bd (FH192_v2) fun y1 =>
 .bd (.it gH56_v8_0 ((0:Int),(0:Int),y0.1,y0.2.1,())) fun z2 =>
 .br (decide ((60:Int)<(((z2.1).length:Nat):Int))) (
 .ret ((15:Int),z2.2.1,())) (
 .ret ((0:Int),z2.1,()))
theorem Ke:bK prog f56=some ⟨30,2,GQ.er,[.t 4],[some tI]⟩:=by kernel_rfl
noncomputable def MA:Ht:=⟨56,Y8,Y9,(fun x=>ai (FH56_v8 x.1))⟩
theorem Kf:MA.Ok prog:=aM mixed ux rfl func56 Ke (enters_of func56 rfl rfl) GQ (by kernel_rfl) rfl rfl ⟨_,rfl⟩ rfl (pre:=[0,1,2]) rfl (fun x=>by kernel_rfl)

/- 48, lent -/
@[reducible] def Za:ah:=ah.mk [(0,.c (.ptr 0 0)),(1,.c (.ptr 1 0))] [(0,.cells [.mp 2] false),(1,.cells [.aO] false),(2,.map tG true .bool false)] [.slot 0,.slot 1,.cell 0 0] []
@[reducible] def Zb:ah:=ah.mk [(0,hI)] [(0,.cells [.mp 3] false),(1,.cells [.aO] false),(3,.map tG true .bool false)] [.cell 0 0] []
noncomputable def Ui:Cx:=(aF [] [ql,fJ,MA])
theorem GR:Ui.Ok prog:=ag trivial ⟨⟨fH,rfl⟩,⟨dU,rfl⟩,⟨Kf,rfl⟩,trivial⟩
noncomputable def GS:D prog 15 none 3:=dO [] (kd prog f48) 0
noncomputable def FH48_v5 (m2:List ((GG)×Bool)):aY (Int×(List ((GG)×Bool))×Unit) :=
 .bd (FH54 m2) fun y0 =>
 .br y0.1 (
 .ret ((9:Int),y0.2.1,())) (
 .bd (FH54_v2) fun y1 =>
 .br y1.1 (
 .ret ((9:Int),y0.2.1,())) (
 .bd (FH56_v8 y0.2.1) fun y2 =>
 .ret (y2.1,y2.2.1,())))
theorem Kg:bK prog f48=some ⟨15,2,GS.er,[.t 4],[some tI]⟩:=by kernel_rfl
noncomputable def MB:Ht:=⟨48,Za,Zb,(fun x=>ai (FH48_v5 x.1))⟩
theorem Kh:MB.Ok prog:=aM mixed GR rfl func48 Kg (enters_of func48 rfl rfl) GS (by kernel_rfl) rfl rfl ⟨_,rfl⟩ rfl (pre:=[0,1,2]) rfl (fun x=>by kernel_rfl)

/- 45, lent -/
@[reducible] def Zc:ah:=ah.mk [(0,.c (.ptr 0 0))] [(0,.cells [.aO] false)] [.slot 0] []
@[reducible] def Zd:ah:=ah.mk [(0,.c (.cB 1 .str))] [(1,.arr .str false),(0,.cells [.aO] false)] [.slot 0] []
noncomputable def sk:Cx:=(aF [] [fJ,kZ,Od,Cf,Cg,tD,XJ,XM,vz])
theorem k4:sk.Ok prog:=ag trivial ⟨⟨dU,rfl⟩,⟨kn,rfl⟩,⟨rY,rfl⟩,⟨kR,rfl⟩,⟨kU,rfl⟩,⟨jr,rfl⟩,⟨CD,rfl⟩,⟨CE,rfl⟩,⟨qx,rfl⟩,trivial⟩
@[reducible] def C3:ah:=ah.mk [(3,.c (.ptr 1 0)),(4,.c (.ptr 2 0)),(18,.c (.cB 19 .str)),(19,hI),(20,hI)] [(1,.cells [.ptr 4 0] false),(2,.cells [.mp 20] false),(19,.arr .str false),(4,.cells [.mp 6,.mp 7,.mp 8,.mp 9] false),(6,.map .str false tG true),(7,.map .str false (.list .str) false),(8,.map .str false .bool false),(9,.map .str false .bool false),(0,.cells [.aO] false),(3,.cells [.ptr 4 0] false),(10,.ff),(11,.loop .busy none 10 [(2,.c .bG),(3,.c (.ptr 1 0)),(4,.c (.ptr 2 0)),(15,.fn 106 [] [.ptr 3 0])] [16,17] (.aN [.op (some 6) none (.mv (.t 17))]) (.block 1 (.seq (.aN [.op (some 18) none (.mv (.t 6)),.op (some 19) none (.len (.t 18)),.op (some 20) none (.mv (.c (.int .i64 (Int.ofNat 0))))]) (.block 2 (.loop (.seq (.aN [.op (some 21) none (.bin .lss (.t 20) (.t 19))]) (.seq (.cond (.t 21) .skip (.exit 2)) (.seq (.block 3 (.seq (.aN [.op (some 22) none (.idx 1 (.t 18) (.t 20)),.op (some 23) none (.load false 1 (.t 22)),.op (some 8) none (.mv (.t 23))]) (.seq (.draw [[],[],[1],[1,2],[1,2,3],[],[1,2,3,4,5],[1,2,3,4,5,6],[0,1,2,3,4,5,6,7]] [.op (some 24) none (.load false 1 (.t 4)),.op (some 25) none (.load false 1 (.t 3)),.op (some 26) none (.ex dB.eA [.t 25]),.op (some 27) none (.jl 0 [false] (.t 26)),.op (some 28) none (.load false 1 (.t 27)),.op (some 29) none (.mv (.t 8)),.op (some 30) none (.ex (dB.dG .str false tG true false) [.t 28,.t 29]),.op (some 31) none (.field false 3 1 (.t 30))]) (.aN [.call (some 32) none (.c (.fn 80 [] [])) [.t 24,.t 31] [none,some .str]])))) (.aN [.op (some 33) none (.bin .add (.t 20) (.c (.int .i64 (Int.ofNat 1)))),.op (some 20) none (.mv (.t 33))])))))))) 37),(12,.arr .str false),(20,.map .str false .unit true)] [.cell 2 0] []
@[reducible] def C4:aR:=[(.exit 2,ah.mk [] [(0,.cells [.aO] false),(1,.cells [.ptr 4 0] false),(4,.cells [.mp 6,.mp 7,.mp 8,.mp 9] false),(6,.map .str false tG true),(7,.map .str false (.list .str) false),(8,.map .str false .bool false),(9,.map .str false .bool false),(2,.cells [.mp 20] false),(3,.cells [.ptr 4 0] false),(10,.ff),(11,.loop .busy none 10 [(2,.c .bG),(3,.c (.ptr 1 0)),(4,.c (.ptr 2 0)),(15,.fn 106 [] [.ptr 3 0])] [16,17] (.aN [.op (some 6) none (.mv (.t 17))]) (.block 1 (.seq (.aN [.op (some 18) none (.mv (.t 6)),.op (some 19) none (.len (.t 18)),.op (some 20) none (.mv (.c (.int .i64 (Int.ofNat 0))))]) (.block 2 (.loop (.seq (.aN [.op (some 21) none (.bin .lss (.t 20) (.t 19))]) (.seq (.cond (.t 21) .skip (.exit 2)) (.seq (.block 3 (.seq (.aN [.op (some 22) none (.idx 1 (.t 18) (.t 20)),.op (some 23) none (.load false 1 (.t 22)),.op (some 8) none (.mv (.t 23))]) (.seq (.draw [[],[],[1],[1,2],[1,2,3],[],[1,2,3,4,5],[1,2,3,4,5,6],[0,1,2,3,4,5,6,7]] [.op (some 24) none (.load false 1 (.t 4)),.op (some 25) none (.load false 1 (.t 3)),.op (some 26) none (.ex dB.eA [.t 25]),.op (some 27) none (.jl 0 [false] (.t 26)),.op (some 28) none (.load false 1 (.t 27)),.op (some 29) none (.mv (.t 8)),.op (some 30) none (.ex (dB.dG .str false tG true false) [.t 28,.t 29]),.op (some 31) none (.field false 3 1 (.t 30))]) (.aN [.call (some 32) none (.c (.fn 80 [] [])) [.t 24,.t 31] [none,some .str]])))) (.aN [.op (some 33) none (.bin .add (.t 20) (.c (.int .i64 (Int.ofNat 1)))),.op (some 20) none (.mv (.t 33))])))))))) 37),(12,.arr .str false),(19,.arr .str false),(20,.map .str false .unit true)] [.cell 2 0] [])]
noncomputable def C5:D prog 37 (some 11) 20:=dO [] (pick (kd prog f45) [(0,true),(0,false)]) 0
noncomputable def gH45_v2_0b_1:Nat×Int×Int×List ByteArray×bF×bI×aJ×aJ×List ByteArray×(List (ByteArray×Unit))×Unit→aY ((Nat×Int×Int×List ByteArray×bF×bI×aJ×aJ×List ByteArray×(List (ByteArray×Unit))×Unit) ⊕ ((bF×bI×aJ×aJ×List ByteArray×List ByteArray×(List (ByteArray×Unit))×Unit))):=fun (Ft,IY,v20,Fo,m6,m7,m8,m9,zx,m20,_) =>
 .br (decide (v20<IY)) (
 .nb v20 ((Ft:Nat):Int) <|
 .nd (decide (((0:Nat)+(Int.toNat v20))<(Fo).length)) <|
 .bd (FH80 (ak .str ((bs []),(0:Int),(bs []),(bs []),(0:Int)) m6 ((Fo).getD ((0:Nat)+(Int.toNat v20)) (bs []))).2.2.2.1 m20) fun y6 =>
 .ni (v20+(1:Int)) <|
 .ret (.inl (Ft,IY,(v20+(1:Int)),Fo,m6,m7,m8,m9,zx,y6.1,()))) (
 .ret (.inr (m6,m7,m8,m9,zx,Fo,m20,())))
noncomputable def C6:bL prog 37 (some 11) 20:=bp mixed sk k4 [0,1,2,3,4,5,6,7,8,9,10,11,12,13,14,15,16,17,18,19] rfl C3 C4 rfl (C5) (fun x=>ai (gH45_v2_0b_1 x)) (fun x=>by kernel_rfl)
noncomputable def yC:D prog 37 (some 11) 20:=dO [] (pick (kd prog f45) [(0,false)]) 0
noncomputable def yD:D prog 37 (some 11) 20:=dO [.l C6] (pick (kd prog f45) [(0,true)]) 0
noncomputable def ox:Cx:=uJ sk (fun kz=>NJ kz sk dN 11 20 [16,17] (yC) (yD))
theorem oy:(ox).Ok prog:=gF k4 (fun h=>jU mixed k4 h)
@[reducible] def C7:ah:=ah.mk [(0,.c (.yl 11)),(1,.c (.ptr 3 0)),(10,.c (.cB 12 .str)),(11,hI),(12,hI)] [(11,.loop .ready none 10 [(2,.c .bG),(3,.c (.ptr 1 0)),(4,.c (.ptr 2 0)),(15,.fn 106 [] [.ptr 3 0])] [16,17] (.aN [.op (some 6) none (.mv (.t 17))]) (.block 1 (.seq (.aN [.op (some 18) none (.mv (.t 6)),.op (some 19) none (.len (.t 18)),.op (some 20) none (.mv (.c (.int .i64 (Int.ofNat 0))))]) (.block 2 (.loop (.seq (.aN [.op (some 21) none (.bin .lss (.t 20) (.t 19))]) (.seq (.cond (.t 21) .skip (.exit 2)) (.seq (.block 3 (.seq (.aN [.op (some 22) none (.idx 1 (.t 18) (.t 20)),.op (some 23) none (.load false 1 (.t 22)),.op (some 8) none (.mv (.t 23))]) (.seq (.draw [[],[],[1],[1,2],[1,2,3],[],[1,2,3,4,5],[1,2,3,4,5,6],[0,1,2,3,4,5,6,7]] [.op (some 24) none (.load false 1 (.t 4)),.op (some 25) none (.load false 1 (.t 3)),.op (some 26) none (.ex dB.eA [.t 25]),.op (some 27) none (.jl 0 [false] (.t 26)),.op (some 28) none (.load false 1 (.t 27)),.op (some 29) none (.mv (.t 8)),.op (some 30) none (.ex (dB.dG .str false tG true false) [.t 28,.t 29]),.op (some 31) none (.field false 3 1 (.t 30))]) (.aN [.call (some 32) none (.c (.fn 80 [] [])) [.t 24,.t 31] [none,some .str]])))) (.aN [.op (some 33) none (.bin .add (.t 20) (.c (.int .i64 (Int.ofNat 1)))),.op (some 20) none (.mv (.t 33))])))))))) 37),(3,.cells [.ptr 4 0] false),(12,.arr .str false),(10,.ff),(1,.cells [.ptr 4 0] false),(4,.cells [.mp 6,.mp 7,.mp 8,.mp 9] false),(6,.map .str false tG true),(7,.map .str false (.list .str) false),(8,.map .str false .bool false),(9,.map .str false .bool false),(2,.cells [.mp 13] false),(0,.cells [.aO] false),(13,.map .str false .unit true)] [.slot 10,.cell 2 0] []
@[reducible] def C8:aR:=[(.exit 0,ah.mk [] [(0,.cells [.aO] false),(1,.cells [.ptr 4 0] false),(4,.cells [.mp 6,.mp 7,.mp 8,.mp 9] false),(6,.map .str false tG true),(7,.map .str false (.list .str) false),(8,.map .str false .bool false),(9,.map .str false .bool false),(2,.cells [.mp 12] false),(3,.cells [.ptr 4 0] false),(10,.ff),(11,.loop .ready none 10 [(2,.c .bG),(3,.c (.ptr 1 0)),(4,.c (.ptr 2 0)),(15,.fn 106 [] [.ptr 3 0])] [16,17] (.aN [.op (some 6) none (.mv (.t 17))]) (.block 1 (.seq (.aN [.op (some 18) none (.mv (.t 6)),.op (some 19) none (.len (.t 18)),.op (some 20) none (.mv (.c (.int .i64 (Int.ofNat 0))))]) (.block 2 (.loop (.seq (.aN [.op (some 21) none (.bin .lss (.t 20) (.t 19))]) (.seq (.cond (.t 21) .skip (.exit 2)) (.seq (.block 3 (.seq (.aN [.op (some 22) none (.idx 1 (.t 18) (.t 20)),.op (some 23) none (.load false 1 (.t 22)),.op (some 8) none (.mv (.t 23))]) (.seq (.draw [[],[],[1],[1,2],[1,2,3],[],[1,2,3,4,5],[1,2,3,4,5,6],[0,1,2,3,4,5,6,7]] [.op (some 24) none (.load false 1 (.t 4)),.op (some 25) none (.load false 1 (.t 3)),.op (some 26) none (.ex dB.eA [.t 25]),.op (some 27) none (.jl 0 [false] (.t 26)),.op (some 28) none (.load false 1 (.t 27)),.op (some 29) none (.mv (.t 8)),.op (some 30) none (.ex (dB.dG .str false tG true false) [.t 28,.t 29]),.op (some 31) none (.field false 3 1 (.t 30))]) (.aN [.call (some 32) none (.c (.fn 80 [] [])) [.t 24,.t 31] [none,some .str]])))) (.aN [.op (some 33) none (.bin .add (.t 20) (.c (.int .i64 (Int.ofNat 1)))),.op (some 20) none (.mv (.t 33))])))))))) 37),(12,.map .str false .unit true)] [.cell 2 0] [])]
noncomputable def C9:D prog 34 none 12:=dO [] (pick (kd prog f106) [(0,false)]) 0
noncomputable def gH45_v2_0i_0:Nat×Int×Int×List ByteArray×bF×bI×aJ×aJ×(List (ByteArray×Unit))×Unit→aY ((Nat×Int×Int×List ByteArray×bF×bI×aJ×aJ×(List (ByteArray×Unit))×Unit) ⊕ ((bF×bI×aJ×aJ×(List (ByteArray×Unit))×Unit))):=fun (mN,v11,v12,zx,m6,m7,m8,m9,m13,_) =>
 .br (decide (v12<v11)) (
 .nb v12 ((mN:Nat):Int) <|
 .nd (decide (((0:Nat)+(Int.toNat v12))<(zx).length)) <|
 .br ((ak .str ((bs []),(0:Int),(bs []),(bs []),(0:Int)) m6 ((zx).getD ((0:Nat)+(Int.toNat v12)) (bs []))).2.1==(1:Int)) (
 .bd (FH76fix ((zx).getD ((0:Nat)+(Int.toNat v12)) (bs [])) m6 m7 m8 m9) fun y5 =>
 .bd (.it gH45_v2_0b_1 (y5.1,((y5.1:Nat):Int),(0:Int),y5.2.1,y5.2.2.1,y5.2.2.2.1,y5.2.2.2.2.1,y5.2.2.2.2.2.1,zx,m13,())) fun z7 =>
 .ni (v12+(1:Int)) <|
 .ret (.inl (mN,v11,(v12+(1:Int)),z7.2.2.2.2.1,z7.1,z7.2.1,z7.2.2.1,z7.2.2.2.1,z7.2.2.2.2.2.2.1,()))) (
 .ni (v12+(1:Int)) <|
 .ret (.inl (mN,v11,(v12+(1:Int)),zx,m6,m7,m8,m9,m13,())))) (
 .ret (.inr (m6,m7,m8,m9,m13,())))
noncomputable def Da:bL prog 34 none 12:=bp mixed ox oy [0,1,2,3,4,5,6,7,8,9,10,11] rfl C7 C8 rfl (C9) (fun x=>ai (gH45_v2_0i_0 x)) (fun x=>by kernel_rfl)
@[reducible] def PC:ah:=ah.mk [(2,.c .bG),(3,.c (.ptr 1 0)),(4,.c (.ptr 2 0)),(15,.fn 106 [] [.ptr 3 0])] [(1,.cells [.ptr 4 0] false),(2,.cells [.mp 5] false),(3,.cells [.ptr 4 0] false),(0,.cells [.aO] false),(4,.cells [.mp 6,.mp 7,.mp 8,.mp 9] false),(5,.map .str false .unit true),(6,.map .str false tG true),(7,.map .str false (.list .str) false),(8,.map .str false .bool false),(9,.map .str false .bool false)] [.slot 3,.slot 4,.part 15 0,.cell 1 0,.cell 2 0,.cell 4 0,.cell 4 1,.cell 4 2,.cell 4 3] []
@[reducible] def PD:aR:=[(.normal,ah.mk [(4,.c (.ptr 1 0))] [(1,.cells [.mp 2] false),(0,.cells [.aO] false),(2,.map .str false .unit true)] [.slot 4,.cell 1 0] [])]
noncomputable def yE:D prog 34 none 12:=dO [.l Da] (kd prog f106) 0
theorem Ki:bK prog f106=some ⟨34,2,(yE).er,[],[]⟩:=by kernel_rfl
noncomputable def gH45_v2_0:(List (ByteArray×Unit))×bF×bI×aJ×aJ×Unit→aY (((List (ByteArray×Unit))×Unit)):=fun (m5,m6,m7,m8,m9,_) =>
 .bd (FH95 m6) fun y3 =>
 .bd (FH81 y3.1) fun y4 =>
 .bd (.it gH45_v2_0i_0 (y4.1,((y4.1:Nat):Int),(0:Int),y4.2.1,y4.2.2.1,m7,m8,m9,m5,())) fun z8 =>
 .ret ((z8.2.2.2.2.1,()))
noncomputable def PE:eL prog 37 none 1:=mH mixed ox oy [0] rfl PC PD ( .t 15) [16,17] rfl (yC).er (yD).er 106 func106 (Ki) (enters_of func106 rfl rfl) 12 rfl (yE) rfl (fun x=>ai (gH45_v2_0 x)) (fun x=>by kernel_rfl)
noncomputable def GU:D prog 37 none 1:=dO [.r PE] (kd prog f45) 0
noncomputable def FH45_v2:aY (Nat×List ByteArray×Unit) :=
 .bd (FH54_v2) fun y0 =>
 .br y0.1 (
 .ret ((0:Nat),[],())) (
 .bd (FH66_v2) fun y1 =>
 .bd (FH79 y1.1 y1.2.1 y1.2.2.1 y1.2.2.2.1) fun y2 =>
 .bd (gH45_v2_0 ([],y2.1,y2.2.1,y2.2.2.1,y2.2.2.2.1,())) fun z9 =>
 .bd (FH82 z9.1) fun PZ =>
 .bd (FH81_v1 PZ.1) fun HE =>
 .ret (HE.1,HE.2.1,()))
theorem Kj:bK prog f45=some ⟨37,1,GU.er,[.t 2],[some (.list .str)]⟩:=by kernel_rfl
noncomputable def MC:Ht:=⟨45,Zc,Zd,(fun x=>ai (FH45_v2))⟩
theorem Kk:MC.Ok prog:=aM mixed k4 rfl func45 Kj (enters_of func45 rfl rfl) GU (by kernel_rfl) rfl rfl ⟨_,rfl⟩ rfl (pre:=[0]) rfl (fun x=>by kernel_rfl)

/- 52, lent -/
@[reducible] def Ze:ah:=ah.mk [(0,.c (.ptr 0 0)),(1,.c (.ptr 1 0))] [(0,.cells [.aO] false),(1,.cells [.mp 2] false),(2,.map tG true .bool false)] [.slot 0,.slot 1,.cell 1 0] []
@[reducible] def Zf:ah:=ah.mk [(0,.c (.hole .bool))] [(0,.cells [.aO] false),(1,.cells [.mp 3] false),(3,.map tG true .bool false)] [.cell 1 0] []
noncomputable def Uj:Cx:=(aF [] [Mr,Ms,C0,Mt,Mv,Mx,Mz,MB,vB,MC])
theorem GV:Uj.Ok prog:=ag trivial ⟨⟨JU,rfl⟩,⟨JX,rfl⟩,⟨yA,rfl⟩,⟨J1,rfl⟩,⟨J3,rfl⟩,⟨J7,rfl⟩,⟨Kb,rfl⟩,⟨Kh,rfl⟩,⟨qz,rfl⟩,⟨Kk,rfl⟩,trivial⟩
noncomputable def GW:D prog 88 none 3:=dO [] (kd prog f52) 0
noncomputable def FH52_v1 (m2:List ((GG)×Bool)):aY (Bool×(List ((GG)×Bool))×Unit) :=
 .bd (FH32_v2 (bs [116,49])) fun y0 =>
 .bd (FH33_v2 (bs [116,49])) fun y1 =>
 .bd (FH23_v2 (bs [])) fun y2 =>
 .bd (FH25_v2 (bs [])) fun y3 =>
 .bd (FH37_v2) fun y4 =>
 .bd (FH20_v2 ((bs []),(0:Int),(bs []),(bs []),(0:Int))) fun y5 =>
 .br (y5.1==(9:Int)) (
 .bd (FH48_v4 m2) fun y6 =>
 .br (y6.1==(9:Int)) (
 .bd (FH48_v5 y6.2.1) fun y7 =>
 .br (y7.1==(9:Int)) (
 .br (y0.2.1==(9:Int)) (
 .br (y1.2.1==(9:Int)) (
 .br (y2.2.1==(9:Int)) (
 .br (y3.2.1==(9:Int)) (
 .br (y4.2.1==(9:Int)) (
 .bd (FH47_v2) fun y8 =>
 .br ((0:Int)==(0:Int)) (
 .bd (FH45_v2) fun y9 =>
 .ret ((((y9.1:Nat):Int)==(0:Int)),y7.2.1,())) (
 .ret (false,y7.2.1,()))) (
 .ret (false,y7.2.1,()))) (
 .ret (false,y7.2.1,()))) (
 .ret (false,y7.2.1,()))) (
 .ret (false,y7.2.1,()))) (
 .ret (false,y7.2.1,()))) (
 .ret (false,y7.2.1,()))) (
 .ret (false,y6.2.1,()))) (
 .ret (false,m2,()))
theorem Kl:bK prog f52=some ⟨88,2,GW.er,[.t 4],[some .bool]⟩:=by kernel_rfl
noncomputable def MD:Ht:=⟨52,Ze,Zf,(fun x=>ai (FH52_v1 x.1))⟩
theorem Km:MD.Ok prog:=aM mixed GV rfl func52 Kl (enters_of func52 rfl rfl) GW (by kernel_rfl) rfl rfl ⟨_,rfl⟩ rfl (pre:=[0,1,2]) rfl (fun x=>by kernel_rfl)

/- 14 -/
noncomputable def cx14:Cx:=(aF [ct51,adt,ct17] [Wq,WI,Mb,aew,ht48,Sv,ht52,MD])
theorem ME:cx14.Ok prog:=ag ⟨X1,Lx,XT,trivial⟩ ⟨⟨Ca,rfl⟩,⟨Cd,rfl⟩,⟨Jf,rfl⟩,⟨LV,rfl⟩,⟨XZ,rfl⟩,⟨vq,rfl⟩,⟨Yz,rfl⟩,⟨Km,rfl⟩,trivial⟩
@[reducible] def aiK:ah:=ah.mk [(0,.c (.hole (.int .u8))),(3,.c (.ptr 0 0)),(4,hI)] [(0,.cells [.mp 1] false),(1,.map tG true .bool false)] [.slot 3,.cell 0 0] []
@[reducible] def aiL:aR:=[(.ret,ah.mk [(2,.c (.tf false))] [] [] []),(.exit 0,ah.mk [(0,.c (.hole (.int .u8))),(3,.c (.ptr 0 0))] [(0,.cells [.mp 1] false),(1,.map tG true .bool false)] [.slot 3,.cell 0 0] [])]
noncomputable def aiM:D prog 117 none 0:=dO [] (pick (kd prog f14) [(0,false)]) 0
noncomputable def g14_0:Int×Int×(List ((GG)×Bool))×Unit→aY ((Int×Int×(List ((GG)×Bool))×Unit) ⊕ ((Unit) ⊕ ((Int×(List ((GG)×Bool))×Unit)))):=fun (v0,v4,m1,_) =>
 .br (decide (v4<(60:Int))) (
 .bd (F51 v4) fun y1 =>
 .bd (F50 y1.1 (bs [97,110,97]) (1:Int)) fun y2 =>
 .bd (FH20 (y2.1.1,y2.1.2.1,y2.1.2.2.1,y2.1.2.2.2.1,y2.1.2.2.2.2) m1) fun y3 =>
 .br (!(y3.1==(0:Int))) (
 .ret (.inr <| .inl<|())) (
 .ni (v4+(1:Int)) <|
 .ret (.inl (v0,(v4+(1:Int)),y3.2.1,())))) (
 .ret (.inr <| .inr<|(v0,m1,())))
noncomputable def aiN:bL prog 117 none 0:=bp mixed cx14 ME [] rfl aiK aiL rfl (aiM) (fun x=>ai (g14_0 x)) (fun x=>by kernel_rfl)
noncomputable def dd14:D prog 117 none 0:=dO [.l aiN] (kd prog f14) 0
noncomputable def F14 (a0:Int):aY (Bool×Unit) :=
 .bd (FH18) fun y0 =>
 .bd (.it g14_0 (a0,(0:Int),y0.1,())) fun z4 =>
 .sm z4 (fun z5 =>
 .ret (false,())) fun z6 =>
 .ni z6.1 <|
 .nd (!((60:Int)==(0:Int))) <|
 .bd (F51 (Int.tmod z6.1 (60:Int))) fun y7 =>
 .bd (F50 y7.1 (bs [97,110,97]) (1:Int)) fun y8 =>
 .bd (FH20 (y8.1.1,y8.1.2.1,y8.1.2.2.1,y8.1.2.2.2.1,y8.1.2.2.2.2) z6.2.1) fun y9 =>
 .br (!(y9.1==(0:Int))) (
 .ret (false,())) (
 .bd (F51 (Int.tmod z6.1 (60:Int))) fun PZ =>
 .bd (F50 PZ.1 (bs [97,110,97]) (2:Int)) fun HE =>
 .bd (FH20 (HE.1.1,HE.1.2.1,HE.1.2.2.1,HE.1.2.2.2.1,HE.1.2.2.2.2) y9.2.1) fun y12 =>
 .br (!(y12.1==(15:Int))) (
 .ret (false,())) (
 .bd (F50 (bs [122,122]) (bs [97,110,97]) (1:Int)) fun Tv =>
 .bd (FH20 (Tv.1.1,Tv.1.2.1,Tv.1.2.2.1,Tv.1.2.2.2.1,Tv.1.2.2.2.2) y12.2.1) fun PY =>
 .br (!(PY.1==(15:Int))) (
 .ret (false,())) (
 .bd (F50 (bs [122,122]) (bs [65,110,97]) (1:Int)) fun y15 =>
 .bd (FH20 (y15.1.1,y15.1.2.1,y15.1.2.2.1,y15.1.2.2.2.1,y15.1.2.2.2.2) PY.2.1) fun y16 =>
 .br (!(y16.1==(8:Int))) (
 .ret (false,())) (
 .bd (F51 (Int.tmod z6.1 (60:Int))) fun y17 =>
 .bd (F50 y17.1 (bs [97,110,97]) (1:Int)) fun y18 =>
 .bd (FH29_v1 (1:Nat) ((y18.1.1,y18.1.2.1,y18.1.2.2.1,y18.1.2.2.2.1,y18.1.2.2.2.2)::[])) fun y19 =>
 .bd (F50 (bs [122,122]) (bs [97,110,97]) (1:Int)) fun y20 =>
 .bd (FH29_v1 (1:Nat) ((y20.1.1,y20.1.2.1,y20.1.2.2.1,y20.1.2.2.2.1,y20.1.2.2.2.2)::[])) fun y21 =>
 .bd (FH37 y16.2.1) fun y22 =>
 .bd (FH48 y22.2.2.1 y19.2.1) fun y23 =>
 .br (!(y23.1==(0:Int))) (
 .ret (false,())) (
 .bd (FH48 y23.2.1 y21.2.1) fun y24 =>
 .br (!(y24.1==(15:Int))) (
 .ret (false,())) (
 .bd (FH48 y24.2.2.1 y24.2.1) fun y25 =>
 .br (!(y25.1==(15:Int))) (
 .ret (false,())) (
 .bd (FH47 y25.2.2.1) fun y26 =>
 .br (!(((y26.1:Nat):Int)==(60:Int))) (
 .ret (false,())) (
 .bd (FH47 y25.2.1) fun y27 =>
 .br (!(((y27.1:Nat):Int)==(1:Int))) (
 .ret (false,())) (
 .br (!(y22.2.1==(0:Int))) (
 .ret (false,())) (
 .br (!((y22.1.1==(60:Int))&&((y22.1.2==(60:Int))&&true))) (
 .ret (false,())) (
 .bd (FH52 y26.2.2.1) fun y28 =>
 .br y28.1 (
 .bd (FH52_v1 y28.2.1) fun y29 =>
 .br y29.1 (
 .bd (FH47 y29.2.1) fun y30 =>
 .br (((y30.1:Nat):Int)==(60:Int)) (
 .bd (F17) fun y31 =>
 .ret (y31.1,())) (
 .ret (false,()))) (
 .ret (false,()))) (
 .ret (false,())))))))))))))
theorem aeN:bK prog f14=some ⟨117,1,dd14.er,[.t 2],[some .bool]⟩:=by kernel_rfl
noncomputable def ct14:Ct:=⟨14,[.c (.hole (.int .u8))],.c (.hole .bool),fun x=>ai (F14 x.1)⟩
theorem Zg:ct14.Ok prog:=dX mixed ME func14 aeN (enters_of func14 rfl rfl) dd14 (by kernel_rfl) rfl (fun x=>by kernel_rfl)

end Go.Proofs.Tryz

