/- Functions of the program as functions of data, part 2; printed by a program of mine. -/
import Derived.Test.YthplclhbcamelaaGreatDoorW30
import Derived.Test.YthplclhbcamelaaGreatDoorProg
set_option linter.unusedSectionVars false
set_option linter.unusedVariables false
set_option linter.unusedSimpArgs false
open Go.AM
namespace Go.Proofs.Tryz
set_option maxRecDepth 100000
set_option synthInstance.maxSize 4000
set_option synthInstance.maxHeartbeats 400000


/- 50 -/
noncomputable def sI:Cx:=(aV [Js,LQ,B8,Ef,LS] [JB,JA])
theorem kL:sI.Ok prog:=au ⟨Gp,sB,yq,nA,sC,trivial⟩ ⟨⟨GF,rfl⟩,⟨GB,rfl⟩,trivial⟩
noncomputable def AD:D prog 81 (some 6) 18:=dO [] (pick (kd prog f50) [(0,false)]) 0
noncomputable def AE:D prog 81 (some 6) 18:=dO [] (pick (kd prog f50) [(0,true)]) 0
noncomputable def nD:Cx:=tT sI (fun kz=>Il kz sI bW 6 18 [19,20] (AD) (AE))
theorem lS:(nD).Ok prog:=gQ kL (fun h=>jI mixed kL h)
@[reducible] def Es:aG:=aG.mk [(0,.c (.yl 6)),(1,.c (.aJ (.cons (.hole tI) (.cons (.hole tI) (.cons (.hole tI) (.cons (.fn 54 .nil (.cons (.av (.prod ay (.list .bool))) (.cons (.av (.prod ay (.list .bool))) .nil))) (.cons (.fn 55 .nil (.cons (.aJ (.cons (.fn0 23) .nil)) (.cons (.av (.prod ay (.list .bool))) (.cons (.av (.prod ay (.list .bool))) .nil)))) .nil))))))),(3,.c (.mp 7)),(4,.c (.Aa 8 (.prod (.prod tI tI) tL))),(5,.c (.ptr 9 0)),(33,hI),(34,hI)] [(6,.loop .ready none 5 [(1,.c (.ptr 0 0)),(2,.c (.ptr 1 0)),(3,.c .bA),(4,.c (.ptr 2 0)),(5,.c (.ptr 3 0)),(18,.fn 81 [] [.aJ (.cons (.hole tI) (.cons (.hole tI) (.cons (.hole tI) (.cons (.fn 54 .nil (.cons (.av (.prod ay (.list .bool))) (.cons (.av (.prod ay (.list .bool))) .nil))) (.cons (.fn 55 .nil (.cons (.aJ (.cons (.fn0 23) .nil)) (.cons (.av (.prod ay (.list .bool))) (.cons (.av (.prod ay (.list .bool))) .nil)))) .nil)))))])] [19,20] (.cF [.op (some 6) none (.ex (kQ.gy tI 2) []),.op none none (.store 2 (.t 6) (.t 19))]) (.block 1 (.seq (.cF [.op (some 21) none (.load false 1 (.t 4)),.op (some 22) none (.load true 2 (.t 6)),.op (some 23) none (.bI (.prod tI tI) [.t 22]),.op (some 24) none (.append 2 (.t 21) (.t 23)),.op none none (.store 1 (.t 4) (.t 24))]) (.seq (.cF [.op (some 25) none (.qc 4 [true,true,true] (.t 1)),.op (some 26) none (.load false 1 (.t 25)),.op (some 27) none (.load true 2 (.t 6)),.call (some 28) none (.t 26) [.t 27] [some (.prod tI tI)]]) (.cond (.t 28) (.cF [.op (some 29) none (.load false 1 (.t 5)),.op (some 30) none (.load true 2 (.t 6)),.op none none (.ex (kQ.fM (.prod tI tI) true tI false) [.t 29,.t 30,.c (.int .i64 (Int.ofNat 1))])]) .skip)))) 81),(7,.map (.prod tI tI) true .bool false),(8,.arr (.prod (.prod tI tI) tL) false),(9,.cells [.hole tI,.hole tI,.hole tL] false),(5,.fC),(0,.cells [.hole tI,.hole tI,.hole tI,.fn 54 .nil (.cons (.av (.prod ay (.list .bool))) (.cons (.av (.prod ay (.list .bool))) .nil)),.fn 55 .nil (.cons (.aJ (.cons (.fn0 23) .nil)) (.cons (.av (.prod ay (.list .bool))) (.cons (.av (.prod ay (.list .bool))) .nil)))] false),(1,.cells [.bA,.bA] false),(2,.cells [.cg 10 (.prod tI tI)] false),(3,.cells [.mp 11] false),(10,.arr (.prod tI tI) false),(11,.map (.prod tI tI) true tI false)] [.slot 3,.slot 4,.slot 5,.cell 2 0,.cell 3 0] []
@[reducible] def Et:bt:=[(.exit 2,aG.mk [(0,.c (.yl 6)),(1,.c (.aJ (.cons (.hole tI) (.cons (.hole tI) (.cons (.hole tI) (.cons (.fn 54 .nil (.cons (.av (.prod ay (.list .bool))) (.cons (.av (.prod ay (.list .bool))) .nil))) (.cons (.fn 55 .nil (.cons (.aJ (.cons (.fn0 23) .nil)) (.cons (.av (.prod ay (.list .bool))) (.cons (.av (.prod ay (.list .bool))) .nil)))) .nil))))))),(3,.c (.mp 7)),(4,.c (.Aa 8 (.prod (.prod tI tI) tL)))] [(6,.loop .ready none 5 [(1,.c (.ptr 0 0)),(2,.c (.ptr 1 0)),(3,.c .bA),(4,.c (.ptr 2 0)),(5,.c (.ptr 3 0)),(18,.fn 81 [] [.aJ (.cons (.hole tI) (.cons (.hole tI) (.cons (.hole tI) (.cons (.fn 54 .nil (.cons (.av (.prod ay (.list .bool))) (.cons (.av (.prod ay (.list .bool))) .nil))) (.cons (.fn 55 .nil (.cons (.aJ (.cons (.fn0 23) .nil)) (.cons (.av (.prod ay (.list .bool))) (.cons (.av (.prod ay (.list .bool))) .nil)))) .nil)))))])] [19,20] (.cF [.op (some 6) none (.ex (kQ.gy tI 2) []),.op none none (.store 2 (.t 6) (.t 19))]) (.block 1 (.seq (.cF [.op (some 21) none (.load false 1 (.t 4)),.op (some 22) none (.load true 2 (.t 6)),.op (some 23) none (.bI (.prod tI tI) [.t 22]),.op (some 24) none (.append 2 (.t 21) (.t 23)),.op none none (.store 1 (.t 4) (.t 24))]) (.seq (.cF [.op (some 25) none (.qc 4 [true,true,true] (.t 1)),.op (some 26) none (.load false 1 (.t 25)),.op (some 27) none (.load true 2 (.t 6)),.call (some 28) none (.t 26) [.t 27] [some (.prod tI tI)]]) (.cond (.t 28) (.cF [.op (some 29) none (.load false 1 (.t 5)),.op (some 30) none (.load true 2 (.t 6)),.op none none (.ex (kQ.fM (.prod tI tI) true tI false) [.t 29,.t 30,.c (.int .i64 (Int.ofNat 1))])]) .skip)))) 81),(7,.map (.prod tI tI) true .bool false),(8,.arr (.prod (.prod tI tI) tL) false),(5,.fC),(0,.cells [.hole tI,.hole tI,.hole tI,.fn 54 .nil (.cons (.av (.prod ay (.list .bool))) (.cons (.av (.prod ay (.list .bool))) .nil)),.fn 55 .nil (.cons (.aJ (.cons (.fn0 23) .nil)) (.cons (.av (.prod ay (.list .bool))) (.cons (.av (.prod ay (.list .bool))) .nil)))] false),(1,.cells [.bA,.bA] false),(2,.cells [.cg 9 (.prod tI tI)] false),(3,.cells [.mp 10] false),(9,.arr (.prod tI tI) false),(10,.map (.prod tI tI) true tI false)] [.slot 3,.slot 4,.cell 2 0,.cell 3 0] [])]
noncomputable def Eu:D prog 61 none 7:=dO [] (pick (kd prog f81) [(0,false),(0,false)]) 0
noncomputable def g50_v1_0i_1:Int×Int×Int×((List (List Int))×List Bool)×((List (List Int))×List Bool)×((List (List Int))×List Bool)×((List (List Int))×List Bool)×Nat×Nat×Int×Int×Int×Int×Int×((List (List Int))×List Bool)×((List (List Int))×List Bool)×((List (List Int))×List Bool)×((List (List Int))×List Bool)×(List ((Int×Int)×Bool))×(List ((Int×Int)×List Int))×Int×Int×List Int×Int×Int×Int×((List (List Int))×List Bool)×((List (List Int))×List Bool)×((List (List Int))×List Bool)×((List (List Int))×List Bool)×Nat×(List (Int×Int))×(List ((Int×Int)×Int))×Unit->bR ((Int×Int×Int×((List (List Int))×List Bool)×((List (List Int))×List Bool)×((List (List Int))×List Bool)×((List (List Int))×List Bool)×Nat×Nat×Int×Int×Int×Int×Int×((List (List Int))×List Bool)×((List (List Int))×List Bool)×((List (List Int))×List Bool)×((List (List Int))×List Bool)×(List ((Int×Int)×Bool))×(List ((Int×Int)×List Int))×Int×Int×List Int×Int×Int×Int×((List (List Int))×List Bool)×((List (List Int))×List Bool)×((List (List Int))×List Bool)×((List (List Int))×List Bool)×Nat×(List (Int×Int))×(List ((Int×Int)×Int))×Unit) ⊕ ((Int×Int×Int×((List (List Int))×List Bool)×((List (List Int))×List Bool)×((List (List Int))×List Bool)×((List (List Int))×List Bool)×Nat×Nat×Int×Int×Int×((List (List Int))×List Bool)×((List (List Int))×List Bool)×((List (List Int))×List Bool)×((List (List Int))×List Bool)×(List ((Int×Int)×Bool))×(List ((Int×Int)×List Int))×Int×Int×Int×((List (List Int))×List Bool)×((List (List Int))×List Bool)×((List (List Int))×List Bool)×((List (List Int))×List Bool)×Nat×(List (Int×Int))×(List ((Int×Int)×Int))×Unit))):=fun (eo,nB,fh,bY,bZ,cC,cD,cI,jJ,uX,fL,fq,fu,fy,bD,bE,bF,bG,m7,b8,Gg,Gh,Gi,bp,cq,bX,aH,aI,aC,aD,dm,B6,Qx,_) =>
 .br (decide (fL<uX)) (
 .bd (F54 (Gg,Gh) fL (bY.1,bY.2) (bZ.1,bZ.2)) fun y3 =>
 .br (!(aN (.prod (.int .i64) (.int .i64)) false m7 ((((y3.1.1::(y3.1.2::[]))).getD (0:Nat) (0:Int)),(((y3.1.1::(y3.1.2::[]))).getD (1:Nat) (0:Int))))) (
 .bd (F83 Gi) fun y4 =>
 .nd (decide ((0:Nat)<(((((fL::[])).drop (0:Nat)).take (1:Nat))).length)) <|
 .nd (decide (((y4.1).length+(((((fL::[])).drop (0:Nat)).take (1:Nat))).length)<cz)) <|
 .nd (decide ((jJ+((((((((((y3.1.1::(y3.1.2::[]))).getD (0:Nat) (0:Int)),(((y3.1.1::(y3.1.2::[]))).getD (1:Nat) (0:Int))),((((y4.1++((((fL::[])).drop (0:Nat)).take (1:Nat)))).drop (0:Nat)).take ((y4.1).length+(((((fL::[])).drop (0:Nat)).take (1:Nat))).length)))::[])).drop (0:Nat)).take (1:Nat))).length)<cz)) <|
 .ni (fL+(1:Int)) <|
 .ret (.inl (eo,nB,fh,(bY.1,bY.2),(bZ.1,bZ.2),(cC.1,cC.2),(cD.1,cD.2),(0:Nat),(jJ+((((((((((y3.1.1::(y3.1.2::[]))).getD (0:Nat) (0:Int)),(((y3.1.1::(y3.1.2::[]))).getD (1:Nat) (0:Int))),((((y4.1++((((fL::[])).drop (0:Nat)).take (1:Nat)))).drop (0:Nat)).take ((y4.1).length+(((((fL::[])).drop (0:Nat)).take (1:Nat))).length)))::[])).drop (0:Nat)).take (1:Nat))).length),uX,(fL+(1:Int)),fq,fu,fy,(bD.1,bD.2),(bE.1,bE.2),(bF.1,bF.2),(bG.1,bG.2),(bh (.prod (.int .i64) (.int .i64)) m7 ((((y3.1.1::(y3.1.2::[]))).getD (0:Nat) (0:Int)),(((y3.1.1::(y3.1.2::[]))).getD (1:Nat) (0:Int))) true),((((b8).drop cI).take jJ)++(((((((((y3.1.1::(y3.1.2::[]))).getD (0:Nat) (0:Int)),(((y3.1.1::(y3.1.2::[]))).getD (1:Nat) (0:Int))),((((y4.1++((((fL::[])).drop (0:Nat)).take (1:Nat)))).drop (0:Nat)).take ((y4.1).length+(((((fL::[])).drop (0:Nat)).take (1:Nat))).length)))::[])).drop (0:Nat)).take (1:Nat))),Gg,Gh,Gi,bp,cq,bX,(aH.1,aH.2),(aI.1,aI.2),(aC.1,aC.2),(aD.1,aD.2),dm,B6,Qx,()))) (
 .ni (fL+(1:Int)) <|
 .ret (.inl (eo,nB,fh,(bY.1,bY.2),(bZ.1,bZ.2),(cC.1,cC.2),(cD.1,cD.2),cI,jJ,uX,(fL+(1:Int)),fq,fu,fy,(bD.1,bD.2),(bE.1,bE.2),(bF.1,bF.2),(bG.1,bG.2),m7,b8,Gg,Gh,Gi,bp,cq,bX,(aH.1,aH.2),(aI.1,aI.2),(aC.1,aC.2),(aD.1,aD.2),dm,B6,Qx,())))) (
 .ret (.inr (eo,nB,fh,(bY.1,bY.2),(bZ.1,bZ.2),(cC.1,cC.2),(cD.1,cD.2),cI,jJ,fq,fu,fy,(bD.1,bD.2),(bE.1,bE.2),(bF.1,bF.2),(bG.1,bG.2),m7,b8,bp,cq,bX,(aH.1,aH.2),(aI.1,aI.2),(aC.1,aC.2),(aD.1,aD.2),dm,B6,Qx,())))
noncomputable def Ev:bK prog 61 none 7:=bu mixed nD lS [0,1,2,3,4,5,6] rfl Es Et rfl (Eu) (fun x=>ag (g50_v1_0i_1 x)) (fun x=>by kernel_rfl)
@[reducible] def Ew:aG:=aG.mk [(0,.c (.yl 6)),(1,.c (.aJ (.cons (.hole tI) (.cons (.hole tI) (.cons (.hole tI) (.cons (.fn 54 .nil (.cons (.av (.prod ay (.list .bool))) (.cons (.av (.prod ay (.list .bool))) .nil))) (.cons (.fn 55 .nil (.cons (.aJ (.cons (.fn0 23) .nil)) (.cons (.av (.prod ay (.list .bool))) (.cons (.av (.prod ay (.list .bool))) .nil)))) .nil))))))),(3,.c (.mp 7)),(4,.c (.Aa 8 (.prod (.prod tI tI) tL)))] [(6,.loop .ready none 5 [(1,.c (.ptr 0 0)),(2,.c (.ptr 1 0)),(3,.c .bA),(4,.c (.ptr 2 0)),(5,.c (.ptr 3 0)),(18,.fn 81 [] [.aJ (.cons (.hole tI) (.cons (.hole tI) (.cons (.hole tI) (.cons (.fn 54 .nil (.cons (.av (.prod ay (.list .bool))) (.cons (.av (.prod ay (.list .bool))) .nil))) (.cons (.fn 55 .nil (.cons (.aJ (.cons (.fn0 23) .nil)) (.cons (.av (.prod ay (.list .bool))) (.cons (.av (.prod ay (.list .bool))) .nil)))) .nil)))))])] [19,20] (.cF [.op (some 6) none (.ex (kQ.gy tI 2) []),.op none none (.store 2 (.t 6) (.t 19))]) (.block 1 (.seq (.cF [.op (some 21) none (.load false 1 (.t 4)),.op (some 22) none (.load true 2 (.t 6)),.op (some 23) none (.bI (.prod tI tI) [.t 22]),.op (some 24) none (.append 2 (.t 21) (.t 23)),.op none none (.store 1 (.t 4) (.t 24))]) (.seq (.cF [.op (some 25) none (.qc 4 [true,true,true] (.t 1)),.op (some 26) none (.load false 1 (.t 25)),.op (some 27) none (.load true 2 (.t 6)),.call (some 28) none (.t 26) [.t 27] [some (.prod tI tI)]]) (.cond (.t 28) (.cF [.op (some 29) none (.load false 1 (.t 5)),.op (some 30) none (.load true 2 (.t 6)),.op none none (.ex (kQ.fM (.prod tI tI) true tI false) [.t 29,.t 30,.c (.int .i64 (Int.ofNat 1))])]) .skip)))) 81),(7,.map (.prod tI tI) true .bool false),(8,.arr (.prod (.prod tI tI) tL) false),(5,.fC),(0,.cells [.hole tI,.hole tI,.hole tI,.fn 54 .nil (.cons (.av (.prod ay (.list .bool))) (.cons (.av (.prod ay (.list .bool))) .nil)),.fn 55 .nil (.cons (.aJ (.cons (.fn0 23) .nil)) (.cons (.av (.prod ay (.list .bool))) (.cons (.av (.prod ay (.list .bool))) .nil)))] false),(1,.cells [.bA,.bA] false),(2,.cells [.cg 9 (.prod tI tI)] false),(3,.cells [.mp 10] false),(9,.arr (.prod tI tI) false),(10,.map (.prod tI tI) true tI false)] [.slot 3,.slot 4,.cell 2 0,.cell 3 0] []
@[reducible] def Ey:bt:=[(.exit 0,aG.mk [] [(0,.cells [.hole tI,.hole tI,.hole tI,.fn 54 .nil (.cons (.av (.prod ay (.list .bool))) (.cons (.av (.prod ay (.list .bool))) .nil)),.fn 55 .nil (.cons (.aJ (.cons (.fn0 23) .nil)) (.cons (.av (.prod ay (.list .bool))) (.cons (.av (.prod ay (.list .bool))) .nil)))] false),(1,.cells [.bA,.bA] false),(2,.cells [.cg 7 (.prod tI tI)] false),(3,.cells [.mp 8] false),(5,.fC),(6,.loop .ready none 5 [(1,.c (.ptr 0 0)),(2,.c (.ptr 1 0)),(3,.c .bA),(4,.c (.ptr 2 0)),(5,.c (.ptr 3 0)),(18,.fn 81 [] [.aJ (.cons (.hole tI) (.cons (.hole tI) (.cons (.hole tI) (.cons (.fn 54 .nil (.cons (.av (.prod ay (.list .bool))) (.cons (.av (.prod ay (.list .bool))) .nil))) (.cons (.fn 55 .nil (.cons (.aJ (.cons (.fn0 23) .nil)) (.cons (.av (.prod ay (.list .bool))) (.cons (.av (.prod ay (.list .bool))) .nil)))) .nil)))))])] [19,20] (.cF [.op (some 6) none (.ex (kQ.gy tI 2) []),.op none none (.store 2 (.t 6) (.t 19))]) (.block 1 (.seq (.cF [.op (some 21) none (.load false 1 (.t 4)),.op (some 22) none (.load true 2 (.t 6)),.op (some 23) none (.bI (.prod tI tI) [.t 22]),.op (some 24) none (.append 2 (.t 21) (.t 23)),.op none none (.store 1 (.t 4) (.t 24))]) (.seq (.cF [.op (some 25) none (.qc 4 [true,true,true] (.t 1)),.op (some 26) none (.load false 1 (.t 25)),.op (some 27) none (.load true 2 (.t 6)),.call (some 28) none (.t 26) [.t 27] [some (.prod tI tI)]]) (.cond (.t 28) (.cF [.op (some 29) none (.load false 1 (.t 5)),.op (some 30) none (.load true 2 (.t 6)),.op none none (.ex (kQ.fM (.prod tI tI) true tI false) [.t 29,.t 30,.c (.int .i64 (Int.ofNat 1))])]) .skip)))) 81),(7,.arr (.prod tI tI) false),(8,.map (.prod tI tI) true tI false)] [.cell 2 0,.cell 3 0] [])]
noncomputable def Ez:D prog 61 none 7:=dO [.l Ev] (pick (kd prog f81) [(0,false)]) 0
noncomputable def g50_v1_0i_0:Int×Int×Int×((List (List Int))×List Bool)×((List (List Int))×List Bool)×((List (List Int))×List Bool)×((List (List Int))×List Bool)×Nat×Nat×Int×Int×Int×((List (List Int))×List Bool)×((List (List Int))×List Bool)×((List (List Int))×List Bool)×((List (List Int))×List Bool)×(List ((Int×Int)×Bool))×(List ((Int×Int)×List Int))×Int×Int×Int×((List (List Int))×List Bool)×((List (List Int))×List Bool)×((List (List Int))×List Bool)×((List (List Int))×List Bool)×Nat×(List (Int×Int))×(List ((Int×Int)×Int))×Unit->bR ((Int×Int×Int×((List (List Int))×List Bool)×((List (List Int))×List Bool)×((List (List Int))×List Bool)×((List (List Int))×List Bool)×Nat×Nat×Int×Int×Int×((List (List Int))×List Bool)×((List (List Int))×List Bool)×((List (List Int))×List Bool)×((List (List Int))×List Bool)×(List ((Int×Int)×Bool))×(List ((Int×Int)×List Int))×Int×Int×Int×((List (List Int))×List Bool)×((List (List Int))×List Bool)×((List (List Int))×List Bool)×((List (List Int))×List Bool)×Nat×(List (Int×Int))×(List ((Int×Int)×Int))×Unit) ⊕ ((Int×Int×Int×((List (List Int))×List Bool)×((List (List Int))×List Bool)×((List (List Int))×List Bool)×((List (List Int))×List Bool)×Nat×Int×Int×Int×((List (List Int))×List Bool)×((List (List Int))×List Bool)×((List (List Int))×List Bool)×((List (List Int))×List Bool)×(List (Int×Int))×(List ((Int×Int)×Int))×Unit))):=fun (eo,nB,fh,bY,bZ,cC,cD,cI,jJ,fq,fu,fy,bD,bE,bF,bG,m7,b8,bp,cq,bX,aH,aI,aC,aD,dm,b9,m10,_) =>
 .br (decide ((0:Int)<((jJ:Nat):Int))) (
 .nb (0:Int) ((jJ:Nat):Int) <|
 .nd (decide ((cI+(Int.toNat (0:Int)))<(b8).length)) <|
 .bd (F82 ((b8).getD (cI+(Int.toNat (0:Int))) (((0:Int),(0:Int)),[])).2) fun y1 =>
 .nd (decide ((dm+(((((((((((b8).getD (cI+(Int.toNat (0:Int))) (((0:Int),(0:Int)),[])).1.1::(((b8).getD (cI+(Int.toNat (0:Int))) (((0:Int),(0:Int)),[])).1.2::[]))).getD (0:Nat) (0:Int)),(((((b8).getD (cI+(Int.toNat (0:Int))) (((0:Int),(0:Int)),[])).1.1::(((b8).getD (cI+(Int.toNat (0:Int))) (((0:Int),(0:Int)),[])).1.2::[]))).getD (1:Nat) (0:Int)))::[])).drop (0:Nat)).take (1:Nat))).length)<cz)) <|
 .bd (F55_v1 ((((((b8).getD (cI+(Int.toNat (0:Int))) (((0:Int),(0:Int)),[])).1.1::(((b8).getD (cI+(Int.toNat (0:Int))) (((0:Int),(0:Int)),[])).1.2::[]))).getD (0:Nat) (0:Int)),(((((b8).getD (cI+(Int.toNat (0:Int))) (((0:Int),(0:Int)),[])).1.1::(((b8).getD (cI+(Int.toNat (0:Int))) (((0:Int),(0:Int)),[])).1.2::[]))).getD (1:Nat) (0:Int))) (aC.1,aC.2) (aD.1,aD.2)) fun y2 =>
 .br y2.1 (
 .bd (.it g50_v1_0i_1 (eo,nB,fh,(bY.1,bY.2),(bZ.1,bZ.2),(cC.1,cC.2),(cD.1,cD.2),cI,jJ,eo,(0:Int),fq,fu,fy,(bD.1,bD.2),(bE.1,bE.2),(bF.1,bF.2),(bG.1,bG.2),m7,b8,((b8).getD (cI+(Int.toNat (0:Int))) (((0:Int),(0:Int)),[])).1.1,((b8).getD (cI+(Int.toNat (0:Int))) (((0:Int),(0:Int)),[])).1.2,((b8).getD (cI+(Int.toNat (0:Int))) (((0:Int),(0:Int)),[])).2,bp,cq,bX,(aH.1,aH.2),(aI.1,aI.2),(aC.1,aC.2),(aD.1,aD.2),(dm+(((((((((((b8).getD (cI+(Int.toNat (0:Int))) (((0:Int),(0:Int)),[])).1.1::(((b8).getD (cI+(Int.toNat (0:Int))) (((0:Int),(0:Int)),[])).1.2::[]))).getD (0:Nat) (0:Int)),(((((b8).getD (cI+(Int.toNat (0:Int))) (((0:Int),(0:Int)),[])).1.1::(((b8).getD (cI+(Int.toNat (0:Int))) (((0:Int),(0:Int)),[])).1.2::[]))).getD (1:Nat) (0:Int)))::[])).drop (0:Nat)).take (1:Nat))).length),((((b9).drop (0:Nat)).take dm)++((((((((((b8).getD (cI+(Int.toNat (0:Int))) (((0:Int),(0:Int)),[])).1.1::(((b8).getD (cI+(Int.toNat (0:Int))) (((0:Int),(0:Int)),[])).1.2::[]))).getD (0:Nat) (0:Int)),(((((b8).getD (cI+(Int.toNat (0:Int))) (((0:Int),(0:Int)),[])).1.1::(((b8).getD (cI+(Int.toNat (0:Int))) (((0:Int),(0:Int)),[])).1.2::[]))).getD (1:Nat) (0:Int)))::[])).drop (0:Nat)).take (1:Nat))),(bh (.prod (.int .i64) (.int .i64)) m10 ((((((b8).getD (cI+(Int.toNat (0:Int))) (((0:Int),(0:Int)),[])).1.1::(((b8).getD (cI+(Int.toNat (0:Int))) (((0:Int),(0:Int)),[])).1.2::[]))).getD (0:Nat) (0:Int)),(((((b8).getD (cI+(Int.toNat (0:Int))) (((0:Int),(0:Int)),[])).1.1::(((b8).getD (cI+(Int.toNat (0:Int))) (((0:Int),(0:Int)),[])).1.2::[]))).getD (1:Nat) (0:Int))) (1:Int)),())) fun z5 =>
 .nd (decide ((0:Int)<=(1:Int))) <|
 .nd (decide ((1:Int)<=((z5.2.2.2.2.2.2.2.2.1:Nat):Int))) <|
 .nd (decide (((z5.2.2.2.2.2.2.2.2.1:Nat):Int)<=((z5.2.2.2.2.2.2.2.2.1:Nat):Int))) <|
 .ret (.inl (z5.1,z5.2.1,z5.2.2.1,(z5.2.2.2.1.1,z5.2.2.2.1.2),(z5.2.2.2.2.1.1,z5.2.2.2.2.1.2),(z5.2.2.2.2.2.1.1,z5.2.2.2.2.2.1.2),(z5.2.2.2.2.2.2.1.1,z5.2.2.2.2.2.2.1.2),(z5.2.2.2.2.2.2.2.1+(Int.toNat (1:Int))),((Int.toNat ((z5.2.2.2.2.2.2.2.2.1:Nat):Int)) - (Int.toNat (1:Int))),z5.2.2.2.2.2.2.2.2.2.1,z5.2.2.2.2.2.2.2.2.2.2.1,z5.2.2.2.2.2.2.2.2.2.2.2.1,(z5.2.2.2.2.2.2.2.2.2.2.2.2.1.1,z5.2.2.2.2.2.2.2.2.2.2.2.2.1.2),(z5.2.2.2.2.2.2.2.2.2.2.2.2.2.1.1,z5.2.2.2.2.2.2.2.2.2.2.2.2.2.1.2),(z5.2.2.2.2.2.2.2.2.2.2.2.2.2.2.1.1,z5.2.2.2.2.2.2.2.2.2.2.2.2.2.2.1.2),(z5.2.2.2.2.2.2.2.2.2.2.2.2.2.2.2.1.1,z5.2.2.2.2.2.2.2.2.2.2.2.2.2.2.2.1.2),z5.2.2.2.2.2.2.2.2.2.2.2.2.2.2.2.2.1,z5.2.2.2.2.2.2.2.2.2.2.2.2.2.2.2.2.2.1,z5.2.2.2.2.2.2.2.2.2.2.2.2.2.2.2.2.2.2.1,z5.2.2.2.2.2.2.2.2.2.2.2.2.2.2.2.2.2.2.2.1,z5.2.2.2.2.2.2.2.2.2.2.2.2.2.2.2.2.2.2.2.2.1,(z5.2.2.2.2.2.2.2.2.2.2.2.2.2.2.2.2.2.2.2.2.2.1.1,z5.2.2.2.2.2.2.2.2.2.2.2.2.2.2.2.2.2.2.2.2.2.1.2),(z5.2.2.2.2.2.2.2.2.2.2.2.2.2.2.2.2.2.2.2.2.2.2.1.1,z5.2.2.2.2.2.2.2.2.2.2.2.2.2.2.2.2.2.2.2.2.2.2.1.2),(z5.2.2.2.2.2.2.2.2.2.2.2.2.2.2.2.2.2.2.2.2.2.2.2.1.1,z5.2.2.2.2.2.2.2.2.2.2.2.2.2.2.2.2.2.2.2.2.2.2.2.1.2),(z5.2.2.2.2.2.2.2.2.2.2.2.2.2.2.2.2.2.2.2.2.2.2.2.2.1.1,z5.2.2.2.2.2.2.2.2.2.2.2.2.2.2.2.2.2.2.2.2.2.2.2.2.1.2),z5.2.2.2.2.2.2.2.2.2.2.2.2.2.2.2.2.2.2.2.2.2.2.2.2.2.1,z5.2.2.2.2.2.2.2.2.2.2.2.2.2.2.2.2.2.2.2.2.2.2.2.2.2.2.1,z5.2.2.2.2.2.2.2.2.2.2.2.2.2.2.2.2.2.2.2.2.2.2.2.2.2.2.2.1,()))) (
 .bd (.it g50_v1_0i_1 (eo,nB,fh,(bY.1,bY.2),(bZ.1,bZ.2),(cC.1,cC.2),(cD.1,cD.2),cI,jJ,eo,(0:Int),fq,fu,fy,(bD.1,bD.2),(bE.1,bE.2),(bF.1,bF.2),(bG.1,bG.2),m7,b8,((b8).getD (cI+(Int.toNat (0:Int))) (((0:Int),(0:Int)),[])).1.1,((b8).getD (cI+(Int.toNat (0:Int))) (((0:Int),(0:Int)),[])).1.2,((b8).getD (cI+(Int.toNat (0:Int))) (((0:Int),(0:Int)),[])).2,bp,cq,bX,(aH.1,aH.2),(aI.1,aI.2),(aC.1,aC.2),(aD.1,aD.2),(dm+(((((((((((b8).getD (cI+(Int.toNat (0:Int))) (((0:Int),(0:Int)),[])).1.1::(((b8).getD (cI+(Int.toNat (0:Int))) (((0:Int),(0:Int)),[])).1.2::[]))).getD (0:Nat) (0:Int)),(((((b8).getD (cI+(Int.toNat (0:Int))) (((0:Int),(0:Int)),[])).1.1::(((b8).getD (cI+(Int.toNat (0:Int))) (((0:Int),(0:Int)),[])).1.2::[]))).getD (1:Nat) (0:Int)))::[])).drop (0:Nat)).take (1:Nat))).length),((((b9).drop (0:Nat)).take dm)++((((((((((b8).getD (cI+(Int.toNat (0:Int))) (((0:Int),(0:Int)),[])).1.1::(((b8).getD (cI+(Int.toNat (0:Int))) (((0:Int),(0:Int)),[])).1.2::[]))).getD (0:Nat) (0:Int)),(((((b8).getD (cI+(Int.toNat (0:Int))) (((0:Int),(0:Int)),[])).1.1::(((b8).getD (cI+(Int.toNat (0:Int))) (((0:Int),(0:Int)),[])).1.2::[]))).getD (1:Nat) (0:Int)))::[])).drop (0:Nat)).take (1:Nat))),m10,())) fun z6 =>
 .nd (decide ((0:Int)<=(1:Int))) <|
 .nd (decide ((1:Int)<=((z6.2.2.2.2.2.2.2.2.1:Nat):Int))) <|
 .nd (decide (((z6.2.2.2.2.2.2.2.2.1:Nat):Int)<=((z6.2.2.2.2.2.2.2.2.1:Nat):Int))) <|
 .ret (.inl (z6.1,z6.2.1,z6.2.2.1,(z6.2.2.2.1.1,z6.2.2.2.1.2),(z6.2.2.2.2.1.1,z6.2.2.2.2.1.2),(z6.2.2.2.2.2.1.1,z6.2.2.2.2.2.1.2),(z6.2.2.2.2.2.2.1.1,z6.2.2.2.2.2.2.1.2),(z6.2.2.2.2.2.2.2.1+(Int.toNat (1:Int))),((Int.toNat ((z6.2.2.2.2.2.2.2.2.1:Nat):Int)) - (Int.toNat (1:Int))),z6.2.2.2.2.2.2.2.2.2.1,z6.2.2.2.2.2.2.2.2.2.2.1,z6.2.2.2.2.2.2.2.2.2.2.2.1,(z6.2.2.2.2.2.2.2.2.2.2.2.2.1.1,z6.2.2.2.2.2.2.2.2.2.2.2.2.1.2),(z6.2.2.2.2.2.2.2.2.2.2.2.2.2.1.1,z6.2.2.2.2.2.2.2.2.2.2.2.2.2.1.2),(z6.2.2.2.2.2.2.2.2.2.2.2.2.2.2.1.1,z6.2.2.2.2.2.2.2.2.2.2.2.2.2.2.1.2),(z6.2.2.2.2.2.2.2.2.2.2.2.2.2.2.2.1.1,z6.2.2.2.2.2.2.2.2.2.2.2.2.2.2.2.1.2),z6.2.2.2.2.2.2.2.2.2.2.2.2.2.2.2.2.1,z6.2.2.2.2.2.2.2.2.2.2.2.2.2.2.2.2.2.1,z6.2.2.2.2.2.2.2.2.2.2.2.2.2.2.2.2.2.2.1,z6.2.2.2.2.2.2.2.2.2.2.2.2.2.2.2.2.2.2.2.1,z6.2.2.2.2.2.2.2.2.2.2.2.2.2.2.2.2.2.2.2.2.1,(z6.2.2.2.2.2.2.2.2.2.2.2.2.2.2.2.2.2.2.2.2.2.1.1,z6.2.2.2.2.2.2.2.2.2.2.2.2.2.2.2.2.2.2.2.2.2.1.2),(z6.2.2.2.2.2.2.2.2.2.2.2.2.2.2.2.2.2.2.2.2.2.2.1.1,z6.2.2.2.2.2.2.2.2.2.2.2.2.2.2.2.2.2.2.2.2.2.2.1.2),(z6.2.2.2.2.2.2.2.2.2.2.2.2.2.2.2.2.2.2.2.2.2.2.2.1.1,z6.2.2.2.2.2.2.2.2.2.2.2.2.2.2.2.2.2.2.2.2.2.2.2.1.2),(z6.2.2.2.2.2.2.2.2.2.2.2.2.2.2.2.2.2.2.2.2.2.2.2.2.1.1,z6.2.2.2.2.2.2.2.2.2.2.2.2.2.2.2.2.2.2.2.2.2.2.2.2.1.2),z6.2.2.2.2.2.2.2.2.2.2.2.2.2.2.2.2.2.2.2.2.2.2.2.2.2.1,z6.2.2.2.2.2.2.2.2.2.2.2.2.2.2.2.2.2.2.2.2.2.2.2.2.2.2.1,z6.2.2.2.2.2.2.2.2.2.2.2.2.2.2.2.2.2.2.2.2.2.2.2.2.2.2.2.1,())))) (
 .ret (.inr (bp,cq,bX,(aH.1,aH.2),(aI.1,aI.2),(aC.1,aC.2),(aD.1,aD.2),dm,fq,fu,fy,(bD.1,bD.2),(bE.1,bE.2),(bF.1,bF.2),(bG.1,bG.2),b9,m10,())))
noncomputable def EA:bK prog 61 none 7:=bu mixed nD lS [0,1,2,3,4,5,6] rfl Ew Ey rfl (Ez) (fun x=>ag (g50_v1_0i_0 x)) (fun x=>by kernel_rfl)
@[reducible] def QO:aG:=aG.mk [(1,.c (.ptr 0 0)),(2,.c (.ptr 1 0)),(3,.c .bA),(4,.c (.ptr 2 0)),(5,.c (.ptr 3 0)),(18,.fn 81 [] [.aJ (.cons (.hole tI) (.cons (.hole tI) (.cons (.hole tI) (.cons (.fn 54 .nil (.cons (.av (.prod ay (.list .bool))) (.cons (.av (.prod ay (.list .bool))) .nil))) (.cons (.fn 55 .nil (.cons (.aJ (.cons (.fn0 23) .nil)) (.cons (.av (.prod ay (.list .bool))) (.cons (.av (.prod ay (.list .bool))) .nil)))) .nil)))))])] [(0,.cells [.hole tI,.hole tI,.hole tI,.fn 54 .nil (.cons (.av (.prod ay (.list .bool))) (.cons (.av (.prod ay (.list .bool))) .nil)),.fn 55 .nil (.cons (.aJ (.cons (.fn0 23) .nil)) (.cons (.av (.prod ay (.list .bool))) (.cons (.av (.prod ay (.list .bool))) .nil)))] false),(1,.cells [.bA,.bA] false),(2,.cells [.bA] false),(3,.cells [.mp 4] false),(4,.map (.prod tI tI) true tI false)] [.slot 1,.slot 2,.slot 4,.slot 5,.cell 3 0] []
@[reducible] def QS:bt:=[(.normal,aG.mk [(1,.c (.ptr 0 0)),(2,.c (.ptr 1 0)),(4,.c (.ptr 2 0)),(5,.c (.ptr 3 0))] [(0,.cells [.hole tI,.hole tI,.hole tI,.fn 54 .nil (.cons (.av (.prod ay (.list .bool))) (.cons (.av (.prod ay (.list .bool))) .nil)),.fn 55 .nil (.cons (.aJ (.cons (.fn0 23) .nil)) (.cons (.av (.prod ay (.list .bool))) (.cons (.av (.prod ay (.list .bool))) .nil)))] false),(1,.cells [.bA,.bA] false),(2,.cells [.cg 4 (.prod tI tI)] false),(3,.cells [.mp 5] false),(4,.arr (.prod tI tI) false),(5,.map (.prod tI tI) true tI false)] [.slot 1,.slot 2,.slot 4,.slot 5,.cell 2 0,.cell 3 0] [])]
noncomputable def AF:D prog 61 none 7:=dO [.l EA] (kd prog f81) 0
theorem MA:cN prog f81=some ⟨61,2,(AF).er,[],[]⟩:=by kernel_rfl
noncomputable def g50_v1_0:Int×Int×Int×((List (List Int))×List Bool)×((List (List Int))×List Bool)×((List (List Int))×List Bool)×((List (List Int))×List Bool)×Int×Int×Int×((List (List Int))×List Bool)×((List (List Int))×List Bool)×((List (List Int))×List Bool)×((List (List Int))×List Bool)×(List ((Int×Int)×Int))×Unit->bR ((Int×Int×Int×((List (List Int))×List Bool)×((List (List Int))×List Bool)×((List (List Int))×List Bool)×((List (List Int))×List Bool)×Nat×(List (Int×Int))×(List ((Int×Int)×Int))×Unit)):=fun (sG,jU,jV,gq,gr,gu,gv,bp,cq,bX,aH,aI,aC,aD,m4,_) =>
 .bd (.it g50_v1_0i_0 (sG,jU,jV,(gq.1,gq.2),(gr.1,gr.2),(gu.1,gu.2),(gv.1,gv.2),(0:Nat),(1:Nat),sG,jU,jV,(gq.1,gq.2),(gr.1,gr.2),(gu.1,gu.2),(gv.1,gv.2),(bh (.prod (.int .i64) (.int .i64)) [] (jU,jV) true),(((jU,jV),[])::[]),bp,cq,bX,(aH.1,aH.2),(aI.1,aI.2),(aC.1,aC.2),(aD.1,aD.2),(0:Nat),[],m4,())) fun z7 =>
 .ret ((z7.1,z7.2.1,z7.2.2.1,(z7.2.2.2.1.1,z7.2.2.2.1.2),(z7.2.2.2.2.1.1,z7.2.2.2.2.1.2),(z7.2.2.2.2.2.1.1,z7.2.2.2.2.2.1.2),(z7.2.2.2.2.2.2.1.1,z7.2.2.2.2.2.2.1.2),z7.2.2.2.2.2.2.2.1,z7.2.2.2.2.2.2.2.2.2.2.2.2.2.2.2.1,z7.2.2.2.2.2.2.2.2.2.2.2.2.2.2.2.2.1,()))
noncomputable def QT:fJ prog 81 none 0:=gR mixed nD lS [] rfl QO QS ( .t 18) [19,20] rfl (AD).er (AE).er 81 func81 (MA) (ah func81 rfl rfl) 7 rfl (AF) rfl (fun x=>ag (g50_v1_0 x)) (fun x=>by kernel_rfl)
@[reducible] def QU:aG:=aG.mk [(1,.c (.ptr 0 0)),(2,.c (.ptr 1 0)),(4,.c (.ptr 2 0)),(5,.c (.ptr 3 0)),(7,hI)] [(0,.cells [.hole tI,.hole tI,.hole tI,.fn 54 .nil (.cons (.av (.prod ay (.list .bool))) (.cons (.av (.prod ay (.list .bool))) .nil)),.fn 55 .nil (.cons (.aJ (.cons (.fn0 23) .nil)) (.cons (.av (.prod ay (.list .bool))) (.cons (.av (.prod ay (.list .bool))) .nil)))] false),(1,.cells [.bA,.bA] false),(2,.cells [.cg 4 (.prod tI tI)] false),(3,.cells [.mp 5] false),(4,.arr (.prod tI tI) false),(5,.map (.prod tI tI) true tI false)] [.slot 1,.slot 2,.slot 4,.slot 5,.cell 2 0,.cell 3 0] []
@[reducible] def QV:bt:=[(.exit 2,aG.mk [(1,.c (.ptr 0 0)),(2,.c (.ptr 1 0)),(4,.c (.ptr 2 0)),(5,.c (.ptr 3 0))] [(0,.cells [.hole tI,.hole tI,.hole tI,.fn 54 .nil (.cons (.av (.prod ay (.list .bool))) (.cons (.av (.prod ay (.list .bool))) .nil)),.fn 55 .nil (.cons (.aJ (.cons (.fn0 23) .nil)) (.cons (.av (.prod ay (.list .bool))) (.cons (.av (.prod ay (.list .bool))) .nil)))] false),(1,.cells [.bA,.bA] false),(2,.cells [.cg 4 (.prod tI tI)] false),(3,.cells [.mp 5] false),(4,.arr (.prod tI tI) false),(5,.map (.prod tI tI) true tI false)] [.slot 1,.slot 2,.slot 4,.slot 5,.cell 2 0,.cell 3 0] [])]
noncomputable def QW:D prog 81 none 0:=dO [] (pick (kd prog f50) [(1,false)]) 0
noncomputable def g50_v1_1:Int×Int×Int×Int×((List (List Int))×List Bool)×((List (List Int))×List Bool)×((List (List Int))×List Bool)×((List (List Int))×List Bool)×Nat×(List (Int×Int))×(List ((Int×Int)×Int))×Unit->bR ((Int×Int×Int×Int×((List (List Int))×List Bool)×((List (List Int))×List Bool)×((List (List Int))×List Bool)×((List (List Int))×List Bool)×Nat×(List (Int×Int))×(List ((Int×Int)×Int))×Unit) ⊕ ((Int×Int×Int×((List (List Int))×List Bool)×((List (List Int))×List Bool)×((List (List Int))×List Bool)×((List (List Int))×List Bool)×Nat×(List (Int×Int))×(List ((Int×Int)×Int))×Unit))):=fun (v7,bp,cq,bX,aH,aI,aC,aD,dm,b4,m5,_) =>
 .bd (FH77_v3 bp cq bX (aH.1,aH.2) (aI.1,aI.2) (aC.1,aC.2) (aD.1,aD.2) dm b4 m5) fun y9 =>
 .br (y9.1==v7) (
 .ret (.inr (bp,cq,bX,(aH.1,aH.2),(aI.1,aI.2),(aC.1,aC.2),(aD.1,aD.2),dm,y9.2.2.2.1,y9.2.1,()))) (
 .ret (.inl (y9.1,bp,cq,bX,(aH.1,aH.2),(aI.1,aI.2),(aC.1,aC.2),(aD.1,aD.2),dm,y9.2.2.2.1,y9.2.1,())))
noncomputable def QX:bK prog 81 none 0:=bu mixed sI kL [] rfl QU QV rfl (QW) (fun x=>ag (g50_v1_1 x)) (fun x=>by kernel_rfl)
@[reducible] def QY:aG:=aG.mk [(1,.c (.ptr 0 0)),(2,.c (.ptr 1 0)),(5,.c (.ptr 2 0)),(10,.c (.ptr 3 0)),(11,.c (.ptr 4 0)),(51,.c (.cg 5 (.prod tI tI))),(52,hI),(53,hI)] [(0,.cells [.hole tI,.hole tI,.hole tI,.fn 54 .nil (.cons (.av (.prod ay (.list .bool))) (.cons (.av (.prod ay (.list .bool))) .nil)),.fn 55 .nil (.cons (.aJ (.cons (.fn0 23) .nil)) (.cons (.av (.prod ay (.list .bool))) (.cons (.av (.prod ay (.list .bool))) .nil)))] false),(1,.cells [.bA,.bA] false),(2,.cells [.mp 6] false),(3,.cells [.hole tI,.hole tI,.cu,.cu] false),(4,.cells [.mp 7] false),(5,.arr (.prod tI tI) false),(6,.map (.prod tI tI) true tI false),(7,.map tI false (.prod tI tI) true)] [.slot 1,.slot 2,.slot 5,.slot 10,.slot 11,.slot 51,.cell 2 0,.cell 4 0] []
@[reducible] def QZ:bt:=[(.exit 4,aG.mk [(1,.c (.ptr 0 0)),(2,.c (.ptr 1 0)),(5,.c (.ptr 2 0)),(10,.c (.ptr 3 0)),(11,.c (.ptr 4 0))] [(0,.cells [.hole tI,.hole tI,.hole tI,.fn 54 .nil (.cons (.av (.prod ay (.list .bool))) (.cons (.av (.prod ay (.list .bool))) .nil)),.fn 55 .nil (.cons (.aJ (.cons (.fn0 23) .nil)) (.cons (.av (.prod ay (.list .bool))) (.cons (.av (.prod ay (.list .bool))) .nil)))] false),(1,.cells [.bA,.bA] false),(2,.cells [.mp 5] false),(3,.cells [.hole tI,.hole tI,.cu,.cu] false),(4,.cells [.mp 6] false),(5,.map (.prod tI tI) true tI false),(6,.map tI false (.prod tI tI) true)] [.slot 1,.slot 2,.slot 5,.slot 10,.slot 11,.cell 2 0,.cell 4 0] [])]
noncomputable def Q1:D prog 81 none 0:=dO [] (pick (kd prog f50) [(2,false)]) 0
noncomputable def g50_v1_2:Nat×Int×Int×Int×Int×Int×((List (List Int))×List Bool)×((List (List Int))×List Bool)×((List (List Int))×List Bool)×((List (List Int))×List Bool)×Int×Int×(List (Int×Int))×(List ((Int×Int)×Int))×(List (Int×Int×Int))×Unit->bR ((Nat×Int×Int×Int×Int×Int×((List (List Int))×List Bool)×((List (List Int))×List Bool)×((List (List Int))×List Bool)×((List (List Int))×List Bool)×Int×Int×(List (Int×Int))×(List ((Int×Int)×Int))×(List (Int×Int×Int))×Unit) ⊕ ((Int×Int×Int×((List (List Int))×List Bool)×((List (List Int))×List Bool)×((List (List Int))×List Bool)×((List (List Int))×List Bool)×Int×Int×(List ((Int×Int)×Int))×(List (Int×Int×Int))×Unit))):=fun (Gj,v52,nC,bp,cq,bX,aH,aI,aC,aD,jC,zm,b5,m6,m7,_) =>
 .br (decide (nC<v52)) (
 .nb nC ((Gj:Nat):Int) <|
 .nd (decide (((0:Nat)+(Int.toNat nC))<(b5).length)) <|
 .br (!(bT (.int .i64) m7 (aN (.prod (.int .i64) (.int .i64)) (0:Int) m6 ((((((b5).getD ((0:Nat)+(Int.toNat nC)) ((0:Int),(0:Int))).1::(((b5).getD ((0:Nat)+(Int.toNat nC)) ((0:Int),(0:Int))).2::[]))).getD (0:Nat) (0:Int)),(((((b5).getD ((0:Nat)+(Int.toNat nC)) ((0:Int),(0:Int))).1::(((b5).getD ((0:Nat)+(Int.toNat nC)) ((0:Int),(0:Int))).2::[]))).getD (1:Nat) (0:Int)))))) (
 .ni (nC+(1:Int)) <|
 .ret (.inl (Gj,v52,(nC+(1:Int)),bp,cq,bX,(aH.1,aH.2),(aI.1,aI.2),(aC.1,aC.2),(aD.1,aD.2),jC,zm,b5,m6,(bh (.int .i64) m7 (aN (.prod (.int .i64) (.int .i64)) (0:Int) m6 ((((((b5).getD ((0:Nat)+(Int.toNat nC)) ((0:Int),(0:Int))).1::(((b5).getD ((0:Nat)+(Int.toNat nC)) ((0:Int),(0:Int))).2::[]))).getD (0:Nat) (0:Int)),(((((b5).getD ((0:Nat)+(Int.toNat nC)) ((0:Int),(0:Int))).1::(((b5).getD ((0:Nat)+(Int.toNat nC)) ((0:Int),(0:Int))).2::[]))).getD (1:Nat) (0:Int)))) ((((((b5).getD ((0:Nat)+(Int.toNat nC)) ((0:Int),(0:Int))).1::(((b5).getD ((0:Nat)+(Int.toNat nC)) ((0:Int),(0:Int))).2::[]))).getD (0:Nat) (0:Int)),(((((b5).getD ((0:Nat)+(Int.toNat nC)) ((0:Int),(0:Int))).1::(((b5).getD ((0:Nat)+(Int.toNat nC)) ((0:Int),(0:Int))).2::[]))).getD (1:Nat) (0:Int)))),()))) (
 .ni (nC+(1:Int)) <|
 .ret (.inl (Gj,v52,(nC+(1:Int)),bp,cq,bX,(aH.1,aH.2),(aI.1,aI.2),(aC.1,aC.2),(aD.1,aD.2),jC,zm,b5,m6,m7,())))) (
 .ret (.inr (bp,cq,bX,(aH.1,aH.2),(aI.1,aI.2),(aC.1,aC.2),(aD.1,aD.2),jC,zm,m6,m7,())))
noncomputable def Q2:bK prog 81 none 0:=bu mixed sI kL [] rfl QY QZ rfl (Q1) (fun x=>ag (g50_v1_2 x)) (fun x=>by kernel_rfl)
noncomputable def JC:D prog 81 none 0:=dO [.r QT,.l QX,.l Q2] (kd prog f50) 0
noncomputable def F50_v1 (dg:Int) (sA:Int) (iu:Int) (dP:(List (List Int))×List Bool) (dQ:(List (List Int))×List Bool) (dR:(List (List Int))×List Bool) (dS:(List (List Int))×List Bool):bR (((List (List Int))×List Bool)×List (List Int)×Unit) :=
 .bd (F56_v1 dg sA iu (dP.1,dP.2) (dQ.1,dQ.2) (dR.1,dR.2) (dS.1,dS.2)) fun y0 =>
 .bd (g50_v1_0 (y0.1,y0.2.1,y0.2.2.1,(y0.2.2.2.1.1,y0.2.2.2.1.2),(y0.2.2.2.2.1.1,y0.2.2.2.2.1.2),(y0.2.2.2.2.2.1.1,y0.2.2.2.2.2.1.2),(y0.2.2.2.2.2.2.1.1,y0.2.2.2.2.2.2.1.2),dg,sA,iu,(dP.1,dP.2),(dQ.1,dQ.2),(dR.1,dR.2),(dS.1,dS.2),[],())) fun z8 =>
 .bd (.it g50_v1_1 ((0:Int),z8.1,z8.2.1,z8.2.2.1,(z8.2.2.2.1.1,z8.2.2.2.1.2),(z8.2.2.2.2.1.1,z8.2.2.2.2.1.2),(z8.2.2.2.2.2.1.1,z8.2.2.2.2.2.1.2),(z8.2.2.2.2.2.2.1.1,z8.2.2.2.2.2.2.1.2),z8.2.2.2.2.2.2.2.1,z8.2.2.2.2.2.2.2.2.1,z8.2.2.2.2.2.2.2.2.2.1,())) fun eU =>
 .bd (.it g50_v1_2 (eU.2.2.2.2.2.2.2.1,((eU.2.2.2.2.2.2.2.1:Nat):Int),(0:Int),eU.1,eU.2.1,eU.2.2.1,(eU.2.2.2.1.1,eU.2.2.2.1.2),(eU.2.2.2.2.1.1,eU.2.2.2.2.1.2),(eU.2.2.2.2.2.1.1,eU.2.2.2.2.2.1.2),(eU.2.2.2.2.2.2.1.1,eU.2.2.2.2.2.2.1.2),eU.1,(aN (.prod (.int .i64) (.int .i64)) (0:Int) eU.2.2.2.2.2.2.2.2.2.1 (eU.2.1,eU.2.2.1)),eU.2.2.2.2.2.2.2.2.1,eU.2.2.2.2.2.2.2.2.2.1,[],())) fun mR =>
 .bd (FH80_v1 mR.2.2.2.2.2.2.2.1 mR.2.2.2.2.2.2.2.2.1 mR.1 mR.2.1 mR.2.2.1 (mR.2.2.2.1.1,mR.2.2.2.1.2) (mR.2.2.2.2.1.1,mR.2.2.2.2.1.2) (mR.2.2.2.2.2.1.1,mR.2.2.2.2.2.1.2) (mR.2.2.2.2.2.2.1.1,mR.2.2.2.2.2.2.1.2) mR.2.2.2.2.2.2.2.2.2.1 mR.2.2.2.2.2.2.2.2.2.2.1) fun Gk =>
 .ret (((((Gk.2.2.2.1).drop (0:Nat)).take Gk.1),(((Gk.2.2.2.2.1).drop (0:Nat)).take Gk.2.1)),(((Gk.2.2.2.2.2.1).drop (0:Nat)).take Gk.2.2.1),())
theorem MB:cN prog f50=some ⟨81,1,JC.er,[.cell 2 true 2,.t 3],[some (.prod ay (.list .bool)),some ay]⟩:=by kernel_rfl
noncomputable def JD:Ct:=⟨50,[.agg [.hole tI,.hole tI,.hole tI,.fn 54 .nil (.cons (.av (.prod ay (.list .bool))) (.cons (.av (.prod ay (.list .bool))) .nil)),.fn 55 .nil (.cons (.aJ (.cons (.fn0 23) .nil)) (.cons (.av (.prod ay (.list .bool))) (.cons (.av (.prod ay (.list .bool))) .nil)))]],.cG [.hole (.prod ay (.list .bool)),.hole ay],fun x=>ag (F50_v1 x.1 x.2.1 x.2.2.1 x.2.2.2.1 x.2.2.2.2.1 x.2.2.2.2.2.1 x.2.2.2.2.2.2.1)⟩
theorem GG:JD.Ok prog:=bn mixed kL func50 MB (ah func50 rfl rfl) JC (by kernel_rfl) rfl (fun x=>by kernel_rfl)

/- 21 -/
noncomputable def VK:Cx:=(aV [UX,Jq,JD] [])
theorem GH:VK.Ok prog:=au ⟨B5,Gm,GG,trivial⟩ trivial
noncomputable def JE:D prog 33 none 0:=dO [] (kd prog f21) 0
noncomputable def F21_v1 (a0:(List (List Int))×List Bool) (a1:(List (List Int))×List Bool):bR (((List (List Int))×List Bool)×Int×Unit) :=
 .bd (F36 (a0.1,a0.2) (a1.1,a1.2)) fun y0 =>
 .br (!(y0.1==(0:Int))) (
 .ret (([],[]),y0.1,())) (
 .bd (F37_v1 (a0.1,a0.2) (a1.1,a1.2) ((0:Int),(0:Int))) fun y1 =>
 .bd (F50_v1 y1.1 y1.2.1 y1.2.2.1 (y1.2.2.2.1.1,y1.2.2.2.1.2) (y1.2.2.2.2.1.1,y1.2.2.2.2.1.2) (y1.2.2.2.2.2.1.1,y1.2.2.2.2.2.1.2) (y1.2.2.2.2.2.2.1.1,y1.2.2.2.2.2.2.1.2)) fun y2 =>
 .br (decide ((40:Int)<(((y2.1.1).length:Nat):Int))) (
 .ret (([],[]),(15:Int),())) (
 .ret ((y2.1.1,y2.1.2),(0:Int),())))
theorem MC:cN prog f21=some ⟨33,3,JE.er,[.cell 6 true 2,.t 7],[some (.prod ay (.list .bool)),some tI]⟩:=by kernel_rfl
noncomputable def JF:Ct:=⟨21,[.c (.hole (.prod ay (.list .bool))),.c (.hole (.prod ay (.list .bool))),.c (.fn0 23)],.cG [.hole (.prod ay (.list .bool)),.hole tI],fun x=>ag (F21_v1 x.1 x.2.1)⟩
theorem GI:JF.Ok prog:=bn mixed GH func21 MC (ah func21 rfl rfl) JE (by kernel_rfl) rfl (fun x=>by kernel_rfl)

/- 8 -/
noncomputable def cx8:Cx:=(aV [JF] [])
theorem aaC:cx8.Ok prog:=au ⟨GI,trivial⟩ trivial
noncomputable def dd8:D prog 11 none 0:=dO [] (kd prog f8) 0
noncomputable def F8 (a0:(List (List Int))×List Bool) (a1:(List (List Int))×List Bool):bR (((List (List Int))×List Bool)×Int×Unit) :=
 .bd (F21_v1 (a0.1,a0.2) (a1.1,a1.2)) fun y0 =>
 .ret ((y0.1.1,y0.1.2),y0.2.1,())
theorem afZ:cN prog f8=some ⟨11,2,dd8.er,[.cell 4 true 2,.t 5],[some (.prod ay (.list .bool)),some tI]⟩:=by kernel_rfl
noncomputable def ct8:Ct:=⟨8,[.c (.hole (.prod ay (.list .bool))),.c (.hole (.prod ay (.list .bool)))],.cG [.hole (.prod ay (.list .bool)),.hole tI],fun x=>ag (F8 x.1 x.2.1)⟩
theorem aaD:ct8.Ok prog:=bn mixed aaC func8 afZ (ah func8 rfl rfl) dd8 (by kernel_rfl) rfl (fun x=>by kernel_rfl)

/- 4 -/
noncomputable def cx4:Cx:=(aV [ct5,ct7,ct6,ct8,ct9] []).j8 3
theorem GJ:cx4.Ok prog:=Cx.OG (cx:=aV [ct5,ct7,ct6,ct8,ct9] []) (au ⟨Z5,Qo,aaA,aaD,Gd,trivial⟩ trivial) 3
@[reducible] def p4_1:aG:=aG.mk [(2,.c (.pa 0 (.prod (.int .u8) (.prod (.int .u8) (.int .u8))) 3)),(3,.c (.ptr 1 0)),(5,.c (.ptr 2 0)),(10,.c (.ptr 3 0)),(29,M6),(30,hI),(31,hI),(39,hL),(40,hI),(41,hI)] [(0,.arr (.prod (.int .u8) (.prod (.int .u8) (.int .u8))) false),(1,.cells [.bA,.bA] false),(2,.cells [.hole ay,.hole (.list .bool)] false),(3,.cells [.hole ay,.hole (.list .bool)] false)] [.slot 2,.slot 3,.slot 5,.slot 10] []
@[reducible] def x4_1:bt:=[(.ret,aG.mk [(3,.c (.ptr 0 0)),(4,.c (.tf false))] [(0,.cells [.hole ay,.hole (.list .bool)] false)] [.slot 3] []),(.exit 2,aG.mk [(2,.c (.pa 0 (.prod (.int .u8) (.prod (.int .u8) (.int .u8))) 3)),(3,.c (.ptr 1 0)),(5,.c (.ptr 2 0)),(10,.c (.ptr 3 0)),(29,M6),(30,hI),(31,hI)] [(0,.arr (.prod (.int .u8) (.prod (.int .u8) (.int .u8))) false),(1,.cells [.bA,.bA] false),(2,.cells [.hole ay,.hole (.list .bool)] false),(3,.cells [.hole ay,.hole (.list .bool)] false)] [.slot 2,.slot 3,.slot 5,.slot 10] [])]
noncomputable def b4_1:D prog 81 none 0:=dO [] (pick (kd prog f4) [(0,false),(0,false)]) 0
noncomputable def g4_1:List (List Int)×Int×Int×List Int×Int×Int×(List (Int×Int×Int))×List (List Int)×List Bool×List (List Int)×List Bool×Unit->bR ((List (List Int)×Int×Int×List Int×Int×Int×(List (Int×Int×Int))×List (List Int)×List Bool×List (List Int)×List Bool×Unit) ⊕ ((List (List Int)×List Bool×Unit) ⊕ ((List (List Int)×Int×Int×(List (Int×Int×Int))×List (List Int)×List Bool×List (List Int)×List Bool×Unit)))):=fun (Ma,v30,qP,VL,v40,Q3,b0,dV,gi,jC,zm,_) =>
 .br (decide (Q3<v40)) (
 .nb Q3 (((VL).length:Nat):Int) <|
 .br (decide (((VL).getD (Int.toNat Q3) (0:Int))<(0:Int))) (
 .ret (.inr <| .inl<|(dV,gi,()))) (
 .br (decide ((2:Int)<((VL).getD (Int.toNat Q3) (0:Int)))) (
 .ret (.inr <| .inl<|(dV,gi,()))) (
 .nb ((VL).getD (Int.toNat Q3) (0:Int)) (3:Int) <|
 .nd (decide ((Int.toNat ((VL).getD (Int.toNat Q3) (0:Int)))<(b0).length)) <|
 .bd (F7 (((b0).getD (Int.toNat ((VL).getD (Int.toNat Q3) (0:Int))) ((0:Int),(0:Int),(0:Int))).1,((b0).getD (Int.toNat ((VL).getD (Int.toNat Q3) (0:Int))) ((0:Int),(0:Int),(0:Int))).2.1,((b0).getD (Int.toNat ((VL).getD (Int.toNat Q3) (0:Int))) ((0:Int),(0:Int),(0:Int))).2.2)) fun y1 =>
 .bd (F6 (jC,zm) (y1.1.1,y1.1.2)) fun y2 =>
 .br (!(y2.2.1==(0:Int))) (
 .ret (.inr <| .inl<|(dV,gi,()))) (
 .ni (Q3+(1:Int)) <|
 .ret (.inl (Ma,v30,qP,VL,v40,(Q3+(1:Int)),b0,dV,gi,y2.1.1,y2.1.2,())))))) (
 .ret (.inr <| .inr<|(Ma,v30,qP,b0,dV,gi,jC,zm,())))
noncomputable def L4_1:bK prog 81 none 0:=bu mixed cx4 GJ [] rfl p4_1 x4_1 rfl (b4_1) (fun x=>ag (g4_1 x)) (fun x=>by kernel_rfl)
@[reducible] def p4_0:aG:=aG.mk [(2,.c (.pa 0 (.prod (.int .u8) (.prod (.int .u8) (.int .u8))) 3)),(3,.c (.ptr 1 0)),(5,.c (.ptr 2 0)),(29,M6),(30,hI),(31,hI)] [(0,.arr (.prod (.int .u8) (.prod (.int .u8) (.int .u8))) false),(1,.cells [.bA,.bA] false),(2,.cells [.hole ay,.hole (.list .bool)] false)] [.slot 2,.slot 3,.slot 5] []
@[reducible] def x4_0:bt:=[(.ret,aG.mk [(3,.c (.ptr 0 0)),(4,.c (.tf false))] [(0,.cells [.hole ay,.hole (.list .bool)] false)] [.slot 3] []),(.exit 0,aG.mk [(3,.c (.ptr 0 0)),(5,.c (.ptr 1 0))] [(0,.cells [.bA,.bA] false),(1,.cells [.hole ay,.hole (.list .bool)] false)] [.slot 3,.slot 5] [])]
noncomputable def b4_0:D prog 81 none 0:=dO [.l L4_1] (pick (kd prog f4) [(0,false)]) 0
noncomputable def g4_0:List (List Int)×Int×Int×(List (Int×Int×Int))×List (List Int)×List Bool×Unit->bR ((List (List Int)×Int×Int×(List (Int×Int×Int))×List (List Int)×List Bool×Unit) ⊕ ((List (List Int)×List Bool×Unit) ⊕ ((List (List Int)×List Bool×Unit)))):=fun (Ma,v30,qP,b0,dV,gi,_) =>
 .br (decide (qP<v30)) (
 .nb qP (((Ma).length:Nat):Int) <|
 .bd (.it g4_1 (Ma,v30,qP,((Ma).getD (Int.toNat qP) []),(((((Ma).getD (Int.toNat qP) [])).length:Nat):Int),(0:Int),b0,dV,gi,(((((((((0:Int)::((0:Int)::[]))).drop (0:Nat)).take (2:Nat))::[])).drop (0:Nat)).take (1:Nat)),((((true::[])).drop (0:Nat)).take (1:Nat)),())) fun z3 =>
 .sm z3 (fun z4 =>
 .ret (.inr <| .inl<|(z4.1,z4.2.1,()))) fun z5 =>
 .bd (F8 (z5.2.2.2.2.1,z5.2.2.2.2.2.1) (z5.2.2.2.2.2.2.1,z5.2.2.2.2.2.2.2.1)) fun y6 =>
 .br (!(y6.2.1==(0:Int))) (
 .ret (.inr <| .inl<|(z5.2.2.2.2.1,z5.2.2.2.2.2.1,()))) (
 .ni (z5.2.2.1+(1:Int)) <|
 .ret (.inl (z5.1,z5.2.1,(z5.2.2.1+(1:Int)),z5.2.2.2.1,y6.1.1,y6.1.2,())))) (
 .ret (.inr <| .inr<|(dV,gi,())))
noncomputable def L4_0:bK prog 81 none 0:=bu mixed cx4 GJ [] rfl p4_0 x4_0 rfl (b4_0) (fun x=>ag (g4_0 x)) (fun x=>by kernel_rfl)
noncomputable def dd4:D prog 81 none 0:=dO [.l L4_0] (kd prog f4) 0
noncomputable def F4 (a0:Int×Int×Int×Int×Int×Int×Int×Int×Int) (a1:List (Int×List Int)):bR (((List (List Int))×List Bool)×Bool×Unit) :=
 .bd (F5 a1) fun y0 =>
 .br (!(y0.2.1==(0:Int))) (
 .ret (((((((((((0:Int)::((0:Int)::[]))).drop (0:Nat)).take (2:Nat))::[])).drop (0:Nat)).take (1:Nat)),((((false::[])).drop (0:Nat)).take (1:Nat))),false,())) (
 .bd (.it g4_0 (y0.1,(((y0.1).length:Nat):Int),(0:Int),((a0.1,a0.2.1,a0.2.2.1)::((a0.2.2.2.1,a0.2.2.2.2.1,a0.2.2.2.2.2.1)::((a0.2.2.2.2.2.2.1,a0.2.2.2.2.2.2.2.1,a0.2.2.2.2.2.2.2.2)::[]))),(((((((((0:Int)::((0:Int)::[]))).drop (0:Nat)).take (2:Nat))::[])).drop (0:Nat)).take (1:Nat)),((((false::[])).drop (0:Nat)).take (1:Nat)),())) fun z7 =>
 .sm z7 (fun z8 =>
 .ret ((z8.1,z8.2.1),false,())) fun z9 =>
 .bd (F9 (z9.1,z9.2.1)) fun Z4 =>
 .ret ((z9.1,z9.2.1),(Z4.1==(0:Int)),()))
theorem af0:cN prog f4=some ⟨81,2,dd4.er,[.cell 3 true 2,.t 4],[some (.prod ay (.list .bool)),some .bool]⟩:=by kernel_rfl
noncomputable def ct4:Ct:=⟨4,[.c (.hole (.prod (.int .u8) (.prod (.int .u8) (.prod (.int .u8) (.prod (.int .u8) (.prod (.int .u8) (.prod (.int .u8) (.prod (.int .u8) (.prod (.int .u8) (.int .u8)))))))))),.c (.av (.list (.prod tI tL)))],.cG [.hole (.prod ay (.list .bool)),.hole .bool],fun x=>ag (F4 x.1 x.2.1)⟩
theorem aaE:ct4.Ok prog:=bn mixed GJ func4 af0 (ah func4 rfl rfl) dd4 (by kernel_rfl) rfl (fun x=>by kernel_rfl)

/- 52 -/
noncomputable def cx52:Cx:=(aV [FZ,US] [])
theorem VM:cx52.Ok prog:=au ⟨pE,B4,trivial⟩ trivial
noncomputable def dd52:D prog 10 none 0:=dO [] (kd prog f52) 0
noncomputable def F52 (a0:Int) (a1:(List (List Int))×List Bool):bR (Bool×Unit) :=
 .bd (F25 (a1.1,a1.2)) fun y0 =>
 .ni (y0.1 - (1:Int)) <|
 .bd (F24 (0:Int) a0 (y0.1 - (1:Int))) fun y1 =>
 .ret ((!y1.1),())
theorem aaF:cN prog f52=some ⟨10,2,dd52.er,[.t 3],[some .bool]⟩:=by kernel_rfl
noncomputable def ct52:Ct:=⟨52,[hI,.c (.av (.prod ay (.list .bool)))],.c (.hole .bool),fun x=>ag (F52 x.1 x.2.1)⟩
theorem VN:ct52.Ok prog:=bn mixed VM func52 aaF (ah func52 rfl rfl) dd52 (by kernel_rfl) rfl (fun x=>by kernel_rfl)

/- 51 -/
noncomputable def JG:Cx:=(aV [ct52] [])
theorem yz:JG.Ok prog:=au ⟨VN,trivial⟩ trivial
@[reducible] def Q4:aG:=aG.mk [(0,hL),(1,.fn 52 [] [.av (.prod ay (.list .bool))]),(7,hI),(8,hI)] [] [] []
@[reducible] def Q5:bt:=[(.ret,aG.mk [(4,hI)] [] [] []),(.exit 0,aG.mk [] [] [] [])]
noncomputable def Q6:D prog 19 none 0:=dO [] (pick (kd prog f51) [(0,false)]) 0
noncomputable def g51_v2_0:List Int×((List (List Int))×List Bool)×Int×Int×Unit->bR ((List Int×((List (List Int))×List Bool)×Int×Int×Unit) ⊕ ((Int×Unit) ⊕ ((Unit)))):=fun (v0,ve,v7,v8,_) =>
 .br (decide (v8<v7)) (
 .nb v8 (((v0).length:Nat):Int) <|
 .bd (F52 ((v0).getD (Int.toNat v8) (0:Int)) (ve.1,ve.2)) fun y0 =>
 .br y0.1 (
 .ret (.inr <| .inl<|(v8,()))) (
 .ni (v8+(1:Int)) <|
 .ret (.inl (v0,(ve.1,ve.2),v7,(v8+(1:Int)),())))) (
 .ret (.inr <| .inr<|()))
noncomputable def Q7:bK prog 19 none 0:=bu mixed JG yz [] rfl Q4 Q5 rfl (Q6) (fun x=>ag (g51_v2_0 x)) (fun x=>by kernel_rfl)
noncomputable def JH:D prog 19 none 0:=dO [.l Q7] (kd prog f51) 0
noncomputable def F51_v2 (a0:List Int) (qM:(List (List Int))×List Bool):bR (Int×Unit) :=
 .bd (.it g51_v2_0 (a0,(qM.1,qM.2),(((a0).length:Nat):Int),(0:Int),())) fun z1 =>
 .sm z1 (fun z2 =>
 .ret (z2.1,())) fun z3 =>
 .ret ((-1:Int),())
theorem MD:cN prog f51=some ⟨19,2,JH.er,[.t 4],[some tI]⟩:=by kernel_rfl
noncomputable def JI:Ct:=⟨51,[hL,.fn 52 [] [.av (.prod ay (.list .bool))]],hI,fun x=>ag (F51_v2 x.1 x.2.1)⟩
theorem GK:JI.Ok prog:=bn mixed yz func51 MD (ah func51 rfl rfl) JH (by kernel_rfl) rfl (fun x=>by kernel_rfl)

/- 27 -/
noncomputable def VO:Cx:=(aV [JI] [])
theorem GL:VO.Ok prog:=au ⟨GK,trivial⟩ trivial
noncomputable def JJ:D prog 9 none 0:=dO [] (kd prog f27) 0
noncomputable def F27_v2 (a0:List Int) (qM:(List (List Int))×List Bool):bR (Bool×Unit) :=
 .bd (F51_v2 a0 (qM.1,qM.2)) fun y0 =>
 .ret ((decide ((0:Int)<=y0.1)),())
theorem ME:cN prog f27=some ⟨9,2,JJ.er,[.t 4],[some .bool]⟩:=by kernel_rfl
noncomputable def JK:Ct:=⟨27,[hL,.fn 52 [] [.av (.prod ay (.list .bool))]],.c (.hole .bool),fun x=>ag (F27_v2 x.1 x.2.1)⟩
theorem GM:JK.Ok prog:=bn mixed GL func27 ME (ah func27 rfl rfl) JJ (by kernel_rfl) rfl (fun x=>by kernel_rfl)

/- 28 -/
noncomputable def cx28:Cx:=(aV [JK] [])
theorem VP:cx28.Ok prog:=au ⟨GM,trivial⟩ trivial
noncomputable def dd28:D prog 11 none 0:=dO [] (kd prog f28) 0
noncomputable def F28 (a0:(List (List Int))×List Bool) (a1:List Int):bR (Int×Unit) :=
 .br (decide ((60:Int)<(((a1).length:Nat):Int))) (
 .ret ((14:Int),())) (
 .bd (F27_v2 a1 (a0.1,a0.2)) fun y0 =>
 .br y0.1 (
 .ret ((5:Int),())) (
 .ret ((0:Int),())))
theorem aaG:cN prog f28=some ⟨11,2,dd28.er,[.t 4],[some tI]⟩:=by kernel_rfl
noncomputable def ct28:Ct:=⟨28,[.c (.hole (.prod ay (.list .bool))),hL],hI,fun x=>ag (F28 x.1 x.2.1)⟩
theorem VQ:ct28.Ok prog:=bn mixed VP func28 aaG (ah func28 rfl rfl) dd28 (by kernel_rfl) rfl (fun x=>by kernel_rfl)

/- 29 -/
noncomputable def aaH:Cx:=(aV [] [])
theorem Ci:aaH.Ok prog:=au trivial trivial
@[reducible] def af5:aG:=aG.mk [(2,.c (.ptr 0 0)),(5,hI),(10,M6),(11,hI),(12,hI),(16,hL),(17,hI),(18,hI)] [(0,.cells [.hole ay,.hole (.list .bool)] false)] [.slot 2] []
@[reducible] def af6:bt:=[(.exit 2,aG.mk [(2,.c (.ptr 0 0)),(5,hI),(10,M6),(11,hI),(12,hI)] [(0,.cells [.hole ay,.hole (.list .bool)] false)] [.slot 2] [])]
noncomputable def af7:D prog 33 none 0:=dO [] (pick (kd prog f29) [(0,false),(0,false)]) 0
noncomputable def g29_1:Int×List (List Int)×Int×Int×List Int×Int×Int×List (List Int)×List Bool×Unit->bR ((Int×List (List Int)×Int×Int×List Int×Int×Int×List (List Int)×List Bool×Unit) ⊕ ((Int×List (List Int)×Int×Int×List (List Int)×List Bool×Unit))):=fun (v5,v10,v11,pF,v16,Sr,v18,bp,cq,_) =>
 .br (decide (v18<Sr)) (
 .nb v18 (((v16).length:Nat):Int) <|
 .nb v5 (((bp).length:Nat):Int) <|
 .nb ((v16).getD (Int.toNat v18) (0:Int)) (((((bp).getD (Int.toNat v5) [])).length:Nat):Int) <|
 .ni (v18+(1:Int)) <|
 .ret (.inl (((((bp).getD (Int.toNat v5) [])).getD (Int.toNat ((v16).getD (Int.toNat v18) (0:Int))) (0:Int)),v10,v11,pF,v16,Sr,(v18+(1:Int)),bp,cq,()))) (
 .ret (.inr (v5,v10,v11,pF,bp,cq,())))
noncomputable def af8:bK prog 33 none 0:=bu mixed aaH Ci [] rfl af5 af6 rfl (af7) (fun x=>ag (g29_1 x)) (fun x=>by kernel_rfl)
@[reducible] def af9:aG:=aG.mk [(2,.c (.ptr 0 0)),(5,hI),(10,M6),(11,hI),(12,hI)] [(0,.cells [.hole ay,.hole (.list .bool)] false)] [.slot 2] []
@[reducible] def aga:bt:=[(.exit 0,aG.mk [(5,hI)] [] [] [])]
noncomputable def agb:D prog 33 none 0:=dO [.l af8] (pick (kd prog f29) [(0,false)]) 0
noncomputable def g29_0:Int×List (List Int)×Int×Int×List (List Int)×List Bool×Unit->bR ((Int×List (List Int)×Int×Int×List (List Int)×List Bool×Unit) ⊕ ((Int×Unit))):=fun (v5,v10,v11,pF,bp,cq,_) =>
 .br (decide (pF<v11)) (
 .nb pF (((v10).length:Nat):Int) <|
 .bd (.it g29_1 (v5,v10,v11,pF,((v10).getD (Int.toNat pF) []),(((((v10).getD (Int.toNat pF) [])).length:Nat):Int),(0:Int),bp,cq,())) fun z0 =>
 .ni (z0.2.2.2.1+(1:Int)) <|
 .ret (.inl (z0.1,z0.2.1,z0.2.2.1,(z0.2.2.2.1+(1:Int)),z0.2.2.2.2.1,z0.2.2.2.2.2.1,()))) (
 .ret (.inr (v5,())))
noncomputable def agc:bK prog 33 none 0:=bu mixed aaH Ci [] rfl af9 aga rfl (agb) (fun x=>ag (g29_0 x)) (fun x=>by kernel_rfl)
noncomputable def dd29:D prog 33 none 0:=dO [.l agc] (kd prog f29) 0
noncomputable def F29 (a0:(List (List Int))×List Bool) (a1:List (List Int)):bR (Int×Unit) :=
 .bd (.it g29_0 ((0:Int),a1,(((a1).length:Nat):Int),(0:Int),a0.1,a0.2,())) fun z1 =>
 .ret (z1.1,())
theorem aaI:cN prog f29=some ⟨33,2,dd29.er,[.t 4],[some tI]⟩:=by kernel_rfl
noncomputable def ct29:Ct:=⟨29,[.c (.hole (.prod ay (.list .bool))),M6],hI,fun x=>ag (F29 x.1 x.2.1)⟩
theorem VR:ct29.Ok prog:=bn mixed Ci func29 aaI (ah func29 rfl rfl) dd29 (by kernel_rfl) rfl (fun x=>by kernel_rfl)

/- 10 -/
noncomputable def cx10:Cx:=(aV [ct9,ct28,ct29] [])
theorem VS:cx10.Ok prog:=au ⟨Gd,VQ,VR,trivial⟩ trivial
noncomputable def dd10:D prog 27 none 0:=dO [] (kd prog f10) 0
noncomputable def F10 (a0:(List (List Int))×List Bool) (a1:List Int):bR (Bool×Int×Unit) :=
 .bd (F9 (a0.1,a0.2)) fun y0 =>
 .br (!(y0.1==(0:Int))) (
 .ret (false,y0.1,())) (
 .bd (F28 (a0.1,a0.2) a1) fun y1 =>
 .br (!(y1.1==(0:Int))) (
 .ret (false,y1.1,())) (
 .bd (F29 (a0.1,a0.2) ((((a1::[])).drop (0:Nat)).take (1:Nat))) fun y2 =>
 .nb y2.1 (((a0.2).length:Nat):Int) <|
 .ret (((a0.2).getD (Int.toNat y2.1) false),(0:Int),())))
theorem aaJ:cN prog f10=some ⟨27,2,dd10.er,[.t 4,.t 5],[some .bool,some tI]⟩:=by kernel_rfl
noncomputable def aaK:Ct:=⟨10,[.c (.hole (.prod ay (.list .bool))),hL],.cG [.hole .bool,.hole tI],fun x=>ag (F10 x.1 x.2.1)⟩
theorem VT:aaK.Ok prog:=bn mixed VS func10 aaJ (ah func10 rfl rfl) dd10 (by kernel_rfl) rfl (fun x=>by kernel_rfl)

/- 35 -/
noncomputable def cx35:Cx:=(aV [] [])
theorem VU:cx35.Ok prog:=au trivial trivial
noncomputable def dd35:D prog 9 none 0:=dO [] (kd prog f35) 0
noncomputable def F35 (a0:Int) (a1:Int):bR (Int×Unit) :=
 .nb a1 (64:Int) <|
 .nd (cP .u64 (bW.shl (1:Int) a1)) <|
 .ret ((bW.bits Go.AM.fD.or Go.IntKind.u64 a0 (bW.shl (1:Int) a1)),())
theorem aaL:cN prog f35=some ⟨9,2,dd35.er,[.t 4],[some (.int .u64)]⟩:=by kernel_rfl
noncomputable def VV:Ct:=⟨35,[.c (.hole (.int .u64)),hI],.c (.hole (.int .u64)),fun x=>ag (F35 x.1 x.2.1)⟩
theorem Cj:VV.Ok prog:=bn mixed VU func35 aaL (ah func35 rfl rfl) dd35 (by kernel_rfl) rfl (fun x=>by kernel_rfl)

/- 30 -/
noncomputable def cx30:Cx:=(aV [PM,VV] [])
theorem JL:cx30.Ok prog:=au ⟨vD,Cj,trivial⟩ trivial
@[reducible] def agj:aG:=aG.mk [(2,.c (.ptr 0 0)),(6,.c (.hole (.int .u64))),(7,hI),(10,hL),(11,hI),(12,hI)] [(0,.cells [.hole (.list (.prod tI tL)),.cK,.hole tI,.hole (.int .u64)] false)] [.slot 2] []
@[reducible] def agk:bt:=[(.ret,aG.mk [(4,.c (.hole (.int .u64))),(5,hI)] [] [] []),(.exit 0,aG.mk [(6,.c (.hole (.int .u64)))] [] [] [])]
noncomputable def agl:D prog 33 none 0:=dO [] (pick (kd prog f30) [(0,false)]) 0
noncomputable def g30_0:Int×Int×List Int×Int×Int×(List (Int×List Int))×Int×Int×Unit->bR ((Int×Int×List Int×Int×Int×(List (Int×List Int))×Int×Int×Unit) ⊕ ((Int×Int×Unit) ⊕ ((Int×Unit)))):=fun (v6,v7,v10,v11,pF,bp,bX,lO,_) =>
 .br (decide (pF<v11)) (
 .nb pF (((v10).length:Nat):Int) <|
 .ni (bX - (1:Int)) <|
 .bd (F53 (0:Int) ((v10).getD (Int.toNat pF) (0:Int)) (bX - (1:Int))) fun y0 =>
 .br (!y0.1) (
 .ret (.inr <| .inl<|((0:Int),(5:Int),()))) (
 .br (decide (((v10).getD (Int.toNat pF) (0:Int))<=v7)) (
 .ret (.inr <| .inl<|((0:Int),(7:Int),()))) (
 .bd (F35 v6 ((v10).getD (Int.toNat pF) (0:Int))) fun y1 =>
 .ni (pF+(1:Int)) <|
 .ret (.inl (y1.1,((v10).getD (Int.toNat pF) (0:Int)),v10,v11,(pF+(1:Int)),bp,bX,lO,()))))) (
 .ret (.inr <| .inr<|(v6,())))
noncomputable def agm:bK prog 33 none 0:=bu mixed cx30 JL [] rfl agj agk rfl (agl) (fun x=>ag (g30_0 x)) (fun x=>by kernel_rfl)
noncomputable def dd30:D prog 33 none 0:=dO [.l agm] (kd prog f30) 0
noncomputable def F30 (dg:List (Int×List Int)) (iu:Int) (uk:Int) (a1:List Int):bR (Int×Int×Unit) :=
 .bd (.it g30_0 ((0:Int),(-1:Int),a1,(((a1).length:Nat):Int),(0:Int),dg,iu,uk,())) fun z2 =>
 .sm z2 (fun z3 =>
 .ret (z3.1,z3.2.1,())) fun z4 =>
 .ret (z4.1,(0:Int),())
theorem aaM:cN prog f30=some ⟨33,2,dd30.er,[.t 4,.t 5],[some (.int .u64),some tI]⟩:=by kernel_rfl
noncomputable def ct30:Ct:=⟨30,[.agg [.hole (.list (.prod tI tL)),.cK,.hole tI,.hole (.int .u64)],hL],.cG [.hole (.int .u64),.hole tI],fun x=>ag (F30 x.1 x.2.1 x.2.2.1 x.2.2.2.1)⟩
theorem VW:ct30.Ok prog:=bn mixed JL func30 aaM (ah func30 rfl rfl) dd30 (by kernel_rfl) rfl (fun x=>by kernel_rfl)

/- 30 -/
noncomputable def JM:Cx:=(aV [PM,VV] [])
theorem yA:JM.Ok prog:=au ⟨vD,Cj,trivial⟩ trivial
@[reducible] def Q8:aG:=aG.mk [(2,.c (.ptr 0 0)),(6,.c (.hole (.int .u64))),(7,hI),(10,hL),(11,hI),(12,hI)] [(0,.cells [.hole (.list (.prod tI tL)),.fK 92 false (.cons (.hole (.list (.bU 26 true (.prod tI tL)))) .nil),.hole tI,.hole (.int .u64)] false)] [.slot 2] []
@[reducible] def Q9:bt:=[(.ret,aG.mk [(4,.c (.hole (.int .u64))),(5,hI)] [] [] []),(.exit 0,aG.mk [(6,.c (.hole (.int .u64)))] [] [] [])]
noncomputable def Ra:D prog 33 none 0:=dO [] (pick (kd prog f30) [(0,false)]) 0
noncomputable def g30_v1_0:Int×Int×List Int×Int×Int×(List (Int×List Int))×(List (Int×List Int))×Int×Int×Unit->bR ((Int×Int×List Int×Int×Int×(List (Int×List Int))×(List (Int×List Int))×Int×Int×Unit) ⊕ ((Int×Int×Unit) ⊕ ((Int×Unit)))):=fun (v6,v7,v10,v11,pF,bp,gF,bX,lO,_) =>
 .br (decide (pF<v11)) (
 .nb pF (((v10).length:Nat):Int) <|
 .ni (bX - (1:Int)) <|
 .bd (F53 (0:Int) ((v10).getD (Int.toNat pF) (0:Int)) (bX - (1:Int))) fun y0 =>
 .br (!y0.1) (
 .ret (.inr <| .inl<|((0:Int),(5:Int),()))) (
 .br (decide (((v10).getD (Int.toNat pF) (0:Int))<=v7)) (
 .ret (.inr <| .inl<|((0:Int),(7:Int),()))) (
 .bd (F35 v6 ((v10).getD (Int.toNat pF) (0:Int))) fun y1 =>
 .ni (pF+(1:Int)) <|
 .ret (.inl (y1.1,((v10).getD (Int.toNat pF) (0:Int)),v10,v11,(pF+(1:Int)),bp,gF,bX,lO,()))))) (
 .ret (.inr <| .inr<|(v6,())))
noncomputable def Rb:bK prog 33 none 0:=bu mixed JM yA [] rfl Q8 Q9 rfl (Ra) (fun x=>ag (g30_v1_0 x)) (fun x=>by kernel_rfl)
noncomputable def JO:D prog 33 none 0:=dO [.l Rb] (kd prog f30) 0
noncomputable def F30_v1 (dg:List (Int×List Int)) (um:List (Int×List Int)) (iu:Int) (uk:Int) (a1:List Int):bR (Int×Int×Unit) :=
 .bd (.it g30_v1_0 ((0:Int),(-1:Int),a1,(((a1).length:Nat):Int),(0:Int),dg,um,iu,uk,())) fun z2 =>
 .sm z2 (fun z3 =>
 .ret (z3.1,z3.2.1,())) fun z4 =>
 .ret (z4.1,(0:Int),())
theorem MF:cN prog f30=some ⟨33,2,JO.er,[.t 4,.t 5],[some (.int .u64),some tI]⟩:=by kernel_rfl
noncomputable def JP:Ct:=⟨30,[.agg [.hole (.list (.prod tI tL)),.fK 92 false (.cons (.hole (.list (.bU 26 true (.prod tI tL)))) .nil),.hole tI,.hole (.int .u64)],hL],.cG [.hole (.int .u64),.hole tI],fun x=>ag (F30_v1 x.1 x.2.1 x.2.2.1 x.2.2.2.1 x.2.2.2.2.1)⟩
theorem GN:JP.Ok prog:=bn mixed yA func30 MF (ah func30 rfl rfl) JO (by kernel_rfl) rfl (fun x=>by kernel_rfl)

/- 11 -/
noncomputable def cx11:Cx:=(aV [Uh,ct30,JP,I2] [])
theorem VX:cx11.Ok prog:=au ⟨BR,VW,GN,x8,trivial⟩ trivial
noncomputable def dd11:D prog 30 none 0:=dO [] (kd prog f11) 0
noncomputable def F11 (dg:List (Int×List Int)) (a1:List Int):bR (Bool×Int×Unit) :=
 .bd (F15 dg) fun y0 =>
 .sm y0 (fun y1 =>
 .br (!(y1.2.2.2.1==(0:Int))) (
 .ret (false,y1.2.2.2.1,())) (
 .bd (F30 y1.1 y1.2.1 y1.2.2.1 a1) fun y2 =>
 .br (!(y2.2.1==(0:Int))) (
 .ret (false,y2.2.1,())) (
 .no))) fun y3 =>
 .br (!(y3.2.2.2.2.1==(0:Int))) (
 .ret (false,y3.2.2.2.2.1,())) (
 .bd (F30_v1 y3.1 y3.2.1 y3.2.2.1 y3.2.2.2.1 a1) fun y4 =>
 .br (!(y4.2.1==(0:Int))) (
 .ret (false,y4.2.1,())) (
 .bd (F182 y3.2.1 y4.1) fun y5 =>
 .ret (y5.1,(0:Int),())))
theorem aaN:cN prog f11=some ⟨30,2,dd11.er,[.t 4,.t 5],[some .bool,some tI]⟩:=by kernel_rfl
noncomputable def aaO:Ct:=⟨11,[.agg [.hole (.list (.prod tI tL))],hL],.cG [.hole .bool,.hole tI],fun x=>ag (F11 x.1 x.2.1)⟩
theorem VY:aaO.Ok prog:=bn mixed VX func11 aaN (ah func11 rfl rfl) dd11 (by kernel_rfl) rfl (fun x=>by kernel_rfl)

/- 33 -/
noncomputable def cx33:Cx:=(aV [] [])
theorem VZ:cx33.Ok prog:=au trivial trivial
noncomputable def dd33:D prog 10 none 0:=dO [] (kd prog f33) 0
noncomputable def F33 (a0:Int) (a1:Int):bR (Bool×Unit) :=
 .nb a1 (64:Int) <|
 .ret (((bW.bits Go.AM.fD.and Go.IntKind.u64 (bW.shr a0 a1) (1:Int))==(1:Int)),())
theorem aaP:cN prog f33=some ⟨10,2,dd33.er,[.t 4],[some .bool]⟩:=by kernel_rfl
noncomputable def aaQ:Ct:=⟨33,[.c (.hole (.int .u64)),hI],.c (.hole .bool),fun x=>ag (F33 x.1 x.2.1)⟩
theorem JQ:aaQ.Ok prog:=bn mixed VZ func33 aaP (ah func33 rfl rfl) dd33 (by kernel_rfl) rfl (fun x=>by kernel_rfl)

/- 32 -/
noncomputable def aaR:Cx:=(aV [ZI,Ls,aaQ,ct17] [])
theorem Ck:aaR.Ok prog:=au ⟨IQ,sy,JQ,Un,trivial⟩ trivial
noncomputable def Rc:D prog 47 (some 3) 4:=dO [] (pick (kd prog f32) [(0,false)]) 0
noncomputable def Rd:D prog 47 (some 3) 4:=dO [] (pick (kd prog f32) [(0,true)]) 0
noncomputable def Cl:Cx:=tT aaR (fun kz=>Il kz aaR bW 3 4 [8] (Rc) (Rd))
theorem yB:(Cl).Ok prog:=gQ Ck (fun h=>jI mixed Ck h)
@[reducible] def Re:aG:=aG.mk [(0,.c (.yl 3)),(1,.c (.aJ (.cons (.hole (.list (.prod tI tL))) (.cons .cK (.cons (.hole tI) (.cons (.hole (.int .u64)) .nil)))))),(2,.c (.av tL)),(4,.c (.hole (.int .u64)))] [(3,.loop .ready none 2 [(1,.c (.aJ (.cons (.hole (.list (.prod tI tL))) (.cons .cK (.cons (.hole tI) (.cons (.hole (.int .u64)) .nil)))))),(2,.c (.ptr 0 0)),(3,hI),(4,.c (.ptr 1 0)),(7,.fn 45 [] [.aJ (.cons (.hole (.list (.prod tI tL))) (.cons .cK (.cons (.hole tI) (.cons (.hole (.int .u64)) .nil)))),.av tL])] [8] (.cF [.op (some 5) none (.mv (.t 8))]) (.block 1 (.seq (.cF [.op (some 9) none (.mv (.t 5)),.op (some 10) none (.load false 1 (.t 2)),.call (some 11) none (.c (.fn 33 [] [])) [.t 9,.t 10] [some (.int .u64),some tI],.op (some 12) none (.mv (.t 11)),.op (some 13) (some (12,true)) (.load true 4 (.t 1)),.op (some 14) (some (12,true)) (.mv (.t 5)),.call (some 15) (some (12,true)) (.c (.fn 17 [] [])) [.t 13,.t 14] [some (.prod (.prod (.list (.prod tI tL)) .unit) (.prod (.bU 26 true (.prod tI tL)) (.prod tI (.int .u64)))),some (.int .u64)],.op (some 16) none (.pick (.t 12) (.t 15) (.c (.tf false)))]) (.cond (.t 16) (.cF [.op none none (.store 1 (.t 4) (.c (.int .i64 (Int.ofNat 0))))]) .skip))) 47),(2,.fC),(0,.cells [.hole tI] false),(1,.cells [.hole tI] false)] [] []
@[reducible] def Rf:bt:=[(.exit 0,aG.mk [] [(0,.cells [.hole tI] false),(1,.cells [.hole tI] false),(2,.fC),(3,.loop .ready none 2 [(1,.c (.aJ (.cons (.hole (.list (.prod tI tL))) (.cons .cK (.cons (.hole tI) (.cons (.hole (.int .u64)) .nil)))))),(2,.c (.ptr 0 0)),(3,hI),(4,.c (.ptr 1 0)),(7,.fn 45 [] [.aJ (.cons (.hole (.list (.prod tI tL))) (.cons .cK (.cons (.hole tI) (.cons (.hole (.int .u64)) .nil)))),.av tL])] [8] (.cF [.op (some 5) none (.mv (.t 8))]) (.block 1 (.seq (.cF [.op (some 9) none (.mv (.t 5)),.op (some 10) none (.load false 1 (.t 2)),.call (some 11) none (.c (.fn 33 [] [])) [.t 9,.t 10] [some (.int .u64),some tI],.op (some 12) none (.mv (.t 11)),.op (some 13) (some (12,true)) (.load true 4 (.t 1)),.op (some 14) (some (12,true)) (.mv (.t 5)),.call (some 15) (some (12,true)) (.c (.fn 17 [] [])) [.t 13,.t 14] [some (.prod (.prod (.list (.prod tI tL)) .unit) (.prod (.bU 26 true (.prod tI tL)) (.prod tI (.int .u64)))),some (.int .u64)],.op (some 16) none (.pick (.t 12) (.t 15) (.c (.tf false)))]) (.cond (.t 16) (.cF [.op none none (.store 1 (.t 4) (.c (.int .i64 (Int.ofNat 0))))]) .skip))) 47)] [] [])]
noncomputable def Rg:D prog 22 none 4:=dO [] (pick (kd prog f45) [(0,false)]) 0
noncomputable def g32_0i_0:(List (Int×List Int))×Int×Int×List Int×Int×(List (Int×List Int))×Int×Int×Int×(List (Int×List Int))×Int×Int×List Int×Int×Int×Unit->bR (((List (Int×List Int))×Int×Int×List Int×Int×(List (Int×List Int))×Int×Int×Int×(List (Int×List Int))×Int×Int×List Int×Int×Int×Unit) ⊕ ((Int×Int×(List (Int×List Int))×Int×Int×Int×(List (Int×List Int))×Int×Int×List Int×Unit))):=fun (eo,fh,kS,v2,v4,uy,uz,uA,w3,fA,fB,kM,yC,bp,bN,_) =>
 .br (decide (v4<=kS)) (
 .bd (F34 v4 v2) fun y1 =>
 .br (v4==y1.1) (
 .bd (F33 v4 bp) fun y2 =>
 .br y2.1 (
 .bd (F17 uy uz uA v4) fun y3 =>
 .br y3.1 (
 .nd (cP .u64 (v4+(1:Int))) <|
 .ret (.inl (eo,fh,kS,v2,(v4+(1:Int)),uy,uz,uA,w3,fA,fB,kM,yC,bp,(0:Int),()))) (
 .nd (cP .u64 (v4+(1:Int))) <|
 .ret (.inl (eo,fh,kS,v2,(v4+(1:Int)),uy,uz,uA,w3,fA,fB,kM,yC,bp,bN,())))) (
 .nd (cP .u64 (v4+(1:Int))) <|
 .ret (.inl (eo,fh,kS,v2,(v4+(1:Int)),uy,uz,uA,w3,fA,fB,kM,yC,bp,bN,())))) (
 .nd (cP .u64 (v4+(1:Int))) <|
 .ret (.inl (eo,fh,kS,v2,(v4+(1:Int)),uy,uz,uA,w3,fA,fB,kM,yC,bp,bN,())))) (
 .ret (.inr (bp,bN,uy,uz,uA,w3,fA,fB,kM,yC,())))
noncomputable def Rh:bK prog 22 none 4:=bu mixed Cl yB [0,1,2,3] rfl Re Rf rfl (Rg) (fun x=>ag (g32_0i_0 x)) (fun x=>by kernel_rfl)
@[reducible] def agr:aG:=aG.mk [(1,.c (.aJ (.cons (.hole (.list (.prod tI tL))) (.cons .cK (.cons (.hole tI) (.cons (.hole (.int .u64)) .nil)))))),(2,.c (.ptr 0 0)),(3,hI),(4,.c (.ptr 1 0)),(7,.fn 45 [] [.aJ (.cons (.hole (.list (.prod tI tL))) (.cons .cK (.cons (.hole tI) (.cons (.hole (.int .u64)) .nil)))),.av tL])] [(0,.cells [.hole tI] false),(1,.cells [.hole tI] false)] [.slot 2,.slot 4] []
@[reducible] def ags:bt:=[(.normal,aG.mk [(1,.c (.aJ (.cons (.hole (.list (.prod tI tL))) (.cons .cK (.cons (.hole tI) (.cons (.hole (.int .u64)) .nil)))))),(2,.c (.ptr 0 0)),(4,.c (.ptr 1 0))] [(0,.cells [.hole tI] false),(1,.cells [.hole tI] false)] [.slot 2,.slot 4] [])]
noncomputable def Ri:D prog 22 none 4:=dO [.l Rh] (kd prog f45) 0
theorem aaS:cN prog f45=some ⟨22,3,(Ri).er,[],[]⟩:=by kernel_rfl
noncomputable def g32_0:(List (Int×List Int))×Int×Int×Int×(List (Int×List Int))×Int×Int×List Int×Int×Int×Unit->bR (((List (Int×List Int))×Int×Int×Int×Int×Unit)):=fun (eo,fh,kS,v3,oR,lT,yD,Rj,bp,bN,_) =>
 .bd (.it g32_0i_0 (oR,lT,yD,Rj,(0:Int),eo,fh,kS,v3,oR,lT,yD,Rj,bp,bN,())) fun z4 =>
 .ret ((eo,fh,kS,z4.1,z4.2.1,()))
noncomputable def agt:fJ prog 47 none 0:=gR mixed Cl yB [] rfl agr ags ( .t 7) [8] rfl (Rc).er (Rd).er 45 func45 (aaS) (ah func45 rfl rfl) 4 rfl (Ri) rfl (fun x=>ag (g32_0 x)) (fun x=>by kernel_rfl)
noncomputable def dd32:D prog 47 none 0:=dO [.r agt] (kd prog f32) 0
noncomputable def F32 (a0:Int) (Rk:List (Int×List Int)) (Rl:Int) (Rm:Int):bR (Int×Unit) :=
 .bd (F16 Rk Rl Rm []) fun y0 =>
 .bd (g32_0 (Rk,Rl,Rm,(0:Int),y0.1,y0.2.1,y0.2.2.1,y0.2.2.2.1,a0,(1:Int),())) fun z5 =>
 .no
theorem aaT:cN prog f32=some ⟨47,2,dd32.er,[.t 3],[some tI]⟩:=by kernel_rfl
noncomputable def ct32:Ct:=⟨32,[hI,.c (.aJ (.cons (.hole (.list (.prod tI tL))) (.cons .cK (.cons (.hole tI) (.cons (.hole (.int .u64)) .nil)))))],hI,fun x=>ag (F32 x.1 x.2.1 x.2.2.1 x.2.2.2.1)⟩
theorem V0:ct32.Ok prog:=bn mixed Ck func32 aaT (ah func32 rfl rfl) dd32 (by kernel_rfl) rfl (fun x=>by kernel_rfl)

/- 31 -/
noncomputable def cx31:Cx:=(aV [ct32] [])
theorem JR:cx31.Ok prog:=au ⟨V0,trivial⟩ trivial
@[reducible] def agx:aG:=aG.mk [(1,.fn 32 [] [.aJ (.cons (.hole (.list (.prod tI tL))) (.cons .cK (.cons (.hole tI) (.cons (.hole (.int .u64)) .nil))))]),(5,.c (.cg 0 tI)),(8,hI),(9,hI)] [(0,.arr tI false)] [.slot 5] []
@[reducible] def agy:bt:=[(.exit 0,aG.mk [(5,.c (.cg 0 tI))] [(0,.arr tI false)] [.slot 5] [])]
noncomputable def agz:D prog 20 none 0:=dO [] (pick (kd prog f31) [(0,false)]) 0
noncomputable def g31_0:(List (Int×List Int))×Int×Int×Nat×Int×Int×List Int×Unit->bR (((List (Int×List Int))×Int×Int×Nat×Int×Int×List Int×Unit) ⊕ ((Nat×List Int×Unit))):=fun (yE,yF,yG,FO,v8,v9,b0,_) =>
 .br (decide (v9<v8)) (
 .bd (F32 v9 yE yF yG) fun y0 =>
 .nd (decide ((FO+(((((y0.1::[])).drop (0:Nat)).take (1:Nat))).length)<cz)) <|
 .ni (v9+(1:Int)) <|
 .ret (.inl (yE,yF,yG,(FO+(((((y0.1::[])).drop (0:Nat)).take (1:Nat))).length),v8,(v9+(1:Int)),((((b0).drop (0:Nat)).take FO)++((((y0.1::[])).drop (0:Nat)).take (1:Nat))),()))) (
 .ret (.inr (FO,b0,())))
noncomputable def agA:bK prog 20 none 0:=bu mixed cx31 JR [] rfl agx agy rfl (agz) (fun x=>ag (g31_0 x)) (fun x=>by kernel_rfl)
noncomputable def dd31:D prog 20 none 0:=dO [.l agA] (kd prog f31) 0
noncomputable def F31 (dg:List (Int×List Int)) (iu:Int) (uk:Int) (GO:List (Int×List Int)) (GP:Int) (GQ:Int):bR (List Int×Unit) :=
 .bd (.it g31_0 (GO,GP,GQ,(0:Nat),iu,(0:Int),[],())) fun z1 =>
 .ret ((((z1.2.1).drop (0:Nat)).take z1.1),())
theorem aaU:cN prog f31=some ⟨20,2,dd31.er,[.t 4],[some tL]⟩:=by kernel_rfl
noncomputable def ct31:Ct:=⟨31,[.agg [.hole (.list (.prod tI tL)),.cK,.hole tI,.hole (.int .u64)],.fn 32 [] [.aJ (.cons (.hole (.list (.prod tI tL))) (.cons .cK (.cons (.hole tI) (.cons (.hole (.int .u64)) .nil))))]],hL,fun x=>ag (F31 x.1 x.2.1 x.2.2.1 x.2.2.2.1 x.2.2.2.2.1 x.2.2.2.2.2.1)⟩
theorem V1:ct31.Ok prog:=bn mixed JR func31 aaU (ah func31 rfl rfl) dd31 (by kernel_rfl) rfl (fun x=>by kernel_rfl)

/- 32 -/
noncomputable def Cm:Cx:=(aV [BW,Ls,aaQ,BZ,I2,VV] [])
theorem qS:Cm.Ok prog:=au ⟨x5,sy,JQ,x9,x8,Cj,trivial⟩ trivial
noncomputable def AG:D prog 47 (some 3) 4:=dO [] (pick (kd prog f32) [(0,false)]) 0
noncomputable def AH:D prog 47 (some 3) 4:=dO [] (pick (kd prog f32) [(0,true)]) 0
noncomputable def qT:Cx:=tT Cm (fun kz=>Il kz Cm bW 3 4 [8] (AG) (AH))
theorem qb:(qT).Ok prog:=gQ qS (fun h=>jI mixed qS h)
@[reducible] def EB:aG:=aG.mk [(0,.c (.yl 3)),(1,.c (.aJ (.cons (.hole (.list (.prod tI tL))) (.cons (.fK 92 false (.cons (.hole (.list (.bU 26 true (.prod tI tL)))) .nil)) (.cons (.hole tI) (.cons (.hole (.int .u64)) .nil)))))),(2,.c (.av tL)),(4,.c (.hole (.int .u64)))] [(3,.loop .ready none 2 [(1,.c (.aJ (.cons (.hole (.list (.prod tI tL))) (.cons (.fK 92 false (.cons (.hole (.list (.bU 26 true (.prod tI tL)))) .nil)) (.cons (.hole tI) (.cons (.hole (.int .u64)) .nil)))))),(2,.c (.ptr 0 0)),(3,hI),(4,.c (.ptr 1 0)),(7,.fn 45 [] [.aJ (.cons (.hole (.list (.prod tI tL))) (.cons (.fK 92 false (.cons (.hole (.list (.bU 26 true (.prod tI tL)))) .nil)) (.cons (.hole tI) (.cons (.hole (.int .u64)) .nil)))),.av tL])] [8] (.cF [.op (some 5) none (.mv (.t 8))]) (.block 1 (.seq (.cF [.op (some 9) none (.mv (.t 5)),.op (some 10) none (.load false 1 (.t 2)),.call (some 11) none (.c (.fn 33 [] [])) [.t 9,.t 10] [some (.int .u64),some tI],.op (some 12) none (.mv (.t 11)),.op (some 13) (some (12,true)) (.load true 4 (.t 1)),.op (some 14) (some (12,true)) (.mv (.t 5)),.call (some 15) (some (12,true)) (.c (.fn 17 [] [])) [.t 13,.t 14] [some (.prod (.prod (.list (.prod tI tL)) .unit) (.prod (.bU 26 true (.prod tI tL)) (.prod tI (.int .u64)))),some (.int .u64)],.op (some 16) none (.pick (.t 12) (.t 15) (.c (.tf false)))]) (.cond (.t 16) (.cF [.op none none (.store 1 (.t 4) (.c (.int .i64 (Int.ofNat 0))))]) .skip))) 47),(2,.fC),(0,.cells [.hole tI] false),(1,.cells [.hole tI] false)] [] []
@[reducible] def EC:bt:=[(.exit 0,aG.mk [] [(0,.cells [.hole tI] false),(1,.cells [.hole tI] false),(2,.fC),(3,.loop .ready none 2 [(1,.c (.aJ (.cons (.hole (.list (.prod tI tL))) (.cons (.fK 92 false (.cons (.hole (.list (.bU 26 true (.prod tI tL)))) .nil)) (.cons (.hole tI) (.cons (.hole (.int .u64)) .nil)))))),(2,.c (.ptr 0 0)),(3,hI),(4,.c (.ptr 1 0)),(7,.fn 45 [] [.aJ (.cons (.hole (.list (.prod tI tL))) (.cons (.fK 92 false (.cons (.hole (.list (.bU 26 true (.prod tI tL)))) .nil)) (.cons (.hole tI) (.cons (.hole (.int .u64)) .nil)))),.av tL])] [8] (.cF [.op (some 5) none (.mv (.t 8))]) (.block 1 (.seq (.cF [.op (some 9) none (.mv (.t 5)),.op (some 10) none (.load false 1 (.t 2)),.call (some 11) none (.c (.fn 33 [] [])) [.t 9,.t 10] [some (.int .u64),some tI],.op (some 12) none (.mv (.t 11)),.op (some 13) (some (12,true)) (.load true 4 (.t 1)),.op (some 14) (some (12,true)) (.mv (.t 5)),.call (some 15) (some (12,true)) (.c (.fn 17 [] [])) [.t 13,.t 14] [some (.prod (.prod (.list (.prod tI tL)) .unit) (.prod (.bU 26 true (.prod tI tL)) (.prod tI (.int .u64)))),some (.int .u64)],.op (some 16) none (.pick (.t 12) (.t 15) (.c (.tf false)))]) (.cond (.t 16) (.cF [.op none none (.store 1 (.t 4) (.c (.int .i64 (Int.ofNat 0))))]) .skip))) 47)] [] [])]
noncomputable def ED:D prog 22 none 4:=dO [] (pick (kd prog f45) [(0,false)]) 0
noncomputable def g32_v1_0i_0:(List (Int×List Int))×(List (Int×List Int))×Int×Int×List Int×Int×(List (Int×List Int))×(List (Int×List Int))×Int×Int×Int×(List (Int×List Int))×(List (Int×List Int))×Int×Int×List Int×Int×Int×Unit->bR (((List (Int×List Int))×(List (Int×List Int))×Int×Int×List Int×Int×(List (Int×List Int))×(List (Int×List Int))×Int×Int×Int×(List (Int×List Int))×(List (Int×List Int))×Int×Int×List Int×Int×Int×Unit) ⊕ ((Int×Int×(List (Int×List Int))×(List (Int×List Int))×Int×Int×Int×(List (Int×List Int))×(List (Int×List Int))×Int×Int×List Int×Unit))):=fun (eo,kJ,fh,kS,v2,v4,uy,uB,uz,uA,w3,fA,oS,fB,kM,yC,bp,bN,_) =>
 .br (decide (v4<=kS)) (
 .bd (F34 v4 v2) fun y1 =>
 .br (v4==y1.1) (
 .bd (F33 v4 bp) fun y2 =>
 .br y2.1 (
 .bd (F17_v1 uy uB uz uA v4) fun y3 =>
 .br y3.1 (
 .nd (cP .u64 (v4+(1:Int))) <|
 .ret (.inl (eo,kJ,fh,kS,v2,(v4+(1:Int)),uy,uB,uz,uA,w3,fA,oS,fB,kM,yC,bp,(0:Int),()))) (
 .nd (cP .u64 (v4+(1:Int))) <|
 .ret (.inl (eo,kJ,fh,kS,v2,(v4+(1:Int)),uy,uB,uz,uA,w3,fA,oS,fB,kM,yC,bp,bN,())))) (
 .nd (cP .u64 (v4+(1:Int))) <|
 .ret (.inl (eo,kJ,fh,kS,v2,(v4+(1:Int)),uy,uB,uz,uA,w3,fA,oS,fB,kM,yC,bp,bN,())))) (
 .nd (cP .u64 (v4+(1:Int))) <|
 .ret (.inl (eo,kJ,fh,kS,v2,(v4+(1:Int)),uy,uB,uz,uA,w3,fA,oS,fB,kM,yC,bp,bN,())))) (
 .ret (.inr (bp,bN,uy,uB,uz,uA,w3,fA,oS,fB,kM,yC,())))
noncomputable def EF:bK prog 22 none 4:=bu mixed qT qb [0,1,2,3] rfl EB EC rfl (ED) (fun x=>ag (g32_v1_0i_0 x)) (fun x=>by kernel_rfl)
@[reducible] def Ro:aG:=aG.mk [(1,.c (.aJ (.cons (.hole (.list (.prod tI tL))) (.cons (.fK 92 false (.cons (.hole (.list (.bU 26 true (.prod tI tL)))) .nil)) (.cons (.hole tI) (.cons (.hole (.int .u64)) .nil)))))),(2,.c (.ptr 0 0)),(3,hI),(4,.c (.ptr 1 0)),(7,.fn 45 [] [.aJ (.cons (.hole (.list (.prod tI tL))) (.cons (.fK 92 false (.cons (.hole (.list (.bU 26 true (.prod tI tL)))) .nil)) (.cons (.hole tI) (.cons (.hole (.int .u64)) .nil)))),.av tL])] [(0,.cells [.hole tI] false),(1,.cells [.hole tI] false)] [.slot 2,.slot 4] []
@[reducible] def Rp:bt:=[(.normal,aG.mk [(1,.c (.aJ (.cons (.hole (.list (.prod tI tL))) (.cons (.fK 92 false (.cons (.hole (.list (.bU 26 true (.prod tI tL)))) .nil)) (.cons (.hole tI) (.cons (.hole (.int .u64)) .nil)))))),(2,.c (.ptr 0 0)),(4,.c (.ptr 1 0))] [(0,.cells [.hole tI] false),(1,.cells [.hole tI] false)] [.slot 2,.slot 4] [])]
noncomputable def AJ:D prog 22 none 4:=dO [.l EF] (kd prog f45) 0
theorem MG:cN prog f45=some ⟨22,3,(AJ).er,[],[]⟩:=by kernel_rfl
noncomputable def g32_v1_0:(List (Int×List Int))×(List (Int×List Int))×Int×Int×Int×(List (Int×List Int))×(List (Int×List Int))×Int×Int×List Int×Int×Int×Unit->bR (((List (Int×List Int))×(List (Int×List Int))×Int×Int×Int×Int×Unit)):=fun (eo,kJ,fh,kS,v3,oR,EG,lT,yD,Rj,bp,bN,_) =>
 .bd (.it g32_v1_0i_0 (oR,EG,lT,yD,Rj,(0:Int),eo,kJ,fh,kS,v3,oR,EG,lT,yD,Rj,bp,bN,())) fun z4 =>
 .ret ((eo,kJ,fh,kS,z4.1,z4.2.1,()))
noncomputable def Rq:fJ prog 47 none 0:=gR mixed qT qb [] rfl Ro Rp ( .t 7) [8] rfl (AG).er (AH).er 45 func45 (MG) (ah func45 rfl rfl) 4 rfl (AJ) rfl (fun x=>ag (g32_v1_0 x)) (fun x=>by kernel_rfl)
noncomputable def JS:D prog 47 none 0:=dO [.r Rq] (kd prog f32) 0
noncomputable def F32_v1 (a0:Int) (Rk:List (Int×List Int)) (Rr:List (Int×List Int)) (Rl:Int) (Rm:Int):bR (Int×Unit) :=
 .bd (F16_v1 Rk Rr Rl Rm []) fun y0 =>
 .bd (g32_v1_0 (Rk,Rr,Rl,Rm,(0:Int),y0.1,y0.2.1,y0.2.2.1,y0.2.2.2.1,y0.2.2.2.2.1,a0,(1:Int),())) fun z5 =>
 .jx (
 .bd (F182 z5.2.1 z5.2.2.2.1) fun Z4 =>
 .br Z4.1 (
 .bd (F34 z5.2.2.2.1 ((((z5.2.2.2.2.1::[])).drop (0:Nat)).take (1:Nat))) fun y11 =>
 .bd (F182 z5.2.1 y11.1) fun Gk =>
 .br (!Gk.1) (
 .ni (z5.2.2.2.2.2.1+(2:Int)) <|
 .ret (.inl (z5.1,z5.2.1,z5.2.2.1,z5.2.2.2.1,z5.2.2.2.2.1,(z5.2.2.2.2.2.1+(2:Int)),()))) (
 .ret (.inl (z5.1,z5.2.1,z5.2.2.1,z5.2.2.2.1,z5.2.2.2.2.1,z5.2.2.2.2.2.1,())))) (
 .ret (.inl (z5.1,z5.2.1,z5.2.2.1,z5.2.2.2.1,z5.2.2.2.2.1,z5.2.2.2.2.2.1,())))) fun j9 =>
 .bd (F35 (0:Int) j9.2.2.2.2.1) fun y13 =>
 .bd (F182 j9.2.1 y13.1) fun y14 =>
 .br y14.1 (
 .ni (j9.2.2.2.2.2.1+(4:Int)) <|
 .ret ((j9.2.2.2.2.2.1+(4:Int)),())) (
 .ret (j9.2.2.2.2.2.1,()))
theorem MH:cN prog f32=some ⟨47,2,JS.er,[.t 3],[some tI]⟩:=by kernel_rfl
noncomputable def JT:Ct:=⟨32,[hI,.c (.aJ (.cons (.hole (.list (.prod tI tL))) (.cons (.fK 92 false (.cons (.hole (.list (.bU 26 true (.prod tI tL)))) .nil)) (.cons (.hole tI) (.cons (.hole (.int .u64)) .nil)))))],hI,fun x=>ag (F32_v1 x.1 x.2.1 x.2.2.1 x.2.2.2.1 x.2.2.2.2.1)⟩
theorem GR:JT.Ok prog:=bn mixed qS func32 MH (ah func32 rfl rfl) JS (by kernel_rfl) rfl (fun x=>Eq.trans (b:=ag (flat (F32_v1 x.1 x.2.1 x.2.2.1 x.2.2.2.1 x.2.2.2.2.1))) (by kernel_rfl) sj)

/- 31 -/
noncomputable def JU:Cx:=(aV [JT] [])
theorem yH:JU.Ok prog:=au ⟨GR,trivial⟩ trivial
@[reducible] def Rt:aG:=aG.mk [(1,.fn 32 [] [.aJ (.cons (.hole (.list (.prod tI tL))) (.cons (.fK 92 false (.cons (.hole (.list (.bU 26 true (.prod tI tL)))) .nil)) (.cons (.hole tI) (.cons (.hole (.int .u64)) .nil))))]),(5,.c (.cg 0 tI)),(8,hI),(9,hI)] [(0,.arr tI false)] [.slot 5] []
@[reducible] def Ru:bt:=[(.exit 0,aG.mk [(5,.c (.cg 0 tI))] [(0,.arr tI false)] [.slot 5] [])]
noncomputable def Rv:D prog 20 none 0:=dO [] (pick (kd prog f31) [(0,false)]) 0
noncomputable def g31_v1_0:(List (Int×List Int))×(List (Int×List Int))×Int×Int×Nat×Int×Int×List Int×Unit->bR (((List (Int×List Int))×(List (Int×List Int))×Int×Int×Nat×Int×Int×List Int×Unit) ⊕ ((Nat×List Int×Unit))):=fun (yE,EH,yF,yG,FO,v8,v9,b0,_) =>
 .br (decide (v9<v8)) (
 .bd (F32_v1 v9 yE EH yF yG) fun y0 =>
 .nd (decide ((FO+(((((y0.1::[])).drop (0:Nat)).take (1:Nat))).length)<cz)) <|
 .ni (v9+(1:Int)) <|
 .ret (.inl (yE,EH,yF,yG,(FO+(((((y0.1::[])).drop (0:Nat)).take (1:Nat))).length),v8,(v9+(1:Int)),((((b0).drop (0:Nat)).take FO)++((((y0.1::[])).drop (0:Nat)).take (1:Nat))),()))) (
 .ret (.inr (FO,b0,())))
noncomputable def Rw:bK prog 20 none 0:=bu mixed JU yH [] rfl Rt Ru rfl (Rv) (fun x=>ag (g31_v1_0 x)) (fun x=>by kernel_rfl)
noncomputable def JV:D prog 20 none 0:=dO [.l Rw] (kd prog f31) 0
noncomputable def F31_v1 (dg:List (Int×List Int)) (um:List (Int×List Int)) (iu:Int) (uk:Int) (GO:List (Int×List Int)) (Rx:List (Int×List Int)) (GP:Int) (GQ:Int):bR (List Int×Unit) :=
 .bd (.it g31_v1_0 (GO,Rx,GP,GQ,(0:Nat),iu,(0:Int),[],())) fun z1 =>
 .ret ((((z1.2.1).drop (0:Nat)).take z1.1),())
theorem MJ:cN prog f31=some ⟨20,2,JV.er,[.t 4],[some tL]⟩:=by kernel_rfl
noncomputable def JW:Ct:=⟨31,[.agg [.hole (.list (.prod tI tL)),.fK 92 false (.cons (.hole (.list (.bU 26 true (.prod tI tL)))) .nil),.hole tI,.hole (.int .u64)],.fn 32 [] [.aJ (.cons (.hole (.list (.prod tI tL))) (.cons (.fK 92 false (.cons (.hole (.list (.bU 26 true (.prod tI tL)))) .nil)) (.cons (.hole tI) (.cons (.hole (.int .u64)) .nil))))]],hL,fun x=>ag (F31_v1 x.1 x.2.1 x.2.2.1 x.2.2.2.1 x.2.2.2.2.1 x.2.2.2.2.2.1 x.2.2.2.2.2.2.1 x.2.2.2.2.2.2.2.1)⟩
theorem GS:JW.Ok prog:=bn mixed yH func31 MJ (ah func31 rfl rfl) JV (by kernel_rfl) rfl (fun x=>by kernel_rfl)

/- 12 -/
noncomputable def cx12:Cx:=(aV [Uh,ct31,JW] [])
theorem V2:cx12.Ok prog:=au ⟨BR,V1,GS,trivial⟩ trivial
noncomputable def dd12:D prog 17 none 0:=dO [] (kd prog f12) 0
noncomputable def F12 (dg:List (Int×List Int)):bR (List Int×Int×Unit) :=
 .bd (F15 dg) fun y0 =>
 .sm y0 (fun y1 =>
 .br (!(y1.2.2.2.1==(0:Int))) (
 .ret ([],y1.2.2.2.1,())) (
 .bd (F31 y1.1 y1.2.1 y1.2.2.1 y1.1 y1.2.1 y1.2.2.1) fun y2 =>
 .ret (y2.1,(0:Int),()))) fun y3 =>
 .br (!(y3.2.2.2.2.1==(0:Int))) (
 .ret ([],y3.2.2.2.2.1,())) (
 .bd (F31_v1 y3.1 y3.2.1 y3.2.2.1 y3.2.2.2.1 y3.1 y3.2.1 y3.2.2.1 y3.2.2.2.1) fun y4 =>
 .ret (y4.1,(0:Int),()))
theorem aaV:cN prog f12=some ⟨17,1,dd12.er,[.t 2,.t 3],[some tL,some tI]⟩:=by kernel_rfl
noncomputable def aaW:Ct:=⟨12,[.agg [.hole (.list (.prod tI tL))]],.cG [.hole tL,.hole tI],fun x=>ag (F12 x.1)⟩
theorem V3:aaW.Ok prog:=bn mixed V2 func12 aaV (ah func12 rfl rfl) dd12 (by kernel_rfl) rfl (fun x=>by kernel_rfl)

/- 37 -/
noncomputable def V4:Cx:=(aV [FZ] [])
theorem GU:V4.Ok prog:=au ⟨pE,trivial⟩ trivial
noncomputable def JX:D prog 15 none 0:=dO [] (kd prog f37) 0
noncomputable def F37_v2 (a0:(List (List Int))×List Bool) (a1:(List (List Int))×List Bool) (a2:Int×Int):bR (Int×Int×Int×((List (List Int))×List Bool)×((List (List Int))×List Bool)×((List (List Int))×List Bool)×((List (List Int))×List Bool)×Unit) :=
 .bd (F25 (a0.1,a0.2)) fun y0 =>
 .ret (y0.1,(((a2.1::(a2.2::[]))).getD (0:Nat) (0:Int)),(((a2.1::(a2.2::[]))).getD (1:Nat) (0:Int)),(a0.1,a0.2),(a1.1,a1.2),(a0.1,a0.2),(a1.1,a1.2),())
theorem MK:cN prog f37=some ⟨15,4,JX.er,[.cell 8 true 5],[none]⟩:=by kernel_rfl
noncomputable def JY:Ct:=⟨37,[.c (.hole (.prod ay (.list .bool))),.c (.hole (.prod ay (.list .bool))),.c (.hole (.prod tI tI)),.c (.fn0 38)],.agg [.hole tI,.hole tI,.hole tI,.fn 54 .nil (.cons (.av (.prod ay (.list .bool))) (.cons (.av (.prod ay (.list .bool))) .nil)),.fn 55 .nil (.cons (.aJ (.cons (.fn0 38) .nil)) (.cons (.av (.prod ay (.list .bool))) (.cons (.av (.prod ay (.list .bool))) .nil)))],fun x=>ag (F37_v2 x.1 x.2.1 x.2.2.1)⟩
theorem GV:JY.Ok prog:=bn mixed GU func37 MK (ah func37 rfl rfl) JX (by kernel_rfl) rfl (fun x=>by kernel_rfl)

/- 56 -/
noncomputable def V5:Cx:=(aV [] [])
theorem GW:V5.Ok prog:=au trivial trivial
noncomputable def JZ:D prog 4 none 0:=dO [] (kd prog f56) 0
noncomputable def F56_v2 (dg:Int) (sA:Int) (iu:Int) (dP:(List (List Int))×List Bool) (dQ:(List (List Int))×List Bool) (dR:(List (List Int))×List Bool) (dS:(List (List Int))×List Bool):bR (Int×Int×Int×((List (List Int))×List Bool)×((List (List Int))×List Bool)×((List (List Int))×List Bool)×((List (List Int))×List Bool)×Unit) :=
 .ret (dg,sA,iu,(dP.1,dP.2),(dQ.1,dQ.2),(dR.1,dR.2),(dS.1,dS.2),())
theorem ML:cN prog f56=some ⟨4,1,JZ.er,[.t 2],[none]⟩:=by kernel_rfl
noncomputable def J1:Ct:=⟨56,[.agg [.hole tI,.hole tI,.hole tI,.fn 54 .nil (.cons (.av (.prod ay (.list .bool))) (.cons (.av (.prod ay (.list .bool))) .nil)),.fn 55 .nil (.cons (.aJ (.cons (.fn0 38) .nil)) (.cons (.av (.prod ay (.list .bool))) (.cons (.av (.prod ay (.list .bool))) .nil)))]],.fn 81 [] [.aJ (.cons (.hole tI) (.cons (.hole tI) (.cons (.hole tI) (.cons (.fn 54 .nil (.cons (.av (.prod ay (.list .bool))) (.cons (.av (.prod ay (.list .bool))) .nil))) (.cons (.fn 55 .nil (.cons (.aJ (.cons (.fn0 38) .nil)) (.cons (.av (.prod ay (.list .bool))) (.cons (.av (.prod ay (.list .bool))) .nil)))) .nil)))))],fun x=>ag (F56_v2 x.1 x.2.1 x.2.2.1 x.2.2.2.1 x.2.2.2.2.1 x.2.2.2.2.2.1 x.2.2.2.2.2.2.1)⟩
theorem GX:J1.Ok prog:=bn mixed GW func56 ML (ah func56 rfl rfl) JZ (by kernel_rfl) rfl (fun x=>by kernel_rfl)

/- 38 -/
noncomputable def cx38:Cx:=(aV [] [])
theorem V6:cx38.Ok prog:=au trivial trivial
noncomputable def dd38:D prog 8 none 0:=dO [] (kd prog f38) 0
noncomputable def F38 (a0:Bool) (a1:Bool):bR (Bool×Unit) :=
 .ret ((!(a0==a1)),())
theorem aaX:cN prog f38=some ⟨8,2,dd38.er,[.t 4],[some .bool]⟩:=by kernel_rfl
noncomputable def ct38:Ct:=⟨38,[.c (.hole .bool),.c (.hole .bool)],.c (.hole .bool),fun x=>ag (F38 x.1 x.2.1)⟩
theorem V7:ct38.Ok prog:=bn mixed V6 func38 aaX (ah func38 rfl rfl) dd38 (by kernel_rfl) rfl (fun x=>by kernel_rfl)

/- 55 -/
noncomputable def V8:Cx:=(aV [ct38] [])
theorem GY:V8.Ok prog:=au ⟨V7,trivial⟩ trivial
noncomputable def J2:D prog 20 none 0:=dO [] (kd prog f55) 0
noncomputable def F55_v2 (a0:Int×Int) (a2:(List (List Int))×List Bool) (a3:(List (List Int))×List Bool):bR (Bool×Unit) :=
 .nd (decide ((0:Nat)<((a0.1::(a0.2::[]))).length)) <|
 .nb (((a0.1::(a0.2::[]))).getD (0:Nat) (0:Int)) (((a2.2).length:Nat):Int) <|
 .nd (decide ((1:Nat)<((a0.1::(a0.2::[]))).length)) <|
 .nb (((a0.1::(a0.2::[]))).getD (1:Nat) (0:Int)) (((a3.2).length:Nat):Int) <|
 .bd (F38 ((a2.2).getD (Int.toNat (((a0.1::(a0.2::[]))).getD (0:Nat) (0:Int))) false) ((a3.2).getD (Int.toNat (((a0.1::(a0.2::[]))).getD (1:Nat) (0:Int))) false)) fun y0 =>
 .ret (y0.1,())
theorem MM:cN prog f55=some ⟨20,4,J2.er,[.t 5],[some .bool]⟩:=by kernel_rfl
noncomputable def J4:Ct:=⟨55,[.c (.hole (.prod tI tI)),.c (.aJ (.cons (.fn0 38) .nil)),.c (.av (.prod ay (.list .bool))),.c (.av (.prod ay (.list .bool)))],.c (.hole .bool),fun x=>ag (F55_v2 x.1 x.2.1 x.2.2.1)⟩
theorem GZ:J4.Ok prog:=bn mixed GY func55 MM (ah func55 rfl rfl) J2 (by kernel_rfl) rfl (fun x=>by kernel_rfl)

/- 39 -/
noncomputable def aaY:Cx:=(aV [J1,LQ,J4,Ef,LS] [])
theorem Co:aaY.Ok prog:=au ⟨GX,sB,GZ,nA,sC,trivial⟩ trivial
noncomputable def Ry:D prog 15 (some 4) 14:=dO [] (pick (kd prog f39) [(0,false)]) 0
noncomputable def Rz:D prog 15 (some 4) 14:=dO [] (pick (kd prog f39) [(0,true)]) 0
noncomputable def vM:Cx:=tT aaY (fun kz=>Il kz aaY bW 4 14 [8,9] (Ry) (Rz))
theorem qU:(vM).Ok prog:=gQ Co (fun h=>jI mixed Co h)
@[reducible] def RA:aG:=aG.mk [(0,.c (.yl 4)),(1,.c (.aJ (.cons (.hole tI) (.cons (.hole tI) (.cons (.hole tI) (.cons (.fn 54 .nil (.cons (.av (.prod ay (.list .bool))) (.cons (.av (.prod ay (.list .bool))) .nil))) (.cons (.fn 55 .nil (.cons (.aJ (.cons (.fn0 38) .nil)) (.cons (.av (.prod ay (.list .bool))) (.cons (.av (.prod ay (.list .bool))) .nil)))) .nil))))))),(3,.c (.mp 5)),(4,.c (.Aa 6 (.prod (.prod tI tI) tL))),(5,.c (.ptr 7 0)),(33,hI),(34,hI)] [(4,.loop .ready none 3 [(1,.c (.ptr 0 0)),(2,.c (.ptr 1 0)),(3,.c (.ptr 2 0)),(7,.fn 81 [] [.aJ (.cons (.hole tI) (.cons (.hole tI) (.cons (.hole tI) (.cons (.fn 54 .nil (.cons (.av (.prod ay (.list .bool))) (.cons (.av (.prod ay (.list .bool))) .nil))) (.cons (.fn 55 .nil (.cons (.aJ (.cons (.fn0 38) .nil)) (.cons (.av (.prod ay (.list .bool))) (.cons (.av (.prod ay (.list .bool))) .nil)))) .nil)))))])] [8,9] (.seq (.cF [.op (some 4) none (.ex (kQ.gy tI 2) []),.op none none (.store 2 (.t 4) (.t 8))]) (.cF [.op (some 5) none (.mv (.t 9))])) (.block 1 (.seq (.cF [.op (some 10) none (.qc 4 [true,true,true] (.t 1)),.op (some 11) none (.load false 1 (.t 10)),.op (some 12) none (.load true 2 (.t 4)),.call (some 13) none (.t 11) [.t 12] [some (.prod tI tI)]]) (.cond (.t 13) (.seq (.cF [.op (some 14) none (.mv (.t 5)),.op none none (.store 1 (.t 2) (.t 14)),.op none none (.store 1 (.t 3) (.c (.tf true)))]) .ret) .skip))) 15),(5,.map (.prod tI tI) true .bool false),(6,.arr (.prod (.prod tI tI) tL) false),(7,.cells [.hole tI,.hole tI,.hole tL] false),(3,.fC),(0,.cells [.hole tI,.hole tI,.hole tI,.fn 54 .nil (.cons (.av (.prod ay (.list .bool))) (.cons (.av (.prod ay (.list .bool))) .nil)),.fn 55 .nil (.cons (.aJ (.cons (.fn0 38) .nil)) (.cons (.av (.prod ay (.list .bool))) (.cons (.av (.prod ay (.list .bool))) .nil)))] false),(1,.cells [.bA] false),(2,.cells [.tf false] false)] [.slot 3,.slot 4,.slot 5] []
@[reducible] def RB:bt:=[(.exit 2,aG.mk [(0,.c (.yl 4)),(1,.c (.aJ (.cons (.hole tI) (.cons (.hole tI) (.cons (.hole tI) (.cons (.fn 54 .nil (.cons (.av (.prod ay (.list .bool))) (.cons (.av (.prod ay (.list .bool))) .nil))) (.cons (.fn 55 .nil (.cons (.aJ (.cons (.fn0 38) .nil)) (.cons (.av (.prod ay (.list .bool))) (.cons (.av (.prod ay (.list .bool))) .nil)))) .nil))))))),(3,.c (.mp 5)),(4,.c (.Aa 6 (.prod (.prod tI tI) tL)))] [(4,.loop .ready none 3 [(1,.c (.ptr 0 0)),(2,.c (.ptr 1 0)),(3,.c (.ptr 2 0)),(7,.fn 81 [] [.aJ (.cons (.hole tI) (.cons (.hole tI) (.cons (.hole tI) (.cons (.fn 54 .nil (.cons (.av (.prod ay (.list .bool))) (.cons (.av (.prod ay (.list .bool))) .nil))) (.cons (.fn 55 .nil (.cons (.aJ (.cons (.fn0 38) .nil)) (.cons (.av (.prod ay (.list .bool))) (.cons (.av (.prod ay (.list .bool))) .nil)))) .nil)))))])] [8,9] (.seq (.cF [.op (some 4) none (.ex (kQ.gy tI 2) []),.op none none (.store 2 (.t 4) (.t 8))]) (.cF [.op (some 5) none (.mv (.t 9))])) (.block 1 (.seq (.cF [.op (some 10) none (.qc 4 [true,true,true] (.t 1)),.op (some 11) none (.load false 1 (.t 10)),.op (some 12) none (.load true 2 (.t 4)),.call (some 13) none (.t 11) [.t 12] [some (.prod tI tI)]]) (.cond (.t 13) (.seq (.cF [.op (some 14) none (.mv (.t 5)),.op none none (.store 1 (.t 2) (.t 14)),.op none none (.store 1 (.t 3) (.c (.tf true)))]) .ret) .skip))) 15),(5,.map (.prod tI tI) true .bool false),(6,.arr (.prod (.prod tI tI) tL) false),(3,.fC),(0,.cells [.hole tI,.hole tI,.hole tI,.fn 54 .nil (.cons (.av (.prod ay (.list .bool))) (.cons (.av (.prod ay (.list .bool))) .nil)),.fn 55 .nil (.cons (.aJ (.cons (.fn0 38) .nil)) (.cons (.av (.prod ay (.list .bool))) (.cons (.av (.prod ay (.list .bool))) .nil)))] false),(1,.cells [.bA] false),(2,.cells [.tf false] false)] [.slot 3,.slot 4] [])]
noncomputable def RC:D prog 61 none 5:=dO [] (pick (kd prog f81) [(0,false),(0,false)]) 0
noncomputable def g39_0i_1:Int×Int×Int×((List (List Int))×List Bool)×((List (List Int))×List Bool)×((List (List Int))×List Bool)×((List (List Int))×List Bool)×Nat×Nat×Int×Int×Int×Int×Int×((List (List Int))×List Bool)×((List (List Int))×List Bool)×((List (List Int))×List Bool)×((List (List Int))×List Bool)×(List ((Int×Int)×Bool))×(List ((Int×Int)×List Int))×Int×Int×List Int×Int×Int×Int×((List (List Int))×List Bool)×((List (List Int))×List Bool)×((List (List Int))×List Bool)×((List (List Int))×List Bool)×Unit->bR ((Int×Int×Int×((List (List Int))×List Bool)×((List (List Int))×List Bool)×((List (List Int))×List Bool)×((List (List Int))×List Bool)×Nat×Nat×Int×Int×Int×Int×Int×((List (List Int))×List Bool)×((List (List Int))×List Bool)×((List (List Int))×List Bool)×((List (List Int))×List Bool)×(List ((Int×Int)×Bool))×(List ((Int×Int)×List Int))×Int×Int×List Int×Int×Int×Int×((List (List Int))×List Bool)×((List (List Int))×List Bool)×((List (List Int))×List Bool)×((List (List Int))×List Bool)×Unit) ⊕ ((Int×Int×Int×((List (List Int))×List Bool)×((List (List Int))×List Bool)×((List (List Int))×List Bool)×((List (List Int))×List Bool)×Nat×Nat×Int×Int×Int×((List (List Int))×List Bool)×((List (List Int))×List Bool)×((List (List Int))×List Bool)×((List (List Int))×List Bool)×(List ((Int×Int)×Bool))×(List ((Int×Int)×List Int))×Int×Int×Int×((List (List Int))×List Bool)×((List (List Int))×List Bool)×((List (List Int))×List Bool)×((List (List Int))×List Bool)×Unit))):=fun (eo,nB,fh,bY,bZ,cC,cD,cI,jJ,uX,fL,fA,qV,fB,eN,eO,eR,eS,m5,b6,aaZ,aa0,aa1,bp,cq,bX,aH,aI,aC,aD,_) =>
 .br (decide (fL<uX)) (
 .bd (F54 (aaZ,aa0) fL (bY.1,bY.2) (bZ.1,bZ.2)) fun y3 =>
 .br (!(aN (.prod (.int .i64) (.int .i64)) false m5 ((((y3.1.1::(y3.1.2::[]))).getD (0:Nat) (0:Int)),(((y3.1.1::(y3.1.2::[]))).getD (1:Nat) (0:Int))))) (
 .bd (F83 aa1) fun y4 =>
 .nd (decide ((0:Nat)<(((((fL::[])).drop (0:Nat)).take (1:Nat))).length)) <|
 .nd (decide (((y4.1).length+(((((fL::[])).drop (0:Nat)).take (1:Nat))).length)<cz)) <|
 .nd (decide ((jJ+((((((((((y3.1.1::(y3.1.2::[]))).getD (0:Nat) (0:Int)),(((y3.1.1::(y3.1.2::[]))).getD (1:Nat) (0:Int))),((((y4.1++((((fL::[])).drop (0:Nat)).take (1:Nat)))).drop (0:Nat)).take ((y4.1).length+(((((fL::[])).drop (0:Nat)).take (1:Nat))).length)))::[])).drop (0:Nat)).take (1:Nat))).length)<cz)) <|
 .ni (fL+(1:Int)) <|
 .ret (.inl (eo,nB,fh,(bY.1,bY.2),(bZ.1,bZ.2),(cC.1,cC.2),(cD.1,cD.2),(0:Nat),(jJ+((((((((((y3.1.1::(y3.1.2::[]))).getD (0:Nat) (0:Int)),(((y3.1.1::(y3.1.2::[]))).getD (1:Nat) (0:Int))),((((y4.1++((((fL::[])).drop (0:Nat)).take (1:Nat)))).drop (0:Nat)).take ((y4.1).length+(((((fL::[])).drop (0:Nat)).take (1:Nat))).length)))::[])).drop (0:Nat)).take (1:Nat))).length),uX,(fL+(1:Int)),fA,qV,fB,(eN.1,eN.2),(eO.1,eO.2),(eR.1,eR.2),(eS.1,eS.2),(bh (.prod (.int .i64) (.int .i64)) m5 ((((y3.1.1::(y3.1.2::[]))).getD (0:Nat) (0:Int)),(((y3.1.1::(y3.1.2::[]))).getD (1:Nat) (0:Int))) true),((((b6).drop cI).take jJ)++(((((((((y3.1.1::(y3.1.2::[]))).getD (0:Nat) (0:Int)),(((y3.1.1::(y3.1.2::[]))).getD (1:Nat) (0:Int))),((((y4.1++((((fL::[])).drop (0:Nat)).take (1:Nat)))).drop (0:Nat)).take ((y4.1).length+(((((fL::[])).drop (0:Nat)).take (1:Nat))).length)))::[])).drop (0:Nat)).take (1:Nat))),aaZ,aa0,aa1,bp,cq,bX,(aH.1,aH.2),(aI.1,aI.2),(aC.1,aC.2),(aD.1,aD.2),()))) (
 .ni (fL+(1:Int)) <|
 .ret (.inl (eo,nB,fh,(bY.1,bY.2),(bZ.1,bZ.2),(cC.1,cC.2),(cD.1,cD.2),cI,jJ,uX,(fL+(1:Int)),fA,qV,fB,(eN.1,eN.2),(eO.1,eO.2),(eR.1,eR.2),(eS.1,eS.2),m5,b6,aaZ,aa0,aa1,bp,cq,bX,(aH.1,aH.2),(aI.1,aI.2),(aC.1,aC.2),(aD.1,aD.2),())))) (
 .ret (.inr (eo,nB,fh,(bY.1,bY.2),(bZ.1,bZ.2),(cC.1,cC.2),(cD.1,cD.2),cI,jJ,fA,qV,fB,(eN.1,eN.2),(eO.1,eO.2),(eR.1,eR.2),(eS.1,eS.2),m5,b6,bp,cq,bX,(aH.1,aH.2),(aI.1,aI.2),(aC.1,aC.2),(aD.1,aD.2),())))
noncomputable def RD:bK prog 61 none 5:=bu mixed vM qU [0,1,2,3,4] rfl RA RB rfl (RC) (fun x=>ag (g39_0i_1 x)) (fun x=>by kernel_rfl)
@[reducible] def RE:aG:=aG.mk [(0,.c (.yl 4)),(1,.c (.aJ (.cons (.hole tI) (.cons (.hole tI) (.cons (.hole tI) (.cons (.fn 54 .nil (.cons (.av (.prod ay (.list .bool))) (.cons (.av (.prod ay (.list .bool))) .nil))) (.cons (.fn 55 .nil (.cons (.aJ (.cons (.fn0 38) .nil)) (.cons (.av (.prod ay (.list .bool))) (.cons (.av (.prod ay (.list .bool))) .nil)))) .nil))))))),(3,.c (.mp 5)),(4,.c (.Aa 6 (.prod (.prod tI tI) tL)))] [(4,.loop .ready none 3 [(1,.c (.ptr 0 0)),(2,.c (.ptr 1 0)),(3,.c (.ptr 2 0)),(7,.fn 81 [] [.aJ (.cons (.hole tI) (.cons (.hole tI) (.cons (.hole tI) (.cons (.fn 54 .nil (.cons (.av (.prod ay (.list .bool))) (.cons (.av (.prod ay (.list .bool))) .nil))) (.cons (.fn 55 .nil (.cons (.aJ (.cons (.fn0 38) .nil)) (.cons (.av (.prod ay (.list .bool))) (.cons (.av (.prod ay (.list .bool))) .nil)))) .nil)))))])] [8,9] (.seq (.cF [.op (some 4) none (.ex (kQ.gy tI 2) []),.op none none (.store 2 (.t 4) (.t 8))]) (.cF [.op (some 5) none (.mv (.t 9))])) (.block 1 (.seq (.cF [.op (some 10) none (.qc 4 [true,true,true] (.t 1)),.op (some 11) none (.load false 1 (.t 10)),.op (some 12) none (.load true 2 (.t 4)),.call (some 13) none (.t 11) [.t 12] [some (.prod tI tI)]]) (.cond (.t 13) (.seq (.cF [.op (some 14) none (.mv (.t 5)),.op none none (.store 1 (.t 2) (.t 14)),.op none none (.store 1 (.t 3) (.c (.tf true)))]) .ret) .skip))) 15),(5,.map (.prod tI tI) true .bool false),(6,.arr (.prod (.prod tI tI) tL) false),(3,.fC),(0,.cells [.hole tI,.hole tI,.hole tI,.fn 54 .nil (.cons (.av (.prod ay (.list .bool))) (.cons (.av (.prod ay (.list .bool))) .nil)),.fn 55 .nil (.cons (.aJ (.cons (.fn0 38) .nil)) (.cons (.av (.prod ay (.list .bool))) (.cons (.av (.prod ay (.list .bool))) .nil)))] false),(1,.cells [.bA] false),(2,.cells [.tf false] false)] [.slot 3,.slot 4] []
@[reducible] def RG:bt:=[(.ret,aG.mk [] [(0,.cells [.hole tI,.hole tI,.hole tI,.fn 54 .nil (.cons (.av (.prod ay (.list .bool))) (.cons (.av (.prod ay (.list .bool))) .nil)),.fn 55 .nil (.cons (.aJ (.cons (.fn0 38) .nil)) (.cons (.av (.prod ay (.list .bool))) (.cons (.av (.prod ay (.list .bool))) .nil)))] false),(1,.cells [.hole tL] false),(2,.cells [.tf true] false),(3,.fC),(4,.loop .done (some .ret) 3 [(1,.c (.ptr 0 0)),(2,.c (.ptr 1 0)),(3,.c (.ptr 2 0)),(7,.fn 81 [] [.aJ (.cons (.hole tI) (.cons (.hole tI) (.cons (.hole tI) (.cons (.fn 54 .nil (.cons (.av (.prod ay (.list .bool))) (.cons (.av (.prod ay (.list .bool))) .nil))) (.cons (.fn 55 .nil (.cons (.aJ (.cons (.fn0 38) .nil)) (.cons (.av (.prod ay (.list .bool))) (.cons (.av (.prod ay (.list .bool))) .nil)))) .nil)))))])] [8,9] (.seq (.cF [.op (some 4) none (.ex (kQ.gy tI 2) []),.op none none (.store 2 (.t 4) (.t 8))]) (.cF [.op (some 5) none (.mv (.t 9))])) (.block 1 (.seq (.cF [.op (some 10) none (.qc 4 [true,true,true] (.t 1)),.op (some 11) none (.load false 1 (.t 10)),.op (some 12) none (.load true 2 (.t 4)),.call (some 13) none (.t 11) [.t 12] [some (.prod tI tI)]]) (.cond (.t 13) (.seq (.cF [.op (some 14) none (.mv (.t 5)),.op none none (.store 1 (.t 2) (.t 14)),.op none none (.store 1 (.t 3) (.c (.tf true)))]) .ret) .skip))) 15)] [] []),(.exit 0,aG.mk [] [(0,.cells [.hole tI,.hole tI,.hole tI,.fn 54 .nil (.cons (.av (.prod ay (.list .bool))) (.cons (.av (.prod ay (.list .bool))) .nil)),.fn 55 .nil (.cons (.aJ (.cons (.fn0 38) .nil)) (.cons (.av (.prod ay (.list .bool))) (.cons (.av (.prod ay (.list .bool))) .nil)))] false),(1,.cells [.bA] false),(2,.cells [.tf false] false),(3,.fC),(4,.loop .ready none 3 [(1,.c (.ptr 0 0)),(2,.c (.ptr 1 0)),(3,.c (.ptr 2 0)),(7,.fn 81 [] [.aJ (.cons (.hole tI) (.cons (.hole tI) (.cons (.hole tI) (.cons (.fn 54 .nil (.cons (.av (.prod ay (.list .bool))) (.cons (.av (.prod ay (.list .bool))) .nil))) (.cons (.fn 55 .nil (.cons (.aJ (.cons (.fn0 38) .nil)) (.cons (.av (.prod ay (.list .bool))) (.cons (.av (.prod ay (.list .bool))) .nil)))) .nil)))))])] [8,9] (.seq (.cF [.op (some 4) none (.ex (kQ.gy tI 2) []),.op none none (.store 2 (.t 4) (.t 8))]) (.cF [.op (some 5) none (.mv (.t 9))])) (.block 1 (.seq (.cF [.op (some 10) none (.qc 4 [true,true,true] (.t 1)),.op (some 11) none (.load false 1 (.t 10)),.op (some 12) none (.load true 2 (.t 4)),.call (some 13) none (.t 11) [.t 12] [some (.prod tI tI)]]) (.cond (.t 13) (.seq (.cF [.op (some 14) none (.mv (.t 5)),.op none none (.store 1 (.t 2) (.t 14)),.op none none (.store 1 (.t 3) (.c (.tf true)))]) .ret) .skip))) 15)] [] [])]
noncomputable def RH:D prog 61 none 5:=dO [.l RD] (pick (kd prog f81) [(0,false)]) 0
noncomputable def g39_0i_0:Int×Int×Int×((List (List Int))×List Bool)×((List (List Int))×List Bool)×((List (List Int))×List Bool)×((List (List Int))×List Bool)×Nat×Nat×Int×Int×Int×((List (List Int))×List Bool)×((List (List Int))×List Bool)×((List (List Int))×List Bool)×((List (List Int))×List Bool)×(List ((Int×Int)×Bool))×(List ((Int×Int)×List Int))×Int×Int×Int×((List (List Int))×List Bool)×((List (List Int))×List Bool)×((List (List Int))×List Bool)×((List (List Int))×List Bool)×Unit->bR ((Int×Int×Int×((List (List Int))×List Bool)×((List (List Int))×List Bool)×((List (List Int))×List Bool)×((List (List Int))×List Bool)×Nat×Nat×Int×Int×Int×((List (List Int))×List Bool)×((List (List Int))×List Bool)×((List (List Int))×List Bool)×((List (List Int))×List Bool)×(List ((Int×Int)×Bool))×(List ((Int×Int)×List Int))×Int×Int×Int×((List (List Int))×List Bool)×((List (List Int))×List Bool)×((List (List Int))×List Bool)×((List (List Int))×List Bool)×Unit) ⊕ ((Int×Int×Int×((List (List Int))×List Bool)×((List (List Int))×List Bool)×((List (List Int))×List Bool)×((List (List Int))×List Bool)×List Int×Int×Int×Int×((List (List Int))×List Bool)×((List (List Int))×List Bool)×((List (List Int))×List Bool)×((List (List Int))×List Bool)×Unit) ⊕ ((Int×Int×Int×((List (List Int))×List Bool)×((List (List Int))×List Bool)×((List (List Int))×List Bool)×((List (List Int))×List Bool)×Int×Int×Int×((List (List Int))×List Bool)×((List (List Int))×List Bool)×((List (List Int))×List Bool)×((List (List Int))×List Bool)×Unit)))):=fun (eo,nB,fh,bY,bZ,cC,cD,cI,jJ,fA,qV,fB,eN,eO,eR,eS,m5,b6,bp,cq,bX,aH,aI,aC,aD,_) =>
 .br (decide ((0:Int)<((jJ:Nat):Int))) (
 .nb (0:Int) ((jJ:Nat):Int) <|
 .nd (decide ((cI+(Int.toNat (0:Int)))<(b6).length)) <|
 .bd (F82 ((b6).getD (cI+(Int.toNat (0:Int))) (((0:Int),(0:Int)),[])).2) fun y1 =>
 .bd (F55_v2 ((((((b6).getD (cI+(Int.toNat (0:Int))) (((0:Int),(0:Int)),[])).1.1::(((b6).getD (cI+(Int.toNat (0:Int))) (((0:Int),(0:Int)),[])).1.2::[]))).getD (0:Nat) (0:Int)),(((((b6).getD (cI+(Int.toNat (0:Int))) (((0:Int),(0:Int)),[])).1.1::(((b6).getD (cI+(Int.toNat (0:Int))) (((0:Int),(0:Int)),[])).1.2::[]))).getD (1:Nat) (0:Int))) (aC.1,aC.2) (aD.1,aD.2)) fun y2 =>
 .br y2.1 (
 .ret (.inr <| .inl<|(bp,cq,bX,(aH.1,aH.2),(aI.1,aI.2),(aC.1,aC.2),(aD.1,aD.2),y1.1,fA,qV,fB,(eN.1,eN.2),(eO.1,eO.2),(eR.1,eR.2),(eS.1,eS.2),()))) (
 .bd (.it g39_0i_1 (eo,nB,fh,(bY.1,bY.2),(bZ.1,bZ.2),(cC.1,cC.2),(cD.1,cD.2),cI,jJ,eo,(0:Int),fA,qV,fB,(eN.1,eN.2),(eO.1,eO.2),(eR.1,eR.2),(eS.1,eS.2),m5,b6,((b6).getD (cI+(Int.toNat (0:Int))) (((0:Int),(0:Int)),[])).1.1,((b6).getD (cI+(Int.toNat (0:Int))) (((0:Int),(0:Int)),[])).1.2,((b6).getD (cI+(Int.toNat (0:Int))) (((0:Int),(0:Int)),[])).2,bp,cq,bX,(aH.1,aH.2),(aI.1,aI.2),(aC.1,aC.2),(aD.1,aD.2),())) fun z5 =>
 .nd (decide ((0:Int)<=(1:Int))) <|
 .nd (decide ((1:Int)<=((z5.2.2.2.2.2.2.2.2.1:Nat):Int))) <|
 .nd (decide (((z5.2.2.2.2.2.2.2.2.1:Nat):Int)<=((z5.2.2.2.2.2.2.2.2.1:Nat):Int))) <|
 .ret (.inl (z5.1,z5.2.1,z5.2.2.1,(z5.2.2.2.1.1,z5.2.2.2.1.2),(z5.2.2.2.2.1.1,z5.2.2.2.2.1.2),(z5.2.2.2.2.2.1.1,z5.2.2.2.2.2.1.2),(z5.2.2.2.2.2.2.1.1,z5.2.2.2.2.2.2.1.2),(z5.2.2.2.2.2.2.2.1+(Int.toNat (1:Int))),((Int.toNat ((z5.2.2.2.2.2.2.2.2.1:Nat):Int)) - (Int.toNat (1:Int))),z5.2.2.2.2.2.2.2.2.2.1,z5.2.2.2.2.2.2.2.2.2.2.1,z5.2.2.2.2.2.2.2.2.2.2.2.1,(z5.2.2.2.2.2.2.2.2.2.2.2.2.1.1,z5.2.2.2.2.2.2.2.2.2.2.2.2.1.2),(z5.2.2.2.2.2.2.2.2.2.2.2.2.2.1.1,z5.2.2.2.2.2.2.2.2.2.2.2.2.2.1.2),(z5.2.2.2.2.2.2.2.2.2.2.2.2.2.2.1.1,z5.2.2.2.2.2.2.2.2.2.2.2.2.2.2.1.2),(z5.2.2.2.2.2.2.2.2.2.2.2.2.2.2.2.1.1,z5.2.2.2.2.2.2.2.2.2.2.2.2.2.2.2.1.2),z5.2.2.2.2.2.2.2.2.2.2.2.2.2.2.2.2.1,z5.2.2.2.2.2.2.2.2.2.2.2.2.2.2.2.2.2.1,z5.2.2.2.2.2.2.2.2.2.2.2.2.2.2.2.2.2.2.1,z5.2.2.2.2.2.2.2.2.2.2.2.2.2.2.2.2.2.2.2.1,z5.2.2.2.2.2.2.2.2.2.2.2.2.2.2.2.2.2.2.2.2.1,(z5.2.2.2.2.2.2.2.2.2.2.2.2.2.2.2.2.2.2.2.2.2.1.1,z5.2.2.2.2.2.2.2.2.2.2.2.2.2.2.2.2.2.2.2.2.2.1.2),(z5.2.2.2.2.2.2.2.2.2.2.2.2.2.2.2.2.2.2.2.2.2.2.1.1,z5.2.2.2.2.2.2.2.2.2.2.2.2.2.2.2.2.2.2.2.2.2.2.1.2),(z5.2.2.2.2.2.2.2.2.2.2.2.2.2.2.2.2.2.2.2.2.2.2.2.1.1,z5.2.2.2.2.2.2.2.2.2.2.2.2.2.2.2.2.2.2.2.2.2.2.2.1.2),(z5.2.2.2.2.2.2.2.2.2.2.2.2.2.2.2.2.2.2.2.2.2.2.2.2.1.1,z5.2.2.2.2.2.2.2.2.2.2.2.2.2.2.2.2.2.2.2.2.2.2.2.2.1.2),())))) (
 .ret (.inr <| .inr<|(bp,cq,bX,(aH.1,aH.2),(aI.1,aI.2),(aC.1,aC.2),(aD.1,aD.2),fA,qV,fB,(eN.1,eN.2),(eO.1,eO.2),(eR.1,eR.2),(eS.1,eS.2),())))
noncomputable def RI:bK prog 61 none 5:=bu mixed vM qU [0,1,2,3,4] rfl RE RG rfl (RH) (fun x=>ag (g39_0i_0 x)) (fun x=>by kernel_rfl)
@[reducible] def agG:aG:=aG.mk [(1,.c (.ptr 0 0)),(2,.c (.ptr 1 0)),(3,.c (.ptr 2 0)),(7,.fn 81 [] [.aJ (.cons (.hole tI) (.cons (.hole tI) (.cons (.hole tI) (.cons (.fn 54 .nil (.cons (.av (.prod ay (.list .bool))) (.cons (.av (.prod ay (.list .bool))) .nil))) (.cons (.fn 55 .nil (.cons (.aJ (.cons (.fn0 38) .nil)) (.cons (.av (.prod ay (.list .bool))) (.cons (.av (.prod ay (.list .bool))) .nil)))) .nil)))))])] [(0,.cells [.hole tI,.hole tI,.hole tI,.fn 54 .nil (.cons (.av (.prod ay (.list .bool))) (.cons (.av (.prod ay (.list .bool))) .nil)),.fn 55 .nil (.cons (.aJ (.cons (.fn0 38) .nil)) (.cons (.av (.prod ay (.list .bool))) (.cons (.av (.prod ay (.list .bool))) .nil)))] false),(1,.cells [.bA] false),(2,.cells [.tf false] false)] [.slot 1,.slot 2,.slot 3] []
@[reducible] def agH:bt:=[(.ret,aG.mk [(2,.c (.ptr 0 0)),(3,.c (.ptr 1 0))] [(0,.cells [.hole tL] false),(1,.cells [.tf true] false)] [.slot 2,.slot 3] []),(.normal,aG.mk [(2,.c (.ptr 0 0)),(3,.c (.ptr 1 0))] [(0,.cells [.bA] false),(1,.cells [.tf false] false)] [.slot 2,.slot 3] [])]
noncomputable def RJ:D prog 61 none 5:=dO [.l RI] (kd prog f81) 0
theorem aa2:cN prog f81=some ⟨61,2,(RJ).er,[],[]⟩:=by kernel_rfl
noncomputable def g39_0:Int×Int×Int×((List (List Int))×List Bool)×((List (List Int))×List Bool)×((List (List Int))×List Bool)×((List (List Int))×List Bool)×Int×Int×Int×((List (List Int))×List Bool)×((List (List Int))×List Bool)×((List (List Int))×List Bool)×((List (List Int))×List Bool)×Unit->bR ((List Int×Unit) ⊕ ((Unit))):=fun (oR,Cp,lT,sJ,sK,sL,sM,bp,cq,bX,aH,aI,aC,aD,_) =>
 .bd (.it g39_0i_0 (oR,Cp,lT,(sJ.1,sJ.2),(sK.1,sK.2),(sL.1,sL.2),(sM.1,sM.2),(0:Nat),(1:Nat),oR,Cp,lT,(sJ.1,sJ.2),(sK.1,sK.2),(sL.1,sL.2),(sM.1,sM.2),(bh (.prod (.int .i64) (.int .i64)) [] (Cp,lT) true),(((Cp,lT),[])::[]),bp,cq,bX,(aH.1,aH.2),(aI.1,aI.2),(aC.1,aC.2),(aD.1,aD.2),())) fun z6 =>
 .sm z6 (fun z7 =>
 .ret (.inl<|(z7.2.2.2.2.2.2.2.1,()))) fun z8 =>
 .ret (.inr<|())
noncomputable def agI:fJ prog 15 none 0:=gR mixed vM qU [] rfl agG agH ( .t 7) [8,9] rfl (Ry).er (Rz).er 81 func81 (aa2) (ah func81 rfl rfl) 5 rfl (RJ) rfl (fun x=>ag (g39_0 x)) (fun x=>by kernel_rfl)
noncomputable def dd39:D prog 15 none 0:=dO [.r agI] (kd prog f39) 0
noncomputable def F39 (dg:Int) (sA:Int) (iu:Int) (dP:(List (List Int))×List Bool) (dQ:(List (List Int))×List Bool) (dR:(List (List Int))×List Bool) (dS:(List (List Int))×List Bool):bR (List Int×Bool×Unit) :=
 .bd (F56_v2 dg sA iu (dP.1,dP.2) (dQ.1,dQ.2) (dR.1,dR.2) (dS.1,dS.2)) fun y0 =>
 .bd (g39_0 (y0.1,y0.2.1,y0.2.2.1,(y0.2.2.2.1.1,y0.2.2.2.1.2),(y0.2.2.2.2.1.1,y0.2.2.2.2.1.2),(y0.2.2.2.2.2.1.1,y0.2.2.2.2.2.1.2),(y0.2.2.2.2.2.2.1.1,y0.2.2.2.2.2.2.1.2),dg,sA,iu,(dP.1,dP.2),(dQ.1,dQ.2),(dR.1,dR.2),(dS.1,dS.2),())) fun z9 =>
 .sm z9 (fun eU =>
 .ret (eU.1,true,())) fun mR =>
 .ret ([],false,())
theorem aa3:cN prog f39=some ⟨15,1,dd39.er,[.cell 2 false 1,.cell 3 false 1],[some tL,some .bool]⟩:=by kernel_rfl
noncomputable def ct39:Ct:=⟨39,[.agg [.hole tI,.hole tI,.hole tI,.fn 54 .nil (.cons (.av (.prod ay (.list .bool))) (.cons (.av (.prod ay (.list .bool))) .nil)),.fn 55 .nil (.cons (.aJ (.cons (.fn0 38) .nil)) (.cons (.av (.prod ay (.list .bool))) (.cons (.av (.prod ay (.list .bool))) .nil)))]],.cG [.hole tL,.hole .bool],fun x=>ag (F39 x.1 x.2.1 x.2.2.1 x.2.2.2.1 x.2.2.2.2.1 x.2.2.2.2.2.1 x.2.2.2.2.2.2.1)⟩
theorem V9:ct39.Ok prog:=bn mixed Co func39 aa3 (ah func39 rfl rfl) dd39 (by kernel_rfl) rfl (fun x=>by kernel_rfl)

/- 13 -/
noncomputable def cx13:Cx:=(aV [UX,JY,ct39] [])
theorem Wa:cx13.Ok prog:=au ⟨B5,GV,V9,trivial⟩ trivial
noncomputable def dd13:D prog 26 none 0:=dO [] (kd prog f13) 0
noncomputable def F13 (a0:(List (List Int))×List Bool) (a1:(List (List Int))×List Bool):bR (List Int×Int×Unit) :=
 .bd (F36 (a0.1,a0.2) (a1.1,a1.2)) fun y0 =>
 .br (!(y0.1==(0:Int))) (
 .ret ([],y0.1,())) (
 .bd (F37_v2 (a0.1,a0.2) (a1.1,a1.2) ((0:Int),(0:Int))) fun y1 =>
 .bd (F39 y1.1 y1.2.1 y1.2.2.1 (y1.2.2.2.1.1,y1.2.2.2.1.2) (y1.2.2.2.2.1.1,y1.2.2.2.2.1.2) (y1.2.2.2.2.2.1.1,y1.2.2.2.2.2.1.2) (y1.2.2.2.2.2.2.1.1,y1.2.2.2.2.2.2.1.2)) fun y2 =>
 .br (!y2.2.1) (
 .ret ([],(5:Int),())) (
 .ret (y2.1,(0:Int),())))
theorem aa4:cN prog f13=some ⟨26,2,dd13.er,[.t 4,.t 5],[some tL,some tI]⟩:=by kernel_rfl
noncomputable def aa5:Ct:=⟨13,[.c (.hole (.prod ay (.list .bool))),.c (.hole (.prod ay (.list .bool)))],.cG [.hole tL,.hole tI],fun x=>ag (F13 x.1 x.2.1)⟩
theorem Wb:aa5.Ok prog:=bn mixed Wa func13 aa4 (ah func13 rfl rfl) dd13 (by kernel_rfl) rfl (fun x=>by kernel_rfl)

/- 14 -/
noncomputable def aa6 (f:Nat):Option Go.AM.Fn:=match prog.funcs[f]? with|some func=>(match func.body.isSome with|true=>(match (func.name == "runtime.NumGoroutine") with|false=>cN prog func|true=>none)|false=>none)|none=>none
theorem Wc:Py prog aa6:=fun f fn h=>by
  unfold aa6 at h
  split at h<;>try (cases h;done)
  rename_i func hf
  split at h<;>try (cases h;done)
  rename_i hb
  split at h<;>try (cases h;done)
  rename_i hn
  exact ⟨func,hf,h,ah hf hb hn⟩
/-- Parts of a code. -/
def q1:Code->Code | .seq a _=>a|c=>c
def q2:Code->Code | .seq _ b=>b|c=>c
def qs:Code->Code | .scope b=>b|c=>c
def qt:Code->Operand | .cond t _ _=>t|_=>.const undef
noncomputable def XT:Code:=match f106.body with|some c=>c|none=>.skip
noncomputable def J5:Code:=qs (q2 XT)
noncomputable def EI:Code:=q2 (q2 (q2 (q2 J5)))
noncomputable def aa7:Code:=q2 (q2 (q2 (q2 EI)))
noncomputable def nE:qJ:=⟨q1 XT,[q1 J5,q1 (q2 J5),q1 (q2 (q2 J5))],[q1 EI,q1 (q2 EI),q1 (q2 (q2 EI)),q1 (q2 (q2 (q2 EI)))],q1 (q1 aa7),qt (q2 (q1 aa7)),q2 aa7⟩
noncomputable def cO (c:Code):C:=match l6 prog 109 c with|some d=>d|none=>.skip
noncomputable def agM:u9:=⟨cO nE.r0,nE.pre.map cO,nE.as.map cO,cO nE.g,(match dY nE.t with|some t=>t|none=>.t 0),cO nE.tail⟩
noncomputable def agN:Go.AM.Fn:=⟨109,2,.skip,[.t 4,.t 5],[some (.list (.int .i64)),some (.list (.int .i64))]⟩
noncomputable def aa8 (f:Nat):Option (Go.AM.Fn×u9):=match Nat.beq f 106 with|true=>some (agN,agM)|false=>none
theorem Wd:∀f fn gf,aa8 f=some (fn,gf)->IA prog f fn gf:=fun f fn gf h=>by
  unfold aa8 at h
  split at h<;>try (cases h;done)
  rename_i hf
  have e:=Nat.eq_of_beq_eq_true hf
  subst e
  cases h
  exact ⟨f106,nE,func106,ah func106 rfl rfl,by kernel_rfl,⟨by kernel_rfl,by kernel_rfl,by kernel_rfl,by kernel_rfl,by kernel_rfl,by kernel_rfl,by kernel_rfl⟩,by kernel_rfl,by decide +kernel,by kernel_rfl⟩
noncomputable def runU (kn:List (Nat×List V×V)) (f:Nat) (vs:List V) (v:V):Option Unit:=(Ln (knL kn) aa6 aa8 200 40).pc (oC (eqN Unit)) f vs (fun r=>match mL 8 r v with|true=>some ()|false=>none)
theorem sN {kn:List (Nat×List V×V)} (hk:PB prog kn) {f:Nat} {vs:List V} {v:V} (h:runU kn f vs v=some ()):dy prog f vs v:=BM mixed (FK hk) Wc Wd h
def v59:V:=.cG [.agg [.eG (.list (.int .i64)) [[1,0],[2,3],[2,2],[2,0]],.eG .bool [true,true,false,true]],.int .i64 0]
def a59:List V:=[.int .i64 2,.int .i64 0,.int .i64 2]
theorem p91:dy prog 91 [] (.bool true):=sN (kn:=[]) trivial (by kernel_rfl)
theorem p62:dy prog 62 [] (.bool true):=sN (kn:=[(91,[],.bool true)]) ⟨⟨p91,rfl⟩,trivial⟩ (by kernel_rfl)
theorem p59:dy prog 59 a59 v59:=sN (kn:=[]) trivial (by kernel_rfl)
theorem p41:dy prog 41 [] (.bool true):=sN (kn:=[(62,[],.bool true),(59,a59,v59)]) ⟨⟨p62,rfl⟩,⟨p59,rfl⟩,trivial⟩ (by kernel_rfl)
theorem p14:dy prog 14 [] (.bool true):=sN (kn:=[(41,[],.bool true)]) ⟨⟨p41,rfl⟩,trivial⟩ (by kernel_rfl)
noncomputable def F14:bR (Bool×Unit) :=
 .ret (true,())
noncomputable def aa9:Ct:=⟨14,[],.c (.hole .bool),fun x=>ag (F14)⟩
theorem We:aa9.Ok prog:=fun x y h=>by
  cases h
  exact p14

/- 3 -/
noncomputable def cx3:Cx:=(aV [ct4,ct7,aaK,aaO,aaW,aa5,aa9] []).j8 2
theorem qW:cx3.Ok prog:=Cx.OG (cx:=aV [ct4,ct7,aaK,aaO,aaW,aa5,aa9] []) (au ⟨aaE,Qo,VT,VY,V3,Wb,We,trivial⟩ trivial) 2
@[reducible] def p3_3:aG:=aG.mk [(3,.c (.pa 0 (.prod (.int .u8) (.prod (.int .u8) (.int .u8))) 3)),(7,.c (.ptr 1 0)),(10,.fn 4 [] [.ptr 1 0]),(11,.c (.ptr 2 0)),(13,hI),(14,hI),(15,.c (.cg 3 tI)),(16,.c .bA),(17,hI)] [(0,.arr (.prod (.int .u8) (.prod (.int .u8) (.int .u8))) false),(1,.cells [.cg 4 (.prod tI tL)] true),(2,.cells [.hole ay,.hole (.list .bool)] false),(3,.arr tI false),(4,.arr (.prod tI tL) true)] [.slot 3,.slot 7,.slot 11,.slot 15,.cell 1 0] []
@[reducible] def x3_3:bt:=[(.exit 6,aG.mk [(3,.c (.pa 0 (.prod (.int .u8) (.prod (.int .u8) (.int .u8))) 3)),(7,.c (.ptr 1 0)),(10,.fn 4 [] [.ptr 1 0]),(11,.c (.ptr 2 0)),(13,hI),(14,hI),(15,.c (.cg 3 tI)),(16,.c .bA)] [(0,.arr (.prod (.int .u8) (.prod (.int .u8) (.int .u8))) false),(1,.cells [.cg 4 (.prod tI tL)] true),(2,.cells [.hole ay,.hole (.list .bool)] false),(3,.arr tI false),(4,.arr (.prod tI tL) true)] [.slot 3,.slot 7,.slot 11,.slot 15,.cell 1 0] [])]
noncomputable def b3_3:D prog 178 none 0:=dO [] (pick (kd prog f3) [(1,false),(0,false),(0,false)]) 0
noncomputable def g3_3:Int×Int×Nat×Int×(List (Int×Int×Int))×Nat×List (List Int)×List Bool×List Int×(List (Int×List Int))×Unit->bR ((Int×Int×Nat×Int×(List (Int×Int×Int))×Nat×List (List Int)×List Bool×List Int×(List (Int×List Int))×Unit) ⊕ ((Int×Int×Nat×(List (Int×Int×Int))×Nat×List (List Int)×List Bool×List Int×(List (Int×List Int))×Unit))):=fun (E2,Nl,Cq,Sr,b0,gh,dV,gi,b3,b4,_) =>
 .br (decide (Sr<E2)) (
 .nb Sr (64:Int) <|
 .nd (decide ((Cq+((((((bW.bits Go.AM.fD.and Go.IntKind.i64 (bW.shr Nl Sr) (1:Int))::[])).drop (0:Nat)).take (1:Nat))).length)<cz)) <|
 .ni (Sr+(1:Int)) <|
 .ret (.inl (E2,Nl,(Cq+((((((bW.bits Go.AM.fD.and Go.IntKind.i64 (bW.shr Nl Sr) (1:Int))::[])).drop (0:Nat)).take (1:Nat))).length),(Sr+(1:Int)),b0,gh,dV,gi,((((b3).drop (0:Nat)).take Cq)++(((((bW.bits Go.AM.fD.and Go.IntKind.i64 (bW.shr Nl Sr) (1:Int))::[])).drop (0:Nat)).take (1:Nat))),b4,()))) (
 .ret (.inr (E2,Nl,Cq,b0,gh,dV,gi,b3,b4,())))
noncomputable def L3_3:bK prog 178 none 0:=bu mixed cx3 qW [] rfl p3_3 x3_3 rfl (b3_3) (fun x=>ag (g3_3 x)) (fun x=>by kernel_rfl)
@[reducible] def p3_4:aG:=aG.mk [(3,.c (.pa 0 (.prod (.int .u8) (.prod (.int .u8) (.int .u8))) 3)),(7,.c (.ptr 1 0)),(10,.fn 4 [] [.ptr 1 0]),(11,.c (.ptr 2 0)),(13,hI),(14,hI),(15,.c (.cg 3 tI)),(16,.c (.cg 4 tI)),(90,hI)] [(0,.arr (.prod (.int .u8) (.prod (.int .u8) (.int .u8))) false),(1,.cells [.cg 5 (.prod tI tL)] true),(2,.cells [.hole ay,.hole (.list .bool)] false),(3,.arr tI false),(4,.arr tI false),(5,.arr (.prod tI tL) true)] [.slot 3,.slot 7,.slot 11,.slot 15,.slot 16,.cell 1 0] []
@[reducible] def x3_4:bt:=[(.ret,aG.mk [(6,.c (.tf false))] [] [] []),(.exit 8,aG.mk [(3,.c (.pa 0 (.prod (.int .u8) (.prod (.int .u8) (.int .u8))) 3)),(7,.c (.ptr 1 0)),(10,.fn 4 [] [.ptr 1 0]),(11,.c (.ptr 2 0)),(13,hI),(14,hI),(15,.c (.cg 3 tI)),(16,.c (.cg 4 tI))] [(0,.arr (.prod (.int .u8) (.prod (.int .u8) (.int .u8))) false),(1,.cells [.cg 5 (.prod tI tL)] true),(2,.cells [.hole ay,.hole (.list .bool)] false),(3,.arr tI false),(4,.arr tI false),(5,.arr (.prod tI tL) true)] [.slot 3,.slot 7,.slot 11,.slot 15,.slot 16,.cell 1 0] [])]
noncomputable def b3_4:D prog 178 none 0:=dO [] (pick (kd prog f3) [(1,false),(0,false),(1,false)]) 0
noncomputable def g3_4:Int×Int×Nat×Nat×Int×(List (Int×Int×Int))×Nat×List (List Int)×List Bool×List Int×List Int×(List (Int×List Int))×Unit->bR ((Int×Int×Nat×Nat×Int×(List (Int×Int×Int))×Nat×List (List Int)×List Bool×List Int×List Int×(List (Int×List Int))×Unit) ⊕ ((Unit) ⊕ ((Int×Int×Nat×Nat×(List (Int×Int×Int))×Nat×List (List Int)×List Bool×List Int×List Int×(List (Int×List Int))×Unit)))):=fun (E2,Nl,Cq,RK,MN,b0,gh,dV,gi,b3,b4,b5,_) =>
 .br (decide (MN<(3:Int))) (
 .nb MN (3:Int) <|
 .nd (decide ((Int.toNat MN)<(b0).length)) <|
 .bd (F7 (((b0).getD (Int.toNat MN) ((0:Int),(0:Int),(0:Int))).1,((b0).getD (Int.toNat MN) ((0:Int),(0:Int),(0:Int))).2.1,((b0).getD (Int.toNat MN) ((0:Int),(0:Int),(0:Int))).2.2)) fun y2 =>
 .bd (F10 (y2.1.1,y2.1.2) (((b3).drop (0:Nat)).take Cq)) fun y3 =>
 .br (!(y3.2.1==(0:Int))) (
 .ret (.inr <| .inl<|())) (
 .br y3.1 (
 .nd (decide ((RK+(((((MN::[])).drop (0:Nat)).take (1:Nat))).length)<cz)) <|
 .ni (MN+(1:Int)) <|
 .ret (.inl (E2,Nl,Cq,(RK+(((((MN::[])).drop (0:Nat)).take (1:Nat))).length),(MN+(1:Int)),b0,gh,dV,gi,b3,((((b4).drop (0:Nat)).take RK)++((((MN::[])).drop (0:Nat)).take (1:Nat))),b5,()))) (
 .ni (MN+(1:Int)) <|
 .ret (.inl (E2,Nl,Cq,RK,(MN+(1:Int)),b0,gh,dV,gi,b3,b4,b5,()))))) (
 .ret (.inr <| .inr<|(E2,Nl,Cq,RK,b0,gh,dV,gi,b3,b4,b5,())))
noncomputable def L3_4:bK prog 178 none 0:=bu mixed cx3 qW [] rfl p3_4 x3_4 rfl (b3_4) (fun x=>ag (g3_4 x)) (fun x=>by kernel_rfl)
@[reducible] def p3_2:aG:=aG.mk [(3,.c (.pa 0 (.prod (.int .u8) (.prod (.int .u8) (.int .u8))) 3)),(7,.c (.ptr 1 0)),(10,.fn 4 [] [.ptr 1 0]),(11,.c (.ptr 2 0)),(13,hI),(14,hI)] [(0,.arr (.prod (.int .u8) (.prod (.int .u8) (.int .u8))) false),(1,.cells [.cg 3 (.prod tI tL)] true),(2,.cells [.hole ay,.hole (.list .bool)] false),(3,.arr (.prod tI tL) true)] [.slot 3,.slot 7,.slot 11,.cell 1 0] []
@[reducible] def x3_2:bt:=[(.ret,aG.mk [(6,.c (.tf false))] [] [] []),(.exit 4,aG.mk [(3,.c (.pa 0 (.prod (.int .u8) (.prod (.int .u8) (.int .u8))) 3)),(7,.c (.ptr 1 0)),(10,.fn 4 [] [.ptr 1 0]),(11,.c (.ptr 2 0)),(13,hI)] [(0,.arr (.prod (.int .u8) (.prod (.int .u8) (.int .u8))) false),(1,.cells [.cg 3 (.prod tI tL)] true),(2,.cells [.hole ay,.hole (.list .bool)] false),(3,.arr (.prod tI tL) true)] [.slot 3,.slot 7,.slot 11,.cell 1 0] [])]
noncomputable def b3_2:D prog 178 none 0:=dO [.l L3_3,.l L3_4] (pick (kd prog f3) [(1,false),(0,false)]) 0
noncomputable def g3_2:Int×Int×(List (Int×Int×Int))×Nat×List (List Int)×List Bool×(List (Int×List Int))×Unit->bR ((Int×Int×(List (Int×Int×Int))×Nat×List (List Int)×List Bool×(List (Int×List Int))×Unit) ⊕ ((Unit) ⊕ ((Int×(List (Int×Int×Int))×Nat×List (List Int)×List Bool×(List (Int×List Int))×Unit)))):=fun (E2,Nl,b0,gh,dV,gi,b3,_) =>
 .nb E2 (64:Int) <|
 .ni (bW.shl (1:Int) E2) <|
 .br (decide (Nl<(bW.shl (1:Int) E2))) (
 .bd (.it g3_3 (E2,Nl,(0:Nat),(0:Int),b0,gh,dV,gi,[],b3,())) fun z1 =>
 .bd (.it g3_4 (z1.1,z1.2.1,z1.2.2.1,(0:Nat),(0:Int),z1.2.2.2.1,z1.2.2.2.2.1,z1.2.2.2.2.2.1,z1.2.2.2.2.2.2.1,z1.2.2.2.2.2.2.2.1,[],z1.2.2.2.2.2.2.2.2.1,())) fun z4 =>
 .sm z4 (fun z5 =>
 .ret (.inr <| .inl<|())) fun z6 =>
 .bd (F11 (((z6.2.2.2.2.2.2.2.2.2.2.1).drop (0:Nat)).take z6.2.2.2.2.2.1) (((z6.2.2.2.2.2.2.2.2.2.1).drop (0:Nat)).take z6.2.2.2.1)) fun y7 =>
 .bd (F10 (z6.2.2.2.2.2.2.1,z6.2.2.2.2.2.2.2.1) (((z6.2.2.2.2.2.2.2.2.1).drop (0:Nat)).take z6.2.2.1)) fun y8 =>
 .br (!(y7.2.1==(0:Int))) (
 .ret (.inr <| .inl<|())) (
 .br (!(y8.2.1==(0:Int))) (
 .ret (.inr <| .inl<|())) (
 .br (!(y7.1==y8.1)) (
 .ret (.inr <| .inl<|())) (
 .ni (z6.2.1+(1:Int)) <|
 .ret (.inl (z6.1,(z6.2.1+(1:Int)),z6.2.2.2.2.1,z6.2.2.2.2.2.1,z6.2.2.2.2.2.2.1,z6.2.2.2.2.2.2.2.1,z6.2.2.2.2.2.2.2.2.2.2.1,())))))) (
 .ret (.inr <| .inr<|(E2,b0,gh,dV,gi,b3,())))
noncomputable def L3_2:bK prog 178 none 0:=bu mixed cx3 qW [] rfl p3_2 x3_2 rfl (b3_2) (fun x=>ag (g3_2 x)) (fun x=>by kernel_rfl)
@[reducible] def p3_1:aG:=aG.mk [(3,.c (.pa 0 (.prod (.int .u8) (.prod (.int .u8) (.int .u8))) 3)),(7,.c (.ptr 1 0)),(10,.fn 4 [] [.ptr 1 0]),(11,.c (.ptr 2 0)),(13,hI)] [(0,.arr (.prod (.int .u8) (.prod (.int .u8) (.int .u8))) false),(1,.cells [.cg 3 (.prod tI tL)] true),(2,.cells [.hole ay,.hole (.list .bool)] false),(3,.arr (.prod tI tL) true)] [.slot 3,.slot 7,.slot 11,.cell 1 0] []
@[reducible] def x3_1:bt:=[(.ret,aG.mk [(6,.c (.tf false))] [] [] []),(.exit 2,aG.mk [(3,.c (.pa 0 (.prod (.int .u8) (.prod (.int .u8) (.int .u8))) 3)),(7,.c (.ptr 1 0)),(10,.fn 4 [] [.ptr 1 0]),(11,.c (.ptr 2 0))] [(0,.arr (.prod (.int .u8) (.prod (.int .u8) (.int .u8))) false),(1,.cells [.cg 3 (.prod tI tL)] true),(2,.cells [.hole ay,.hole (.list .bool)] false),(3,.arr (.prod tI tL) true)] [.slot 3,.slot 7,.slot 11,.cell 1 0] [])]
noncomputable def b3_1:D prog 178 none 0:=dO [.l L3_2] (pick (kd prog f3) [(1,false)]) 0
noncomputable def g3_1:Int×(List (Int×Int×Int))×Nat×List (List Int)×List Bool×(List (Int×List Int))×Unit->bR ((Int×(List (Int×Int×Int))×Nat×List (List Int)×List Bool×(List (Int×List Int))×Unit) ⊕ ((Unit) ⊕ (((List (Int×Int×Int))×Nat×List (List Int)×List Bool×(List (Int×List Int))×Unit)))):=fun (E2,b0,gh,dV,gi,b3,_) =>
 .br (decide (E2<(7:Int))) (
 .bd (.it g3_2 (E2,(0:Int),b0,gh,dV,gi,b3,())) fun z9 =>
 .sm z9 (fun eU =>
 .ret (.inr <| .inl<|())) fun mR =>
 .ni (mR.1+(1:Int)) <|
 .ret (.inl ((mR.1+(1:Int)),mR.2.1,mR.2.2.1,mR.2.2.2.1,mR.2.2.2.2.1,mR.2.2.2.2.2.1,()))) (
 .ret (.inr <| .inr<|(b0,gh,dV,gi,b3,())))
noncomputable def L3_1:bK prog 178 none 0:=bu mixed cx3 qW [] rfl p3_1 x3_1 rfl (b3_1) (fun x=>ag (g3_1 x)) (fun x=>by kernel_rfl)
@[reducible] def p3_5:aG:=aG.mk [(3,.c (.pa 0 (.prod (.int .u8) (.prod (.int .u8) (.int .u8))) 3)),(10,.fn 4 [] [.ptr 1 0]),(11,.c (.ptr 2 0)),(25,hL),(145,hI)] [(0,.arr (.prod (.int .u8) (.prod (.int .u8) (.int .u8))) false),(1,.cells [.cg 3 (.prod tI tL)] true),(2,.cells [.hole ay,.hole (.list .bool)] false),(3,.arr (.prod tI tL) true)] [.slot 3,.part 10 0,.slot 11,.cell 1 0] []
@[reducible] def x3_5:bt:=[(.ret,aG.mk [(6,.c (.tf false))] [] [] []),(.exit 10,aG.mk [] [] [] [])]
noncomputable def b3_5:D prog 178 none 0:=dO [] (pick (kd prog f3) [(2,false)]) 0
noncomputable def g3_5:List Int×Int×(List (Int×Int×Int))×Nat×List (List Int)×List Bool×(List (Int×List Int))×Unit->bR ((List Int×Int×(List (Int×Int×Int))×Nat×List (List Int)×List Bool×(List (Int×List Int))×Unit) ⊕ ((Unit) ⊕ ((Unit)))):=fun (Sq,nN,b0,gh,dV,gi,b3,_) =>
 .br (decide (nN<(3:Int))) (
 .nb nN (((Sq).length:Nat):Int) <|
 .br ((bW.bits Go.AM.fD.and Go.IntKind.i64 ((Sq).getD (Int.toNat nN) (0:Int)) (1:Int))==(0:Int)) (
 .ni (nN+(1:Int)) <|
 .ret (.inl (Sq,(nN+(1:Int)),b0,gh,dV,gi,b3,()))) (
 .nb nN (3:Int) <|
 .nd (decide ((Int.toNat nN)<(((((b0).getD (0:Nat) ((0:Int),(0:Int),(0:Int))).1,((b0).getD (0:Nat) ((0:Int),(0:Int),(0:Int))).2.1,((b0).getD (0:Nat) ((0:Int),(0:Int),(0:Int))).2.2)::((((b0).getD (1:Nat) ((0:Int),(0:Int),(0:Int))).1,((b0).getD (1:Nat) ((0:Int),(0:Int),(0:Int))).2.1,((b0).getD (1:Nat) ((0:Int),(0:Int),(0:Int))).2.2)::((((b0).getD (2:Nat) ((0:Int),(0:Int),(0:Int))).1,((b0).getD (2:Nat) ((0:Int),(0:Int),(0:Int))).2.1,((b0).getD (2:Nat) ((0:Int),(0:Int),(0:Int))).2.2)::[])))).length)) <|
 .bd (F4 (((((((((b0).getD (0:Nat) ((0:Int),(0:Int),(0:Int))).1,((b0).getD (0:Nat) ((0:Int),(0:Int),(0:Int))).2.1,((b0).getD (0:Nat) ((0:Int),(0:Int),(0:Int))).2.2)::((((b0).getD (1:Nat) ((0:Int),(0:Int),(0:Int))).1,((b0).getD (1:Nat) ((0:Int),(0:Int),(0:Int))).2.1,((b0).getD (1:Nat) ((0:Int),(0:Int),(0:Int))).2.2)::((((b0).getD (2:Nat) ((0:Int),(0:Int),(0:Int))).1,((b0).getD (2:Nat) ((0:Int),(0:Int),(0:Int))).2.1,((b0).getD (2:Nat) ((0:Int),(0:Int),(0:Int))).2.2)::[])))).set (Int.toNat nN) ((101:Int),(0:Int),(7:Int)))).getD (0:Nat) ((0:Int),(0:Int),(0:Int))).1,((((((((b0).getD (0:Nat) ((0:Int),(0:Int),(0:Int))).1,((b0).getD (0:Nat) ((0:Int),(0:Int),(0:Int))).2.1,((b0).getD (0:Nat) ((0:Int),(0:Int),(0:Int))).2.2)::((((b0).getD (1:Nat) ((0:Int),(0:Int),(0:Int))).1,((b0).getD (1:Nat) ((0:Int),(0:Int),(0:Int))).2.1,((b0).getD (1:Nat) ((0:Int),(0:Int),(0:Int))).2.2)::((((b0).getD (2:Nat) ((0:Int),(0:Int),(0:Int))).1,((b0).getD (2:Nat) ((0:Int),(0:Int),(0:Int))).2.1,((b0).getD (2:Nat) ((0:Int),(0:Int),(0:Int))).2.2)::[])))).set (Int.toNat nN) ((101:Int),(0:Int),(7:Int)))).getD (0:Nat) ((0:Int),(0:Int),(0:Int))).2.1,((((((((b0).getD (0:Nat) ((0:Int),(0:Int),(0:Int))).1,((b0).getD (0:Nat) ((0:Int),(0:Int),(0:Int))).2.1,((b0).getD (0:Nat) ((0:Int),(0:Int),(0:Int))).2.2)::((((b0).getD (1:Nat) ((0:Int),(0:Int),(0:Int))).1,((b0).getD (1:Nat) ((0:Int),(0:Int),(0:Int))).2.1,((b0).getD (1:Nat) ((0:Int),(0:Int),(0:Int))).2.2)::((((b0).getD (2:Nat) ((0:Int),(0:Int),(0:Int))).1,((b0).getD (2:Nat) ((0:Int),(0:Int),(0:Int))).2.1,((b0).getD (2:Nat) ((0:Int),(0:Int),(0:Int))).2.2)::[])))).set (Int.toNat nN) ((101:Int),(0:Int),(7:Int)))).getD (0:Nat) ((0:Int),(0:Int),(0:Int))).2.2,((((((((b0).getD (0:Nat) ((0:Int),(0:Int),(0:Int))).1,((b0).getD (0:Nat) ((0:Int),(0:Int),(0:Int))).2.1,((b0).getD (0:Nat) ((0:Int),(0:Int),(0:Int))).2.2)::((((b0).getD (1:Nat) ((0:Int),(0:Int),(0:Int))).1,((b0).getD (1:Nat) ((0:Int),(0:Int),(0:Int))).2.1,((b0).getD (1:Nat) ((0:Int),(0:Int),(0:Int))).2.2)::((((b0).getD (2:Nat) ((0:Int),(0:Int),(0:Int))).1,((b0).getD (2:Nat) ((0:Int),(0:Int),(0:Int))).2.1,((b0).getD (2:Nat) ((0:Int),(0:Int),(0:Int))).2.2)::[])))).set (Int.toNat nN) ((101:Int),(0:Int),(7:Int)))).getD (1:Nat) ((0:Int),(0:Int),(0:Int))).1,((((((((b0).getD (0:Nat) ((0:Int),(0:Int),(0:Int))).1,((b0).getD (0:Nat) ((0:Int),(0:Int),(0:Int))).2.1,((b0).getD (0:Nat) ((0:Int),(0:Int),(0:Int))).2.2)::((((b0).getD (1:Nat) ((0:Int),(0:Int),(0:Int))).1,((b0).getD (1:Nat) ((0:Int),(0:Int),(0:Int))).2.1,((b0).getD (1:Nat) ((0:Int),(0:Int),(0:Int))).2.2)::((((b0).getD (2:Nat) ((0:Int),(0:Int),(0:Int))).1,((b0).getD (2:Nat) ((0:Int),(0:Int),(0:Int))).2.1,((b0).getD (2:Nat) ((0:Int),(0:Int),(0:Int))).2.2)::[])))).set (Int.toNat nN) ((101:Int),(0:Int),(7:Int)))).getD (1:Nat) ((0:Int),(0:Int),(0:Int))).2.1,((((((((b0).getD (0:Nat) ((0:Int),(0:Int),(0:Int))).1,((b0).getD (0:Nat) ((0:Int),(0:Int),(0:Int))).2.1,((b0).getD (0:Nat) ((0:Int),(0:Int),(0:Int))).2.2)::((((b0).getD (1:Nat) ((0:Int),(0:Int),(0:Int))).1,((b0).getD (1:Nat) ((0:Int),(0:Int),(0:Int))).2.1,((b0).getD (1:Nat) ((0:Int),(0:Int),(0:Int))).2.2)::((((b0).getD (2:Nat) ((0:Int),(0:Int),(0:Int))).1,((b0).getD (2:Nat) ((0:Int),(0:Int),(0:Int))).2.1,((b0).getD (2:Nat) ((0:Int),(0:Int),(0:Int))).2.2)::[])))).set (Int.toNat nN) ((101:Int),(0:Int),(7:Int)))).getD (1:Nat) ((0:Int),(0:Int),(0:Int))).2.2,((((((((b0).getD (0:Nat) ((0:Int),(0:Int),(0:Int))).1,((b0).getD (0:Nat) ((0:Int),(0:Int),(0:Int))).2.1,((b0).getD (0:Nat) ((0:Int),(0:Int),(0:Int))).2.2)::((((b0).getD (1:Nat) ((0:Int),(0:Int),(0:Int))).1,((b0).getD (1:Nat) ((0:Int),(0:Int),(0:Int))).2.1,((b0).getD (1:Nat) ((0:Int),(0:Int),(0:Int))).2.2)::((((b0).getD (2:Nat) ((0:Int),(0:Int),(0:Int))).1,((b0).getD (2:Nat) ((0:Int),(0:Int),(0:Int))).2.1,((b0).getD (2:Nat) ((0:Int),(0:Int),(0:Int))).2.2)::[])))).set (Int.toNat nN) ((101:Int),(0:Int),(7:Int)))).getD (2:Nat) ((0:Int),(0:Int),(0:Int))).1,((((((((b0).getD (0:Nat) ((0:Int),(0:Int),(0:Int))).1,((b0).getD (0:Nat) ((0:Int),(0:Int),(0:Int))).2.1,((b0).getD (0:Nat) ((0:Int),(0:Int),(0:Int))).2.2)::((((b0).getD (1:Nat) ((0:Int),(0:Int),(0:Int))).1,((b0).getD (1:Nat) ((0:Int),(0:Int),(0:Int))).2.1,((b0).getD (1:Nat) ((0:Int),(0:Int),(0:Int))).2.2)::((((b0).getD (2:Nat) ((0:Int),(0:Int),(0:Int))).1,((b0).getD (2:Nat) ((0:Int),(0:Int),(0:Int))).2.1,((b0).getD (2:Nat) ((0:Int),(0:Int),(0:Int))).2.2)::[])))).set (Int.toNat nN) ((101:Int),(0:Int),(7:Int)))).getD (2:Nat) ((0:Int),(0:Int),(0:Int))).2.1,((((((((b0).getD (0:Nat) ((0:Int),(0:Int),(0:Int))).1,((b0).getD (0:Nat) ((0:Int),(0:Int),(0:Int))).2.1,((b0).getD (0:Nat) ((0:Int),(0:Int),(0:Int))).2.2)::((((b0).getD (1:Nat) ((0:Int),(0:Int),(0:Int))).1,((b0).getD (1:Nat) ((0:Int),(0:Int),(0:Int))).2.1,((b0).getD (1:Nat) ((0:Int),(0:Int),(0:Int))).2.2)::((((b0).getD (2:Nat) ((0:Int),(0:Int),(0:Int))).1,((b0).getD (2:Nat) ((0:Int),(0:Int),(0:Int))).2.1,((b0).getD (2:Nat) ((0:Int),(0:Int),(0:Int))).2.2)::[])))).set (Int.toNat nN) ((101:Int),(0:Int),(7:Int)))).getD (2:Nat) ((0:Int),(0:Int),(0:Int))).2.2) (((b3).drop (0:Nat)).take gh)) fun y16 =>
 .bd (F13 (dV,gi) (y16.1.1,y16.1.2)) fun y17 =>
 .br (!y16.2.1) (
 .ret (.inr <| .inl<|())) (
 .br (!(y17.2.1==(5:Int))) (
 .ret (.inr <| .inl<|())) (
 .ni (nN+(1:Int)) <|
 .ret (.inl (Sq,(nN+(1:Int)),b0,gh,dV,gi,b3,())))))) (
 .ret (.inr <| .inr<|()))
noncomputable def L3_5:bK prog 178 none 0:=bu mixed cx3 qW [] rfl p3_5 x3_5 rfl (b3_5) (fun x=>ag (g3_5 x)) (fun x=>by kernel_rfl)
noncomputable def b3_0:D prog 178 none 0:=dO [] (pick (kd prog f3) [(0,false)]) 0
noncomputable def L3_0:bK prog 178 none 0:=adJ mixed cx3 qW (b3_0) 4
noncomputable def dd3:D prog 178 none 0:=dO [.l L3_0,.l L3_1,.l L3_5] (kd prog f3) 0
noncomputable def F3 (a0:(Int×Int×Int)×(Int×Int×Int)×Int×Int×Int) (a1:Int×Int×Int) (a2:Int):bR (Bool×Unit) :=
 .ni a2 <|
 .nd (!((9:Int)==(0:Int))) <|
 .ni ((1:Int)+(Int.tmod a2 (9:Int))) <|
 .br (decide ((0:Int)<(3:Int))) (
 .nb (0:Int) (3:Int) <|
 .nb (0:Int) (1:Int) <|
 .nd (((((0:Nat)+(Int.toNat (0:Int))):Nat):Int)==(0:Int)) <|
 .ni ((((((a1.1::(a1.2.1::(a1.2.2::[])))).getD (0:Nat) (0:Int))::((((a1.1::(a1.2.1::(a1.2.2::[])))).getD (1:Nat) (0:Int))::((((a1.1::(a1.2.1::(a1.2.2::[])))).getD (2:Nat) (0:Int))::[])))).getD (Int.toNat (0:Int)) (0:Int)) <|
 .nd (!((5:Int)==(0:Int))) <|
 .nd (decide (((((((Int.tmod ((((((a1.1::(a1.2.1::(a1.2.2::[])))).getD (0:Nat) (0:Int))::((((a1.1::(a1.2.1::(a1.2.2::[])))).getD (1:Nat) (0:Int))::((((a1.1::(a1.2.1::(a1.2.2::[])))).getD (2:Nat) (0:Int))::[])))).getD (Int.toNat (0:Int)) (0:Int)) (5:Int))::[])).drop (0:Nat)).take (1:Nat))).length<cz)) <|
 .nb (0:Int) (1:Int) <|
 .nd (((((0:Nat)+(Int.toNat (0:Int))):Nat):Int)==(0:Int)) <|
 .ni ((0:Int)+(1:Int)) <|
 .br (decide ((1:Int)<(3:Int))) (
 .nb (1:Int) (3:Int) <|
 .nb (0:Int) (1:Int) <|
 .nd (((((0:Nat)+(Int.toNat (0:Int))):Nat):Int)==(0:Int)) <|
 .ni ((((((a1.1::(a1.2.1::(a1.2.2::[])))).getD (0:Nat) (0:Int))::((((a1.1::(a1.2.1::(a1.2.2::[])))).getD (1:Nat) (0:Int))::((((a1.1::(a1.2.1::(a1.2.2::[])))).getD (2:Nat) (0:Int))::[])))).getD (Int.toNat (1:Int)) (0:Int)) <|
 .nd (!((5:Int)==(0:Int))) <|
 .nd (decide ((((((((Int.tmod ((((((a1.1::(a1.2.1::(a1.2.2::[])))).getD (0:Nat) (0:Int))::((((a1.1::(a1.2.1::(a1.2.2::[])))).getD (1:Nat) (0:Int))::((((a1.1::(a1.2.1::(a1.2.2::[])))).getD (2:Nat) (0:Int))::[])))).getD (Int.toNat (0:Int)) (0:Int)) (5:Int))::[])).drop (0:Nat)).take (1:Nat))).length+((((((Int.tmod ((((((a1.1::(a1.2.1::(a1.2.2::[])))).getD (0:Nat) (0:Int))::((((a1.1::(a1.2.1::(a1.2.2::[])))).getD (1:Nat) (0:Int))::((((a1.1::(a1.2.1::(a1.2.2::[])))).getD (2:Nat) (0:Int))::[])))).getD (Int.toNat (1:Int)) (0:Int)) (5:Int))::[])).drop (0:Nat)).take (1:Nat))).length)<cz)) <|
 .nb (0:Int) (1:Int) <|
 .nd (((((0:Nat)+(Int.toNat (0:Int))):Nat):Int)==(0:Int)) <|
 .ni ((1:Int)+(1:Int)) <|
 .br (decide ((2:Int)<(3:Int))) (
 .nb (2:Int) (3:Int) <|
 .nb (0:Int) (1:Int) <|
 .nd (((((0:Nat)+(Int.toNat (0:Int))):Nat):Int)==(0:Int)) <|
 .ni ((((((a1.1::(a1.2.1::(a1.2.2::[])))).getD (0:Nat) (0:Int))::((((a1.1::(a1.2.1::(a1.2.2::[])))).getD (1:Nat) (0:Int))::((((a1.1::(a1.2.1::(a1.2.2::[])))).getD (2:Nat) (0:Int))::[])))).getD (Int.toNat (2:Int)) (0:Int)) <|
 .nd (!((5:Int)==(0:Int))) <|
 .nd (decide (((((((((Int.tmod ((((((a1.1::(a1.2.1::(a1.2.2::[])))).getD (0:Nat) (0:Int))::((((a1.1::(a1.2.1::(a1.2.2::[])))).getD (1:Nat) (0:Int))::((((a1.1::(a1.2.1::(a1.2.2::[])))).getD (2:Nat) (0:Int))::[])))).getD (Int.toNat (0:Int)) (0:Int)) (5:Int))::[])).drop (0:Nat)).take (1:Nat))).length+((((((Int.tmod ((((((a1.1::(a1.2.1::(a1.2.2::[])))).getD (0:Nat) (0:Int))::((((a1.1::(a1.2.1::(a1.2.2::[])))).getD (1:Nat) (0:Int))::((((a1.1::(a1.2.1::(a1.2.2::[])))).getD (2:Nat) (0:Int))::[])))).getD (Int.toNat (1:Int)) (0:Int)) (5:Int))::[])).drop (0:Nat)).take (1:Nat))).length)+((((((Int.tmod ((((((a1.1::(a1.2.1::(a1.2.2::[])))).getD (0:Nat) (0:Int))::((((a1.1::(a1.2.1::(a1.2.2::[])))).getD (1:Nat) (0:Int))::((((a1.1::(a1.2.1::(a1.2.2::[])))).getD (2:Nat) (0:Int))::[])))).getD (Int.toNat (2:Int)) (0:Int)) (5:Int))::[])).drop (0:Nat)).take (1:Nat))).length)<cz)) <|
 .nb (0:Int) (1:Int) <|
 .nd (((((0:Nat)+(Int.toNat (0:Int))):Nat):Int)==(0:Int)) <|
 .ni ((2:Int)+(1:Int)) <|
 .br (decide ((3:Int)<(3:Int))) (
 .nb (3:Int) (3:Int) <|
 .nb (0:Int) (1:Int) <|
 .nd (((((0:Nat)+(Int.toNat (0:Int))):Nat):Int)==(0:Int)) <|
 .ni ((((((a1.1::(a1.2.1::(a1.2.2::[])))).getD (0:Nat) (0:Int))::((((a1.1::(a1.2.1::(a1.2.2::[])))).getD (1:Nat) (0:Int))::((((a1.1::(a1.2.1::(a1.2.2::[])))).getD (2:Nat) (0:Int))::[])))).getD (Int.toNat (3:Int)) (0:Int)) <|
 .nd (!((5:Int)==(0:Int))) <|
 .nd (decide ((((((((((Int.tmod ((((((a1.1::(a1.2.1::(a1.2.2::[])))).getD (0:Nat) (0:Int))::((((a1.1::(a1.2.1::(a1.2.2::[])))).getD (1:Nat) (0:Int))::((((a1.1::(a1.2.1::(a1.2.2::[])))).getD (2:Nat) (0:Int))::[])))).getD (Int.toNat (0:Int)) (0:Int)) (5:Int))::[])).drop (0:Nat)).take (1:Nat))).length+((((((Int.tmod ((((((a1.1::(a1.2.1::(a1.2.2::[])))).getD (0:Nat) (0:Int))::((((a1.1::(a1.2.1::(a1.2.2::[])))).getD (1:Nat) (0:Int))::((((a1.1::(a1.2.1::(a1.2.2::[])))).getD (2:Nat) (0:Int))::[])))).getD (Int.toNat (1:Int)) (0:Int)) (5:Int))::[])).drop (0:Nat)).take (1:Nat))).length)+((((((Int.tmod ((((((a1.1::(a1.2.1::(a1.2.2::[])))).getD (0:Nat) (0:Int))::((((a1.1::(a1.2.1::(a1.2.2::[])))).getD (1:Nat) (0:Int))::((((a1.1::(a1.2.1::(a1.2.2::[])))).getD (2:Nat) (0:Int))::[])))).getD (Int.toNat (2:Int)) (0:Int)) (5:Int))::[])).drop (0:Nat)).take (1:Nat))).length)+((((((Int.tmod ((((((a1.1::(a1.2.1::(a1.2.2::[])))).getD (0:Nat) (0:Int))::((((a1.1::(a1.2.1::(a1.2.2::[])))).getD (1:Nat) (0:Int))::((((a1.1::(a1.2.1::(a1.2.2::[])))).getD (2:Nat) (0:Int))::[])))).getD (Int.toNat (3:Int)) (0:Int)) (5:Int))::[])).drop (0:Nat)).take (1:Nat))).length)<cz)) <|
 .nb (0:Int) (1:Int) <|
 .nd (((((0:Nat)+(Int.toNat (0:Int))):Nat):Int)==(0:Int)) <|
 .ni ((3:Int)+(1:Int)) <|
 .no) (
 .bd (F4 (((((a0.1.1,a0.1.2.1,a0.1.2.2)::((a0.2.1.1,a0.2.1.2.1,a0.2.1.2.2)::((a0.2.2.1,a0.2.2.2.1,a0.2.2.2.2)::[])))).getD (0:Nat) ((0:Int),(0:Int),(0:Int))).1,((((a0.1.1,a0.1.2.1,a0.1.2.2)::((a0.2.1.1,a0.2.1.2.1,a0.2.1.2.2)::((a0.2.2.1,a0.2.2.2.1,a0.2.2.2.2)::[])))).getD (0:Nat) ((0:Int),(0:Int),(0:Int))).2.1,((((a0.1.1,a0.1.2.1,a0.1.2.2)::((a0.2.1.1,a0.2.1.2.1,a0.2.1.2.2)::((a0.2.2.1,a0.2.2.2.1,a0.2.2.2.2)::[])))).getD (0:Nat) ((0:Int),(0:Int),(0:Int))).2.2,((((a0.1.1,a0.1.2.1,a0.1.2.2)::((a0.2.1.1,a0.2.1.2.1,a0.2.1.2.2)::((a0.2.2.1,a0.2.2.2.1,a0.2.2.2.2)::[])))).getD (1:Nat) ((0:Int),(0:Int),(0:Int))).1,((((a0.1.1,a0.1.2.1,a0.1.2.2)::((a0.2.1.1,a0.2.1.2.1,a0.2.1.2.2)::((a0.2.2.1,a0.2.2.2.1,a0.2.2.2.2)::[])))).getD (1:Nat) ((0:Int),(0:Int),(0:Int))).2.1,((((a0.1.1,a0.1.2.1,a0.1.2.2)::((a0.2.1.1,a0.2.1.2.1,a0.2.1.2.2)::((a0.2.2.1,a0.2.2.2.1,a0.2.2.2.2)::[])))).getD (1:Nat) ((0:Int),(0:Int),(0:Int))).2.2,((((a0.1.1,a0.1.2.1,a0.1.2.2)::((a0.2.1.1,a0.2.1.2.1,a0.2.1.2.2)::((a0.2.2.1,a0.2.2.2.1,a0.2.2.2.2)::[])))).getD (2:Nat) ((0:Int),(0:Int),(0:Int))).1,((((a0.1.1,a0.1.2.1,a0.1.2.2)::((a0.2.1.1,a0.2.1.2.1,a0.2.1.2.2)::((a0.2.2.1,a0.2.2.2.1,a0.2.2.2.2)::[])))).getD (2:Nat) ((0:Int),(0:Int),(0:Int))).2.1,((((a0.1.1,a0.1.2.1,a0.1.2.2)::((a0.2.1.1,a0.2.1.2.1,a0.2.1.2.2)::((a0.2.2.1,a0.2.2.2.1,a0.2.2.2.2)::[])))).getD (2:Nat) ((0:Int),(0:Int),(0:Int))).2.2) (((((((((1:Int)+(Int.tmod a2 (9:Int))),([]:List Int))::[])).set (0:Nat) (((((((1:Int)+(Int.tmod a2 (9:Int))),([]:List Int))::[])).getD (0:Nat) ((0:Int),[])).1,((((((((((((((((Int.tmod ((((((a1.1::(a1.2.1::(a1.2.2::[])))).getD (0:Nat) (0:Int))::((((a1.1::(a1.2.1::(a1.2.2::[])))).getD (1:Nat) (0:Int))::((((a1.1::(a1.2.1::(a1.2.2::[])))).getD (2:Nat) (0:Int))::[])))).getD (Int.toNat (0:Int)) (0:Int)) (5:Int))::[])).drop (0:Nat)).take (1:Nat))).drop (0:Nat)).take ((((((Int.tmod ((((((a1.1::(a1.2.1::(a1.2.2::[])))).getD (0:Nat) (0:Int))::((((a1.1::(a1.2.1::(a1.2.2::[])))).getD (1:Nat) (0:Int))::((((a1.1::(a1.2.1::(a1.2.2::[])))).getD (2:Nat) (0:Int))::[])))).getD (Int.toNat (0:Int)) (0:Int)) (5:Int))::[])).drop (0:Nat)).take (1:Nat))).length)++(((((Int.tmod ((((((a1.1::(a1.2.1::(a1.2.2::[])))).getD (0:Nat) (0:Int))::((((a1.1::(a1.2.1::(a1.2.2::[])))).getD (1:Nat) (0:Int))::((((a1.1::(a1.2.1::(a1.2.2::[])))).getD (2:Nat) (0:Int))::[])))).getD (Int.toNat (1:Int)) (0:Int)) (5:Int))::[])).drop (0:Nat)).take (1:Nat)))).drop (0:Nat)).take (((((((Int.tmod ((((((a1.1::(a1.2.1::(a1.2.2::[])))).getD (0:Nat) (0:Int))::((((a1.1::(a1.2.1::(a1.2.2::[])))).getD (1:Nat) (0:Int))::((((a1.1::(a1.2.1::(a1.2.2::[])))).getD (2:Nat) (0:Int))::[])))).getD (Int.toNat (0:Int)) (0:Int)) (5:Int))::[])).drop (0:Nat)).take (1:Nat))).length+((((((Int.tmod ((((((a1.1::(a1.2.1::(a1.2.2::[])))).getD (0:Nat) (0:Int))::((((a1.1::(a1.2.1::(a1.2.2::[])))).getD (1:Nat) (0:Int))::((((a1.1::(a1.2.1::(a1.2.2::[])))).getD (2:Nat) (0:Int))::[])))).getD (Int.toNat (1:Int)) (0:Int)) (5:Int))::[])).drop (0:Nat)).take (1:Nat))).length))++(((((Int.tmod ((((((a1.1::(a1.2.1::(a1.2.2::[])))).getD (0:Nat) (0:Int))::((((a1.1::(a1.2.1::(a1.2.2::[])))).getD (1:Nat) (0:Int))::((((a1.1::(a1.2.1::(a1.2.2::[])))).getD (2:Nat) (0:Int))::[])))).getD (Int.toNat (2:Int)) (0:Int)) (5:Int))::[])).drop (0:Nat)).take (1:Nat)))).drop (0:Nat)).take ((((((((Int.tmod ((((((a1.1::(a1.2.1::(a1.2.2::[])))).getD (0:Nat) (0:Int))::((((a1.1::(a1.2.1::(a1.2.2::[])))).getD (1:Nat) (0:Int))::((((a1.1::(a1.2.1::(a1.2.2::[])))).getD (2:Nat) (0:Int))::[])))).getD (Int.toNat (0:Int)) (0:Int)) (5:Int))::[])).drop (0:Nat)).take (1:Nat))).length+((((((Int.tmod ((((((a1.1::(a1.2.1::(a1.2.2::[])))).getD (0:Nat) (0:Int))::((((a1.1::(a1.2.1::(a1.2.2::[])))).getD (1:Nat) (0:Int))::((((a1.1::(a1.2.1::(a1.2.2::[])))).getD (2:Nat) (0:Int))::[])))).getD (Int.toNat (1:Int)) (0:Int)) (5:Int))::[])).drop (0:Nat)).take (1:Nat))).length)+((((((Int.tmod ((((((a1.1::(a1.2.1::(a1.2.2::[])))).getD (0:Nat) (0:Int))::((((a1.1::(a1.2.1::(a1.2.2::[])))).getD (1:Nat) (0:Int))::((((a1.1::(a1.2.1::(a1.2.2::[])))).getD (2:Nat) (0:Int))::[])))).getD (Int.toNat (2:Int)) (0:Int)) (5:Int))::[])).drop (0:Nat)).take (1:Nat))).length))))).drop (0:Nat)).take (1:Nat))) fun y0 =>
 .br (!y0.2.1) (
 .ret (false,())) (
 .bd (.it g3_1 ((0:Int),((a0.1.1,a0.1.2.1,a0.1.2.2)::((a0.2.1.1,a0.2.1.2.1,a0.2.1.2.2)::((a0.2.2.1,a0.2.2.2.1,a0.2.2.2.2)::[]))),(1:Nat),y0.1.1,y0.1.2,((((((1:Int)+(Int.tmod a2 (9:Int))),([]:List Int))::[])).set (0:Nat) (((((((1:Int)+(Int.tmod a2 (9:Int))),([]:List Int))::[])).getD (0:Nat) ((0:Int),[])).1,((((((((((((((((Int.tmod ((((((a1.1::(a1.2.1::(a1.2.2::[])))).getD (0:Nat) (0:Int))::((((a1.1::(a1.2.1::(a1.2.2::[])))).getD (1:Nat) (0:Int))::((((a1.1::(a1.2.1::(a1.2.2::[])))).getD (2:Nat) (0:Int))::[])))).getD (Int.toNat (0:Int)) (0:Int)) (5:Int))::[])).drop (0:Nat)).take (1:Nat))).drop (0:Nat)).take ((((((Int.tmod ((((((a1.1::(a1.2.1::(a1.2.2::[])))).getD (0:Nat) (0:Int))::((((a1.1::(a1.2.1::(a1.2.2::[])))).getD (1:Nat) (0:Int))::((((a1.1::(a1.2.1::(a1.2.2::[])))).getD (2:Nat) (0:Int))::[])))).getD (Int.toNat (0:Int)) (0:Int)) (5:Int))::[])).drop (0:Nat)).take (1:Nat))).length)++(((((Int.tmod ((((((a1.1::(a1.2.1::(a1.2.2::[])))).getD (0:Nat) (0:Int))::((((a1.1::(a1.2.1::(a1.2.2::[])))).getD (1:Nat) (0:Int))::((((a1.1::(a1.2.1::(a1.2.2::[])))).getD (2:Nat) (0:Int))::[])))).getD (Int.toNat (1:Int)) (0:Int)) (5:Int))::[])).drop (0:Nat)).take (1:Nat)))).drop (0:Nat)).take (((((((Int.tmod ((((((a1.1::(a1.2.1::(a1.2.2::[])))).getD (0:Nat) (0:Int))::((((a1.1::(a1.2.1::(a1.2.2::[])))).getD (1:Nat) (0:Int))::((((a1.1::(a1.2.1::(a1.2.2::[])))).getD (2:Nat) (0:Int))::[])))).getD (Int.toNat (0:Int)) (0:Int)) (5:Int))::[])).drop (0:Nat)).take (1:Nat))).length+((((((Int.tmod ((((((a1.1::(a1.2.1::(a1.2.2::[])))).getD (0:Nat) (0:Int))::((((a1.1::(a1.2.1::(a1.2.2::[])))).getD (1:Nat) (0:Int))::((((a1.1::(a1.2.1::(a1.2.2::[])))).getD (2:Nat) (0:Int))::[])))).getD (Int.toNat (1:Int)) (0:Int)) (5:Int))::[])).drop (0:Nat)).take (1:Nat))).length))++(((((Int.tmod ((((((a1.1::(a1.2.1::(a1.2.2::[])))).getD (0:Nat) (0:Int))::((((a1.1::(a1.2.1::(a1.2.2::[])))).getD (1:Nat) (0:Int))::((((a1.1::(a1.2.1::(a1.2.2::[])))).getD (2:Nat) (0:Int))::[])))).getD (Int.toNat (2:Int)) (0:Int)) (5:Int))::[])).drop (0:Nat)).take (1:Nat)))).drop (0:Nat)).take ((((((((Int.tmod ((((((a1.1::(a1.2.1::(a1.2.2::[])))).getD (0:Nat) (0:Int))::((((a1.1::(a1.2.1::(a1.2.2::[])))).getD (1:Nat) (0:Int))::((((a1.1::(a1.2.1::(a1.2.2::[])))).getD (2:Nat) (0:Int))::[])))).getD (Int.toNat (0:Int)) (0:Int)) (5:Int))::[])).drop (0:Nat)).take (1:Nat))).length+((((((Int.tmod ((((((a1.1::(a1.2.1::(a1.2.2::[])))).getD (0:Nat) (0:Int))::((((a1.1::(a1.2.1::(a1.2.2::[])))).getD (1:Nat) (0:Int))::((((a1.1::(a1.2.1::(a1.2.2::[])))).getD (2:Nat) (0:Int))::[])))).getD (Int.toNat (1:Int)) (0:Int)) (5:Int))::[])).drop (0:Nat)).take (1:Nat))).length)+((((((Int.tmod ((((((a1.1::(a1.2.1::(a1.2.2::[])))).getD (0:Nat) (0:Int))::((((a1.1::(a1.2.1::(a1.2.2::[])))).getD (1:Nat) (0:Int))::((((a1.1::(a1.2.1::(a1.2.2::[])))).getD (2:Nat) (0:Int))::[])))).getD (Int.toNat (2:Int)) (0:Int)) (5:Int))::[])).drop (0:Nat)).take (1:Nat))).length)))),())) fun z12 =>
 .sm z12 (fun z13 =>
 .ret (false,())) fun z14 =>
 .bd (F12 (((z14.2.2.2.2.1).drop (0:Nat)).take z14.2.1)) fun y15 =>
 .br (!(y15.2.1==(0:Int))) (
 .ret (false,())) (
 .br (!((((y15.1).length:Nat):Int)==(3:Int))) (
 .ret (false,())) (
 .bd (.it g3_5 (y15.1,(0:Int),z14.1,z14.2.1,z14.2.2.1,z14.2.2.2.1,z14.2.2.2.2.1,())) fun z18 =>
 .sm z18 (fun z19 =>
 .ret (false,())) fun z20 =>
 .bd (F14) fun y21 =>
 .ret (y21.1,())))))) (
 .bd (F4 (((((a0.1.1,a0.1.2.1,a0.1.2.2)::((a0.2.1.1,a0.2.1.2.1,a0.2.1.2.2)::((a0.2.2.1,a0.2.2.2.1,a0.2.2.2.2)::[])))).getD (0:Nat) ((0:Int),(0:Int),(0:Int))).1,((((a0.1.1,a0.1.2.1,a0.1.2.2)::((a0.2.1.1,a0.2.1.2.1,a0.2.1.2.2)::((a0.2.2.1,a0.2.2.2.1,a0.2.2.2.2)::[])))).getD (0:Nat) ((0:Int),(0:Int),(0:Int))).2.1,((((a0.1.1,a0.1.2.1,a0.1.2.2)::((a0.2.1.1,a0.2.1.2.1,a0.2.1.2.2)::((a0.2.2.1,a0.2.2.2.1,a0.2.2.2.2)::[])))).getD (0:Nat) ((0:Int),(0:Int),(0:Int))).2.2,((((a0.1.1,a0.1.2.1,a0.1.2.2)::((a0.2.1.1,a0.2.1.2.1,a0.2.1.2.2)::((a0.2.2.1,a0.2.2.2.1,a0.2.2.2.2)::[])))).getD (1:Nat) ((0:Int),(0:Int),(0:Int))).1,((((a0.1.1,a0.1.2.1,a0.1.2.2)::((a0.2.1.1,a0.2.1.2.1,a0.2.1.2.2)::((a0.2.2.1,a0.2.2.2.1,a0.2.2.2.2)::[])))).getD (1:Nat) ((0:Int),(0:Int),(0:Int))).2.1,((((a0.1.1,a0.1.2.1,a0.1.2.2)::((a0.2.1.1,a0.2.1.2.1,a0.2.1.2.2)::((a0.2.2.1,a0.2.2.2.1,a0.2.2.2.2)::[])))).getD (1:Nat) ((0:Int),(0:Int),(0:Int))).2.2,((((a0.1.1,a0.1.2.1,a0.1.2.2)::((a0.2.1.1,a0.2.1.2.1,a0.2.1.2.2)::((a0.2.2.1,a0.2.2.2.1,a0.2.2.2.2)::[])))).getD (2:Nat) ((0:Int),(0:Int),(0:Int))).1,((((a0.1.1,a0.1.2.1,a0.1.2.2)::((a0.2.1.1,a0.2.1.2.1,a0.2.1.2.2)::((a0.2.2.1,a0.2.2.2.1,a0.2.2.2.2)::[])))).getD (2:Nat) ((0:Int),(0:Int),(0:Int))).2.1,((((a0.1.1,a0.1.2.1,a0.1.2.2)::((a0.2.1.1,a0.2.1.2.1,a0.2.1.2.2)::((a0.2.2.1,a0.2.2.2.1,a0.2.2.2.2)::[])))).getD (2:Nat) ((0:Int),(0:Int),(0:Int))).2.2) (((((((((1:Int)+(Int.tmod a2 (9:Int))),([]:List Int))::[])).set (0:Nat) (((((((1:Int)+(Int.tmod a2 (9:Int))),([]:List Int))::[])).getD (0:Nat) ((0:Int),[])).1,((((((((((((Int.tmod ((((((a1.1::(a1.2.1::(a1.2.2::[])))).getD (0:Nat) (0:Int))::((((a1.1::(a1.2.1::(a1.2.2::[])))).getD (1:Nat) (0:Int))::((((a1.1::(a1.2.1::(a1.2.2::[])))).getD (2:Nat) (0:Int))::[])))).getD (Int.toNat (0:Int)) (0:Int)) (5:Int))::[])).drop (0:Nat)).take (1:Nat))).drop (0:Nat)).take ((((((Int.tmod ((((((a1.1::(a1.2.1::(a1.2.2::[])))).getD (0:Nat) (0:Int))::((((a1.1::(a1.2.1::(a1.2.2::[])))).getD (1:Nat) (0:Int))::((((a1.1::(a1.2.1::(a1.2.2::[])))).getD (2:Nat) (0:Int))::[])))).getD (Int.toNat (0:Int)) (0:Int)) (5:Int))::[])).drop (0:Nat)).take (1:Nat))).length)++(((((Int.tmod ((((((a1.1::(a1.2.1::(a1.2.2::[])))).getD (0:Nat) (0:Int))::((((a1.1::(a1.2.1::(a1.2.2::[])))).getD (1:Nat) (0:Int))::((((a1.1::(a1.2.1::(a1.2.2::[])))).getD (2:Nat) (0:Int))::[])))).getD (Int.toNat (1:Int)) (0:Int)) (5:Int))::[])).drop (0:Nat)).take (1:Nat)))).drop (0:Nat)).take (((((((Int.tmod ((((((a1.1::(a1.2.1::(a1.2.2::[])))).getD (0:Nat) (0:Int))::((((a1.1::(a1.2.1::(a1.2.2::[])))).getD (1:Nat) (0:Int))::((((a1.1::(a1.2.1::(a1.2.2::[])))).getD (2:Nat) (0:Int))::[])))).getD (Int.toNat (0:Int)) (0:Int)) (5:Int))::[])).drop (0:Nat)).take (1:Nat))).length+((((((Int.tmod ((((((a1.1::(a1.2.1::(a1.2.2::[])))).getD (0:Nat) (0:Int))::((((a1.1::(a1.2.1::(a1.2.2::[])))).getD (1:Nat) (0:Int))::((((a1.1::(a1.2.1::(a1.2.2::[])))).getD (2:Nat) (0:Int))::[])))).getD (Int.toNat (1:Int)) (0:Int)) (5:Int))::[])).drop (0:Nat)).take (1:Nat))).length))))).drop (0:Nat)).take (1:Nat))) fun y22 =>
 .br (!y22.2.1) (
 .ret (false,())) (
 .bd (.it g3_1 ((0:Int),((a0.1.1,a0.1.2.1,a0.1.2.2)::((a0.2.1.1,a0.2.1.2.1,a0.2.1.2.2)::((a0.2.2.1,a0.2.2.2.1,a0.2.2.2.2)::[]))),(1:Nat),y22.1.1,y22.1.2,((((((1:Int)+(Int.tmod a2 (9:Int))),([]:List Int))::[])).set (0:Nat) (((((((1:Int)+(Int.tmod a2 (9:Int))),([]:List Int))::[])).getD (0:Nat) ((0:Int),[])).1,((((((((((((Int.tmod ((((((a1.1::(a1.2.1::(a1.2.2::[])))).getD (0:Nat) (0:Int))::((((a1.1::(a1.2.1::(a1.2.2::[])))).getD (1:Nat) (0:Int))::((((a1.1::(a1.2.1::(a1.2.2::[])))).getD (2:Nat) (0:Int))::[])))).getD (Int.toNat (0:Int)) (0:Int)) (5:Int))::[])).drop (0:Nat)).take (1:Nat))).drop (0:Nat)).take ((((((Int.tmod ((((((a1.1::(a1.2.1::(a1.2.2::[])))).getD (0:Nat) (0:Int))::((((a1.1::(a1.2.1::(a1.2.2::[])))).getD (1:Nat) (0:Int))::((((a1.1::(a1.2.1::(a1.2.2::[])))).getD (2:Nat) (0:Int))::[])))).getD (Int.toNat (0:Int)) (0:Int)) (5:Int))::[])).drop (0:Nat)).take (1:Nat))).length)++(((((Int.tmod ((((((a1.1::(a1.2.1::(a1.2.2::[])))).getD (0:Nat) (0:Int))::((((a1.1::(a1.2.1::(a1.2.2::[])))).getD (1:Nat) (0:Int))::((((a1.1::(a1.2.1::(a1.2.2::[])))).getD (2:Nat) (0:Int))::[])))).getD (Int.toNat (1:Int)) (0:Int)) (5:Int))::[])).drop (0:Nat)).take (1:Nat)))).drop (0:Nat)).take (((((((Int.tmod ((((((a1.1::(a1.2.1::(a1.2.2::[])))).getD (0:Nat) (0:Int))::((((a1.1::(a1.2.1::(a1.2.2::[])))).getD (1:Nat) (0:Int))::((((a1.1::(a1.2.1::(a1.2.2::[])))).getD (2:Nat) (0:Int))::[])))).getD (Int.toNat (0:Int)) (0:Int)) (5:Int))::[])).drop (0:Nat)).take (1:Nat))).length+((((((Int.tmod ((((((a1.1::(a1.2.1::(a1.2.2::[])))).getD (0:Nat) (0:Int))::((((a1.1::(a1.2.1::(a1.2.2::[])))).getD (1:Nat) (0:Int))::((((a1.1::(a1.2.1::(a1.2.2::[])))).getD (2:Nat) (0:Int))::[])))).getD (Int.toNat (1:Int)) (0:Int)) (5:Int))::[])).drop (0:Nat)).take (1:Nat))).length)))),())) fun z23 =>
 .sm z23 (fun z24 =>
 .ret (false,())) fun z25 =>
 .bd (F12 (((z25.2.2.2.2.1).drop (0:Nat)).take z25.2.1)) fun y26 =>
 .br (!(y26.2.1==(0:Int))) (
 .ret (false,())) (
 .br (!((((y26.1).length:Nat):Int)==(3:Int))) (
 .ret (false,())) (
 .bd (.it g3_5 (y26.1,(0:Int),z25.1,z25.2.1,z25.2.2.1,z25.2.2.2.1,z25.2.2.2.2.1,())) fun z27 =>
 .sm z27 (fun z28 =>
 .ret (false,())) fun z29 =>
 .bd (F14) fun y30 =>
 .ret (y30.1,())))))) (
 .bd (F4 (((((a0.1.1,a0.1.2.1,a0.1.2.2)::((a0.2.1.1,a0.2.1.2.1,a0.2.1.2.2)::((a0.2.2.1,a0.2.2.2.1,a0.2.2.2.2)::[])))).getD (0:Nat) ((0:Int),(0:Int),(0:Int))).1,((((a0.1.1,a0.1.2.1,a0.1.2.2)::((a0.2.1.1,a0.2.1.2.1,a0.2.1.2.2)::((a0.2.2.1,a0.2.2.2.1,a0.2.2.2.2)::[])))).getD (0:Nat) ((0:Int),(0:Int),(0:Int))).2.1,((((a0.1.1,a0.1.2.1,a0.1.2.2)::((a0.2.1.1,a0.2.1.2.1,a0.2.1.2.2)::((a0.2.2.1,a0.2.2.2.1,a0.2.2.2.2)::[])))).getD (0:Nat) ((0:Int),(0:Int),(0:Int))).2.2,((((a0.1.1,a0.1.2.1,a0.1.2.2)::((a0.2.1.1,a0.2.1.2.1,a0.2.1.2.2)::((a0.2.2.1,a0.2.2.2.1,a0.2.2.2.2)::[])))).getD (1:Nat) ((0:Int),(0:Int),(0:Int))).1,((((a0.1.1,a0.1.2.1,a0.1.2.2)::((a0.2.1.1,a0.2.1.2.1,a0.2.1.2.2)::((a0.2.2.1,a0.2.2.2.1,a0.2.2.2.2)::[])))).getD (1:Nat) ((0:Int),(0:Int),(0:Int))).2.1,((((a0.1.1,a0.1.2.1,a0.1.2.2)::((a0.2.1.1,a0.2.1.2.1,a0.2.1.2.2)::((a0.2.2.1,a0.2.2.2.1,a0.2.2.2.2)::[])))).getD (1:Nat) ((0:Int),(0:Int),(0:Int))).2.2,((((a0.1.1,a0.1.2.1,a0.1.2.2)::((a0.2.1.1,a0.2.1.2.1,a0.2.1.2.2)::((a0.2.2.1,a0.2.2.2.1,a0.2.2.2.2)::[])))).getD (2:Nat) ((0:Int),(0:Int),(0:Int))).1,((((a0.1.1,a0.1.2.1,a0.1.2.2)::((a0.2.1.1,a0.2.1.2.1,a0.2.1.2.2)::((a0.2.2.1,a0.2.2.2.1,a0.2.2.2.2)::[])))).getD (2:Nat) ((0:Int),(0:Int),(0:Int))).2.1,((((a0.1.1,a0.1.2.1,a0.1.2.2)::((a0.2.1.1,a0.2.1.2.1,a0.2.1.2.2)::((a0.2.2.1,a0.2.2.2.1,a0.2.2.2.2)::[])))).getD (2:Nat) ((0:Int),(0:Int),(0:Int))).2.2) (((((((((1:Int)+(Int.tmod a2 (9:Int))),([]:List Int))::[])).set (0:Nat) (((((((1:Int)+(Int.tmod a2 (9:Int))),([]:List Int))::[])).getD (0:Nat) ((0:Int),[])).1,((((((((Int.tmod ((((((a1.1::(a1.2.1::(a1.2.2::[])))).getD (0:Nat) (0:Int))::((((a1.1::(a1.2.1::(a1.2.2::[])))).getD (1:Nat) (0:Int))::((((a1.1::(a1.2.1::(a1.2.2::[])))).getD (2:Nat) (0:Int))::[])))).getD (Int.toNat (0:Int)) (0:Int)) (5:Int))::[])).drop (0:Nat)).take (1:Nat))).drop (0:Nat)).take ((((((Int.tmod ((((((a1.1::(a1.2.1::(a1.2.2::[])))).getD (0:Nat) (0:Int))::((((a1.1::(a1.2.1::(a1.2.2::[])))).getD (1:Nat) (0:Int))::((((a1.1::(a1.2.1::(a1.2.2::[])))).getD (2:Nat) (0:Int))::[])))).getD (Int.toNat (0:Int)) (0:Int)) (5:Int))::[])).drop (0:Nat)).take (1:Nat))).length)))).drop (0:Nat)).take (1:Nat))) fun y31 =>
 .br (!y31.2.1) (
 .ret (false,())) (
 .bd (.it g3_1 ((0:Int),((a0.1.1,a0.1.2.1,a0.1.2.2)::((a0.2.1.1,a0.2.1.2.1,a0.2.1.2.2)::((a0.2.2.1,a0.2.2.2.1,a0.2.2.2.2)::[]))),(1:Nat),y31.1.1,y31.1.2,((((((1:Int)+(Int.tmod a2 (9:Int))),([]:List Int))::[])).set (0:Nat) (((((((1:Int)+(Int.tmod a2 (9:Int))),([]:List Int))::[])).getD (0:Nat) ((0:Int),[])).1,((((((((Int.tmod ((((((a1.1::(a1.2.1::(a1.2.2::[])))).getD (0:Nat) (0:Int))::((((a1.1::(a1.2.1::(a1.2.2::[])))).getD (1:Nat) (0:Int))::((((a1.1::(a1.2.1::(a1.2.2::[])))).getD (2:Nat) (0:Int))::[])))).getD (Int.toNat (0:Int)) (0:Int)) (5:Int))::[])).drop (0:Nat)).take (1:Nat))).drop (0:Nat)).take ((((((Int.tmod ((((((a1.1::(a1.2.1::(a1.2.2::[])))).getD (0:Nat) (0:Int))::((((a1.1::(a1.2.1::(a1.2.2::[])))).getD (1:Nat) (0:Int))::((((a1.1::(a1.2.1::(a1.2.2::[])))).getD (2:Nat) (0:Int))::[])))).getD (Int.toNat (0:Int)) (0:Int)) (5:Int))::[])).drop (0:Nat)).take (1:Nat))).length))),())) fun z32 =>
 .sm z32 (fun z33 =>
 .ret (false,())) fun z34 =>
 .bd (F12 (((z34.2.2.2.2.1).drop (0:Nat)).take z34.2.1)) fun y35 =>
 .br (!(y35.2.1==(0:Int))) (
 .ret (false,())) (
 .br (!((((y35.1).length:Nat):Int)==(3:Int))) (
 .ret (false,())) (
 .bd (.it g3_5 (y35.1,(0:Int),z34.1,z34.2.1,z34.2.2.1,z34.2.2.2.1,z34.2.2.2.2.1,())) fun z36 =>
 .sm z36 (fun z37 =>
 .ret (false,())) fun z38 =>
 .bd (F14) fun y39 =>
 .ret (y39.1,())))))) (
 .bd (F4 (((((a0.1.1,a0.1.2.1,a0.1.2.2)::((a0.2.1.1,a0.2.1.2.1,a0.2.1.2.2)::((a0.2.2.1,a0.2.2.2.1,a0.2.2.2.2)::[])))).getD (0:Nat) ((0:Int),(0:Int),(0:Int))).1,((((a0.1.1,a0.1.2.1,a0.1.2.2)::((a0.2.1.1,a0.2.1.2.1,a0.2.1.2.2)::((a0.2.2.1,a0.2.2.2.1,a0.2.2.2.2)::[])))).getD (0:Nat) ((0:Int),(0:Int),(0:Int))).2.1,((((a0.1.1,a0.1.2.1,a0.1.2.2)::((a0.2.1.1,a0.2.1.2.1,a0.2.1.2.2)::((a0.2.2.1,a0.2.2.2.1,a0.2.2.2.2)::[])))).getD (0:Nat) ((0:Int),(0:Int),(0:Int))).2.2,((((a0.1.1,a0.1.2.1,a0.1.2.2)::((a0.2.1.1,a0.2.1.2.1,a0.2.1.2.2)::((a0.2.2.1,a0.2.2.2.1,a0.2.2.2.2)::[])))).getD (1:Nat) ((0:Int),(0:Int),(0:Int))).1,((((a0.1.1,a0.1.2.1,a0.1.2.2)::((a0.2.1.1,a0.2.1.2.1,a0.2.1.2.2)::((a0.2.2.1,a0.2.2.2.1,a0.2.2.2.2)::[])))).getD (1:Nat) ((0:Int),(0:Int),(0:Int))).2.1,((((a0.1.1,a0.1.2.1,a0.1.2.2)::((a0.2.1.1,a0.2.1.2.1,a0.2.1.2.2)::((a0.2.2.1,a0.2.2.2.1,a0.2.2.2.2)::[])))).getD (1:Nat) ((0:Int),(0:Int),(0:Int))).2.2,((((a0.1.1,a0.1.2.1,a0.1.2.2)::((a0.2.1.1,a0.2.1.2.1,a0.2.1.2.2)::((a0.2.2.1,a0.2.2.2.1,a0.2.2.2.2)::[])))).getD (2:Nat) ((0:Int),(0:Int),(0:Int))).1,((((a0.1.1,a0.1.2.1,a0.1.2.2)::((a0.2.1.1,a0.2.1.2.1,a0.2.1.2.2)::((a0.2.2.1,a0.2.2.2.1,a0.2.2.2.2)::[])))).getD (2:Nat) ((0:Int),(0:Int),(0:Int))).2.1,((((a0.1.1,a0.1.2.1,a0.1.2.2)::((a0.2.1.1,a0.2.1.2.1,a0.2.1.2.2)::((a0.2.2.1,a0.2.2.2.1,a0.2.2.2.2)::[])))).getD (2:Nat) ((0:Int),(0:Int),(0:Int))).2.2) (((((((((1:Int)+(Int.tmod a2 (9:Int))),([]:List Int))::[])).set (0:Nat) (((((((1:Int)+(Int.tmod a2 (9:Int))),([]:List Int))::[])).getD (0:Nat) ((0:Int),[])).1,[]))).drop (0:Nat)).take (1:Nat))) fun y40 =>
 .br (!y40.2.1) (
 .ret (false,())) (
 .bd (.it g3_1 ((0:Int),((a0.1.1,a0.1.2.1,a0.1.2.2)::((a0.2.1.1,a0.2.1.2.1,a0.2.1.2.2)::((a0.2.2.1,a0.2.2.2.1,a0.2.2.2.2)::[]))),(1:Nat),y40.1.1,y40.1.2,((((((1:Int)+(Int.tmod a2 (9:Int))),([]:List Int))::[])).set (0:Nat) (((((((1:Int)+(Int.tmod a2 (9:Int))),([]:List Int))::[])).getD (0:Nat) ((0:Int),[])).1,[])),())) fun z41 =>
 .sm z41 (fun z42 =>
 .ret (false,())) fun z43 =>
 .bd (F12 (((z43.2.2.2.2.1).drop (0:Nat)).take z43.2.1)) fun y44 =>
 .br (!(y44.2.1==(0:Int))) (
 .ret (false,())) (
 .br (!((((y44.1).length:Nat):Int)==(3:Int))) (
 .ret (false,())) (
 .bd (.it g3_5 (y44.1,(0:Int),z43.1,z43.2.1,z43.2.2.1,z43.2.2.2.1,z43.2.2.2.2.1,())) fun z45 =>
 .sm z45 (fun z46 =>
 .ret (false,())) fun z47 =>
 .bd (F14) fun y48 =>
 .ret (y48.1,())))))
theorem agO:cN prog f3=some ⟨178,3,dd3.er,[.t 6],[some .bool]⟩:=by kernel_rfl
noncomputable def ct3:Ct:=⟨3,[.c (.hole (.prod (.prod (.int .u8) (.prod (.int .u8) (.int .u8))) (.prod (.prod (.int .u8) (.prod (.int .u8) (.int .u8))) (.prod (.int .u8) (.prod (.int .u8) (.int .u8)))))),.c (.hole (.prod (.int .u8) (.prod (.int .u8) (.int .u8)))),.c (.hole (.int .u8))],.c (.hole .bool),fun x=>ag (F3 x.1 x.2.1 x.2.2.1)⟩
theorem abf:ct3.Ok prog:=bn mixed qW func3 agO (ah func3 rfl rfl) dd3 (by kernel_rfl) rfl (fun x=>by kernel_rfl)

end Go.Proofs.Tryz

