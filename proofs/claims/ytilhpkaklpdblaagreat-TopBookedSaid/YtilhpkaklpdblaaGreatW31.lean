/- Functions of the program as functions of data, part 2; printed by a program of mine. -/
import Derived.Test.YtilhpkaklpdblaaGreatW30
import Derived.Test.YtilhpkaklpdblaaGreatProg
set_option linter.unusedSectionVars false
set_option linter.unusedVariables false
set_option linter.unusedSimpArgs false
open Go.AM
namespace Go.Proofs.Tryz
set_option maxRecDepth 100000
set_option synthInstance.maxSize 4000
set_option synthInstance.maxHeartbeats 400000


/- 29, lent -/
abbrev WO:au:=au.mk [(0,.c (.ptr 0 0)),(1,.c (.fn0 32))] [(0,.cells [.mp 1,.mp 2,.mp 3,.mp 4] false),(1,fL),(2,gB),(3,bY),(4,bY)] [.slot 0,.cell 0 0,.cell 0 1,.cell 0 2,.cell 0 3] []
abbrev WQ:au:=au.mk [(0,.c (.bO 5 tI))] [(5,.arr tI false),(0,.cells [.mp 1,.mp 2,.mp 3,.mp 4] false),(1,fL),(2,gB),(3,bY),(4,bY)] [.slot 0] []
noncomputable def nr:Cx:=(aM [ct32] [aby,abz,U4,U9,abF,abH,abJ])
theorem gR:nr.Ok prog:=ak ⟨WN,trivial⟩ ⟨⟨KN,rfl⟩,⟨KO,rfl⟩,⟨Dr,rfl⟩,⟨Du,rfl⟩,⟨KR,rfl⟩,⟨KS,rfl⟩,⟨KV,rfl⟩,trivial⟩
noncomputable def qQ:D prog 48 (some 25) 28:=dO [] (pick (kd prog f29) [(0,true),(0,false),(0,false)]) 0
noncomputable def qR:D prog 48 (some 25) 28:=dO [] (pick (kd prog f29) [(0,true),(0,false),(0,true)]) 0
noncomputable def lC:Cx:=AF nr (fun kz=>P9 kz nr bW 25 28 [37] (qQ) (qR))
theorem l6:(lC).Ok prog:=jU gR (fun h=>nW mixed gR h)
abbrev wS:au:=au.mk [(0,.c (.yl 25)),(4,.c (.mp 23))] [(25,.loop .ready none 10 [(2,.c (.ptr 5 0)),(3,.c (.ptr 6 0)),(5,.c (.ptr 7 0)),(8,.c (.ptr 20 0)),(11,.c (.ptr 21 0)),(21,.c (.bO 19 .str)),(22,hI),(23,hI),(36,.fn 101 [] [.ptr 22 0])] [37] (.aX [.op (some 12) none (.mv (.t 37))]) (.block 5 (.aX [.op (some 38) none (.load false 1 (.t 8)),.op (some 39) none (.mv (.t 12)),.op (some 40) none (.load false 1 (.t 11)),.op (some 41) none (.bin .add (.t 39) (.t 40)),.call (some 42) none (.c (.fn 55 [] [])) [.t 38,.t 41] [none,some tI]])) 48),(23,n9),(10,.iy),(5,.cells [.ptr 0 0] false),(0,.cells [.mp 1,.mp 2,.mp 3,.mp 4] false),(1,fL),(2,gB),(3,bY),(4,bY),(6,.cells [.fn0 32] false),(7,.cells [.mp 23] false),(20,.cells [.mp 26] false),(21,.cells [.hole tI] false),(19,.arr .str false),(22,.cells [.mp 23] false),(8,.cells [.ptr 0 0] false),(11,.loop .busy none 10 [(2,.c (.ptr 5 0)),(3,.c (.ptr 6 0)),(4,.c .cw),(5,.c (.ptr 7 0)),(17,.fn 83 [] [.ptr 8 0])] [18,19] (.aX [.op (some 7) none (.mv (.t 19))]) (.block 1 (.seq (.aX [.op (some 20) none (.ex (iS.ja tI false .unit true) []),.op (some 8) none (.alloc [.cT]),.op none none (.store 1 (.t 8) (.t 20))]) (.seq (.seq (.aX [.op (some 21) none (.mv (.t 7)),.op (some 22) none (.len (.t 21)),.op (some 23) none (.mv (.c (.int .i64 (Int.ofNat 0))))]) (.block 2 (.loop (.seq (.aX [.op (some 24) none (.bin .lss (.t 23) (.t 22))]) (.seq (.cond (.t 24) .skip (.exit 2)) (.seq (.block 3 (.seq (.aX [.op (some 25) none (.idx 1 (.t 21) (.t 23)),.op (some 26) none (.load false 1 (.t 25)),.op (some 10) none (.mv (.t 26))]) (.seq (.draw [[],[],[1],[1,2],[1,2,3],[],[1,2,3,4,5],[0,1,2,3,4,5,6],[],[0,1,2,3,4,5,6,7,8]] [.op (some 27) none (.load false 1 (.t 3)),.op (some 28) none (.load false 1 (.t 2)),.op (some 29) none (.ex iS.mc [.t 28]),.op (some 30) none (.lI 0 [false] (.t 29)),.op (some 31) none (.load false 1 (.t 30)),.op (some 32) none (.mv (.t 10)),.op (some 33) none (.ex (iS.iF .str false tG true false) [.t 31,.t 32]),.call (some 34) none (.t 27) [.t 33] [some tG],.op (some 11) none (.alloc [.int .i64 (Int.ofNat 0)]),.op none none (.store 1 (.t 11) (.t 34))]) (.seq (.aX [.op (some 35) none (.load false 1 (.t 5)),.call (some 36) none (.c (.fn 57 [] [])) [.t 35] [none]]) (.block 4 (.bK (.t 36) [37] (.aX [.op (some 12) none (.mv (.t 37))]) (.block 5 (.aX [.op (some 38) none (.load false 1 (.t 8)),.op (some 39) none (.mv (.t 12)),.op (some 40) none (.load false 1 (.t 11)),.op (some 41) none (.bin .add (.t 39) (.t 40)),.call (some 42) none (.c (.fn 55 [] [])) [.t 38,.t 41] [none,some tI]])))))))) (.aX [.op (some 43) none (.bin .add (.t 23) (.c (.int .i64 (Int.ofNat 1)))),.op (some 23) none (.mv (.t 43))]))))))) (.aX [.op (some 44) none (.load false 1 (.t 8)),.op none none (.store 1 (.t 5) (.t 44))])))) 48),(12,.arr .str false),(26,n9)] [.cell 20 0] []
noncomputable def wT:D prog 14 none 28:=dO [] (pick (kd prog f101) [(0,false)]) 0
noncomputable def gH29_v1_0b_2i_0:((Int)×(Unit))->Nat×Int×Int×(List (Int×Unit))×dx×dK×bq×bq×Int×List ByteArray×List ByteArray×(List (Int×Unit))×Unit->bR (Nat×Int×Int×(List (Int×Unit))×dx×dK×bq×bq×Int×List ByteArray×List ByteArray×(List (Int×Unit))×Unit):=fun e (abK,w22,w23,m23,m1,m2,m3,m4,GA,Ot,Ou,m26,_) =>
 .ni (e.1+GA) <|
 .bd (FH55 (e.1+GA) m26) fun y7 =>
 .nd (lU m23 m23) <|
 .ret (abK,w22,w23,m23,m1,m2,m3,m4,GA,Ot,Ou,y7.1,())
noncomputable def wU:yL prog 14 none 26:=Dg mixed lC l6 [0,1,2,3,4,5,6,7,8,9,10,11,12,13,14,15,16,17,18,19,20,21,22,23,24,25] rfl wS ( [.op (some 4) none (.load false 1 (.t 1))]) 4 5 [6,7] (some 8) ( .int .i64)  false ( .unit)  true 0 rfl 28 rfl (wT) (fun e x=>ai (gH29_v1_0b_2i_0 e x)) (fun e=>fun x=>by kernel_rfl)
abbrev DO:au:=au.mk [(2,.c (.ptr 5 0)),(3,.c (.ptr 6 0)),(5,.c (.ptr 7 0)),(8,.c (.ptr 20 0)),(11,.c (.ptr 21 0)),(21,.c (.bO 19 .str)),(22,hI),(23,hI),(36,.fn 101 [] [.ptr 22 0])] [(5,.cells [.ptr 0 0] false),(6,.cells [.fn0 32] false),(7,.cells [.mp 23] false),(20,.cells [.mp 24] false),(21,.cells [.hole tI] false),(19,.arr .str false),(22,.cells [.mp 23] false),(0,.cells [.mp 1,.mp 2,.mp 3,.mp 4] false),(1,fL),(2,gB),(3,bY),(4,bY),(8,.cells [.ptr 0 0] false),(10,.iy),(11,.loop .busy none 10 [(2,.c (.ptr 5 0)),(3,.c (.ptr 6 0)),(4,.c .cw),(5,.c (.ptr 7 0)),(17,.fn 83 [] [.ptr 8 0])] [18,19] (.aX [.op (some 7) none (.mv (.t 19))]) (.block 1 (.seq (.aX [.op (some 20) none (.ex (iS.ja tI false .unit true) []),.op (some 8) none (.alloc [.cT]),.op none none (.store 1 (.t 8) (.t 20))]) (.seq (.seq (.aX [.op (some 21) none (.mv (.t 7)),.op (some 22) none (.len (.t 21)),.op (some 23) none (.mv (.c (.int .i64 (Int.ofNat 0))))]) (.block 2 (.loop (.seq (.aX [.op (some 24) none (.bin .lss (.t 23) (.t 22))]) (.seq (.cond (.t 24) .skip (.exit 2)) (.seq (.block 3 (.seq (.aX [.op (some 25) none (.idx 1 (.t 21) (.t 23)),.op (some 26) none (.load false 1 (.t 25)),.op (some 10) none (.mv (.t 26))]) (.seq (.draw [[],[],[1],[1,2],[1,2,3],[],[1,2,3,4,5],[0,1,2,3,4,5,6],[],[0,1,2,3,4,5,6,7,8]] [.op (some 27) none (.load false 1 (.t 3)),.op (some 28) none (.load false 1 (.t 2)),.op (some 29) none (.ex iS.mc [.t 28]),.op (some 30) none (.lI 0 [false] (.t 29)),.op (some 31) none (.load false 1 (.t 30)),.op (some 32) none (.mv (.t 10)),.op (some 33) none (.ex (iS.iF .str false tG true false) [.t 31,.t 32]),.call (some 34) none (.t 27) [.t 33] [some tG],.op (some 11) none (.alloc [.int .i64 (Int.ofNat 0)]),.op none none (.store 1 (.t 11) (.t 34))]) (.seq (.aX [.op (some 35) none (.load false 1 (.t 5)),.call (some 36) none (.c (.fn 57 [] [])) [.t 35] [none]]) (.block 4 (.bK (.t 36) [37] (.aX [.op (some 12) none (.mv (.t 37))]) (.block 5 (.aX [.op (some 38) none (.load false 1 (.t 8)),.op (some 39) none (.mv (.t 12)),.op (some 40) none (.load false 1 (.t 11)),.op (some 41) none (.bin .add (.t 39) (.t 40)),.call (some 42) none (.c (.fn 55 [] [])) [.t 38,.t 41] [none,some tI]])))))))) (.aX [.op (some 43) none (.bin .add (.t 23) (.c (.int .i64 (Int.ofNat 1)))),.op (some 23) none (.mv (.t 43))]))))))) (.aX [.op (some 44) none (.load false 1 (.t 8)),.op none none (.store 1 (.t 5) (.t 44))])))) 48),(12,.arr .str false),(23,n9),(24,n9)] [.slot 8,.slot 11,.part 36 0,.cell 7 0,.cell 20 0] []
abbrev DP:aT:=[(.normal,au.mk [(2,.c (.ptr 5 0)),(3,.c (.ptr 6 0)),(5,.c (.ptr 7 0)),(8,.c (.ptr 20 0)),(21,.c (.bO 19 .str)),(22,hI),(23,hI)] [(5,.cells [.ptr 0 0] false),(6,.cells [.fn0 32] false),(7,.cells [.mp 21] false),(20,.cells [.mp 22] false),(19,.arr .str false),(0,.cells [.mp 1,.mp 2,.mp 3,.mp 4] false),(1,fL),(2,gB),(3,bY),(4,bY),(8,.cells [.ptr 0 0] false),(10,.iy),(11,.loop .busy none 10 [(2,.c (.ptr 5 0)),(3,.c (.ptr 6 0)),(4,.c .cw),(5,.c (.ptr 7 0)),(17,.fn 83 [] [.ptr 8 0])] [18,19] (.aX [.op (some 7) none (.mv (.t 19))]) (.block 1 (.seq (.aX [.op (some 20) none (.ex (iS.ja tI false .unit true) []),.op (some 8) none (.alloc [.cT]),.op none none (.store 1 (.t 8) (.t 20))]) (.seq (.seq (.aX [.op (some 21) none (.mv (.t 7)),.op (some 22) none (.len (.t 21)),.op (some 23) none (.mv (.c (.int .i64 (Int.ofNat 0))))]) (.block 2 (.loop (.seq (.aX [.op (some 24) none (.bin .lss (.t 23) (.t 22))]) (.seq (.cond (.t 24) .skip (.exit 2)) (.seq (.block 3 (.seq (.aX [.op (some 25) none (.idx 1 (.t 21) (.t 23)),.op (some 26) none (.load false 1 (.t 25)),.op (some 10) none (.mv (.t 26))]) (.seq (.draw [[],[],[1],[1,2],[1,2,3],[],[1,2,3,4,5],[0,1,2,3,4,5,6],[],[0,1,2,3,4,5,6,7,8]] [.op (some 27) none (.load false 1 (.t 3)),.op (some 28) none (.load false 1 (.t 2)),.op (some 29) none (.ex iS.mc [.t 28]),.op (some 30) none (.lI 0 [false] (.t 29)),.op (some 31) none (.load false 1 (.t 30)),.op (some 32) none (.mv (.t 10)),.op (some 33) none (.ex (iS.iF .str false tG true false) [.t 31,.t 32]),.call (some 34) none (.t 27) [.t 33] [some tG],.op (some 11) none (.alloc [.int .i64 (Int.ofNat 0)]),.op none none (.store 1 (.t 11) (.t 34))]) (.seq (.aX [.op (some 35) none (.load false 1 (.t 5)),.call (some 36) none (.c (.fn 57 [] [])) [.t 35] [none]]) (.block 4 (.bK (.t 36) [37] (.aX [.op (some 12) none (.mv (.t 37))]) (.block 5 (.aX [.op (some 38) none (.load false 1 (.t 8)),.op (some 39) none (.mv (.t 12)),.op (some 40) none (.load false 1 (.t 11)),.op (some 41) none (.bin .add (.t 39) (.t 40)),.call (some 42) none (.c (.fn 55 [] [])) [.t 38,.t 41] [none,some tI]])))))))) (.aX [.op (some 43) none (.bin .add (.t 23) (.c (.int .i64 (Int.ofNat 1)))),.op (some 23) none (.mv (.t 43))]))))))) (.aX [.op (some 44) none (.load false 1 (.t 8)),.op none none (.store 1 (.t 5) (.t 44))])))) 48),(12,.arr .str false),(21,n9),(22,n9)] [.slot 8,.cell 7 0,.cell 20 0] [])]
noncomputable def qS:D prog 14 none 26:=dO [.m wU] (kd prog f101) 0
theorem AR:cM prog f101=some ⟨14,2,(qS).er,[],[]⟩:=by kernel_rfl
noncomputable def gH29_v1_0b_2:Nat×Int×Int×Int×List ByteArray×dx×dK×bq×bq×List ByteArray×(List (Int×Unit))×(List (Int×Unit))×Unit->bR ((Nat×Int×Int×List ByteArray×dx×dK×bq×bq×List ByteArray×(List (Int×Unit))×(List (Int×Unit))×Unit)):=fun (zB,v22,v23,GA,Ot,m1,m2,m3,m4,Ou,m23,m24,_) =>
 .bd (.mq gH29_v1_0b_2i_0 m23 (zB,v22,v23,m23,m1,m2,m3,m4,GA,Ot,Ou,m24,())) fun z8 =>
 .ret ((zB,v22,v23,z8.2.2.2.2.2.2.2.2.2.1,z8.2.2.2.2.1,z8.2.2.2.2.2.1,z8.2.2.2.2.2.2.1,z8.2.2.2.2.2.2.2.1,z8.2.2.2.2.2.2.2.2.2.2.1,z8.2.2.2.1,z8.2.2.2.2.2.2.2.2.2.2.2.1,()))
noncomputable def DQ:gH prog 48 (some 11) 20:=ql mixed lC l6 [0,1,2,3,4,5,6,7,8,9,10,11,12,13,14,15,16,17,18,19] rfl DO DP ( .t 36) [37] rfl (qQ).er (qR).er 101 func101 (AR) (enters_of func101 rfl rfl) 26 rfl (qS) rfl (fun x=>ai (gH29_v1_0b_2 x)) (fun x=>by kernel_rfl)
abbrev DS:au:=au.mk [(2,.c (.ptr 5 0)),(3,.c (.ptr 6 0)),(5,.c (.ptr 7 0)),(8,.c (.ptr 20 0)),(21,.c (.bO 19 .str)),(22,hI),(23,hI)] [(5,.cells [.ptr 0 0] false),(6,.cells [.fn0 32] false),(7,.cells [.mp 21] false),(20,.cells [.mp 22] false),(19,.arr .str false),(0,.cells [.mp 1,.mp 2,.mp 3,.mp 4] false),(1,fL),(2,gB),(3,bY),(4,bY),(8,.cells [.ptr 0 0] false),(10,.iy),(11,.loop .busy none 10 [(2,.c (.ptr 5 0)),(3,.c (.ptr 6 0)),(4,.c .cw),(5,.c (.ptr 7 0)),(17,.fn 83 [] [.ptr 8 0])] [18,19] (.aX [.op (some 7) none (.mv (.t 19))]) (.block 1 (.seq (.aX [.op (some 20) none (.ex (iS.ja tI false .unit true) []),.op (some 8) none (.alloc [.cT]),.op none none (.store 1 (.t 8) (.t 20))]) (.seq (.seq (.aX [.op (some 21) none (.mv (.t 7)),.op (some 22) none (.len (.t 21)),.op (some 23) none (.mv (.c (.int .i64 (Int.ofNat 0))))]) (.block 2 (.loop (.seq (.aX [.op (some 24) none (.bin .lss (.t 23) (.t 22))]) (.seq (.cond (.t 24) .skip (.exit 2)) (.seq (.block 3 (.seq (.aX [.op (some 25) none (.idx 1 (.t 21) (.t 23)),.op (some 26) none (.load false 1 (.t 25)),.op (some 10) none (.mv (.t 26))]) (.seq (.draw [[],[],[1],[1,2],[1,2,3],[],[1,2,3,4,5],[0,1,2,3,4,5,6],[],[0,1,2,3,4,5,6,7,8]] [.op (some 27) none (.load false 1 (.t 3)),.op (some 28) none (.load false 1 (.t 2)),.op (some 29) none (.ex iS.mc [.t 28]),.op (some 30) none (.lI 0 [false] (.t 29)),.op (some 31) none (.load false 1 (.t 30)),.op (some 32) none (.mv (.t 10)),.op (some 33) none (.ex (iS.iF .str false tG true false) [.t 31,.t 32]),.call (some 34) none (.t 27) [.t 33] [some tG],.op (some 11) none (.alloc [.int .i64 (Int.ofNat 0)]),.op none none (.store 1 (.t 11) (.t 34))]) (.seq (.aX [.op (some 35) none (.load false 1 (.t 5)),.call (some 36) none (.c (.fn 57 [] [])) [.t 35] [none]]) (.block 4 (.bK (.t 36) [37] (.aX [.op (some 12) none (.mv (.t 37))]) (.block 5 (.aX [.op (some 38) none (.load false 1 (.t 8)),.op (some 39) none (.mv (.t 12)),.op (some 40) none (.load false 1 (.t 11)),.op (some 41) none (.bin .add (.t 39) (.t 40)),.call (some 42) none (.c (.fn 55 [] [])) [.t 38,.t 41] [none,some tI]])))))))) (.aX [.op (some 43) none (.bin .add (.t 23) (.c (.int .i64 (Int.ofNat 1)))),.op (some 23) none (.mv (.t 43))]))))))) (.aX [.op (some 44) none (.load false 1 (.t 8)),.op none none (.store 1 (.t 5) (.t 44))])))) 48),(12,.arr .str false),(21,n9),(22,n9)] [.slot 8,.cell 7 0,.cell 20 0] []
abbrev DT:aT:=[(.exit 2,au.mk [(5,.c (.ptr 7 0)),(8,.c (.ptr 20 0))] [(7,.cells [.mp 21] false),(20,.cells [.mp 22] false),(0,.cells [.mp 1,.mp 2,.mp 3,.mp 4] false),(1,fL),(2,gB),(3,bY),(4,bY),(5,.cells [.ptr 0 0] false),(6,.cells [.fn0 32] false),(8,.cells [.ptr 0 0] false),(10,.iy),(11,.loop .busy none 10 [(2,.c (.ptr 5 0)),(3,.c (.ptr 6 0)),(4,.c .cw),(5,.c (.ptr 7 0)),(17,.fn 83 [] [.ptr 8 0])] [18,19] (.aX [.op (some 7) none (.mv (.t 19))]) (.block 1 (.seq (.aX [.op (some 20) none (.ex (iS.ja tI false .unit true) []),.op (some 8) none (.alloc [.cT]),.op none none (.store 1 (.t 8) (.t 20))]) (.seq (.seq (.aX [.op (some 21) none (.mv (.t 7)),.op (some 22) none (.len (.t 21)),.op (some 23) none (.mv (.c (.int .i64 (Int.ofNat 0))))]) (.block 2 (.loop (.seq (.aX [.op (some 24) none (.bin .lss (.t 23) (.t 22))]) (.seq (.cond (.t 24) .skip (.exit 2)) (.seq (.block 3 (.seq (.aX [.op (some 25) none (.idx 1 (.t 21) (.t 23)),.op (some 26) none (.load false 1 (.t 25)),.op (some 10) none (.mv (.t 26))]) (.seq (.draw [[],[],[1],[1,2],[1,2,3],[],[1,2,3,4,5],[0,1,2,3,4,5,6],[],[0,1,2,3,4,5,6,7,8]] [.op (some 27) none (.load false 1 (.t 3)),.op (some 28) none (.load false 1 (.t 2)),.op (some 29) none (.ex iS.mc [.t 28]),.op (some 30) none (.lI 0 [false] (.t 29)),.op (some 31) none (.load false 1 (.t 30)),.op (some 32) none (.mv (.t 10)),.op (some 33) none (.ex (iS.iF .str false tG true false) [.t 31,.t 32]),.call (some 34) none (.t 27) [.t 33] [some tG],.op (some 11) none (.alloc [.int .i64 (Int.ofNat 0)]),.op none none (.store 1 (.t 11) (.t 34))]) (.seq (.aX [.op (some 35) none (.load false 1 (.t 5)),.call (some 36) none (.c (.fn 57 [] [])) [.t 35] [none]]) (.block 4 (.bK (.t 36) [37] (.aX [.op (some 12) none (.mv (.t 37))]) (.block 5 (.aX [.op (some 38) none (.load false 1 (.t 8)),.op (some 39) none (.mv (.t 12)),.op (some 40) none (.load false 1 (.t 11)),.op (some 41) none (.bin .add (.t 39) (.t 40)),.call (some 42) none (.c (.fn 55 [] [])) [.t 38,.t 41] [none,some tI]])))))))) (.aX [.op (some 43) none (.bin .add (.t 23) (.c (.int .i64 (Int.ofNat 1)))),.op (some 23) none (.mv (.t 43))]))))))) (.aX [.op (some 44) none (.load false 1 (.t 8)),.op none none (.store 1 (.t 5) (.t 44))])))) 48),(12,.arr .str false),(19,.arr .str false),(21,n9),(22,n9)] [.slot 8,.cell 7 0,.cell 20 0] [])]
noncomputable def DU:D prog 48 (some 11) 20:=dO [.r DQ] (pick (kd prog f29) [(0,true),(0,false)]) 0
noncomputable def gH29_v1_0b_1:Nat×Int×Int×List ByteArray×dx×dK×bq×bq×List ByteArray×(List (Int×Unit))×(List (Int×Unit))×Unit->bR ((Nat×Int×Int×List ByteArray×dx×dK×bq×bq×List ByteArray×(List (Int×Unit))×(List (Int×Unit))×Unit) ⊕ ((dx×dK×bq×bq×List ByteArray×List ByteArray×(List (Int×Unit))×(List (Int×Unit))×Unit))):=fun (zB,v22,v23,Ot,m1,m2,m3,m4,Ou,m21,m22,_) =>
 .br (decide (v23<v22)) (
 .nb v23 ((zB:Nat):Int) <|
 .nd (decide (((0:Nat)+(Int.toNat v23))<(Ot).length)) <|
 .bd (F32 ((ay .str ((bs []),(0:Int),(bs []),(bs []),(0:Int)) m1 ((Ot).getD ((0:Nat)+(Int.toNat v23)) (bs []))).1,(ay .str ((bs []),(0:Int),(bs []),(bs []),(0:Int)) m1 ((Ot).getD ((0:Nat)+(Int.toNat v23)) (bs []))).2.1,(ay .str ((bs []),(0:Int),(bs []),(bs []),(0:Int)) m1 ((Ot).getD ((0:Nat)+(Int.toNat v23)) (bs []))).2.2.1,(ay .str ((bs []),(0:Int),(bs []),(bs []),(0:Int)) m1 ((Ot).getD ((0:Nat)+(Int.toNat v23)) (bs []))).2.2.2.1,(ay .str ((bs []),(0:Int),(bs []),(bs []),(0:Int)) m1 ((Ot).getD ((0:Nat)+(Int.toNat v23)) (bs []))).2.2.2.2)) fun y5 =>
 .bd (FH57 m21) fun y6 =>
 .bd (gH29_v1_0b_2 (zB,v22,v23,y5.1,Ot,m1,m2,m3,m4,Ou,y6.1,m22,())) fun z9 =>
 .ni (z9.2.2.1+(1:Int)) <|
 .ret (.inl (z9.1,z9.2.1,(z9.2.2.1+(1:Int)),z9.2.2.2.1,z9.2.2.2.2.1,z9.2.2.2.2.2.1,z9.2.2.2.2.2.2.1,z9.2.2.2.2.2.2.2.1,z9.2.2.2.2.2.2.2.2.1,z9.2.2.2.2.2.2.2.2.2.1,z9.2.2.2.2.2.2.2.2.2.2.1,()))) (
 .ret (.inr (m1,m2,m3,m4,Ou,Ot,m21,m22,())))
noncomputable def DV:bt prog 48 (some 11) 20:=aW mixed nr gR [0,1,2,3,4,5,6,7,8,9,10,11,12,13,14,15,16,17,18,19] rfl DS DT rfl (DU) (fun x=>ai (gH29_v1_0b_1 x)) (fun x=>by kernel_rfl)
noncomputable def zI:D prog 48 (some 11) 20:=dO [] (pick (kd prog f29) [(0,false)]) 0
noncomputable def zJ:D prog 48 (some 11) 20:=dO [.l DV] (pick (kd prog f29) [(0,true)]) 0
noncomputable def pK:Cx:=AF nr (fun kz=>P9 kz nr bW 11 20 [18,19] (zI) (zJ))
theorem pM:(pK).Ok prog:=jU gR (fun h=>nW mixed gR h)
abbrev DW:au:=au.mk [(0,.c (.yl 11)),(1,.c (.ptr 8 0)),(10,.c (.bO 12 .str)),(11,hI),(12,hI)] [(11,.loop .ready none 10 [(2,.c (.ptr 5 0)),(3,.c (.ptr 6 0)),(4,.c .cw),(5,.c (.ptr 7 0)),(17,.fn 83 [] [.ptr 8 0])] [18,19] (.aX [.op (some 7) none (.mv (.t 19))]) (.block 1 (.seq (.aX [.op (some 20) none (.ex (iS.ja tI false .unit true) []),.op (some 8) none (.alloc [.cT]),.op none none (.store 1 (.t 8) (.t 20))]) (.seq (.seq (.aX [.op (some 21) none (.mv (.t 7)),.op (some 22) none (.len (.t 21)),.op (some 23) none (.mv (.c (.int .i64 (Int.ofNat 0))))]) (.block 2 (.loop (.seq (.aX [.op (some 24) none (.bin .lss (.t 23) (.t 22))]) (.seq (.cond (.t 24) .skip (.exit 2)) (.seq (.block 3 (.seq (.aX [.op (some 25) none (.idx 1 (.t 21) (.t 23)),.op (some 26) none (.load false 1 (.t 25)),.op (some 10) none (.mv (.t 26))]) (.seq (.draw [[],[],[1],[1,2],[1,2,3],[],[1,2,3,4,5],[0,1,2,3,4,5,6],[],[0,1,2,3,4,5,6,7,8]] [.op (some 27) none (.load false 1 (.t 3)),.op (some 28) none (.load false 1 (.t 2)),.op (some 29) none (.ex iS.mc [.t 28]),.op (some 30) none (.lI 0 [false] (.t 29)),.op (some 31) none (.load false 1 (.t 30)),.op (some 32) none (.mv (.t 10)),.op (some 33) none (.ex (iS.iF .str false tG true false) [.t 31,.t 32]),.call (some 34) none (.t 27) [.t 33] [some tG],.op (some 11) none (.alloc [.int .i64 (Int.ofNat 0)]),.op none none (.store 1 (.t 11) (.t 34))]) (.seq (.aX [.op (some 35) none (.load false 1 (.t 5)),.call (some 36) none (.c (.fn 57 [] [])) [.t 35] [none]]) (.block 4 (.bK (.t 36) [37] (.aX [.op (some 12) none (.mv (.t 37))]) (.block 5 (.aX [.op (some 38) none (.load false 1 (.t 8)),.op (some 39) none (.mv (.t 12)),.op (some 40) none (.load false 1 (.t 11)),.op (some 41) none (.bin .add (.t 39) (.t 40)),.call (some 42) none (.c (.fn 55 [] [])) [.t 38,.t 41] [none,some tI]])))))))) (.aX [.op (some 43) none (.bin .add (.t 23) (.c (.int .i64 (Int.ofNat 1)))),.op (some 23) none (.mv (.t 43))]))))))) (.aX [.op (some 44) none (.load false 1 (.t 8)),.op none none (.store 1 (.t 5) (.t 44))])))) 48),(8,.cells [.ptr 0 0] false),(12,.arr .str false),(10,.iy),(5,.cells [.ptr 0 0] false),(0,.cells [.mp 1,.mp 2,.mp 3,.mp 4] false),(1,fL),(2,gB),(3,bY),(4,bY),(6,.cells [.fn0 32] false),(7,.cells [.mp 13] false),(13,n9)] [.slot 10,.cell 7 0] []
abbrev DX:aT:=[(.exit 0,au.mk [] [(0,.cells [.mp 1,.mp 2,.mp 3,.mp 4] false),(1,fL),(2,gB),(3,bY),(4,bY),(5,.cells [.ptr 0 0] false),(6,.cells [.fn0 32] false),(7,.cells [.mp 12] false),(8,.cells [.ptr 0 0] false),(10,.iy),(11,.loop .ready none 10 [(2,.c (.ptr 5 0)),(3,.c (.ptr 6 0)),(4,.c .cw),(5,.c (.ptr 7 0)),(17,.fn 83 [] [.ptr 8 0])] [18,19] (.aX [.op (some 7) none (.mv (.t 19))]) (.block 1 (.seq (.aX [.op (some 20) none (.ex (iS.ja tI false .unit true) []),.op (some 8) none (.alloc [.cT]),.op none none (.store 1 (.t 8) (.t 20))]) (.seq (.seq (.aX [.op (some 21) none (.mv (.t 7)),.op (some 22) none (.len (.t 21)),.op (some 23) none (.mv (.c (.int .i64 (Int.ofNat 0))))]) (.block 2 (.loop (.seq (.aX [.op (some 24) none (.bin .lss (.t 23) (.t 22))]) (.seq (.cond (.t 24) .skip (.exit 2)) (.seq (.block 3 (.seq (.aX [.op (some 25) none (.idx 1 (.t 21) (.t 23)),.op (some 26) none (.load false 1 (.t 25)),.op (some 10) none (.mv (.t 26))]) (.seq (.draw [[],[],[1],[1,2],[1,2,3],[],[1,2,3,4,5],[0,1,2,3,4,5,6],[],[0,1,2,3,4,5,6,7,8]] [.op (some 27) none (.load false 1 (.t 3)),.op (some 28) none (.load false 1 (.t 2)),.op (some 29) none (.ex iS.mc [.t 28]),.op (some 30) none (.lI 0 [false] (.t 29)),.op (some 31) none (.load false 1 (.t 30)),.op (some 32) none (.mv (.t 10)),.op (some 33) none (.ex (iS.iF .str false tG true false) [.t 31,.t 32]),.call (some 34) none (.t 27) [.t 33] [some tG],.op (some 11) none (.alloc [.int .i64 (Int.ofNat 0)]),.op none none (.store 1 (.t 11) (.t 34))]) (.seq (.aX [.op (some 35) none (.load false 1 (.t 5)),.call (some 36) none (.c (.fn 57 [] [])) [.t 35] [none]]) (.block 4 (.bK (.t 36) [37] (.aX [.op (some 12) none (.mv (.t 37))]) (.block 5 (.aX [.op (some 38) none (.load false 1 (.t 8)),.op (some 39) none (.mv (.t 12)),.op (some 40) none (.load false 1 (.t 11)),.op (some 41) none (.bin .add (.t 39) (.t 40)),.call (some 42) none (.c (.fn 55 [] [])) [.t 38,.t 41] [none,some tI]])))))))) (.aX [.op (some 43) none (.bin .add (.t 23) (.c (.int .i64 (Int.ofNat 1)))),.op (some 23) none (.mv (.t 43))]))))))) (.aX [.op (some 44) none (.load false 1 (.t 8)),.op none none (.store 1 (.t 5) (.t 44))])))) 48),(12,n9)] [.cell 7 0] [])]
noncomputable def DY:D prog 34 none 12:=dO [] (pick (kd prog f83) [(0,false)]) 0
noncomputable def gH29_v1_0i_0:Nat×Int×Int×List ByteArray×dx×dK×bq×bq×(List (Int×Unit))×Unit->bR ((Nat×Int×Int×List ByteArray×dx×dK×bq×bq×(List (Int×Unit))×Unit) ⊕ ((dx×dK×bq×bq×(List (Int×Unit))×Unit))):=fun (AP,v11,v12,Ou,m1,m2,m3,m4,m13,_) =>
 .br (decide (v12<v11)) (
 .nb v12 ((AP:Nat):Int) <|
 .nd (decide (((0:Nat)+(Int.toNat v12))<(Ou).length)) <|
 .br ((ay .str ((bs []),(0:Int),(bs []),(bs []),(0:Int)) m1 ((Ou).getD ((0:Nat)+(Int.toNat v12)) (bs []))).2.1==(1:Int)) (
 .bd (FH84fix ((Ou).getD ((0:Nat)+(Int.toNat v12)) (bs [])) m1 m2 m3 m4) fun y4 =>
 .bd (.it gH29_v1_0b_1 (y4.1,((y4.1:Nat):Int),(0:Int),y4.2.1,y4.2.2.1,y4.2.2.2.1,y4.2.2.2.2.1,y4.2.2.2.2.2.1,Ou,m13,[],())) fun KY =>
 .ni (v12+(1:Int)) <|
 .ret (.inl (AP,v11,(v12+(1:Int)),KY.2.2.2.2.1,KY.1,KY.2.1,KY.2.2.1,KY.2.2.2.1,KY.2.2.2.2.2.2.2.1,()))) (
 .ni (v12+(1:Int)) <|
 .ret (.inl (AP,v11,(v12+(1:Int)),Ou,m1,m2,m3,m4,m13,())))) (
 .ret (.inr (m1,m2,m3,m4,m13,())))
noncomputable def DZ:bt prog 34 none 12:=aW mixed pK pM [0,1,2,3,4,5,6,7,8,9,10,11] rfl DW DX rfl (DY) (fun x=>ai (gH29_v1_0i_0 x)) (fun x=>by kernel_rfl)
abbrev NP:au:=au.mk [(2,.c (.ptr 5 0)),(3,.c (.ptr 6 0)),(4,.c .cw),(5,.c (.ptr 7 0)),(17,.fn 83 [] [.ptr 8 0])] [(5,.cells [.ptr 0 0] false),(6,.cells [.fn0 32] false),(7,.cells [.mp 9] false),(8,.cells [.ptr 0 0] false),(0,.cells [.mp 1,.mp 2,.mp 3,.mp 4] false),(1,fL),(2,gB),(3,bY),(4,bY),(9,n9)] [.slot 2,.slot 3,.slot 5,.part 17 0,.cell 7 0] []
abbrev NQ:aT:=[(.normal,au.mk [(5,.c (.ptr 5 0))] [(5,.cells [.mp 6] false),(0,.cells [.mp 1,.mp 2,.mp 3,.mp 4] false),(1,fL),(2,gB),(3,bY),(4,bY),(6,n9)] [.slot 5,.cell 5 0] [])]
noncomputable def zK:D prog 34 none 12:=dO [.l DZ] (kd prog f83) 0
theorem I6:cM prog f83=some ⟨34,2,(zK).er,[],[]⟩:=by kernel_rfl
noncomputable def gH29_v1_0:dx×dK×bq×bq×(List (Int×Unit))×Unit->bR ((dx×dK×bq×bq×(List (Int×Unit))×Unit)):=fun (m1,m2,m3,m4,m9,_) =>
 .bd (FH50 m1) fun y2 =>
 .bd (FH49 y2.1) fun y3 =>
 .bd (.it gH29_v1_0i_0 (y3.1,((y3.1:Nat):Int),(0:Int),y3.2.1,y3.2.2.1,m2,m3,m4,m9,())) fun K0 =>
 .ret ((K0.1,K0.2.1,K0.2.2.1,K0.2.2.2.1,K0.2.2.2.2.1,()))
noncomputable def NR:gH prog 48 none 5:=ql mixed pK pM [0,1,2,3,4] rfl NP NQ ( .t 17) [18,19] rfl (zI).er (zJ).er 83 func83 (I6) (enters_of func83 rfl rfl) 12 rfl (zK) rfl (fun x=>ai (gH29_v1_0 x)) (fun x=>by kernel_rfl)
noncomputable def GB:D prog 48 none 5:=dO [.r NR] (kd prog f29) 0
noncomputable def FH29_v1 (m1:dx) (m2:dK) (m3:bq) (m4:bq):bR (Nat×List Int×dx×dK×bq×bq×Unit) :=
 .bd (FH55 (0:Int) []) fun y0 =>
 .bd (FH56 m1 m2 m3 m4) fun y1 =>
 .bd (gH29_v1_0 (y1.1,y1.2.1,y1.2.2.1,y1.2.2.2.1,y0.1,())) fun z12 =>
 .bd (FH57 z12.2.2.2.2.1) fun y13 =>
 .bd (FH58 y13.1) fun NA =>
 .ret (NA.1,NA.2.1,z12.1,z12.2.1,z12.2.2.1,z12.2.2.2.1,())
theorem I7:cM prog f29=some ⟨48,2,GB.er,[.t 4],[some tL]⟩:=by kernel_rfl
noncomputable def Lw:Ht:=⟨29,WO,WQ,(fun x=>ai (FH29_v1 x.1 x.2.1 x.2.2.1 x.2.2.2.1))⟩
theorem I8:Lw.Ok prog:=bV mixed gR rfl func29 I7 (enters_of func29 rfl rfl) GB (by kernel_rfl) rfl rfl ⟨_,rfl⟩ rfl (pre:=[0,1,2,3,4]) rfl (fun x=>by kernel_rfl)

/- 31 -/
noncomputable def cx31:Cx:=(aM [] [])
theorem WR:cx31.Ok prog:=ak trivial trivial
noncomputable def dd31:D prog 13 none 0:=dO [] (kd prog f31) 0
noncomputable def F31 (a0:List Int):bR ((Int×Int)×Unit) :=
 .nb (0:Int) (((a0).length:Nat):Int) <|
 .ni ((((a0).length:Nat):Int) - (1:Int)) <|
 .nb ((((a0).length:Nat):Int) - (1:Int)) (((a0).length:Nat):Int) <|
 .ret ((((a0).getD (Int.toNat (0:Int)) (0:Int)),((a0).getD (Int.toNat ((((a0).length:Nat):Int) - (1:Int))) (0:Int))),())
theorem acU:cM prog f31=some ⟨13,1,dd31.er,[.cell 2 true 2],[some (.prod tI tI)]⟩:=by kernel_rfl
noncomputable def acV:Ct:=⟨31,[hL],.c (.hole (.prod tI tI)),fun x=>ai (F31 x.1)⟩
theorem Lx:acV.Ok prog:=cu mixed WR func31 acU (enters_of func31 rfl rfl) dd31 (by kernel_rfl) rfl (fun x=>by kernel_rfl)

/- 9, lent -/
abbrev pH9:au:=au.mk [(0,.c (.ptr 0 0))] [(0,.cells [.mp 1] false),(1,gD)] [.slot 0,.cell 0 0] []
abbrev qH9:au:=au.mk [(0,.dc [.hole (.prod tI tI),.hole tI])] [(0,.cells [.mp 1] false),(1,gD)] [] []
noncomputable def cxH9:Cx:=(aM [acV] [M1,abx,Lw])
theorem WS:cxH9.Ok prog:=ak ⟨Lx,trivial⟩ ⟨⟨tF,rfl⟩,⟨KM,rfl⟩,⟨I8,rfl⟩,trivial⟩
noncomputable def ddH9:D prog 11 none 2:=dO [] (kd prog f9) 0
noncomputable def FH9 (m1:eX):bR ((Int×Int)×Int×eX×Unit) :=
 .bd (FH24 m1) fun y0 =>
 .br y0.1 (
 .ret (((0:Int),(0:Int)),(9:Int),y0.2.1,())) (
 .bd (FH28 y0.2.1) fun y1 =>
 .bd (FH29_v1 y1.2.1 y1.2.2.1 y1.2.2.2.1 y1.2.2.2.2.1) fun y2 =>
 .bd (F31 (((y2.2.1).drop (0:Nat)).take y2.1)) fun y3 =>
 .ret ((y3.1.1,y3.1.2),(0:Int),y1.1,()))
theorem acW:cM prog f9=some ⟨11,1,ddH9.er,[.cell 2 true 2,.t 3],[some (.prod tI tI),some tI]⟩:=by kernel_rfl
noncomputable def ht9:Ht:=⟨9,pH9,qH9,(fun x=>ai (FH9 x.1))⟩
theorem acX:ht9.Ok prog:=bV mixed WS rfl func9 acW (enters_of func9 rfl rfl) ddH9 (by kernel_rfl) rfl rfl ⟨_,rfl⟩ rfl (pre:=[0,1]) rfl (fun x=>by kernel_rfl)

/- 10, lent -/
abbrev pH10:au:=au.mk [(0,.c (.ptr 0 0)),(1,.c (.hole .str))] [(0,.cells [.mp 1] false),(1,gD)] [.slot 0,.cell 0 0] []
abbrev qH10:au:=au.mk [(0,.dc [.hole (.prod tI tI),.hole tI])] [(0,.cells [.mp 1] false),(1,gD)] [] []
noncomputable def aic:Cx:=(aM [acV] [ht8])
theorem RW:aic.Ok prog:=ak ⟨Lx,trivial⟩ ⟨⟨IX,rfl⟩,trivial⟩
noncomputable def YZ:D prog 20 none 2:=dO [] (kd prog f10) 0
noncomputable def FH10 (v1:ByteArray) (m1:eX):bR ((Int×Int)×Int×eX×Unit) :=
 .bd (FH8 v1 m1) fun y0 =>
 .br (!(y0.2.1==(0:Int))) (
 .ret (((0:Int),(0:Int)),y0.2.1,y0.2.2.2.1,())) (
 .bd (F31 (((y0.2.2.1).drop (0:Nat)).take y0.1)) fun y1 =>
 .ret ((y1.1.1,y1.1.2),(0:Int),y0.2.2.2.1,()))
theorem WT:cM prog f10=some ⟨20,2,YZ.er,[.cell 4 true 2,.t 5],[some (.prod tI tI),some tI]⟩:=by kernel_rfl
noncomputable def ht10:Ht:=⟨10,pH10,qH10,(fun x=>ai (FH10 x.1 x.2.1))⟩
theorem WU:ht10.Ok prog:=bV mixed RW rfl func10 WT (enters_of func10 rfl rfl) YZ (by kernel_rfl) rfl rfl ⟨_,rfl⟩ rfl (pre:=[0,1]) rfl (fun x=>by kernel_rfl)

/- 3 -/
noncomputable def cx3:Cx:=(aM [ct4,ct11] [ht5,ht6,ht7,ht8,ht9,ht10])
theorem rY:cx3.Ok prog:=ak ⟨acP,VE,trivial⟩ ⟨⟨QD,rfl⟩,⟨QH,rfl⟩,⟨acS,rfl⟩,⟨IX,rfl⟩,⟨acX,rfl⟩,⟨WU,rfl⟩,trivial⟩
abbrev p3_0:au:=au.mk [(0,.c (.hole (.list (.prod (.int .u8) (.prod (.int .u8) (.int .u8)))))),(3,.c (.hole (.list (.int .u8)))),(4,.c (.hole .bool)),(7,.c (.pa 0 (.int .u8) 2)),(11,.c (.bO 1 .str)),(12,.c (.ptr 2 0)),(54,.c (.bO 1 .str)),(55,hI),(56,hI)] [(0,.arr (.int .u8) false),(1,.arr .str false),(2,.cells [.hole tI,.hole tI,.hole tI,.bO 3 (.prod .str tI),.cw] false),(3,.arr (.prod .str tI) false)] [.slot 7,.slot 11,.slot 12,.cell 2 3] []
abbrev x3_0:aT:=[(.exit 0,au.mk [(0,.c (.hole (.list (.prod (.int .u8) (.prod (.int .u8) (.int .u8)))))),(3,.c (.hole (.list (.int .u8)))),(4,.c (.hole .bool)),(7,.c (.pa 0 (.int .u8) 2)),(11,.c (.bO 1 .str)),(12,.c (.ptr 2 0))] [(0,.arr (.int .u8) false),(1,.arr .str false),(2,.cells [.hole tI,.hole tI,.hole tI,.bO 3 (.prod .str tI),.cw] false),(3,.arr (.prod .str tI) false)] [.slot 7,.slot 11,.slot 12,.cell 2 3] [])]
noncomputable def b3_0:D prog 427 none 0:=dO [] (pick (kd prog f3) [(0,false)]) 0
noncomputable def g3_0:(List (Int×Int×Int))×List Int×Bool×Nat×Nat×Int×Int×List Int×List ByteArray×Int×Int×Int×Nat×(List (ByteArray×Int))×Unit->bR (((List (Int×Int×Int))×List Int×Bool×Nat×Nat×Int×Int×List Int×List ByteArray×Int×Int×Int×Nat×(List (ByteArray×Int))×Unit) ⊕ (((List (Int×Int×Int))×List Int×Bool×Nat×List Int×List ByteArray×Int×Int×Int×Nat×(List (ByteArray×Int))×Unit))):=fun (v0,v3,v4,oc,nv54,v55,Y4,b0,b1,lz,tP,NS,wk,b3,_) =>
 .br (decide (Y4<v55)) (
 .nb Y4 ((nv54:Nat):Int) <|
 .nd (decide (((0:Nat)+(Int.toNat Y4))<(b1).length)) <|
 .nd (decide ((wk+((((((((b1).getD ((0:Nat)+(Int.toNat Y4)) (bs [])),(1000:Int))::[])).drop (0:Nat)).take (1:Nat))).length)<cn)) <|
 .ni (Y4+(1:Int)) <|
 .ret (.inl (v0,v3,v4,oc,nv54,v55,(Y4+(1:Int)),b0,b1,lz,tP,NS,(wk+((((((((b1).getD ((0:Nat)+(Int.toNat Y4)) (bs [])),(1000:Int))::[])).drop (0:Nat)).take (1:Nat))).length),((((b3).drop (0:Nat)).take wk)++(((((((b1).getD ((0:Nat)+(Int.toNat Y4)) (bs [])),(1000:Int))::[])).drop (0:Nat)).take (1:Nat))),()))) (
 .ret (.inr (v0,v3,v4,oc,b0,b1,lz,tP,NS,wk,b3,())))
noncomputable def L3_0:bt prog 427 none 0:=aW mixed cx3 rY [] rfl p3_0 x3_0 rfl (b3_0) (fun x=>ai (g3_0 x)) (fun x=>by kernel_rfl)
abbrev p3_1:au:=au.mk [(0,.c (.hole (.list (.prod (.int .u8) (.prod (.int .u8) (.int .u8)))))),(3,.c (.hole (.list (.int .u8)))),(4,.c (.hole .bool)),(7,.c (.pa 0 (.int .u8) 2)),(11,.c (.bO 1 .str)),(12,.c (.ptr 2 0)),(15,hI)] [(0,.arr (.int .u8) false),(1,.arr .str false),(2,.cells [.hole tI,.hole tI,.hole tI,.bO 3 (.prod .str tI),.bO 4 (.prod tI (.prod tI (.prod tI tI)))] false),(3,.arr (.prod .str tI) false),(4,.arr (.prod tI (.prod tI (.prod tI tI))) false)] [.slot 7,.slot 11,.slot 12,.cell 2 3,.cell 2 4] []
abbrev x3_1:aT:=[(.exit 2,au.mk [(3,.c (.hole (.list (.int .u8)))),(4,.c (.hole .bool)),(7,.c (.pa 0 (.int .u8) 2)),(11,.c (.bO 1 .str)),(12,.c (.ptr 2 0))] [(0,.arr (.int .u8) false),(1,.arr .str false),(2,.cells [.hole tI,.hole tI,.hole tI,.bO 3 (.prod .str tI),.bO 4 (.prod tI (.prod tI (.prod tI tI)))] false),(3,.arr (.prod .str tI) false),(4,.arr (.prod tI (.prod tI (.prod tI tI))) false)] [.slot 7,.slot 11,.slot 12,.cell 2 3,.cell 2 4] [])]
noncomputable def b3_1:D prog 427 none 0:=dO [] (pick (kd prog f3) [(1,false)]) 0
noncomputable def g3_1:(List (Int×Int×Int))×List Int×Bool×Nat×Int×List Int×List ByteArray×Int×Int×Int×Nat×Nat×(List (ByteArray×Int))×(List (Int×Int×Int×Int))×Unit->bR (((List (Int×Int×Int))×List Int×Bool×Nat×Int×List Int×List ByteArray×Int×Int×Int×Nat×Nat×(List (ByteArray×Int))×(List (Int×Int×Int×Int))×Unit) ⊕ ((List Int×Bool×Nat×List Int×List ByteArray×Int×Int×Int×Nat×Nat×(List (ByteArray×Int))×(List (Int×Int×Int×Int))×Unit))):=fun (v0,v3,v4,oc,di,b0,b1,lz,tP,NS,wk,GC,b3,b4,_) =>
 .br (decide (di<(((v0).length:Nat):Int))) (
 .br (decide (di<(6:Int))) (
 .nb di (((v0).length:Nat):Int) <|
 .nd (decide ((0:Nat)<((((v0).getD (Int.toNat di) ((0:Int),(0:Int),(0:Int))).1::(((v0).getD (Int.toNat di) ((0:Int),(0:Int),(0:Int))).2.1::(((v0).getD (Int.toNat di) ((0:Int),(0:Int),(0:Int))).2.2::[])))).length)) <|
 .ni (((((v0).getD (Int.toNat di) ((0:Int),(0:Int),(0:Int))).1::(((v0).getD (Int.toNat di) ((0:Int),(0:Int),(0:Int))).2.1::(((v0).getD (Int.toNat di) ((0:Int),(0:Int),(0:Int))).2.2::[])))).getD (0:Nat) (0:Int)) <|
 .nd (!((3:Int)==(0:Int))) <|
 .nd (decide ((1:Nat)<((((v0).getD (Int.toNat di) ((0:Int),(0:Int),(0:Int))).1::(((v0).getD (Int.toNat di) ((0:Int),(0:Int),(0:Int))).2.1::(((v0).getD (Int.toNat di) ((0:Int),(0:Int),(0:Int))).2.2::[])))).length)) <|
 .ni (((((v0).getD (Int.toNat di) ((0:Int),(0:Int),(0:Int))).1::(((v0).getD (Int.toNat di) ((0:Int),(0:Int),(0:Int))).2.1::(((v0).getD (Int.toNat di) ((0:Int),(0:Int),(0:Int))).2.2::[])))).getD (1:Nat) (0:Int)) <|
 .nd (decide ((2:Nat)<((((v0).getD (Int.toNat di) ((0:Int),(0:Int),(0:Int))).1::(((v0).getD (Int.toNat di) ((0:Int),(0:Int),(0:Int))).2.1::(((v0).getD (Int.toNat di) ((0:Int),(0:Int),(0:Int))).2.2::[])))).length)) <|
 .ni (((((v0).getD (Int.toNat di) ((0:Int),(0:Int),(0:Int))).1::(((v0).getD (Int.toNat di) ((0:Int),(0:Int),(0:Int))).2.1::(((v0).getD (Int.toNat di) ((0:Int),(0:Int),(0:Int))).2.2::[])))).getD (2:Nat) (0:Int)) <|
 .nd (decide ((GC+(((((((Int.tmod (((((v0).getD (Int.toNat di) ((0:Int),(0:Int),(0:Int))).1::(((v0).getD (Int.toNat di) ((0:Int),(0:Int),(0:Int))).2.1::(((v0).getD (Int.toNat di) ((0:Int),(0:Int),(0:Int))).2.2::[])))).getD (0:Nat) (0:Int)) (3:Int)),(((((v0).getD (Int.toNat di) ((0:Int),(0:Int),(0:Int))).1::(((v0).getD (Int.toNat di) ((0:Int),(0:Int),(0:Int))).2.1::(((v0).getD (Int.toNat di) ((0:Int),(0:Int),(0:Int))).2.2::[])))).getD (1:Nat) (0:Int)),(0:Int),(((((v0).getD (Int.toNat di) ((0:Int),(0:Int),(0:Int))).1::(((v0).getD (Int.toNat di) ((0:Int),(0:Int),(0:Int))).2.1::(((v0).getD (Int.toNat di) ((0:Int),(0:Int),(0:Int))).2.2::[])))).getD (2:Nat) (0:Int)))::[])).drop (0:Nat)).take (1:Nat))).length)<cn)) <|
 .ni (di+(1:Int)) <|
 .ret (.inl (v0,v3,v4,oc,(di+(1:Int)),b0,b1,lz,tP,NS,wk,(GC+(((((((Int.tmod (((((v0).getD (Int.toNat di) ((0:Int),(0:Int),(0:Int))).1::(((v0).getD (Int.toNat di) ((0:Int),(0:Int),(0:Int))).2.1::(((v0).getD (Int.toNat di) ((0:Int),(0:Int),(0:Int))).2.2::[])))).getD (0:Nat) (0:Int)) (3:Int)),(((((v0).getD (Int.toNat di) ((0:Int),(0:Int),(0:Int))).1::(((v0).getD (Int.toNat di) ((0:Int),(0:Int),(0:Int))).2.1::(((v0).getD (Int.toNat di) ((0:Int),(0:Int),(0:Int))).2.2::[])))).getD (1:Nat) (0:Int)),(0:Int),(((((v0).getD (Int.toNat di) ((0:Int),(0:Int),(0:Int))).1::(((v0).getD (Int.toNat di) ((0:Int),(0:Int),(0:Int))).2.1::(((v0).getD (Int.toNat di) ((0:Int),(0:Int),(0:Int))).2.2::[])))).getD (2:Nat) (0:Int)))::[])).drop (0:Nat)).take (1:Nat))).length),b3,((((b4).drop (0:Nat)).take GC)++((((((Int.tmod (((((v0).getD (Int.toNat di) ((0:Int),(0:Int),(0:Int))).1::(((v0).getD (Int.toNat di) ((0:Int),(0:Int),(0:Int))).2.1::(((v0).getD (Int.toNat di) ((0:Int),(0:Int),(0:Int))).2.2::[])))).getD (0:Nat) (0:Int)) (3:Int)),(((((v0).getD (Int.toNat di) ((0:Int),(0:Int),(0:Int))).1::(((v0).getD (Int.toNat di) ((0:Int),(0:Int),(0:Int))).2.1::(((v0).getD (Int.toNat di) ((0:Int),(0:Int),(0:Int))).2.2::[])))).getD (1:Nat) (0:Int)),(0:Int),(((((v0).getD (Int.toNat di) ((0:Int),(0:Int),(0:Int))).1::(((v0).getD (Int.toNat di) ((0:Int),(0:Int),(0:Int))).2.1::(((v0).getD (Int.toNat di) ((0:Int),(0:Int),(0:Int))).2.2::[])))).getD (2:Nat) (0:Int)))::[])).drop (0:Nat)).take (1:Nat))),()))) (
 .ret (.inr (v3,v4,oc,b0,b1,lz,tP,NS,wk,GC,b3,b4,())))) (
 .ret (.inr (v3,v4,oc,b0,b1,lz,tP,NS,wk,GC,b3,b4,())))
noncomputable def L3_1:bt prog 427 none 0:=aW mixed cx3 rY [] rfl p3_1 x3_1 rfl (b3_1) (fun x=>ai (g3_1 x)) (fun x=>by kernel_rfl)
abbrev p3_2:au:=au.mk [(3,.c (.hole (.list (.int .u8)))),(4,.c (.hole .bool)),(11,.c (.bO 0 .str)),(12,.c (.ptr 1 0)),(19,hL),(21,hL),(23,.c (.bO 2 tG)),(153,.c (.bO 0 .str)),(154,hI),(155,hI)] [(0,.arr .str false),(1,.cells [.hole tI,.hole tI,.hole tI,.bO 3 (.prod .str tI),.bO 4 (.prod tI (.prod tI (.prod tI tI)))] false),(2,.arr tG false),(3,.arr (.prod .str tI) true),(4,.arr (.prod tI (.prod tI (.prod tI tI))) true)] [.slot 11,.slot 12,.slot 23,.cell 1 3,.cell 1 4] []
abbrev x3_2:aT:=[(.exit 4,au.mk [(3,.c (.hole (.list (.int .u8)))),(4,.c (.hole .bool)),(11,.c (.bO 0 .str)),(12,.c (.ptr 1 0)),(19,hL),(21,hL),(23,.c (.bO 2 tG))] [(0,.arr .str false),(1,.cells [.hole tI,.hole tI,.hole tI,.bO 3 (.prod .str tI),.bO 4 (.prod tI (.prod tI (.prod tI tI)))] false),(2,.arr tG false),(3,.arr (.prod .str tI) true),(4,.arr (.prod tI (.prod tI (.prod tI tI))) true)] [.slot 11,.slot 12,.slot 23,.cell 1 3,.cell 1 4] [])]
noncomputable def b3_2:D prog 427 none 0:=dO [] (pick (kd prog f3) [(2,false)]) 0
noncomputable def g3_2:List Int×Bool×Nat×List Int×List Int×Nat×Nat×Int×Int×List ByteArray×Int×Int×Int×Nat×Nat×AH×(List (ByteArray×Int))×(List (Int×Int×Int×Int))×Unit->bR ((List Int×Bool×Nat×List Int×List Int×Nat×Nat×Int×Int×List ByteArray×Int×Int×Int×Nat×Nat×AH×(List (ByteArray×Int))×(List (Int×Int×Int×Int))×Unit) ⊕ ((List Int×Bool×Nat×List Int×List Int×Nat×List ByteArray×Int×Int×Int×Nat×Nat×AH×(List (ByteArray×Int))×(List (Int×Int×Int×Int))×Unit))):=fun (v3,v4,oc,l5,v21,aV,Y5,v154,eu,b0,c7,iP,wV,oz,oB,b2,b3,b4,_) =>
 .br (decide (eu<v154)) (
 .nb eu ((Y5:Nat):Int) <|
 .nd (decide (((0:Nat)+(Int.toNat eu))<(b0).length)) <|
 .ni ((48:Int)+eu) <|
 .nd (dV .u8 ((48:Int)+eu)) <|
 .ni ((((bs [97]).size:Nat):Int)+(((dM (((((116:Int)::(((48:Int)+eu)::[]))).drop (0:Nat)).take (2:Nat))).size:Nat):Int)) <|
 .nb eu (((l5).length:Nat):Int) <|
 .ni ((((bs [98]).size:Nat):Int)+(((dM (((((116:Int)::(((48:Int)+eu)::[]))).drop (0:Nat)).take (2:Nat))).size:Nat):Int)) <|
 .nb eu (((v21).length:Nat):Int) <|
 .nd (decide ((aV+(((((((dM (((((116:Int)::(((48:Int)+eu)::[]))).drop (0:Nat)).take (2:Nat))),(1:Int),(bs []),((b0).getD ((0:Nat)+(Int.toNat eu)) (bs [])),(0:Int))::(((dM ((b8 (bs [97]))++(b8 (dM (((((116:Int)::(((48:Int)+eu)::[]))).drop (0:Nat)).take (2:Nat)))))),(2:Int),(dM (((((116:Int)::(((48:Int)+eu)::[]))).drop (0:Nat)).take (2:Nat))),((b0).getD ((0:Nat)+(Int.toNat eu)) (bs [])),((l5).getD (Int.toNat eu) (0:Int)))::(((dM ((b8 (bs [98]))++(b8 (dM (((((116:Int)::(((48:Int)+eu)::[]))).drop (0:Nat)).take (2:Nat)))))),(2:Int),(dM (((((116:Int)::(((48:Int)+eu)::[]))).drop (0:Nat)).take (2:Nat))),((b0).getD ((0:Nat)+(Int.toNat eu)) (bs [])),((v21).getD (Int.toNat eu) (0:Int)))::[])))).drop (0:Nat)).take (3:Nat))).length)<cn)) <|
 .ni (eu+(1:Int)) <|
 .ret (.inl (v3,v4,oc,l5,v21,(aV+(((((((dM (((((116:Int)::(((48:Int)+eu)::[]))).drop (0:Nat)).take (2:Nat))),(1:Int),(bs []),((b0).getD ((0:Nat)+(Int.toNat eu)) (bs [])),(0:Int))::(((dM ((b8 (bs [97]))++(b8 (dM (((((116:Int)::(((48:Int)+eu)::[]))).drop (0:Nat)).take (2:Nat)))))),(2:Int),(dM (((((116:Int)::(((48:Int)+eu)::[]))).drop (0:Nat)).take (2:Nat))),((b0).getD ((0:Nat)+(Int.toNat eu)) (bs [])),((l5).getD (Int.toNat eu) (0:Int)))::(((dM ((b8 (bs [98]))++(b8 (dM (((((116:Int)::(((48:Int)+eu)::[]))).drop (0:Nat)).take (2:Nat)))))),(2:Int),(dM (((((116:Int)::(((48:Int)+eu)::[]))).drop (0:Nat)).take (2:Nat))),((b0).getD ((0:Nat)+(Int.toNat eu)) (bs [])),((v21).getD (Int.toNat eu) (0:Int)))::[])))).drop (0:Nat)).take (3:Nat))).length),Y5,v154,(eu+(1:Int)),b0,c7,iP,wV,oz,oB,((((b2).drop (0:Nat)).take aV)++((((((dM (((((116:Int)::(((48:Int)+eu)::[]))).drop (0:Nat)).take (2:Nat))),(1:Int),(bs []),((b0).getD ((0:Nat)+(Int.toNat eu)) (bs [])),(0:Int))::(((dM ((b8 (bs [97]))++(b8 (dM (((((116:Int)::(((48:Int)+eu)::[]))).drop (0:Nat)).take (2:Nat)))))),(2:Int),(dM (((((116:Int)::(((48:Int)+eu)::[]))).drop (0:Nat)).take (2:Nat))),((b0).getD ((0:Nat)+(Int.toNat eu)) (bs [])),((l5).getD (Int.toNat eu) (0:Int)))::(((dM ((b8 (bs [98]))++(b8 (dM (((((116:Int)::(((48:Int)+eu)::[]))).drop (0:Nat)).take (2:Nat)))))),(2:Int),(dM (((((116:Int)::(((48:Int)+eu)::[]))).drop (0:Nat)).take (2:Nat))),((b0).getD ((0:Nat)+(Int.toNat eu)) (bs [])),((v21).getD (Int.toNat eu) (0:Int)))::[])))).drop (0:Nat)).take (3:Nat))),b3,b4,()))) (
 .ret (.inr (v3,v4,oc,l5,v21,aV,b0,c7,iP,wV,oz,oB,b2,b3,b4,())))
noncomputable def L3_2:bt prog 427 none 0:=aW mixed cx3 rY [] rfl p3_2 x3_2 rfl (b3_2) (fun x=>ai (g3_2 x)) (fun x=>by kernel_rfl)
abbrev p3_3:au:=au.mk [(3,.c (.hole (.list (.int .u8)))),(4,.c (.hole .bool)),(11,.c (.bO 0 .str)),(12,.c (.ptr 1 0)),(19,hL),(21,hL),(23,.c (.bO 2 tG)),(27,.c (.ptr 3 0)),(28,.c (.ptr 4 0)),(29,hI)] [(0,.arr .str false),(1,.cells [.hole tI,.hole tI,.hole tI,.bO 5 (.prod .str tI),.bO 6 (.prod tI (.prod tI (.prod tI tI)))] false),(2,.arr tG false),(3,.cells [.mp 7] false),(4,.cells [.mp 8] false),(5,.arr (.prod .str tI) true),(6,.arr (.prod tI (.prod tI (.prod tI tI))) true),(7,gD),(8,gD)] [.slot 11,.slot 12,.slot 23,.slot 27,.slot 28,.cell 1 3,.cell 1 4,.cell 3 0,.cell 4 0] []
abbrev x3_3:aT:=[(.exit 6,au.mk [(4,.c (.hole .bool)),(11,.c (.bO 0 .str)),(12,.c (.ptr 1 0)),(19,hL),(21,hL),(27,.c (.ptr 2 0)),(28,.c (.ptr 3 0))] [(0,.arr .str false),(1,.cells [.hole tI,.hole tI,.hole tI,.bO 4 (.prod .str tI),.bO 5 (.prod tI (.prod tI (.prod tI tI)))] false),(2,.cells [.mp 6] false),(3,.cells [.mp 7] false),(4,.arr (.prod .str tI) true),(5,.arr (.prod tI (.prod tI (.prod tI tI))) true),(6,gD),(7,gD)] [.slot 11,.slot 12,.slot 27,.slot 28,.cell 1 3,.cell 1 4,.cell 2 0,.cell 3 0] []),(.ret,au.mk [(10,.c (.tf false))] [] [] [])]
noncomputable def b3_3:D prog 427 none 0:=dO [] (pick (kd prog f3) [(3,false)]) 0
noncomputable def g3_3:List Int×Bool×Nat×List Int×List Int×Nat×Int×List ByteArray×Int×Int×Int×Nat×Nat×AH×(List (ByteArray×Int))×(List (Int×Int×Int×Int))×eX×eX×Unit->bR ((List Int×Bool×Nat×List Int×List Int×Nat×Int×List ByteArray×Int×Int×Int×Nat×Nat×AH×(List (ByteArray×Int))×(List (Int×Int×Int×Int))×eX×eX×Unit) ⊕ ((Bool×Nat×List Int×List Int×List ByteArray×Int×Int×Int×Nat×Nat×(List (ByteArray×Int))×(List (Int×Int×Int×Int))×eX×eX×Unit) ⊕ ((Unit)))):=fun (v3,v4,oc,l5,v21,aV,lD,b0,c7,iP,wV,oz,oB,b2,b5,b6,m7,m8,_) =>
 .br (decide ((0:Int)<((aV:Nat):Int))) (
 .br (decide (lD<(((v3).length:Nat):Int))) (
 .nb lD (((v3).length:Nat):Int) <|
 .ni ((v3).getD (Int.toNat lD) (0:Int)) <|
 .nd (!(((aV:Nat):Int)==(0:Int))) <|
 .nb (Int.tmod ((v3).getD (Int.toNat lD) (0:Int)) ((aV:Nat):Int)) ((aV:Nat):Int) <|
 .nd (decide (((0:Nat)+(Int.toNat (Int.tmod ((v3).getD (Int.toNat lD) (0:Int)) ((aV:Nat):Int))))<(b2).length)) <|
 .nd (!(((aV:Nat):Int)==(0:Int))) <|
 .nd (decide ((0:Int)<=(0:Int))) <|
 .nd (decide ((0:Int)<=(Int.tmod ((v3).getD (Int.toNat lD) (0:Int)) ((aV:Nat):Int)))) <|
 .nd (decide ((Int.tmod ((v3).getD (Int.toNat lD) (0:Int)) ((aV:Nat):Int))<=((aV:Nat):Int))) <|
 .nd (decide (((0:Nat)+((((b2).drop ((0:Nat)+(Int.toNat (0:Int)))).take ((Int.toNat (Int.tmod ((v3).getD (Int.toNat lD) (0:Int)) ((aV:Nat):Int))) - (Int.toNat (0:Int))))).length)<cn)) <|
 .nd (!(((aV:Nat):Int)==(0:Int))) <|
 .ni ((Int.tmod ((v3).getD (Int.toNat lD) (0:Int)) ((aV:Nat):Int))+(1:Int)) <|
 .nd (decide ((0:Int)<=((Int.tmod ((v3).getD (Int.toNat lD) (0:Int)) ((aV:Nat):Int))+(1:Int)))) <|
 .nd (decide (((Int.tmod ((v3).getD (Int.toNat lD) (0:Int)) ((aV:Nat):Int))+(1:Int))<=((aV:Nat):Int))) <|
 .nd (decide (((aV:Nat):Int)<=((aV:Nat):Int))) <|
 .nd (decide ((((0:Nat)+((((b2).drop ((0:Nat)+(Int.toNat (0:Int)))).take ((Int.toNat (Int.tmod ((v3).getD (Int.toNat lD) (0:Int)) ((aV:Nat):Int))) - (Int.toNat (0:Int))))).length)+((((b2).drop ((0:Nat)+(Int.toNat ((Int.tmod ((v3).getD (Int.toNat lD) (0:Int)) ((aV:Nat):Int))+(1:Int))))).take ((Int.toNat ((aV:Nat):Int)) - (Int.toNat ((Int.tmod ((v3).getD (Int.toNat lD) (0:Int)) ((aV:Nat):Int))+(1:Int)))))).length)<cn)) <|
 .br (decide ((128:Int)<=((v3).getD (Int.toNat lD) (0:Int)))) (
 .bd (FH6 (((b2).getD ((0:Nat)+(Int.toNat (Int.tmod ((v3).getD (Int.toNat lD) (0:Int)) ((aV:Nat):Int)))) ((bs []),(0:Int),(bs []),(bs []),(0:Int))).1,((b2).getD ((0:Nat)+(Int.toNat (Int.tmod ((v3).getD (Int.toNat lD) (0:Int)) ((aV:Nat):Int)))) ((bs []),(0:Int),(bs []),(bs []),(0:Int))).2.1,((b2).getD ((0:Nat)+(Int.toNat (Int.tmod ((v3).getD (Int.toNat lD) (0:Int)) ((aV:Nat):Int)))) ((bs []),(0:Int),(bs []),(bs []),(0:Int))).2.2.1,((b2).getD ((0:Nat)+(Int.toNat (Int.tmod ((v3).getD (Int.toNat lD) (0:Int)) ((aV:Nat):Int)))) ((bs []),(0:Int),(bs []),(bs []),(0:Int))).2.2.2.1,((b2).getD ((0:Nat)+(Int.toNat (Int.tmod ((v3).getD (Int.toNat lD) (0:Int)) ((aV:Nat):Int)))) ((bs []),(0:Int),(bs []),(bs []),(0:Int))).2.2.2.2) m8) fun y7 =>
 .br (!(y7.1==(0:Int))) (
 .ret (.inr <| .inr<|())) (
 .ni (lD+(1:Int)) <|
 .ret (.inl (v3,v4,oc,l5,v21,(((0:Nat)+((((b2).drop ((0:Nat)+(Int.toNat (0:Int)))).take ((Int.toNat (Int.tmod ((v3).getD (Int.toNat lD) (0:Int)) ((aV:Nat):Int))) - (Int.toNat (0:Int))))).length)+((((b2).drop ((0:Nat)+(Int.toNat ((Int.tmod ((v3).getD (Int.toNat lD) (0:Int)) ((aV:Nat):Int))+(1:Int))))).take ((Int.toNat ((aV:Nat):Int)) - (Int.toNat ((Int.tmod ((v3).getD (Int.toNat lD) (0:Int)) ((aV:Nat):Int))+(1:Int)))))).length),(lD+(1:Int)),b0,c7,iP,wV,oz,oB,(((((((([]).drop (0:Nat)).take (0:Nat))++(((b2).drop ((0:Nat)+(Int.toNat (0:Int)))).take ((Int.toNat (Int.tmod ((v3).getD (Int.toNat lD) (0:Int)) ((aV:Nat):Int))) - (Int.toNat (0:Int)))))).drop (0:Nat)).take ((0:Nat)+((((b2).drop ((0:Nat)+(Int.toNat (0:Int)))).take ((Int.toNat (Int.tmod ((v3).getD (Int.toNat lD) (0:Int)) ((aV:Nat):Int))) - (Int.toNat (0:Int))))).length))++(((b2).drop ((0:Nat)+(Int.toNat ((Int.tmod ((v3).getD (Int.toNat lD) (0:Int)) ((aV:Nat):Int))+(1:Int))))).take ((Int.toNat ((aV:Nat):Int)) - (Int.toNat ((Int.tmod ((v3).getD (Int.toNat lD) (0:Int)) ((aV:Nat):Int))+(1:Int)))))),b5,b6,m7,y7.2.1,())))) (
 .bd (FH6 (((b2).getD ((0:Nat)+(Int.toNat (Int.tmod ((v3).getD (Int.toNat lD) (0:Int)) ((aV:Nat):Int)))) ((bs []),(0:Int),(bs []),(bs []),(0:Int))).1,((b2).getD ((0:Nat)+(Int.toNat (Int.tmod ((v3).getD (Int.toNat lD) (0:Int)) ((aV:Nat):Int)))) ((bs []),(0:Int),(bs []),(bs []),(0:Int))).2.1,((b2).getD ((0:Nat)+(Int.toNat (Int.tmod ((v3).getD (Int.toNat lD) (0:Int)) ((aV:Nat):Int)))) ((bs []),(0:Int),(bs []),(bs []),(0:Int))).2.2.1,((b2).getD ((0:Nat)+(Int.toNat (Int.tmod ((v3).getD (Int.toNat lD) (0:Int)) ((aV:Nat):Int)))) ((bs []),(0:Int),(bs []),(bs []),(0:Int))).2.2.2.1,((b2).getD ((0:Nat)+(Int.toNat (Int.tmod ((v3).getD (Int.toNat lD) (0:Int)) ((aV:Nat):Int)))) ((bs []),(0:Int),(bs []),(bs []),(0:Int))).2.2.2.2) m7) fun y8 =>
 .br (!(y8.1==(0:Int))) (
 .ret (.inr <| .inr<|())) (
 .ni (lD+(1:Int)) <|
 .ret (.inl (v3,v4,oc,l5,v21,(((0:Nat)+((((b2).drop ((0:Nat)+(Int.toNat (0:Int)))).take ((Int.toNat (Int.tmod ((v3).getD (Int.toNat lD) (0:Int)) ((aV:Nat):Int))) - (Int.toNat (0:Int))))).length)+((((b2).drop ((0:Nat)+(Int.toNat ((Int.tmod ((v3).getD (Int.toNat lD) (0:Int)) ((aV:Nat):Int))+(1:Int))))).take ((Int.toNat ((aV:Nat):Int)) - (Int.toNat ((Int.tmod ((v3).getD (Int.toNat lD) (0:Int)) ((aV:Nat):Int))+(1:Int)))))).length),(lD+(1:Int)),b0,c7,iP,wV,oz,oB,(((((((([]).drop (0:Nat)).take (0:Nat))++(((b2).drop ((0:Nat)+(Int.toNat (0:Int)))).take ((Int.toNat (Int.tmod ((v3).getD (Int.toNat lD) (0:Int)) ((aV:Nat):Int))) - (Int.toNat (0:Int)))))).drop (0:Nat)).take ((0:Nat)+((((b2).drop ((0:Nat)+(Int.toNat (0:Int)))).take ((Int.toNat (Int.tmod ((v3).getD (Int.toNat lD) (0:Int)) ((aV:Nat):Int))) - (Int.toNat (0:Int))))).length))++(((b2).drop ((0:Nat)+(Int.toNat ((Int.tmod ((v3).getD (Int.toNat lD) (0:Int)) ((aV:Nat):Int))+(1:Int))))).take ((Int.toNat ((aV:Nat):Int)) - (Int.toNat ((Int.tmod ((v3).getD (Int.toNat lD) (0:Int)) ((aV:Nat):Int))+(1:Int)))))),b5,b6,y8.2.1,m8,()))))) (
 .nd (!(((aV:Nat):Int)==(0:Int))) <|
 .nb (Int.tmod (0:Int) ((aV:Nat):Int)) ((aV:Nat):Int) <|
 .nd (decide (((0:Nat)+(Int.toNat (Int.tmod (0:Int) ((aV:Nat):Int))))<(b2).length)) <|
 .nd (!(((aV:Nat):Int)==(0:Int))) <|
 .nd (decide ((0:Int)<=(0:Int))) <|
 .nd (decide ((0:Int)<=(Int.tmod (0:Int) ((aV:Nat):Int)))) <|
 .nd (decide ((Int.tmod (0:Int) ((aV:Nat):Int))<=((aV:Nat):Int))) <|
 .nd (decide (((0:Nat)+((((b2).drop ((0:Nat)+(Int.toNat (0:Int)))).take ((Int.toNat (Int.tmod (0:Int) ((aV:Nat):Int))) - (Int.toNat (0:Int))))).length)<cn)) <|
 .nd (!(((aV:Nat):Int)==(0:Int))) <|
 .ni ((Int.tmod (0:Int) ((aV:Nat):Int))+(1:Int)) <|
 .nd (decide ((0:Int)<=((Int.tmod (0:Int) ((aV:Nat):Int))+(1:Int)))) <|
 .nd (decide (((Int.tmod (0:Int) ((aV:Nat):Int))+(1:Int))<=((aV:Nat):Int))) <|
 .nd (decide (((aV:Nat):Int)<=((aV:Nat):Int))) <|
 .nd (decide ((((0:Nat)+((((b2).drop ((0:Nat)+(Int.toNat (0:Int)))).take ((Int.toNat (Int.tmod (0:Int) ((aV:Nat):Int))) - (Int.toNat (0:Int))))).length)+((((b2).drop ((0:Nat)+(Int.toNat ((Int.tmod (0:Int) ((aV:Nat):Int))+(1:Int))))).take ((Int.toNat ((aV:Nat):Int)) - (Int.toNat ((Int.tmod (0:Int) ((aV:Nat):Int))+(1:Int)))))).length)<cn)) <|
 .br (decide ((128:Int)<=(0:Int))) (
 .bd (FH6 (((b2).getD ((0:Nat)+(Int.toNat (Int.tmod (0:Int) ((aV:Nat):Int)))) ((bs []),(0:Int),(bs []),(bs []),(0:Int))).1,((b2).getD ((0:Nat)+(Int.toNat (Int.tmod (0:Int) ((aV:Nat):Int)))) ((bs []),(0:Int),(bs []),(bs []),(0:Int))).2.1,((b2).getD ((0:Nat)+(Int.toNat (Int.tmod (0:Int) ((aV:Nat):Int)))) ((bs []),(0:Int),(bs []),(bs []),(0:Int))).2.2.1,((b2).getD ((0:Nat)+(Int.toNat (Int.tmod (0:Int) ((aV:Nat):Int)))) ((bs []),(0:Int),(bs []),(bs []),(0:Int))).2.2.2.1,((b2).getD ((0:Nat)+(Int.toNat (Int.tmod (0:Int) ((aV:Nat):Int)))) ((bs []),(0:Int),(bs []),(bs []),(0:Int))).2.2.2.2) m8) fun y10 =>
 .br (!(y10.1==(0:Int))) (
 .ret (.inr <| .inr<|())) (
 .ni (lD+(1:Int)) <|
 .ret (.inl (v3,v4,oc,l5,v21,(((0:Nat)+((((b2).drop ((0:Nat)+(Int.toNat (0:Int)))).take ((Int.toNat (Int.tmod (0:Int) ((aV:Nat):Int))) - (Int.toNat (0:Int))))).length)+((((b2).drop ((0:Nat)+(Int.toNat ((Int.tmod (0:Int) ((aV:Nat):Int))+(1:Int))))).take ((Int.toNat ((aV:Nat):Int)) - (Int.toNat ((Int.tmod (0:Int) ((aV:Nat):Int))+(1:Int)))))).length),(lD+(1:Int)),b0,c7,iP,wV,oz,oB,(((((((([]).drop (0:Nat)).take (0:Nat))++(((b2).drop ((0:Nat)+(Int.toNat (0:Int)))).take ((Int.toNat (Int.tmod (0:Int) ((aV:Nat):Int))) - (Int.toNat (0:Int)))))).drop (0:Nat)).take ((0:Nat)+((((b2).drop ((0:Nat)+(Int.toNat (0:Int)))).take ((Int.toNat (Int.tmod (0:Int) ((aV:Nat):Int))) - (Int.toNat (0:Int))))).length))++(((b2).drop ((0:Nat)+(Int.toNat ((Int.tmod (0:Int) ((aV:Nat):Int))+(1:Int))))).take ((Int.toNat ((aV:Nat):Int)) - (Int.toNat ((Int.tmod (0:Int) ((aV:Nat):Int))+(1:Int)))))),b5,b6,m7,y10.2.1,())))) (
 .bd (FH6 (((b2).getD ((0:Nat)+(Int.toNat (Int.tmod (0:Int) ((aV:Nat):Int)))) ((bs []),(0:Int),(bs []),(bs []),(0:Int))).1,((b2).getD ((0:Nat)+(Int.toNat (Int.tmod (0:Int) ((aV:Nat):Int)))) ((bs []),(0:Int),(bs []),(bs []),(0:Int))).2.1,((b2).getD ((0:Nat)+(Int.toNat (Int.tmod (0:Int) ((aV:Nat):Int)))) ((bs []),(0:Int),(bs []),(bs []),(0:Int))).2.2.1,((b2).getD ((0:Nat)+(Int.toNat (Int.tmod (0:Int) ((aV:Nat):Int)))) ((bs []),(0:Int),(bs []),(bs []),(0:Int))).2.2.2.1,((b2).getD ((0:Nat)+(Int.toNat (Int.tmod (0:Int) ((aV:Nat):Int)))) ((bs []),(0:Int),(bs []),(bs []),(0:Int))).2.2.2.2) m7) fun y9 =>
 .br (!(y9.1==(0:Int))) (
 .ret (.inr <| .inr<|())) (
 .ni (lD+(1:Int)) <|
 .ret (.inl (v3,v4,oc,l5,v21,(((0:Nat)+((((b2).drop ((0:Nat)+(Int.toNat (0:Int)))).take ((Int.toNat (Int.tmod (0:Int) ((aV:Nat):Int))) - (Int.toNat (0:Int))))).length)+((((b2).drop ((0:Nat)+(Int.toNat ((Int.tmod (0:Int) ((aV:Nat):Int))+(1:Int))))).take ((Int.toNat ((aV:Nat):Int)) - (Int.toNat ((Int.tmod (0:Int) ((aV:Nat):Int))+(1:Int)))))).length),(lD+(1:Int)),b0,c7,iP,wV,oz,oB,(((((((([]).drop (0:Nat)).take (0:Nat))++(((b2).drop ((0:Nat)+(Int.toNat (0:Int)))).take ((Int.toNat (Int.tmod (0:Int) ((aV:Nat):Int))) - (Int.toNat (0:Int)))))).drop (0:Nat)).take ((0:Nat)+((((b2).drop ((0:Nat)+(Int.toNat (0:Int)))).take ((Int.toNat (Int.tmod (0:Int) ((aV:Nat):Int))) - (Int.toNat (0:Int))))).length))++(((b2).drop ((0:Nat)+(Int.toNat ((Int.tmod (0:Int) ((aV:Nat):Int))+(1:Int))))).take ((Int.toNat ((aV:Nat):Int)) - (Int.toNat ((Int.tmod (0:Int) ((aV:Nat):Int))+(1:Int)))))),b5,b6,y9.2.1,m8,())))))) (
 .ret (.inr <| .inl<|(v4,oc,l5,v21,b0,c7,iP,wV,oz,oB,b5,b6,m7,m8,())))
noncomputable def L3_3:bt prog 427 none 0:=aW mixed cx3 rY [] rfl p3_3 x3_3 rfl (b3_3) (fun x=>ai (g3_3 x)) (fun x=>by kernel_rfl)
abbrev p3_4:au:=au.mk [(4,.c (.hole .bool)),(11,.c (.bO 0 .str)),(12,.c (.ptr 1 0)),(19,hL),(21,hL),(27,.c (.ptr 2 0)),(33,hI),(34,hI),(241,.c (.bO 0 .str)),(242,hI),(243,hI)] [(0,.arr .str false),(1,.cells [.hole tI,.hole tI,.hole tI,.bO 3 (.prod .str tI),.bO 4 (.prod tI (.prod tI (.prod tI tI)))] false),(2,.cells [.mp 5] false),(3,.arr (.prod .str tI) true),(4,.arr (.prod tI (.prod tI (.prod tI tI))) true),(5,gD)] [.slot 11,.slot 12,.slot 27,.cell 1 3,.cell 1 4,.cell 2 0] []
abbrev x3_4:aT:=[(.ret,au.mk [(10,.c (.tf false))] [] [] []),(.exit 8,au.mk [(4,.c (.hole .bool)),(11,.c (.bO 0 .str)),(12,.c (.ptr 1 0)),(19,hL),(21,hL),(27,.c (.ptr 2 0)),(33,hI),(34,hI)] [(0,.arr .str false),(1,.cells [.hole tI,.hole tI,.hole tI,.bO 3 (.prod .str tI),.bO 4 (.prod tI (.prod tI (.prod tI tI)))] false),(2,.cells [.mp 5] false),(3,.arr (.prod .str tI) true),(4,.arr (.prod tI (.prod tI (.prod tI tI))) true),(5,gD)] [.slot 11,.slot 12,.slot 27,.cell 1 3,.cell 1 4,.cell 2 0] [])]
noncomputable def b3_4:D prog 427 none 0:=dO [] (pick (kd prog f3) [(4,false)]) 0
noncomputable def g3_4:Bool×Nat×List Int×List Int×Int×Int×Nat×Int×Int×List ByteArray×Int×Int×Int×Nat×Nat×(List (ByteArray×Int))×(List (Int×Int×Int×Int))×eX×Unit->bR ((Bool×Nat×List Int×List Int×Int×Int×Nat×Int×Int×List ByteArray×Int×Int×Int×Nat×Nat×(List (ByteArray×Int))×(List (Int×Int×Int×Int))×eX×Unit) ⊕ ((Unit) ⊕ ((Bool×Nat×List Int×List Int×Int×Int×List ByteArray×Int×Int×Int×Nat×Nat×(List (ByteArray×Int))×(List (Int×Int×Int×Int))×eX×Unit)))):=fun (v4,oc,l5,v21,v33,v34,RX,acZ,fB,b0,c7,iP,wV,oz,oB,b3,b4,m5,_) =>
 .br (decide (fB<acZ)) (
 .nb fB ((RX:Nat):Int) <|
 .nd (decide (((0:Nat)+(Int.toNat fB))<(b0).length)) <|
 .bd (FH8 ((b0).getD ((0:Nat)+(Int.toNat fB)) (bs [])) m5) fun EC =>
 .nb fB (((l5).length:Nat):Int) <|
 .nb fB (((v21).length:Nat):Int) <|
 .nb fB (((l5).length:Nat):Int) <|
 .nb fB (((v21).length:Nat):Int) <|
 .br (!(EC.2.1==(0:Int))) (
 .ret (.inr <| .inl<|())) (
 .br (((EC.1:Nat):Int)==(0:Int)) (
 .ret (.inr <| .inl<|())) (
 .nb (0:Int) ((EC.1:Nat):Int) <|
 .nd (decide (((0:Nat)+(Int.toNat (0:Int)))<(EC.2.2.1).length)) <|
 .br (!(((EC.2.2.1).getD ((0:Nat)+(Int.toNat (0:Int))) (0:Int))==(uo ((l5).getD (Int.toNat fB) (0:Int)) ((v21).getD (Int.toNat fB) (0:Int))))) (
 .ret (.inr <| .inl<|())) (
 .ni (((EC.1:Nat):Int) - (1:Int)) <|
 .nb (((EC.1:Nat):Int) - (1:Int)) ((EC.1:Nat):Int) <|
 .nd (decide (((0:Nat)+(Int.toNat (((EC.1:Nat):Int) - (1:Int))))<(EC.2.2.1).length)) <|
 .br (!(((EC.2.2.1).getD ((0:Nat)+(Int.toNat (((EC.1:Nat):Int) - (1:Int)))) (0:Int))==(imax ((l5).getD (Int.toNat fB) (0:Int)) ((v21).getD (Int.toNat fB) (0:Int))))) (
 .ret (.inr <| .inl<|())) (
 .br (decide ((2:Int)<((EC.1:Nat):Int))) (
 .ret (.inr <| .inl<|())) (
 .br (((EC.1:Nat):Int)==(2:Int)) (
 .br ((uo ((l5).getD (Int.toNat fB) (0:Int)) ((v21).getD (Int.toNat fB) (0:Int)))==(imax ((l5).getD (Int.toNat fB) (0:Int)) ((v21).getD (Int.toNat fB) (0:Int)))) (
 .ret (.inr <| .inl<|())) (
 .ni (v33+(uo ((l5).getD (Int.toNat fB) (0:Int)) ((v21).getD (Int.toNat fB) (0:Int)))) <|
 .ni (v34+(imax ((l5).getD (Int.toNat fB) (0:Int)) ((v21).getD (Int.toNat fB) (0:Int)))) <|
 .ni (fB+(1:Int)) <|
 .ret (.inl (v4,oc,l5,v21,(v33+(uo ((l5).getD (Int.toNat fB) (0:Int)) ((v21).getD (Int.toNat fB) (0:Int)))),(v34+(imax ((l5).getD (Int.toNat fB) (0:Int)) ((v21).getD (Int.toNat fB) (0:Int)))),RX,acZ,(fB+(1:Int)),b0,c7,iP,wV,oz,oB,b3,b4,EC.2.2.2.1,())))) (
 .ni (v33+(uo ((l5).getD (Int.toNat fB) (0:Int)) ((v21).getD (Int.toNat fB) (0:Int)))) <|
 .ni (v34+(imax ((l5).getD (Int.toNat fB) (0:Int)) ((v21).getD (Int.toNat fB) (0:Int)))) <|
 .ni (fB+(1:Int)) <|
 .ret (.inl (v4,oc,l5,v21,(v33+(uo ((l5).getD (Int.toNat fB) (0:Int)) ((v21).getD (Int.toNat fB) (0:Int)))),(v34+(imax ((l5).getD (Int.toNat fB) (0:Int)) ((v21).getD (Int.toNat fB) (0:Int)))),RX,acZ,(fB+(1:Int)),b0,c7,iP,wV,oz,oB,b3,b4,EC.2.2.2.1,()))))))))) (
 .ret (.inr <| .inr<|(v4,oc,l5,v21,v33,v34,b0,c7,iP,wV,oz,oB,b3,b4,m5,())))
noncomputable def L3_4:bt prog 427 none 0:=aW mixed cx3 rY [] rfl p3_4 x3_4 rfl (b3_4) (fun x=>ai (g3_4 x)) (fun x=>by kernel_rfl)
abbrev p3_5:au:=au.mk [(12,.c (.ptr 0 0)),(27,.c (.ptr 1 0)),(41,.c (.ptr 2 0)),(42,hL),(43,.c (.hole .str)),(355,.c (.bO 3 .str)),(356,hI),(357,hI)] [(0,.cells [.hole tI,.hole tI,.hole tI,.bO 4 (.prod .str tI),.bO 5 (.prod tI (.prod tI (.prod tI tI)))] false),(1,.cells [.mp 6] false),(2,.cells [.hole tI,.hole tI] false),(3,.arr .str false),(4,.arr (.prod .str tI) true),(5,.arr (.prod tI (.prod tI (.prod tI tI))) true),(6,gD)] [.slot 12,.slot 27,.slot 41,.slot 355,.cell 0 3,.cell 0 4,.cell 1 0] []
abbrev x3_5:aT:=[(.ret,au.mk [(10,.c (.tf false))] [] [] []),(.exit 10,au.mk [(12,.c (.ptr 0 0)),(27,.c (.ptr 1 0)),(41,.c (.ptr 2 0))] [(0,.cells [.hole tI,.hole tI,.hole tI,.bO 3 (.prod .str tI),.bO 4 (.prod tI (.prod tI (.prod tI tI)))] false),(1,.cells [.mp 5] false),(2,.cells [.hole tI,.hole tI] false),(3,.arr (.prod .str tI) true),(4,.arr (.prod tI (.prod tI (.prod tI tI))) true),(5,gD)] [.slot 12,.slot 27,.slot 41,.cell 0 3,.cell 0 4,.cell 1 0] [])]
noncomputable def b3_5:D prog 427 none 0:=dO [] (pick (kd prog f3) [(5,false)]) 0
noncomputable def g3_5:List Int×ByteArray×Nat×Int×Int×Int×Int×Int×Nat×Nat×Int×Int×List ByteArray×(List (ByteArray×Int))×(List (Int×Int×Int×Int))×eX×Unit->bR ((List Int×ByteArray×Nat×Int×Int×Int×Int×Int×Nat×Nat×Int×Int×List ByteArray×(List (ByteArray×Int))×(List (Int×Int×Int×Int))×eX×Unit) ⊕ ((Unit) ⊕ ((Int×Int×Int×Nat×Nat×Int×Int×(List (ByteArray×Int))×(List (Int×Int×Int×Int))×eX×Unit)))):=fun (v42,v43,Y6,v356,qy,jV,jW,Gt,Y7,Y8,lz,tP,b3,b4,b5,m6,_) =>
 .br (decide (qy<v356)) (
 .nb qy ((Y6:Nat):Int) <|
 .nd (decide (((0:Nat)+(Int.toNat qy))<(b3).length)) <|
 .ni ((48:Int)+qy) <|
 .nd (dV .u8 ((48:Int)+qy)) <|
 .ni ((((bs [114]).size:Nat):Int)+(((dM (((((116:Int)::(((48:Int)+qy)::[]))).drop (0:Nat)).take (2:Nat))).size:Nat):Int)) <|
 .ni (((v43.size:Nat):Int)+(((dM (((((116:Int)::(((48:Int)+qy)::[]))).drop (0:Nat)).take (2:Nat))).size:Nat):Int)) <|
 .bd (FH6 ((dM ((b8 (bs [114]))++(b8 (dM (((((116:Int)::(((48:Int)+qy)::[]))).drop (0:Nat)).take (2:Nat)))))),(3:Int),(dM ((b8 v43)++(b8 (dM (((((116:Int)::(((48:Int)+qy)::[]))).drop (0:Nat)).take (2:Nat)))))),(bs []),(0:Int)) m6) fun y20 =>
 .br (!(y20.1==(0:Int))) (
 .ret (.inr <| .inl<|())) (
 .bd (FH10 ((b3).getD ((0:Nat)+(Int.toNat qy)) (bs [])) y20.2.1) fun y21 =>
 .br (!(y21.2.1==(0:Int))) (
 .ret (.inr <| .inl<|())) (
 .nb qy (((v42).length:Nat):Int) <|
 .br (!(y21.1.1==((v42).getD (Int.toNat qy) (0:Int)))) (
 .ret (.inr <| .inl<|())) (
 .nb qy (((v42).length:Nat):Int) <|
 .br (!(y21.1.2==((v42).getD (Int.toNat qy) (0:Int)))) (
 .ret (.inr <| .inl<|())) (
 .ni (qy+(1:Int)) <|
 .ret (.inl (v42,v43,Y6,v356,(qy+(1:Int)),jV,jW,Gt,Y7,Y8,lz,tP,b3,b4,b5,y21.2.2.1,()))))))) (
 .ret (.inr <| .inr<|(jV,jW,Gt,Y7,Y8,lz,tP,b4,b5,m6,())))
noncomputable def L3_5:bt prog 427 none 0:=aW mixed cx3 rY [] rfl p3_5 x3_5 rfl (b3_5) (fun x=>ai (g3_5 x)) (fun x=>by kernel_rfl)
noncomputable def dd3:D prog 427 none 0:=dO [.l L3_0,.l L3_1,.l L3_2,.l L3_3,.l L3_4,.l L3_5] (kd prog f3) 0
noncomputable def F3 (a0:List (Int×Int×Int)) (a1:Int) (a2:Int×Int) (a3:List Int) (a4:Bool):bR (Bool×Unit) :=
 .ni a1 <|
 .nd (!((1000:Int)==(0:Int))) <|
 .bd (.it g3_0 (a0,a3,a4,(3:Nat),(3:Nat),(3:Int),(0:Int),(a2.1::(a2.2::[])),((bs [97,110,97])::((bs [98,101,110])::((bs [99,121])::[]))),(Int.tmod a1 (1000:Int)),(0:Int),(0:Int),(0:Nat),[],())) fun z0 =>
 .bd (.it g3_1 (z0.1,z0.2.1,z0.2.2.1,z0.2.2.2.1,(0:Int),z0.2.2.2.2.1,z0.2.2.2.2.2.1,z0.2.2.2.2.2.2.1,z0.2.2.2.2.2.2.2.1,z0.2.2.2.2.2.2.2.2.1,z0.2.2.2.2.2.2.2.2.2.1,(1:Nat),z0.2.2.2.2.2.2.2.2.2.2.1,(((0:Int),(10:Int),(0:Int),(10:Int))::[]),())) fun z1 =>
 .nd (decide (((0:Nat)+((((z1.2.2.2.2.2.2.2.2.2.2.2.1).drop (0:Nat)).take z1.2.2.2.2.2.2.2.2.2.1)).length)<cn)) <|
 .nd (decide ((0:Nat)<(z1.2.2.2.1).length)) <|
 .ni ((z1.2.2.2.1).getD (0:Nat) (0:Int)) <|
 .nd (!(((((0:Nat)+((((z1.2.2.2.2.2.2.2.2.2.2.2.1).drop (0:Nat)).take z1.2.2.2.2.2.2.2.2.2.1)).length):Nat):Int)==(0:Int))) <|
 .nb (Int.tmod ((z1.2.2.2.1).getD (0:Nat) (0:Int)) ((((0:Nat)+((((z1.2.2.2.2.2.2.2.2.2.2.2.1).drop (0:Nat)).take z1.2.2.2.2.2.2.2.2.2.1)).length):Nat):Int)) ((((0:Nat)+((((z1.2.2.2.2.2.2.2.2.2.2.2.1).drop (0:Nat)).take z1.2.2.2.2.2.2.2.2.2.1)).length):Nat):Int) <|
 .nd (decide (((0:Nat)+(Int.toNat (Int.tmod ((z1.2.2.2.1).getD (0:Nat) (0:Int)) ((((0:Nat)+((((z1.2.2.2.2.2.2.2.2.2.2.2.1).drop (0:Nat)).take z1.2.2.2.2.2.2.2.2.2.1)).length):Nat):Int))))<((((([]).drop (0:Nat)).take (0:Nat))++(((z1.2.2.2.2.2.2.2.2.2.2.2.1).drop (0:Nat)).take z1.2.2.2.2.2.2.2.2.2.1))).length)) <|
 .nd (decide ((1:Nat)<(z1.2.2.2.1).length)) <|
 .ni ((z1.2.2.2.1).getD (1:Nat) (0:Int)) <|
 .ni ((1:Int)+((z1.2.2.2.1).getD (1:Nat) (0:Int))) <|
 .ni ((((((([]).drop (0:Nat)).take (0:Nat))++(((z1.2.2.2.2.2.2.2.2.2.2.2.1).drop (0:Nat)).take z1.2.2.2.2.2.2.2.2.2.1))).getD ((0:Nat)+(Int.toNat (Int.tmod ((z1.2.2.2.1).getD (0:Nat) (0:Int)) ((((0:Nat)+((((z1.2.2.2.2.2.2.2.2.2.2.2.1).drop (0:Nat)).take z1.2.2.2.2.2.2.2.2.2.1)).length):Nat):Int)))) ((0:Int),(0:Int),(0:Int),(0:Int))).2.1+((1:Int)+((z1.2.2.2.1).getD (1:Nat) (0:Int)))) <|
 .nb (Int.tmod ((z1.2.2.2.1).getD (0:Nat) (0:Int)) ((((0:Nat)+((((z1.2.2.2.2.2.2.2.2.2.2.2.1).drop (0:Nat)).take z1.2.2.2.2.2.2.2.2.2.1)).length):Nat):Int)) ((((0:Nat)+((((z1.2.2.2.2.2.2.2.2.2.2.2.1).drop (0:Nat)).take z1.2.2.2.2.2.2.2.2.2.1)).length):Nat):Int) <|
 .nd (decide (((0:Nat)+(Int.toNat (Int.tmod ((z1.2.2.2.1).getD (0:Nat) (0:Int)) ((((0:Nat)+((((z1.2.2.2.2.2.2.2.2.2.2.2.1).drop (0:Nat)).take z1.2.2.2.2.2.2.2.2.2.1)).length):Nat):Int))))<((((([]).drop (0:Nat)).take (0:Nat))++(((z1.2.2.2.2.2.2.2.2.2.2.2.1).drop (0:Nat)).take z1.2.2.2.2.2.2.2.2.2.1))).length)) <|
 .bd (F4 (z1.2.2.2.2.2.1,z1.2.2.2.2.2.2.1,z1.2.2.2.2.2.2.2.1,(((z1.2.2.2.2.2.2.2.2.2.2.1).drop (0:Nat)).take z1.2.2.2.2.2.2.2.2.1),(((z1.2.2.2.2.2.2.2.2.2.2.2.1).drop (0:Nat)).take z1.2.2.2.2.2.2.2.2.2.1))) fun y2 =>
 .bd (F4 (z1.2.2.2.2.2.1,z1.2.2.2.2.2.2.1,z1.2.2.2.2.2.2.2.1,(((z1.2.2.2.2.2.2.2.2.2.2.1).drop (0:Nat)).take z1.2.2.2.2.2.2.2.2.1),((((((((([]).drop (0:Nat)).take (0:Nat))++(((z1.2.2.2.2.2.2.2.2.2.2.2.1).drop (0:Nat)).take z1.2.2.2.2.2.2.2.2.2.1))).set ((0:Nat)+(Int.toNat (Int.tmod ((z1.2.2.2.1).getD (0:Nat) (0:Int)) ((((0:Nat)+((((z1.2.2.2.2.2.2.2.2.2.2.2.1).drop (0:Nat)).take z1.2.2.2.2.2.2.2.2.2.1)).length):Nat):Int)))) ((((((([]).drop (0:Nat)).take (0:Nat))++(((z1.2.2.2.2.2.2.2.2.2.2.2.1).drop (0:Nat)).take z1.2.2.2.2.2.2.2.2.2.1))).getD ((0:Nat)+(Int.toNat (Int.tmod ((z1.2.2.2.1).getD (0:Nat) (0:Int)) ((((0:Nat)+((((z1.2.2.2.2.2.2.2.2.2.2.2.1).drop (0:Nat)).take z1.2.2.2.2.2.2.2.2.2.1)).length):Nat):Int)))) ((0:Int),(0:Int),(0:Int),(0:Int))).1,((((((([]).drop (0:Nat)).take (0:Nat))++(((z1.2.2.2.2.2.2.2.2.2.2.2.1).drop (0:Nat)).take z1.2.2.2.2.2.2.2.2.2.1))).getD ((0:Nat)+(Int.toNat (Int.tmod ((z1.2.2.2.1).getD (0:Nat) (0:Int)) ((((0:Nat)+((((z1.2.2.2.2.2.2.2.2.2.2.2.1).drop (0:Nat)).take z1.2.2.2.2.2.2.2.2.2.1)).length):Nat):Int)))) ((0:Int),(0:Int),(0:Int),(0:Int))).2.1+((1:Int)+((z1.2.2.2.1).getD (1:Nat) (0:Int)))),(((((([]).drop (0:Nat)).take (0:Nat))++(((z1.2.2.2.2.2.2.2.2.2.2.2.1).drop (0:Nat)).take z1.2.2.2.2.2.2.2.2.2.1))).getD ((0:Nat)+(Int.toNat (Int.tmod ((z1.2.2.2.1).getD (0:Nat) (0:Int)) ((((0:Nat)+((((z1.2.2.2.2.2.2.2.2.2.2.2.1).drop (0:Nat)).take z1.2.2.2.2.2.2.2.2.2.1)).length):Nat):Int)))) ((0:Int),(0:Int),(0:Int),(0:Int))).2.2))).drop (0:Nat)).take ((0:Nat)+((((z1.2.2.2.2.2.2.2.2.2.2.2.1).drop (0:Nat)).take z1.2.2.2.2.2.2.2.2.2.1)).length)))) fun y3 =>
 .br (!(y2.2.1==(0:Int))) (
 .ret (false,())) (
 .br (!(y3.2.1==(0:Int))) (
 .ret (false,())) (
 .br (!((((y2.1).length:Nat):Int)==(3:Int))) (
 .ret (false,())) (
 .br (!((((y3.1).length:Nat):Int)==(3:Int))) (
 .ret (false,())) (
 .bd (.it g3_2 (z1.1,z1.2.1,z1.2.2.1,y2.1,y3.1,(0:Nat),z1.2.2.1,((z1.2.2.1:Nat):Int),(0:Int),z1.2.2.2.2.1,z1.2.2.2.2.2.1,z1.2.2.2.2.2.2.1,z1.2.2.2.2.2.2.2.1,z1.2.2.2.2.2.2.2.2.1,z1.2.2.2.2.2.2.2.2.2.1,[],z1.2.2.2.2.2.2.2.2.2.2.1,z1.2.2.2.2.2.2.2.2.2.2.2.1,())) fun z4 =>
 .bd (FH5) fun y5 =>
 .bd (FH5) fun y6 =>
 .bd (.it g3_3 (z4.1,z4.2.1,z4.2.2.1,z4.2.2.2.1,z4.2.2.2.2.1,z4.2.2.2.2.2.1,(0:Int),z4.2.2.2.2.2.2.1,z4.2.2.2.2.2.2.2.1,z4.2.2.2.2.2.2.2.2.1,z4.2.2.2.2.2.2.2.2.2.1,z4.2.2.2.2.2.2.2.2.2.2.1,z4.2.2.2.2.2.2.2.2.2.2.2.1,z4.2.2.2.2.2.2.2.2.2.2.2.2.1,z4.2.2.2.2.2.2.2.2.2.2.2.2.2.1,z4.2.2.2.2.2.2.2.2.2.2.2.2.2.2.1,y5.1,y6.1,())) fun K0 =>
 .sm K0 (fun z12 =>
 .bd (FH7 z12.2.2.2.2.2.2.2.2.2.2.2.2.1 z12.2.2.2.2.2.2.2.2.2.2.2.2.2.1) fun NA =>
 .br (!(NA.1==(0:Int))) (
 .ret (false,())) (
 .bd (.it g3_4 (z12.1,z12.2.1,z12.2.2.1,z12.2.2.2.1,(0:Int),(0:Int),z12.2.1,((z12.2.1:Nat):Int),(0:Int),z12.2.2.2.2.1,z12.2.2.2.2.2.1,z12.2.2.2.2.2.2.1,z12.2.2.2.2.2.2.2.1,z12.2.2.2.2.2.2.2.2.1,z12.2.2.2.2.2.2.2.2.2.1,z12.2.2.2.2.2.2.2.2.2.2.1,z12.2.2.2.2.2.2.2.2.2.2.2.1,NA.2.1,())) fun z16 =>
 .sm z16 (fun z17 =>
 .ret (false,())) fun sn =>
 .bd (FH9 sn.2.2.2.2.2.2.2.2.2.2.2.2.2.2.1) fun RY =>
 .br (!(RY.2.1==(0:Int))) (
 .ret (false,())) (
 .br (!(RY.1.1==sn.2.2.2.2.1)) (
 .ret (false,())) (
 .br (!(RY.1.2==sn.2.2.2.2.2.1)) (
 .ret (false,())) (
 .br (decide (sn.2.2.2.2.2.2.2.1<RY.1.1)) (
 .ret (false,())) (
 .br (decide (RY.1.2<sn.2.2.2.2.2.2.2.1)) (
 .ret (false,())) (
 .br (!sn.1) (
 .bd (.it g3_5 (sn.2.2.2.1,(bs [98]),sn.2.1,((sn.2.1:Nat):Int),(0:Int),sn.2.2.2.2.2.2.2.1,sn.2.2.2.2.2.2.2.2.1,sn.2.2.2.2.2.2.2.2.2.1,sn.2.2.2.2.2.2.2.2.2.2.1,sn.2.2.2.2.2.2.2.2.2.2.2.1,RY.1.1,RY.1.2,sn.2.2.2.2.2.2.1,sn.2.2.2.2.2.2.2.2.2.2.2.2.1,sn.2.2.2.2.2.2.2.2.2.2.2.2.2.1,RY.2.2.1,())) fun z22 =>
 .sm z22 (fun z23 =>
 .ret (false,())) fun z24 =>
 .bd (FH9 z24.2.2.2.2.2.2.2.2.2.1) fun y25 =>
 .br (y25.2.1==(0:Int)) (
 .br (y25.1.1==z24.1) (
 .br (y25.1.2==z24.1) (
 .bd (F11) fun y26 =>
 .ret (y26.1,())) (
 .ret (false,()))) (
 .ret (false,()))) (
 .ret (false,()))) (
 .bd (.it g3_5 (sn.2.2.1,(bs [97]),sn.2.1,((sn.2.1:Nat):Int),(0:Int),sn.2.2.2.2.2.2.2.1,sn.2.2.2.2.2.2.2.2.1,sn.2.2.2.2.2.2.2.2.2.1,sn.2.2.2.2.2.2.2.2.2.2.1,sn.2.2.2.2.2.2.2.2.2.2.2.1,RY.1.1,RY.1.2,sn.2.2.2.2.2.2.1,sn.2.2.2.2.2.2.2.2.2.2.2.2.1,sn.2.2.2.2.2.2.2.2.2.2.2.2.2.1,RY.2.2.1,())) fun z27 =>
 .sm z27 (fun z28 =>
 .ret (false,())) fun z29 =>
 .bd (FH9 z29.2.2.2.2.2.2.2.2.2.1) fun y30 =>
 .br (y30.2.1==(0:Int)) (
 .br (y30.1.1==z29.1) (
 .br (y30.1.2==z29.1) (
 .bd (F11) fun y31 =>
 .ret (y31.1,())) (
 .ret (false,()))) (
 .ret (false,()))) (
 .ret (false,())))))))))) fun z13 =>
 .ret (false,())))))
theorem aij:cM prog f3=some ⟨427,5,dd3.er,[.t 10],[some .bool]⟩:=by kernel_rfl
noncomputable def ct3:Ct:=⟨3,[.c (.hole (.list (.prod (.int .u8) (.prod (.int .u8) (.int .u8))))),.c (.hole (.int .u16)),.c (.hole (.prod (.int .u8) (.int .u8))),.c (.hole (.list (.int .u8))),.c (.hole .bool)],.c (.hole .bool),fun x=>ai (F3 x.1 x.2.1 x.2.2.1 x.2.2.2.1 x.2.2.2.2.1)⟩
theorem ac0:ct3.Ok prog:=cu mixed rY func3 aij (enters_of func3 rfl rfl) dd3 (by kernel_rfl) rfl (fun x=>by kernel_rfl)

end Go.Proofs.Tryz

