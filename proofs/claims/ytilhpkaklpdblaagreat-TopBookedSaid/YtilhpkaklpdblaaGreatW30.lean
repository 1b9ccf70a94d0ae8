/- Functions of the program as functions of data, part 1; printed by a program of mine. -/
import Derived.Test.YtilhpkaklpdblaaGreatP3
import Derived.Test.YtilhpkaklpdblaaGreatProg
set_option linter.unusedSectionVars false
set_option linter.unusedVariables false
set_option linter.unusedSimpArgs false
open Go.AM
namespace Go.Proofs.Tryz
set_option maxRecDepth 100000
set_option synthInstance.maxSize 4000
set_option synthInstance.maxHeartbeats 400000
set_option synthInstance.maxSize 4000
set_option synthInstance.maxHeartbeats 400000
theorem mixed : prog.follows .mixedOrders = true := by kernel_rfl
abbrev tG : Ty := .prod .str (.prod tI (.prod .str (.prod .str tI)))
abbrev GG := ByteArray × Int × ByteArray × ByteArray × Int
abbrev bY : BP := .map .str false .bool false
abbrev gB : BP := .map .str false (.list .str) false
abbrev fL : BP := .map .str false tG true
abbrev gD : BP := .map tG true .bool false
abbrev n9 : BP := .map tI false .unit true
abbrev eX := List (GG × Bool)
abbrev bq := List (ByteArray × Bool)
abbrev dK := List (ByteArray × List ByteArray)
abbrev dx := List (ByteArray × GG)
abbrev AH := List GG
abbrev oo (n : Nat) (i : I) : dn := .op (some n) none i
abbrev om (n k : Nat) : dn := .op (some n) none (.mv (.t k))
abbrev ol (n k : Nat) : dn := .op (some n) none (.load false 1 (.t k))
abbrev og (n k : Nat) (b : Bool) (i : I) : dn := .op (some n) (some (k, b)) i
abbrev ki (n : Nat) : O := .c (.int .i64 (Int.ofNat n))
abbrev hzI : SP := .c (.hole (.int .i64))
abbrev hzL : SP := .c (.hole (.list (.int .i64)))
abbrev hzM : SP := .c (.hole (.list (.list (.int .i64))))

/- 43 -/
noncomputable def cx43:Cx:=(aM [] [])
theorem Uu:cx43.Ok prog:=ak trivial trivial
noncomputable def dd43:D prog 6 none 0:=dO [] (kd prog f43) 0
noncomputable def F43 (a0:ByteArray):bR (Bool×Unit) :=
 .ret ((!(seq a0 a0)),())
theorem aaJ:cM prog f43=some ⟨6,1,dd43.er,[.t 2],[some .bool]⟩:=by kernel_rfl
noncomputable def ct43:Ct:=⟨43,[.c (.hole .str)],.c (.hole .bool),fun x=>ai (F43 x.1)⟩
theorem Uv:ct43.Ok prog:=cu mixed Uu func43 aaJ (enters_of func43 rfl rfl) dd43 (by kernel_rfl) rfl (fun x=>by kernel_rfl)

/- 23 -/
noncomputable def cx23:Cx:=(aM [ct43] [])
theorem Uw:cx23.Ok prog:=ak ⟨Uv,trivial⟩ trivial
noncomputable def dd23:D prog 20 none 0:=dO [] (kd prog f23) 0
noncomputable def F23 (a0:ByteArray) (a1:ByteArray):bR (Int×Unit) :=
 .bd (F43 a0) fun y0 =>
 .bd (F43 a1) fun y1 =>
 .br y0.1 (
 .br y1.1 (
 .ret ((0:Int),())) (
 .ret ((-1:Int),()))) (
 .br y1.1 (
 .ret ((1:Int),())) (
 .br (slt a0 a1) (
 .ret ((-1:Int),())) (
 .br (!(HI (slt a0 a1) true (seq a0 a1))) (
 .ret ((1:Int),())) (
 .ret ((0:Int),())))))
theorem aaK:cM prog f23=some ⟨20,2,dd23.er,[.t 4],[some tI]⟩:=by kernel_rfl
noncomputable def aaL:Ct:=⟨23,[.c (.hole .str),.c (.hole .str)],hI,fun x=>ai (F23 x.1 x.2.1)⟩
theorem Ku:aaL.Ok prog:=cu mixed Uw func23 aaK (enters_of func23 rfl rfl) dd23 (by kernel_rfl) rfl (fun x=>by kernel_rfl)

/- 42 -/
noncomputable def cx42:Cx:=(aM [] [])
theorem Ux:cx42.Ok prog:=ak trivial trivial
noncomputable def dd42:D prog 6 none 0:=dO [] (kd prog f42) 0
noncomputable def F42 (a0:Int):bR (Bool×Unit) :=
 .ret ((!(a0==a0)),())
theorem aaM:cM prog f42=some ⟨6,1,dd42.er,[.t 2],[some .bool]⟩:=by kernel_rfl
noncomputable def ct42:Ct:=⟨42,[hI],.c (.hole .bool),fun x=>ai (F42 x.1)⟩
theorem Uy:ct42.Ok prog:=cu mixed Ux func42 aaM (enters_of func42 rfl rfl) dd42 (by kernel_rfl) rfl (fun x=>by kernel_rfl)

/- 22 -/
noncomputable def cx22:Cx:=(aM [ct42] [])
theorem Uz:cx22.Ok prog:=ak ⟨Uy,trivial⟩ trivial
noncomputable def dd22:D prog 20 none 0:=dO [] (kd prog f22) 0
noncomputable def F22 (a0:Int) (a1:Int):bR (Int×Unit) :=
 .bd (F42 a0) fun y0 =>
 .bd (F42 a1) fun y1 =>
 .br y0.1 (
 .br y1.1 (
 .ret ((0:Int),())) (
 .ret ((-1:Int),()))) (
 .br y1.1 (
 .ret ((1:Int),())) (
 .br (decide (a0<a1)) (
 .ret ((-1:Int),())) (
 .br (decide (a1<a0)) (
 .ret ((1:Int),())) (
 .ret ((0:Int),())))))
theorem aaN:cM prog f22=some ⟨20,2,dd22.er,[.t 4],[some tI]⟩:=by kernel_rfl
noncomputable def UA:Ct:=⟨22,[hI,hI],hI,fun x=>ai (F22 x.1 x.2.1)⟩
theorem Dp:UA.Ok prog:=cu mixed Uz func22 aaN (enters_of func22 rfl rfl) dd22 (by kernel_rfl) rfl (fun x=>by kernel_rfl)

/- 21 -/
noncomputable def cx21:Cx:=(aM [] [])
theorem Kv:cx21.Ok prog:=ak trivial trivial
abbrev aft:au:=au.mk [(3,hI),(6,hL),(7,hI),(8,hI)] [] [] []
abbrev afu:aT:=[(.ret,au.mk [(2,hI)] [] [] []),(.exit 0,au.mk [(3,hI)] [] [] [])]
noncomputable def afv:D prog 18 none 0:=dO [] (pick (kd prog f21) [(0,false)]) 0
noncomputable def g21_0:Int×List Int×Int×Int×Unit->bR ((Int×List Int×Int×Int×Unit) ⊕ ((Int×Unit) ⊕ ((Int×Unit)))):=fun (v3,v6,v7,v8,_) =>
 .br (decide (v8<v7)) (
 .nb v8 (((v6).length:Nat):Int) <|
 .br (!(((v6).getD (Int.toNat v8) (0:Int))==v3)) (
 .ret (.inr <| .inl<|(((v6).getD (Int.toNat v8) (0:Int)),()))) (
 .ni (v8+(1:Int)) <|
 .ret (.inl (v3,v6,v7,(v8+(1:Int)),())))) (
 .ret (.inr <| .inr<|(v3,())))
noncomputable def afw:bt prog 18 none 0:=aW mixed cx21 Kv [] rfl aft afu rfl (afv) (fun x=>ai (g21_0 x)) (fun x=>by kernel_rfl)
noncomputable def dd21:D prog 18 none 0:=dO [.l afw] (kd prog f21) 0
noncomputable def F21 (a0:List Int):bR (Int×Unit) :=
 .bd (.it g21_0 ((0:Int),a0,(((a0).length:Nat):Int),(0:Int),())) fun z0 =>
 .sm z0 (fun z1 =>
 .ret (z1.1,())) fun z2 =>
 .ret (z2.1,())
theorem aaO:cM prog f21=some ⟨18,1,dd21.er,[.t 2],[some tI]⟩:=by kernel_rfl
noncomputable def aaP:Ct:=⟨21,[hL],hI,fun x=>ai (F21 x.1)⟩
theorem Kw:aaP.Ok prog:=cu mixed Kv func21 aaO (enters_of func21 rfl rfl) dd21 (by kernel_rfl) rfl (fun x=>by kernel_rfl)

/- 78 -/
noncomputable def cx78:Cx:=(aM [aaL,UA,aaP] [])
theorem UB:cx78.Ok prog:=ak ⟨Ku,Dp,Kw,trivial⟩ trivial
noncomputable def dd78:D prog 35 none 0:=dO [] (kd prog f78) 0
noncomputable def F78 (a0:GG) (a1:GG):bR (Int×Unit) :=
 .br ((seq a0.1 a1.1)&&((a0.2.1==a1.2.1)&&((seq a0.2.2.1 a1.2.2.1)&&((seq a0.2.2.2.1 a1.2.2.2.1)&&((a0.2.2.2.2==a1.2.2.2.2)&&true))))) (
 .ret ((0:Int),())) (
 .bd (F23 a0.1 a1.1) fun y0 =>
 .bd (F22 a0.2.1 a1.2.1) fun y1 =>
 .bd (F23 a0.2.2.1 a1.2.2.1) fun y2 =>
 .bd (F23 a0.2.2.2.1 a1.2.2.2.1) fun y3 =>
 .bd (F22 a0.2.2.2.2 a1.2.2.2.2) fun y4 =>
 .bd (F21 ((((y0.1::(y1.1::(y2.1::(y3.1::(y4.1::[])))))).drop (0:Nat)).take (5:Nat))) fun y5 =>
 .ret (y5.1,()))
theorem aaQ:cM prog f78=some ⟨35,2,dd78.er,[.t 4],[some tI]⟩:=by kernel_rfl
noncomputable def ct78:Ct:=⟨78,[.c (.hole tG),.c (.hole tG)],hI,fun x=>ai (F78 x.1 x.2.1)⟩
theorem UC:ct78.Ok prog:=cu mixed UB func78 aaQ (enters_of func78 rfl rfl) dd78 (by kernel_rfl) rfl (fun x=>by kernel_rfl)

/- 5, lent -/
abbrev pH5:au:=au.mk [] [] [] []
abbrev qH5:au:=au.mk [(0,.c (.ptr 0 0))] [(0,.cells [.mp 1] false),(1,gD)] [.slot 0,.cell 0 0] []
noncomputable def cxH5:Cx:=(aM [] [])
theorem UD:cxH5.Ok prog:=ak trivial trivial
noncomputable def ddH5:D prog 4 none 0:=dO [] (kd prog f5) 0
noncomputable def FH5:bR (eX×Unit) :=
 .ret ([],())
theorem aaR:cM prog f5=some ⟨4,0,ddH5.er,[.t 0],[none]⟩:=by kernel_rfl
noncomputable def ht5:Ht:=⟨5,pH5,qH5,(fun x=>ai (FH5))⟩
theorem QD:ht5.Ok prog:=bV mixed UD rfl func5 aaR (enters_of func5 rfl rfl) ddH5 (by kernel_rfl) rfl rfl ⟨_,rfl⟩ rfl (pre:=[]) rfl (fun x=>by kernel_rfl)

/- 24, lent -/
abbrev pH24:au:=au.mk [(0,.c (.ptr 0 0))] [(0,.cells [.mp 1] false),(1,gD)] [.slot 0,.cell 0 0] []
abbrev qH24:au:=au.mk [(0,.c (.hole .bool))] [(0,.cells [.mp 1] false),(1,gD)] [] []
noncomputable def afA:Cx:=(aM [] [])
theorem QE:afA.Ok prog:=ak trivial trivial
noncomputable def Yl:D prog 12 none 2:=dO [] (kd prog f24) 0
noncomputable def FH24 (m1:eX):bR (Bool×eX×Unit) :=
 .ret (false,m1,())
theorem UE:cM prog f24=some ⟨12,1,Yl.er,[.t 2],[some .bool]⟩:=by kernel_rfl
noncomputable def M1:Ht:=⟨24,pH24,qH24,(fun x=>ai (FH24 x.1))⟩
theorem tF:M1.Ok prog:=bV mixed QE rfl func24 UE (enters_of func24 rfl rfl) Yl (by kernel_rfl) rfl rfl ⟨_,rfl⟩ rfl (pre:=[0,1]) rfl (fun x=>by kernel_rfl)

/- 27 -/
noncomputable def cx27:Cx:=(aM [] [])
theorem Kx:cx27.Ok prog:=ak trivial trivial
abbrev afC:au:=au.mk [(0,.c (.hole .str)),(6,.c (.hole (.list (.int .u8)))),(7,hI),(8,hI)] [] [] []
abbrev afD:aT:=[(.ret,au.mk [(2,.c (.tf false))] [] [] []),(.exit 0,au.mk [(0,.c (.hole .str))] [] [] [])]
noncomputable def afE:D prog 40 none 0:=dO [] (pick (kd prog f27) [(0,false)]) 0
noncomputable def g27_0:ByteArray×List Int×Int×Int×Unit->bR ((ByteArray×List Int×Int×Int×Unit) ⊕ ((Unit) ⊕ ((ByteArray×Unit)))):=fun (v0,v6,v7,v8,_) =>
 .br (decide (v8<v7)) (
 .nb v8 (((v6).length:Nat):Int) <|
 .br (decide (((v6).getD (Int.toNat v8) (0:Int))<(97:Int))) (
 .br (v8==(0:Int)) (
 .ret (.inr <| .inl<|())) (
 .br (decide (((v6).getD (Int.toNat v8) (0:Int))<(48:Int))) (
 .ret (.inr <| .inl<|())) (
 .br (decide ((57:Int)<((v6).getD (Int.toNat v8) (0:Int)))) (
 .ret (.inr <| .inl<|())) (
 .ni (v8+(1:Int)) <|
 .ret (.inl (v0,v6,v7,(v8+(1:Int)),())))))) (
 .br (decide ((122:Int)<((v6).getD (Int.toNat v8) (0:Int)))) (
 .br (v8==(0:Int)) (
 .ret (.inr <| .inl<|())) (
 .br (decide (((v6).getD (Int.toNat v8) (0:Int))<(48:Int))) (
 .ret (.inr <| .inl<|())) (
 .br (decide ((57:Int)<((v6).getD (Int.toNat v8) (0:Int)))) (
 .ret (.inr <| .inl<|())) (
 .ni (v8+(1:Int)) <|
 .ret (.inl (v0,v6,v7,(v8+(1:Int)),())))))) (
 .ni (v8+(1:Int)) <|
 .ret (.inl (v0,v6,v7,(v8+(1:Int)),()))))) (
 .ret (.inr <| .inr<|(v0,())))
noncomputable def afF:bt prog 40 none 0:=aW mixed cx27 Kx [] rfl afC afD rfl (afE) (fun x=>ai (g27_0 x)) (fun x=>by kernel_rfl)
noncomputable def dd27:D prog 40 none 0:=dO [.l afF] (kd prog f27) 0
noncomputable def F27 (a0:ByteArray):bR (Bool×Unit) :=
 .bd (.it g27_0 (a0,(b8 a0),((((b8 a0)).length:Nat):Int),(0:Int),())) fun z0 =>
 .sm z0 (fun z1 =>
 .ret (false,())) fun z2 =>
 .br (decide ((0:Int)<((z2.1.size:Nat):Int))) (
 .ret ((decide (((z2.1.size:Nat):Int)<=(10:Int))),())) (
 .ret (false,()))
theorem aaS:cM prog f27=some ⟨40,1,dd27.er,[.t 2],[some .bool]⟩:=by kernel_rfl
noncomputable def M3:Ct:=⟨27,[.c (.hole .str)],.c (.hole .bool),fun x=>ai (F27 x.1)⟩
theorem tH:M3.Ok prog:=cu mixed Kx func27 aaS (enters_of func27 rfl rfl) dd27 (by kernel_rfl) rfl (fun x=>by kernel_rfl)

/- 45 -/
noncomputable def cx45:Cx:=(aM [M3] [])
theorem UF:cx45.Ok prog:=ak ⟨tH,trivial⟩ trivial
noncomputable def dd45:D prog 27 none 0:=dO [] (kd prog f45) 0
noncomputable def F45 (a0:GG):bR (Int×Unit) :=
 .br (a0.2.1==(1:Int)) (
 .br (!(seq a0.2.2.1 (bs []))) (
 .ret ((22:Int),())) (
 .br (a0.2.1==(1:Int)) (
 .ret ((0:Int),())) (
 .bd (F27 a0.2.2.1) fun y0 =>
 .br (!y0.1) (
 .ret ((8:Int),())) (
 .br (seq a0.2.2.1 a0.1) (
 .ret ((22:Int),())) (
 .ret ((0:Int),())))))) (
 .br (a0.2.1==(1:Int)) (
 .ret ((0:Int),())) (
 .bd (F27 a0.2.2.1) fun y1 =>
 .br (!y1.1) (
 .ret ((8:Int),())) (
 .br (seq a0.2.2.1 a0.1) (
 .ret ((22:Int),())) (
 .ret ((0:Int),())))))
theorem aaT:cM prog f45=some ⟨27,1,dd45.er,[.t 2],[some tI]⟩:=by kernel_rfl
noncomputable def ct45:Ct:=⟨45,[.c (.hole tG)],hI,fun x=>ai (F45 x.1)⟩
theorem UG:ct45.Ok prog:=cu mixed UF func45 aaT (enters_of func45 rfl rfl) dd45 (by kernel_rfl) rfl (fun x=>by kernel_rfl)

/- 46 -/
noncomputable def cx46:Cx:=(aM [M3] [])
theorem UH:cx46.Ok prog:=ak ⟨tH,trivial⟩ trivial
noncomputable def dd46:D prog 35 none 0:=dO [] (kd prog f46) 0
noncomputable def F46 (a0:GG):bR (Int×Unit) :=
 .br (a0.2.1==(3:Int)) (
 .br (!(seq a0.2.2.2.1 (bs []))) (
 .ret ((22:Int),())) (
 .br (!(a0.2.2.2.2==(0:Int))) (
 .ret ((22:Int),())) (
 .br (a0.2.1==(3:Int)) (
 .ret ((0:Int),())) (
 .bd (F27 a0.2.2.2.1) fun y0 =>
 .br (!y0.1) (
 .ret ((8:Int),())) (
 .br (decide (a0.2.2.2.2<(-1000:Int))) (
 .ret ((2:Int),())) (
 .br (decide ((1000:Int)<a0.2.2.2.2)) (
 .ret ((2:Int),())) (
 .ret ((0:Int),())))))))) (
 .br (a0.2.1==(3:Int)) (
 .ret ((0:Int),())) (
 .bd (F27 a0.2.2.2.1) fun y1 =>
 .br (!y1.1) (
 .ret ((8:Int),())) (
 .br (decide (a0.2.2.2.2<(-1000:Int))) (
 .ret ((2:Int),())) (
 .br (decide ((1000:Int)<a0.2.2.2.2)) (
 .ret ((2:Int),())) (
 .ret ((0:Int),()))))))
theorem aaU:cM prog f46=some ⟨35,1,dd46.er,[.t 2],[some tI]⟩:=by kernel_rfl
noncomputable def ct46:Ct:=⟨46,[.c (.hole tG)],hI,fun x=>ai (F46 x.1)⟩
theorem UI:ct46.Ok prog:=cu mixed UH func46 aaU (enters_of func46 rfl rfl) dd46 (by kernel_rfl) rfl (fun x=>by kernel_rfl)

/- 44 -/
noncomputable def cx44:Cx:=(aM [] [])
theorem Ky:cx44.Ok prog:=ak trivial trivial
abbrev afM:au:=au.mk [(3,hI),(6,hL),(7,hI),(8,hI)] [] [] []
abbrev afN:aT:=[(.ret,au.mk [(2,hI)] [] [] []),(.exit 0,au.mk [(3,hI)] [] [] [])]
noncomputable def afO:D prog 18 none 0:=dO [] (pick (kd prog f44) [(0,false)]) 0
noncomputable def g44_0:Int×List Int×Int×Int×Unit->bR ((Int×List Int×Int×Int×Unit) ⊕ ((Int×Unit) ⊕ ((Int×Unit)))):=fun (v3,v6,v7,v8,_) =>
 .br (decide (v8<v7)) (
 .nb v8 (((v6).length:Nat):Int) <|
 .br (!(((v6).getD (Int.toNat v8) (0:Int))==v3)) (
 .ret (.inr <| .inl<|(((v6).getD (Int.toNat v8) (0:Int)),()))) (
 .ni (v8+(1:Int)) <|
 .ret (.inl (v3,v6,v7,(v8+(1:Int)),())))) (
 .ret (.inr <| .inr<|(v3,())))
noncomputable def afP:bt prog 18 none 0:=aW mixed cx44 Ky [] rfl afM afN rfl (afO) (fun x=>ai (g44_0 x)) (fun x=>by kernel_rfl)
noncomputable def dd44:D prog 18 none 0:=dO [.l afP] (kd prog f44) 0
noncomputable def F44 (a0:List Int):bR (Int×Unit) :=
 .bd (.it g44_0 ((0:Int),a0,(((a0).length:Nat):Int),(0:Int),())) fun z0 =>
 .sm z0 (fun z1 =>
 .ret (z1.1,())) fun z2 =>
 .ret (z2.1,())
theorem aaV:cM prog f44=some ⟨18,1,dd44.er,[.t 2],[some tI]⟩:=by kernel_rfl
noncomputable def ct44:Ct:=⟨44,[hL],hI,fun x=>ai (F44 x.1)⟩
theorem UJ:ct44.Ok prog:=cu mixed Ky func44 aaV (enters_of func44 rfl rfl) dd44 (by kernel_rfl) rfl (fun x=>by kernel_rfl)

/- 25 -/
noncomputable def cx25:Cx:=(aM [M3,ct45,ct46,ct44] [])
theorem UK:cx25.Ok prog:=ak ⟨tH,UG,UI,UJ,trivial⟩ trivial
noncomputable def dd25:D prog 23 none 0:=dO [] (kd prog f25) 0
noncomputable def F25 (a0:GG):bR (Int×Unit) :=
 .br (decide (a0.2.1<(1:Int))) (
 .ret ((18:Int),())) (
 .br (decide ((3:Int)<a0.2.1)) (
 .ret ((18:Int),())) (
 .bd (F27 a0.1) fun y0 =>
 .br (!y0.1) (
 .ret ((8:Int),())) (
 .bd (F45 (a0.1,a0.2.1,a0.2.2.1,a0.2.2.2.1,a0.2.2.2.2)) fun y1 =>
 .bd (F46 (a0.1,a0.2.1,a0.2.2.1,a0.2.2.2.1,a0.2.2.2.2)) fun y2 =>
 .bd (F44 ((((y1.1::(y2.1::[]))).drop (0:Nat)).take (2:Nat))) fun y3 =>
 .ret (y3.1,()))))
theorem aaW:cM prog f25=some ⟨23,1,dd25.er,[.t 2],[some tI]⟩:=by kernel_rfl
noncomputable def ct25:Ct:=⟨25,[.c (.hole tG)],hI,fun x=>ai (F25 x.1)⟩
theorem UL:ct25.Ok prog:=cu mixed UK func25 aaW (enters_of func25 rfl rfl) dd25 (by kernel_rfl) rfl (fun x=>by kernel_rfl)

/- 47, by hand -/
abbrev pH47:au:=au.mk [(0,.c (.mp 0))] [(0,gD)] [.slot 0] []
abbrev qH47:au:=au.mk [(0,.c (.mp 1))] [(1,gD),(0,gD)] [.slot 0] []
noncomputable def FH47 (m0:eX):bR (eX×eX×Unit) :=
 .ret (m0,m0,())
noncomputable def aaX:Ht:=⟨47,pH47,qH47,(fun x=>ai (FH47 x.1))⟩
theorem KA:aaX.Ok prog:=fun x y h=>by
  have h':some (x.1,x.1,())=some y:=h
  cases h'
  exact FU (ρ:=BR) afk (enters_of func47 rfl rfl)

/- 165 -/
noncomputable def afU:Cx:=(aM [] [])
theorem QF:afU.Ok prog:=ak trivial trivial
noncomputable def Ym:D prog 5 none 0:=dO [] (kd prog f165) 0
noncomputable def F165 (a0:GG):bR (AH×Unit) :=
 .ret ((((((a0.1,a0.2.1,a0.2.2.1,a0.2.2.2.1,a0.2.2.2.2)::[])).drop (0:Nat)).take (1:Nat)),())
theorem UM:cM prog f165=some ⟨5,1,Ym.er,[.t 2],[some (.list tG)]⟩:=by kernel_rfl
noncomputable def Yn:Ct:=⟨165,[.c (.hole tG)],.c (.hole (.list tG)),fun x=>ai (F165 x.1)⟩
theorem QG:Yn.Ok prog:=cu mixed QF func165 UM (enters_of func165 rfl rfl) Ym (by kernel_rfl) rfl (fun x=>by kernel_rfl)

/- 26, lent -/
abbrev pH26:au:=au.mk [(0,.c (.ptr 0 0)),(1,.c (.Fu 42 true (.cons (.hole .str) (.cons (.hole tI) (.cons (.hole .str) (.cons (.hole .str) (.cons (.hole tI) .nil)))))))] [(0,.cells [.mp 1] false),(1,gD)] [.slot 0,.cell 0 0] []
abbrev qH26:au:=au.mk [(0,hI)] [(0,.cells [.mp 2] false),(2,gD)] [.cell 0 0] []
noncomputable def Yo:Cx:=(aM [Yn] [aaX])
theorem Gc:Yo.Ok prog:=ak ⟨QG,trivial⟩ ⟨⟨KA,rfl⟩,trivial⟩
abbrev aaY:au:=au.mk [(0,.c (.ptr 0 0)),(5,.c (.mp 2)),(14,.c (.hole (.list tG))),(15,hI),(16,hI)] [(0,.cells [.mp 1] false),(2,gD),(1,gD)] [.slot 5] []
abbrev aaZ:aT:=[(.exit 0,au.mk [(0,.c (.ptr 0 0)),(5,.c (.mp 2))] [(0,.cells [.mp 1] false),(2,gD),(1,gD)] [.slot 5] [])]
noncomputable def aa0:D prog 30 none 2:=dO [] (pick (kd prog f26) [(0,false)]) 0
noncomputable def gH26_0:AH×Int×Int×eX×eX×Unit->bR ((AH×Int×Int×eX×eX×Unit) ⊕ ((eX×eX×Unit))):=fun (tJ,di,lH,m2,m1,_) =>
 .br (decide (lH<di)) (
 .nb lH (((tJ).length:Nat):Int) <|
 .ni (lH+(1:Int)) <|
 .ret (.inl (tJ,di,(lH+(1:Int)),(bp (.prod .str (.prod (.int .i64) (.prod .str (.prod .str (.int .i64))))) m2 (((tJ).getD (Int.toNat lH) ((bs []),(0:Int),(bs []),(bs []),(0:Int))).1,((tJ).getD (Int.toNat lH) ((bs []),(0:Int),(bs []),(bs []),(0:Int))).2.1,((tJ).getD (Int.toNat lH) ((bs []),(0:Int),(bs []),(bs []),(0:Int))).2.2.1,((tJ).getD (Int.toNat lH) ((bs []),(0:Int),(bs []),(bs []),(0:Int))).2.2.2.1,((tJ).getD (Int.toNat lH) ((bs []),(0:Int),(bs []),(bs []),(0:Int))).2.2.2.2) true),m1,()))) (
 .ret (.inr (m2,m1,())))
noncomputable def aa1:bt prog 30 none 2:=aW mixed Yo Gc [0,1] rfl aaY aaZ rfl (aa0) (fun x=>ai (gH26_0 x)) (fun x=>by kernel_rfl)
noncomputable def Yp:D prog 30 none 2:=dO [.l aa1] (kd prog f26) 0
noncomputable def FH26 (v1c0:ByteArray) (v1c1:Int) (v1c2:ByteArray) (v1c3:ByteArray) (v1c4:Int) (m1:eX):bR (Int×eX×Unit) :=
 .bd (FH47 m1) fun y0 =>
 .bd (F165 (v1c0,v1c1,v1c2,v1c3,v1c4)) fun y1 =>
 .bd (.it gH26_0 (y1.1,(((y1.1).length:Nat):Int),(0:Int),y0.1,y0.2.1,())) fun z2 =>
 .br (decide ((60:Int)<(((z2.1).length:Nat):Int))) (
 .ret ((15:Int),z2.2.1,())) (
 .ret ((0:Int),z2.1,()))
theorem UN:cM prog f26=some ⟨30,2,Yp.er,[.t 4],[some tI]⟩:=by kernel_rfl
noncomputable def ht26:Ht:=⟨26,pH26,qH26,(fun x=>ai (FH26 x.1 x.2.1 x.2.2.1 x.2.2.2.1 x.2.2.2.2.1 x.2.2.2.2.2.1))⟩
theorem UO:ht26.Ok prog:=bV mixed Gc rfl func26 UN (enters_of func26 rfl rfl) Yp (by kernel_rfl) rfl rfl ⟨_,rfl⟩ rfl (pre:=[0,1]) rfl (fun x=>by kernel_rfl)

/- 6, lent -/
abbrev pH6:au:=au.mk [(0,.c (.ptr 0 0)),(1,.c (.hole tG))] [(0,.cells [.mp 1] false),(1,gD)] [.slot 0,.cell 0 0] []
abbrev qH6:au:=au.mk [(0,hI)] [(0,.cells [.mp 2] false),(2,gD)] [.cell 0 0] []
noncomputable def cxH6:Cx:=(aM [ct25] [M1,ht26])
theorem UP:cxH6.Ok prog:=ak ⟨UL,trivial⟩ ⟨⟨tF,rfl⟩,⟨UO,rfl⟩,trivial⟩
noncomputable def ddH6:D prog 17 none 2:=dO [] (kd prog f6) 0
noncomputable def FH6 (v1:GG) (m1:eX):bR (Int×eX×Unit) :=
 .bd (FH24 m1) fun y0 =>
 .br y0.1 (
 .ret ((9:Int),y0.2.1,())) (
 .bd (F25 (v1.1,v1.2.1,v1.2.2.1,v1.2.2.2.1,v1.2.2.2.2)) fun y1 =>
 .br (!(y1.1==(0:Int))) (
 .ret (y1.1,y0.2.1,())) (
 .bd (FH26 v1.1 v1.2.1 v1.2.2.1 v1.2.2.2.1 v1.2.2.2.2 y0.2.1) fun y2 =>
 .ret (y2.1,y2.2.1,())))
theorem aa2:cM prog f6=some ⟨17,2,ddH6.er,[.t 4],[some tI]⟩:=by kernel_rfl
noncomputable def ht6:Ht:=⟨6,pH6,qH6,(fun x=>ai (FH6 x.1 x.2.1))⟩
theorem QH:ht6.Ok prog:=bV mixed UP rfl func6 aa2 (enters_of func6 rfl rfl) ddH6 (by kernel_rfl) rfl rfl ⟨_,rfl⟩ rfl (pre:=[0,1]) rfl (fun x=>by kernel_rfl)

/- 77, lent -/
abbrev pH77:au:=au.mk [(0,.c (.mp 0))] [(0,gD)] [.slot 0] []
abbrev qH77:au:=au.mk [(0,.fn 97 [] [.ptr 1 0])] [(1,.cells [.mp 0] false),(0,gD)] [.part 0 0] []
noncomputable def afX:Cx:=(aM [] [])
theorem QI:afX.Ok prog:=ak trivial trivial
noncomputable def Yq:D prog 4 none 1:=dO [] (kd prog f77) 0
noncomputable def FH77 (m0:eX):bR (eX×Unit) :=
 .ret (m0,())
theorem UQ:cM prog f77=some ⟨4,1,Yq.er,[.t 2],[none]⟩:=by kernel_rfl
noncomputable def ht77:Ht:=⟨77,pH77,qH77,(fun x=>ai (FH77 x.1))⟩
theorem UR:ht77.Ok prog:=bV mixed QI rfl func77 UQ (enters_of func77 rfl rfl) Yq (by kernel_rfl) rfl rfl ⟨_,rfl⟩ rfl (pre:=[0]) rfl (fun x=>by kernel_rfl)

/- 96, by hand -/
abbrev pH96:au:=au.mk [(0,.c (.bO 0 tG)),(1,.c (.fn0 78))] [(0,.arr tG false)] [.slot 0] []
abbrev qH96:au:=au.mk [(0,.c .any)] [(0,.arr tG false)] [] []
noncomputable def FH96 (bI:Nat) (b0:AH):bR (AH×Unit) :=
 .of (wO (.prod .str (.prod (.int .i64) (.prod .str (.prod .str (.int .i64))))) b0 bI)
noncomputable def aa3:Ht:=⟨96,pH96,qH96,(fun x=>ai (FH96 x.1 x.2.1))⟩
theorem xu (a b:ByteArray):(seq a b=true)↔a=b:=by
  unfold seq
  rw [beq_iff_eq,Go.ByteArray.toList_eq,Go.ByteArray.toList_eq]
  obtain ⟨a⟩:=a;obtain ⟨b⟩:=b
  simp
def ox (a b:ByteArray):Int:=if slt a b=true then -1 else if a=b then 0 else 1
def qJ (a b:Int):Int:=if a<b then -1 else if b<a then 1 else 0
def qx : List Int → Int
 |[]=>0
 |a::r=>if a=0 then qx r else a
theorem afZ (a:ByteArray):ai (F43 a)=some (false,()):=by
  have:seq a a=true:=(xu a a).2 rfl
  simp [F43,aa,this]
theorem af0 (a:Int):ai (F42 a)=some (false,()):=by simp [F42,aa]
theorem af1 (a b:ByteArray):ai (F23 a b)=some (ox a b,()):=by
  simp only [F23,az,aq,aa,afZ,aH,pg,tA,ox]
  cases h:slt a b
  · by_cases he : a = b
    · subst he;simp [(xu a a).2 rfl]
    · have : seq a b = false := by rw [← Bool.not_eq_true]; exact fun h => he ((xu a b).1 h)
      simp [this,he]
  · simp
theorem af2 (a b:Int):ai (F22 a b)=some (qJ a b,()):=by
  simp only [F22,az,aq,aa,af0,aH,pg,aQ,qJ]
  repeat' split
  all_goals rfl
theorem af3 (l:List Int) (hl:l.length<=1000):ai (F21 l)=some (qx l,()):=by
  simp only [F21,az,bD,aa]
  refine bind_eq (aZ l (fun k (_:Unit)=>((0:Int),l,((l.length:Nat):Int),(k:Int),())) (fun _ r=>if qx r=0 then .inr (0,()) else .inl (qx r,())) (fun _ _=>True) ?_ ?_ (s:=()) trivial) ?_
  · rintro pre x post _ hx -
    have hlen:l.length=pre.length+(post.length+1):=by rw [hx];simp
    have hd:l.getD pre.length 0=x:=by rw [hx];exact bg rfl
    have i1:eA (pre.length:Int) ((l.length:Nat):Int)=true:=bH (by omega) (by omega)
    have r1:dV .i64 ((pre.length:Int)+1)=true:=aK (by omega) (by omega)
    simp only [g21_0,aq,aY,aO,aN,aa,Int.toNat_natCast,hd,i1,r1,ax,aQ,bU,bE]
    rw [if_pos (by omega)]
    by_cases h:x=0
    · left
      refine ⟨(),?_,trivial,by simp [qx,h]⟩
      rw [if_pos h];rfl
    · right
      rw [if_neg h]
      have:qx (x::post)=x:=by simp [qx,h]
      rw [this,if_neg h]
  · rintro _ _
    simp only [g21_0,aq,aQ,aa]
    rw [if_neg (by omega)]
    simp [qx]
  · by_cases h : qx l = 0
    · rw [if_pos h,h];rfl
    · rw [if_neg h];rfl
abbrev QJ:Ty:=.prod .str (.prod tI (.prod .str (.prod .str tI)))
def zo (a b:QJ.den):Int:=qx [ox a.1 b.1,qJ a.2.1 b.2.1,ox a.2.2.1 b.2.2.1,ox a.2.2.2.1 b.2.2.2.1,qJ a.2.2.2.2 b.2.2.2.2]
theorem xw {a b:ByteArray}:ox a b=0↔a=b:=by
  unfold ox
  split
  · rename_i h
    constructor
    · intro h';omega
    · rintro rfl
      have:gZ .str a a=true:=h
      rw [Km (t:=.str) rfl] at this;cases this
  · split<;>simp_all
theorem Dq {a b:Int}:qJ a b=0↔a=b:=by
  unfold qJ
  repeat' split
  all_goals omega
theorem US {a b:ByteArray}:ox a b<0↔gZ .str a b=true:=by
  unfold ox
  split
  · rename_i h;simp only [gZ];exact ⟨fun _=>h,fun _=>by omega⟩
  · rename_i h
    constructor
    · intro h';split at h'<;>omega
    · intro h';exact absurd h' h
theorem UT {a b:Int}:qJ a b<0↔gZ tI a b=true:=by
  have e:gZ tI a b=decide (a<b):=rfl
  rw [e,decide_eq_true_eq]
  unfold qJ
  repeat' split
  all_goals omega
theorem aa4 {c:Int} {r:List Int}:qx (c::r)<0↔c<0\/(c=0/\qx r<0):=by
  simp only [qx]
  split<;>omega
theorem UU (a b:QJ.den):decide (zo a b<0)=gZ QJ a b:=by
  have hS:∀x y:ByteArray,eB .str x y=true↔x=y:=fun x y=>⟨fun h=>bS h,fun h=>by subst h;exact kZ (t:=.str) x rfl⟩
  have hI:∀x y:Int,eB tI x y=true↔x=y:=fun x y=>⟨fun h=>bS (t:=tI) h,fun h=>by subst h;exact kZ (t:=tI) x rfl⟩
  rw [Bool.eq_iff_iff,decide_eq_true_eq]
  show _↔(gZ .str a.1 b.1||(eB .str a.1 b.1&&(gZ tI a.2.1 b.2.1||(eB tI a.2.1 b.2.1&&(gZ .str a.2.2.1 b.2.2.1||(eB .str a.2.2.1 b.2.2.1&&(gZ .str a.2.2.2.1 b.2.2.2.1||(eB .str a.2.2.2.1 b.2.2.2.1&&gZ tI a.2.2.2.2 b.2.2.2.2))))))))=true
  have e:qx []<0↔False:=by simp [qx]
  unfold zo
  simp only [aa4,e,and_false,or_false,xw,Dq,US,UT,Bool.or_eq_true,Bool.and_eq_true,hS,hI]
theorem wq85 (a b:QJ.den):ai (F78 a b)=some (zo a b,()):=by
  have hq:∀x y:ByteArray,(x.toList=y.toList)↔x=y:=fun x y=>by rw [<-xu];unfold seq;rw [beq_iff_eq]
  simp only [F78,aq,az,aa,af1,af2,aH,tA]
  split
  · rename_i h
    simp only [Bool.and_eq_true,beq_iff_eq,and_true,hq] at h
    obtain ⟨h1,h2,h3,h4,h5⟩:=h
    have:zo a b=0:=by
      unfold zo
      simp only [qx,xw.2 h1,Dq.2 h2,xw.2 h3,xw.2 h4,Dq.2 h5,if_true]
    rw [this]
  · exact bind_eq (af3 [ox a.1 b.1,qJ a.2.1 b.2.1,ox a.2.2.1 b.2.2.1,ox a.2.2.2.1 b.2.2.2.1,qJ a.2.2.2.2 b.2.2.2.2] (by simp)) rfl
theorem UW:aa3.Ok prog:=fun x y h =>
  Uq (ρ := BS) afl (enters_of func96 rfl rfl) (g := 78) (t := QJ) (ks := [.s, .i, .s, .s, .i]) rfl (by decide) (fun w => isAgg42 w) (fun w => sizeOf42 w) zo
    (fun a b=>UC (a,b,()) (zo a b,()) (wq85 a b)) UU (xs:=x.2.1) (n:=x.1) (y:=y) h

/- 76, lent -/
abbrev pH76:au:=au.mk [(0,.fn 97 [] [.ptr 0 0]),(1,.c (.fn0 78))] [(0,.cells [.mp 1] false),(1,gD)] [.part 0 0,.cell 0 0] []
abbrev qH76:au:=au.mk [(0,.c (.bO 2 tG))] [(2,.arr tG false),(0,.cells [.mp 1] false),(1,gD)] [.slot 0] []
noncomputable def xy:Cx:=(aM [] [aa3])
theorem rU:xy.Ok prog:=ak (AE:=[]) (hts:=[aa3]) trivial ⟨⟨UW,rfl⟩,trivial⟩
noncomputable def pn:D prog 13 (some 4) 8:=dO [] (pick (kd prog f106) [(0,false)]) 0
noncomputable def pq:D prog 13 (some 4) 8:=dO [] (pick (kd prog f106) [(0,true)]) 0
noncomputable def jB:Cx:=AF xy (fun kz=>P9 kz xy bW 4 8 [7] (pn) (pq))
theorem k6:(jB).Ok prog:=jU rU (fun h=>nW mixed rU h)
abbrev u9:au:=au.mk [(0,.c (.yl 4)),(4,.c (.mp 1))] [(4,.loop .ready none 3 [(2,.c (.ptr 2 0)),(4,.c .cw),(6,.fn 97 [] [.ptr 0 0])] [7] (.aX [.op (some 5) none (.alloc [.str (ByteArray.mk (Array.mk [])),.int .i64 (Int.ofNat 0),.str (ByteArray.mk (Array.mk [])),.str (ByteArray.mk (Array.mk [])),.int .i64 (Int.ofNat 0)]),.op none none (.store 5 (.t 5) (.t 7))]) (.block 1 (.aX [.op (some 8) none (.load false 1 (.t 2)),.op (some 9) none (.load true 5 (.t 5)),.op (some 10) none (.eY tG [.t 9]),.op (some 11) none (.append 5 (.t 8) (.t 10)),.op none none (.store 1 (.t 2) (.t 11))])) 13),(1,gD),(3,.iy),(2,.cells [.bO 5 tG] false),(0,.cells [.mp 1] false),(5,.arr tG false)] [.cell 2 0] []
noncomputable def vc:D prog 14 none 7:=dO [] (pick (kd prog f97) [(0,false)]) 0
noncomputable def gH76f95f106_0i_0:((GG)×(Bool))->eX×Nat×AH×Unit->bR (eX×Nat×AH×Unit):=fun e (m1,iE,b5,_) =>
 .nd (decide ((iE+((((((e.1.1,e.1.2.1,e.1.2.2.1,e.1.2.2.2.1,e.1.2.2.2.2)::[])).drop (0:Nat)).take (1:Nat))).length)<cn)) <|
 .nd (lU m1 m1) <|
 .ret (m1,(iE+((((((e.1.1,e.1.2.1,e.1.2.2.1,e.1.2.2.2.1,e.1.2.2.2.2)::[])).drop (0:Nat)).take (1:Nat))).length),((((b5).drop (0:Nat)).take iE)++(((((e.1.1,e.1.2.1,e.1.2.2.1,e.1.2.2.2.1,e.1.2.2.2.2)::[])).drop (0:Nat)).take (1:Nat))),())
noncomputable def ve:yL prog 14 none 5:=Dh mixed jB k6 [0,1,2,3,4] rfl u9 ( [.op (some 4) none (.load false 1 (.t 1))]) 4 5 [6,7] (some 8) ( .prod .str (.prod tI (.prod .str (.prod .str tI))))  true ( .bool)  false 0 rfl 7 rfl (vc) (fun e x=>ai (gH76f95f106_0i_0 e x)) (fun e=>fun x=>by kernel_rfl)
abbrev AJ:au:=au.mk [(2,.c (.ptr 2 0)),(4,.c .cw),(6,.fn 97 [] [.ptr 0 0])] [(2,.cells [.cw] false),(0,.cells [.mp 1] false),(1,gD)] [.slot 2] []
abbrev AK:aT:=[(.normal,au.mk [(2,.c (.ptr 2 0))] [(2,.cells [.bO 3 tG] false),(0,.cells [.mp 1] false),(1,gD),(3,.arr tG false)] [.slot 2,.cell 2 0] [])]
noncomputable def pz:D prog 14 none 5:=dO [.m ve] (kd prog f97) 0
theorem zq:cM prog f97=some ⟨14,2,(pz).er,[],[]⟩:=by kernel_rfl
noncomputable def qK:gH prog 13 none 2:=zg mixed jB k6 [0,1] rfl AJ AK ( .t 6) [7] rfl (pn).er (pq).er 97 func97 (zq) (enters_of func97 rfl rfl) 5 rfl (pz) rfl
@[reducible] noncomputable def UX:Go.AM.Fn:=⟨13,2,(dO [.r qK] (kd prog f106) 0:D prog 13 none 2).er,[.t 4],[some (.list tG)]⟩
noncomputable def KB:Cx:=FP prog xy 106 UX 2 (dO [.r qK] (kd prog f106) 0)
theorem IB:KB.Ok prog:=zf mixed rU func106 (by kernel_rfl) (enters_of func106 rfl rfl) rfl
@[reducible] noncomputable def UY:Go.AM.Fn:=⟨5,1,(dO [] (kd prog f95) 0:D prog 5 none 0).er,[.t 2],[some (.list tG)]⟩
noncomputable def KC:Cx:=Qm prog KB 95 UY (fun _=>dO [] (kd prog f95) 0)
theorem IC:KC.Ok prog:=Di mixed IB func95 (by kernel_rfl) (enters_of func95 rfl rfl) (fun _=>by kernel_rfl)
noncomputable def af4:Cx:=KC
theorem QK:af4.Ok prog:=IC
noncomputable def Yr:D prog 12 none 2:=dO [] (kd prog f76) 0
noncomputable def FH76 (m1:eX):bR (Nat×AH×eX×Unit) :=
 .an m1 fun l0 =>
 .bd (.fm gH76f95f106_0i_0 l0 (m1,(0:Nat),[],())) fun z1 =>
 .bd (FH96 z1.2.1 z1.2.2.1) fun y2 =>
 .ret (z1.2.1,y2.1,z1.1,())
theorem UZ:cM prog f76=some ⟨12,2,Yr.er,[.t 4],[some (.list tG)]⟩:=by kernel_rfl
noncomputable def ht76:Ht:=⟨76,pH76,qH76,(fun x=>ai (FH76 x.1))⟩
theorem U0:ht76.Ok prog:=bV mixed QK rfl func76 UZ (enters_of func76 rfl rfl) Yr (by kernel_rfl) rfl rfl ⟨_,rfl⟩ rfl (pre:=[0,1]) rfl (fun x=>by kernel_rfl)

/- 48, lent -/
abbrev pH48:au:=au.mk [(0,.c (.ptr 0 0))] [(0,.cells [.mp 1] false),(1,gD)] [.slot 0,.cell 0 0] []
abbrev qH48:au:=au.mk [(0,.c (.bO 2 tG))] [(2,.arr tG false),(0,.cells [.mp 1] false),(1,gD)] [.slot 0] []
noncomputable def af6:Cx:=(aM [] [M1,ht77,ht76])
theorem QL:af6.Ok prog:=ak trivial ⟨⟨tF,rfl⟩,⟨UR,rfl⟩,⟨U0,rfl⟩,trivial⟩
noncomputable def Ys:D prog 11 none 2:=dO [] (kd prog f48) 0
noncomputable def FH48 (m1:eX):bR (Nat×AH×eX×Unit) :=
 .bd (FH24 m1) fun y0 =>
 .br y0.1 (
 .ret ((0:Nat),[],y0.2.1,())) (
 .bd (FH77 y0.2.1) fun y1 =>
 .bd (FH76 y1.1) fun y2 =>
 .ret (y2.1,y2.2.1,y2.2.2.1,()))
theorem U1:cM prog f48=some ⟨11,1,Ys.er,[.t 2],[some (.list tG)]⟩:=by kernel_rfl
noncomputable def aa5:Ht:=⟨48,pH48,qH48,(fun x=>ai (FH48 x.1))⟩
theorem KE:aa5.Ok prog:=bV mixed QL rfl func48 U1 (enters_of func48 rfl rfl) Ys (by kernel_rfl) rfl rfl ⟨_,rfl⟩ rfl (pre:=[0,1]) rfl (fun x=>by kernel_rfl)

/- 50, lent -/
abbrev pH50:au:=au.mk [(0,.c (.mp 0))] [(0,fL)] [.slot 0] []
abbrev qH50:au:=au.mk [(0,.fn 81 [] [.ptr 1 0])] [(1,.cells [.mp 0] false),(0,fL)] [.part 0 0] []
noncomputable def af7:Cx:=(aM [] [])
theorem QM:af7.Ok prog:=ak trivial trivial
noncomputable def Yt:D prog 4 none 1:=dO [] (kd prog f50) 0
noncomputable def FH50 (m0:dx):bR (dx×Unit) :=
 .ret (m0,())
theorem U2:cM prog f50=some ⟨4,1,Yt.er,[.t 2],[none]⟩:=by kernel_rfl
noncomputable def U4:Ht:=⟨50,pH50,qH50,(fun x=>ai (FH50 x.1))⟩
theorem Dr:U4.Ok prog:=bV mixed QM rfl func50 U2 (enters_of func50 rfl rfl) Yt (by kernel_rfl) rfl rfl ⟨_,rfl⟩ rfl (pre:=[0]) rfl (fun x=>by kernel_rfl)

/- 80, by hand -/
abbrev pH80:au:=au.mk [(0,.c (.bO 0 .str))] [(0,.arr .str false)] [.slot 0] []
abbrev qH80:au:=au.mk [(0,.c .any)] [(0,.arr .str false)] [] []
noncomputable def FH80 (bI:Nat) (b0:List ByteArray):bR (List ByteArray×Unit) :=
 .of (wO .str b0 bI)
noncomputable def U5:Ht:=⟨80,pH80,qH80,(fun x=>ai (FH80 x.1 x.2.1))⟩
theorem KF:U5.Ok prog:=fun x y h=>Qp (ρ:=BO) afi (enters_of func80 rfl rfl) (xs:=x.2.1) (n:=x.1) (y:=y) h

/- 49, lent -/
abbrev pH49:au:=au.mk [(0,.fn 81 [] [.ptr 0 0])] [(0,.cells [.mp 1] false),(1,fL)] [.part 0 0,.cell 0 0] []
abbrev qH49:au:=au.mk [(0,.c (.bO 2 .str))] [(2,.arr .str false),(0,.cells [.mp 1] false),(1,fL)] [.slot 0] []
noncomputable def xz:Cx:=(aM [] [U5])
theorem rV:xz.Ok prog:=ak (AE:=[]) (hts:=[U5]) trivial ⟨⟨KF,rfl⟩,trivial⟩
noncomputable def qM:D prog 13 (some 4) 7:=dO [] (pick (kd prog f98) [(0,false)]) 0
noncomputable def qN:D prog 13 (some 4) 7:=dO [] (pick (kd prog f98) [(0,true)]) 0
noncomputable def k7:Cx:=AF xz (fun kz=>P9 kz xz bW 4 7 [7] (qM) (qN))
theorem lZ:(k7).Ok prog:=jU rV (fun h=>nW mixed rV h)
abbrev wP:au:=au.mk [(0,.c (.yl 4)),(4,.c (.mp 1))] [(4,.loop .ready none 3 [(2,.c (.ptr 2 0)),(4,.c .cw),(6,.fn 81 [] [.ptr 0 0])] [7] (.aX [.op (some 5) none (.mv (.t 7))]) (.block 1 (.aX [.op (some 8) none (.load false 1 (.t 2)),.op (some 9) none (.mv (.t 5)),.op (some 10) none (.eY .str [.t 9]),.op (some 11) none (.append 1 (.t 8) (.t 10)),.op none none (.store 1 (.t 2) (.t 11))])) 13),(1,fL),(3,.iy),(2,.cells [.bO 5 .str] false),(0,.cells [.mp 1] false),(5,.arr .str false)] [.cell 2 0] []
noncomputable def wQ:D prog 14 none 7:=dO [] (pick (kd prog f81) [(0,false)]) 0
noncomputable def gH49f79f98_0i_0:((ByteArray)×GG)->dx×Nat×List ByteArray×Unit->bR (dx×Nat×List ByteArray×Unit):=fun e (m1,iE,b5,_) =>
 .nd (decide ((iE+(((((e.1::[])).drop (0:Nat)).take (1:Nat))).length)<cn)) <|
 .nd (lU m1 m1) <|
 .ret (m1,(iE+(((((e.1::[])).drop (0:Nat)).take (1:Nat))).length),((((b5).drop (0:Nat)).take iE)++((((e.1::[])).drop (0:Nat)).take (1:Nat))),())
noncomputable def wR:yL prog 14 none 5:=Dh mixed k7 lZ [0,1,2,3,4] rfl wP ( [.op (some 4) none (.load false 1 (.t 1))]) 4 5 [6,7] (some 8) ( .str)  false ( .prod .str (.prod tI (.prod .str (.prod .str tI))))  true 0 rfl 7 rfl (wQ) (fun e x=>ai (gH49f79f98_0i_0 e x)) (fun e=>fun x=>by kernel_rfl)
abbrev Ds:au:=au.mk [(2,.c (.ptr 2 0)),(4,.c .cw),(6,.fn 81 [] [.ptr 0 0])] [(2,.cells [.cw] false),(0,.cells [.mp 1] false),(1,fL)] [.slot 2] []
abbrev Dt:aT:=[(.normal,au.mk [(2,.c (.ptr 2 0))] [(2,.cells [.bO 3 .str] false),(0,.cells [.mp 1] false),(1,fL),(3,.arr .str false)] [.slot 2,.cell 2 0] [])]
noncomputable def qO:D prog 14 none 5:=dO [.m wR] (kd prog f81) 0
theorem AL:cM prog f81=some ⟨14,2,(qO).er,[],[]⟩:=by kernel_rfl
noncomputable def tK:gH prog 13 none 2:=zg mixed k7 lZ [0,1] rfl Ds Dt ( .t 6) [7] rfl (qM).er (qN).er 81 func81 (AL) (enters_of func81 rfl rfl) 5 rfl (qO) rfl
@[reducible] noncomputable def U6:Go.AM.Fn:=⟨13,2,(dO [.r tK] (kd prog f98) 0:D prog 13 none 2).er,[.t 4],[some (.list .str)]⟩
noncomputable def KG:Cx:=FP prog xz 98 U6 2 (dO [.r tK] (kd prog f98) 0)
theorem ID:KG.Ok prog:=zf mixed rV func98 (by kernel_rfl) (enters_of func98 rfl rfl) rfl
@[reducible] noncomputable def U7:Go.AM.Fn:=⟨5,1,(dO [] (kd prog f79) 0:D prog 5 none 0).er,[.t 2],[some (.list .str)]⟩
noncomputable def KH:Cx:=Qm prog KG 79 U7 (fun _=>dO [] (kd prog f79) 0)
theorem IE:KH.Ok prog:=Di mixed ID func79 (by kernel_rfl) (enters_of func79 rfl rfl) (fun _=>by kernel_rfl)
noncomputable def af8:Cx:=KH
theorem QN:af8.Ok prog:=IE
noncomputable def Yu:D prog 9 none 2:=dO [] (kd prog f49) 0
noncomputable def FH49 (m1:dx):bR (Nat×List ByteArray×dx×Unit) :=
 .an m1 fun l0 =>
 .bd (.fm gH49f79f98_0i_0 l0 (m1,(0:Nat),[],())) fun z1 =>
 .bd (FH80 z1.2.1 z1.2.2.1) fun y2 =>
 .ret (z1.2.1,y2.1,z1.1,())
theorem U8:cM prog f49=some ⟨9,1,Yu.er,[.t 2],[some (.list .str)]⟩:=by kernel_rfl
noncomputable def U9:Ht:=⟨49,pH49,qH49,(fun x=>ai (FH49 x.1))⟩
theorem Du:U9.Ok prog:=bV mixed QN rfl func49 U8 (enters_of func49 rfl rfl) Yu (by kernel_rfl) rfl rfl ⟨_,rfl⟩ rfl (pre:=[0,1]) rfl (fun x=>by kernel_rfl)

/- 53, lent -/
abbrev pH53:au:=au.mk [(0,.c (.hole (.list .str)))] [] [] []
abbrev qH53:au:=au.mk [(0,.c (.bO 0 .str))] [(0,.arr .str false)] [.slot 0] []
noncomputable def af9:Cx:=(aM [] [])
theorem QO:af9.Ok prog:=ak trivial trivial
noncomputable def Yv:D prog 8 none 0:=dO [] (kd prog f53) 0
noncomputable def FH53 (v0:List ByteArray):bR (Nat×List ByteArray×Unit) :=
 .br ((((v0).length:Nat):Int)==(0:Int)) (
 .am inferInstance (
 .ret ((0:Nat),[],())) (
 .nd (decide (((0:Nat)+(v0).length)<cn)) <|
 .ret (((0:Nat)+(v0).length),(((([]).drop (0:Nat)).take (0:Nat))++v0),()))) (
 .nd (decide (((0:Nat)+(v0).length)<cn)) <|
 .ret (((0:Nat)+(v0).length),(((([]).drop (0:Nat)).take (0:Nat))++v0),()))
theorem Va:cM prog f53=some ⟨8,1,Yv.er,[.t 2],[some (.list .str)]⟩:=by kernel_rfl
noncomputable def aa6:Ht:=⟨53,pH53,qH53,(fun x=>ai (FH53 x.1))⟩
theorem KI:aa6.Ok prog:=bV mixed QO rfl func53 Va (enters_of func53 rfl rfl) Yv (by kernel_rfl) rfl rfl ⟨_,rfl⟩ rfl (pre:=[]) rfl (fun x=>by kernel_rfl)

/- 54, lent -/
abbrev pH54:au:=au.mk [(0,.c (.hole .str)),(1,.c (.ptr 0 0))] [(0,.cells [.ptr 1 0] false),(1,.cells [.mp 2,.mp 3,.mp 4,.mp 5] false),(2,fL),(3,gB),(4,bY),(5,bY)] [.slot 1,.cell 0 0,.cell 1 0,.cell 1 1,.cell 1 2,.cell 1 3] []
abbrev qH54:au:=au.mk [(0,.c (.hole .bool))] [(0,.cells [.ptr 1 0] false),(1,.cells [.mp 2,.mp 3,.mp 4,.mp 5] false),(2,fL),(3,gB),(4,bY),(5,bY)] [] []
noncomputable def aga:Cx:=(aM [] [])
theorem QS:aga.Ok prog:=ak trivial trivial
noncomputable def Yw:D prog 11 none 6:=dO [] (kd prog f54) 0
noncomputable def FH54 (v0:ByteArray) (m2:dx) (m3:dK) (m4:bq) (m5:bq):bR (Bool×dx×dK×bq×bq×Unit) :=
 .ret ((!(ay .str false m4 v0)),m2,m3,m4,m5,())
theorem Vb:cM prog f54=some ⟨11,2,Yw.er,[.t 3],[some .bool]⟩:=by kernel_rfl
noncomputable def aa7:Ht:=⟨54,pH54,qH54,(fun x=>ai (FH54 x.1 x.2.1 x.2.2.1 x.2.2.2.1 x.2.2.2.2.1))⟩
theorem KJ:aa7.Ok prog:=bV mixed QS rfl func54 Vb (enters_of func54 rfl rfl) Yw (by kernel_rfl) rfl rfl ⟨_,rfl⟩ rfl (pre:=[0,1,2,3,4,5]) rfl (fun x=>by kernel_rfl)

/- 82, lent -/
abbrev pH82:au:=au.mk [(0,.c (.bO 0 .str)),(1,.fn 54 [] [.ptr 1 0])] [(0,.arr .str false),(1,.cells [.ptr 2 0] false),(2,.cells [.mp 3,.mp 4,.mp 5,.mp 6] false),(3,fL),(4,gB),(5,bY),(6,bY)] [.slot 0,.part 1 0,.cell 1 0,.cell 2 0,.cell 2 1,.cell 2 2,.cell 2 3] []
abbrev qH82:au:=au.mk [(0,hI)] [(1,.cells [.ptr 2 0] false),(2,.cells [.mp 3,.mp 4,.mp 5,.mp 6] false),(3,fL),(4,gB),(5,bY),(6,bY),(0,.arr .str false)] [] []
noncomputable def Yx:Cx:=(aM [] [aa7])
theorem Ge:Yx.Ok prog:=ak trivial ⟨⟨KJ,rfl⟩,trivial⟩
abbrev aa8:au:=au.mk [(0,.c (.bO 0 .str)),(1,.fn 54 [] [.ptr 1 0]),(7,hI),(8,hI)] [(0,.arr .str false),(1,.cells [.ptr 2 0] false),(2,.cells [.mp 3,.mp 4,.mp 5,.mp 6] false),(3,fL),(4,gB),(5,bY),(6,bY)] [] []
abbrev aa9:aT:=[(.ret,au.mk [(4,hI)] [(1,.cells [.ptr 2 0] false),(2,.cells [.mp 3,.mp 4,.mp 5,.mp 6] false),(3,fL),(4,gB),(5,bY),(6,bY),(0,.arr .str false)] [] []),(.exit 0,au.mk [] [(1,.cells [.ptr 2 0] false),(2,.cells [.mp 3,.mp 4,.mp 5,.mp 6] false),(3,fL),(4,gB),(5,bY),(6,bY),(0,.arr .str false)] [] [])]
noncomputable def aba:D prog 19 none 7:=dO [] (pick (kd prog f82) [(0,false)]) 0
noncomputable def gH82_0:Nat×Int×Int×List ByteArray×dx×dK×bq×bq×Unit->bR ((Nat×Int×Int×List ByteArray×dx×dK×bq×bq×Unit) ⊕ ((Int×dx×dK×bq×bq×List ByteArray×Unit) ⊕ ((dx×dK×bq×bq×List ByteArray×Unit)))):=fun (bI,v7,v8,b0,m3,m4,m5,m6,_) =>
 .br (decide (v8<v7)) (
 .nb v8 ((bI:Nat):Int) <|
 .nd (decide (((0:Nat)+(Int.toNat v8))<(b0).length)) <|
 .bd (FH54 ((b0).getD ((0:Nat)+(Int.toNat v8)) (bs [])) m3 m4 m5 m6) fun y0 =>
 .br y0.1 (
 .ret (.inr <| .inl<|(v8,y0.2.1,y0.2.2.1,y0.2.2.2.1,y0.2.2.2.2.1,b0,()))) (
 .ni (v8+(1:Int)) <|
 .ret (.inl (bI,v7,(v8+(1:Int)),b0,y0.2.1,y0.2.2.1,y0.2.2.2.1,y0.2.2.2.2.1,())))) (
 .ret (.inr <| .inr<|(m3,m4,m5,m6,b0,())))
noncomputable def abb:bt prog 19 none 7:=aW mixed Yx Ge [0,1,2,3,4,5,6] rfl aa8 aa9 rfl (aba) (fun x=>ai (gH82_0 x)) (fun x=>by kernel_rfl)
noncomputable def Yy:D prog 19 none 7:=dO [.l abb] (kd prog f82) 0
noncomputable def FH82 (bI:Nat) (b0:List ByteArray) (m3:dx) (m4:dK) (m5:bq) (m6:bq):bR (Int×dx×dK×bq×bq×List ByteArray×Unit) :=
 .bd (.it gH82_0 (bI,((bI:Nat):Int),(0:Int),b0,m3,m4,m5,m6,())) fun z1 =>
 .sm z1 (fun z2 =>
 .ret (z2.1,z2.2.1,z2.2.2.1,z2.2.2.2.1,z2.2.2.2.2.1,z2.2.2.2.2.2.1,())) fun z3 =>
 .ret ((-1:Int),z3.1,z3.2.1,z3.2.2.1,z3.2.2.2.1,z3.2.2.2.2.1,())
theorem Vc:cM prog f82=some ⟨19,2,Yy.er,[.t 4],[some tI]⟩:=by kernel_rfl
noncomputable def ht82:Ht:=⟨82,pH82,qH82,(fun x=>ai (FH82 x.1 x.2.1 x.2.2.1 x.2.2.2.1 x.2.2.2.2.1 x.2.2.2.2.2.1))⟩
theorem Vd:ht82.Ok prog:=bV mixed Ge rfl func82 Vc (enters_of func82 rfl rfl) Yy (by kernel_rfl) rfl rfl ⟨_,rfl⟩ rfl (pre:=[0,1,2,3,4,5,6]) rfl (fun x=>by kernel_rfl)

/- 52, lent -/
abbrev pH52:au:=au.mk [(0,.c (.bO 0 .str)),(1,.fn 54 [] [.ptr 1 0])] [(0,.arr .str false),(1,.cells [.ptr 2 0] false),(2,.cells [.mp 3,.mp 4,.mp 5,.mp 6] false),(3,fL),(4,gB),(5,bY),(6,bY)] [.slot 0,.part 1 0,.cell 1 0,.cell 2 0,.cell 2 1,.cell 2 2,.cell 2 3] []
abbrev qH52:au:=au.mk [(0,.c (.nT 0 .str))] [(0,.arr .str false),(1,.cells [.ptr 2 0] false),(2,.cells [.mp 3,.mp 4,.mp 5,.mp 6] false),(3,fL),(4,gB),(5,bY),(6,bY)] [] []
noncomputable def Yz:Cx:=(aM [] [ht82,aa7])
theorem Gf:Yz.Ok prog:=ak trivial ⟨⟨Vd,rfl⟩,⟨KJ,rfl⟩,trivial⟩
abbrev abc:au:=au.mk [(0,.c (.bO 0 .str)),(1,.fn 54 [] [.ptr 1 0]),(5,hI),(6,hI)] [(0,.arr .str false),(1,.cells [.ptr 2 0] false),(2,.cells [.mp 3,.mp 4,.mp 5,.mp 6] false),(3,fL),(4,gB),(5,bY),(6,bY)] [] []
abbrev abd:aT:=[(.exit 0,au.mk [(0,.c (.bO 0 .str)),(5,hI)] [(0,.arr .str false),(1,.cells [.ptr 2 0] false),(2,.cells [.mp 3,.mp 4,.mp 5,.mp 6] false),(3,fL),(4,gB),(5,bY),(6,bY)] [] [])]
noncomputable def abe:D prog 42 none 7:=dO [] (pick (kd prog f52) [(0,false)]) 0
noncomputable def gH52_0:Nat×Int×Int×List ByteArray×dx×dK×bq×bq×Unit->bR ((Nat×Int×Int×List ByteArray×dx×dK×bq×bq×Unit) ⊕ ((Nat×Int×List ByteArray×dx×dK×bq×bq×Unit))):=fun (bI,v5,v6,b0,m3,m4,m5,m6,_) =>
 .br (decide (v6<((bI:Nat):Int))) (
 .nb v6 ((bI:Nat):Int) <|
 .nd (decide (((0:Nat)+(Int.toNat v6))<(b0).length)) <|
 .bd (FH54 ((b0).getD ((0:Nat)+(Int.toNat v6)) (bs [])) m3 m4 m5 m6) fun y1 =>
 .br (!y1.1) (
 .nb v5 ((bI:Nat):Int) <|
 .nd (decide (((0:Nat)+(Int.toNat v5))<(b0).length)) <|
 .ni (v5+(1:Int)) <|
 .ni (v6+(1:Int)) <|
 .ret (.inl (bI,(v5+(1:Int)),(v6+(1:Int)),((b0).set ((0:Nat)+(Int.toNat v5)) ((b0).getD ((0:Nat)+(Int.toNat v6)) (bs []))),y1.2.1,y1.2.2.1,y1.2.2.2.1,y1.2.2.2.2.1,()))) (
 .ni (v6+(1:Int)) <|
 .ret (.inl (bI,v5,(v6+(1:Int)),b0,y1.2.1,y1.2.2.1,y1.2.2.2.1,y1.2.2.2.2.1,())))) (
 .ret (.inr (bI,v5,b0,m3,m4,m5,m6,())))
noncomputable def abf:bt prog 42 none 7:=aW mixed Yz Gf [0,1,2,3,4,5,6] rfl abc abd rfl (abe) (fun x=>ai (gH52_0 x)) (fun x=>by kernel_rfl)
noncomputable def YA:D prog 42 none 7:=dO [.l abf] (kd prog f52) 0
noncomputable def FH52 (bI:Nat) (b0:List ByteArray) (m3:dx) (m4:dK) (m5:bq) (m6:bq):bR (Nat×Nat×List ByteArray×dx×dK×bq×bq×Unit) :=
 .bd (FH82 bI b0 m3 m4 m5 m6) fun y0 =>
 .br (y0.1==(-1:Int)) (
 .ret ((0:Nat),bI,y0.2.2.2.2.2.1,y0.2.1,y0.2.2.1,y0.2.2.2.1,y0.2.2.2.2.1,())) (
 .ni (y0.1+(1:Int)) <|
 .bd (.it gH52_0 (bI,y0.1,(y0.1+(1:Int)),y0.2.2.2.2.2.1,y0.2.1,y0.2.2.1,y0.2.2.2.1,y0.2.2.2.2.1,())) fun z2 =>
 .nd (decide ((0:Int)<=z2.2.1)) <|
 .nd (decide (z2.2.1<=((z2.1:Nat):Int))) <|
 .nd (decide (((z2.1:Nat):Int)<=((z2.1:Nat):Int))) <|
 .nd (decide ((0:Int)<=(0:Int))) <|
 .nd (decide ((0:Int)<=z2.2.1)) <|
 .nd (decide (z2.2.1<=((z2.1:Nat):Int))) <|
 .ret (((0:Nat)+(Int.toNat (0:Int))),((Int.toNat z2.2.1) - (Int.toNat (0:Int))),(xJ (bs []) z2.2.2.1 ((0:Nat)+(Int.toNat z2.2.1)) ((Int.toNat ((z2.1:Nat):Int)) - (Int.toNat z2.2.1))),z2.2.2.2.1,z2.2.2.2.2.1,z2.2.2.2.2.2.1,z2.2.2.2.2.2.2.1,()))
theorem Ve:cM prog f52=some ⟨42,2,YA.er,[.t 4],[some (.list .str)]⟩:=by kernel_rfl
noncomputable def ht52:Ht:=⟨52,pH52,qH52,(fun x=>ai (FH52 x.1 x.2.1 x.2.2.1 x.2.2.2.1 x.2.2.2.2.1 x.2.2.2.2.2.1))⟩
theorem Vf:ht52.Ok prog:=bV mixed Gf rfl func52 Ve (enters_of func52 rfl rfl) YA (by kernel_rfl) rfl rfl ⟨_,rfl⟩ rfl (pre:=[0,1,2,3,4,5,6]) rfl (fun x=>by kernel_rfl)

/- 51, lent -/
abbrev k8:au:=au.mk [(0,.c (.hole .str)),(1,.c (.ptr 0 0)),(2,.c (.ptr 1 0))] [(0,.cells [.ptr 2 0] false),(1,.cells [.fn 51 .nil (.cons (.ptr 0 0) (.cons (.ptr 1 0) .nil))] false),(2,.cells [.mp 3,.mp 4,.mp 5,.mp 6] false),(3,fL),(4,gB),(5,bY),(6,bY)] [.slot 1,.slot 2,.cell 0 0,.cell 2 0,.cell 2 1,.cell 2 2,.cell 2 3] []
abbrev k9:au:=au.mk [(0,.c .any)] [(0,.cells [.ptr 2 0] false),(2,.cells [.mp 3,.mp 4,.mp 5,.mp 6] false),(3,fL),(4,gB),(5,bY),(6,bY),(1,.cells [.fn 51 .nil (.cons (.ptr 0 0) (.cons (.ptr 1 0) .nil))] false)] [] []
noncomputable def QT (rec:k8.T->Option k9.T):Cx:=(aM [] [⟨51,k8,k9,rec⟩])
theorem Gg (rec:k8.T->Option k9.T) (h:Ht.Ok prog ⟨51,k8,k9,rec⟩):(QT rec).Ok prog:=ak trivial ⟨⟨h,rfl⟩,trivial⟩
abbrev IF:au:=au.mk [(2,.c (.ptr 1 0)),(22,.c (.hole (.list .str))),(23,hI),(24,hI)] [(1,.cells [.fn 51 .nil (.cons (.ptr 0 0) (.cons (.ptr 1 0) .nil))] false),(0,.cells [.ptr 2 0] false),(2,.cells [.mp 3,.mp 4,.mp 5,.mp 6] false),(3,fL),(4,gB),(5,bY),(6,bY)] [] []
abbrev IG:aT:=[(.exit 0,au.mk [] [(0,.cells [.ptr 2 0] false),(2,.cells [.mp 3,.mp 4,.mp 5,.mp 6] false),(3,fL),(4,gB),(5,bY),(6,bY),(1,.cells [.fn 51 .nil (.cons (.ptr 0 0) (.cons (.ptr 1 0) .nil))] false)] [] [])]
noncomputable def QU (rec:k8.T->Option k9.T) (h:Ht.Ok prog ⟨51,k8,k9,rec⟩):D prog 32 none 7:=dO [] (pick (kd prog f51) [(0,false)]) 0
noncomputable def gH51_0:List ByteArray×Int×Int×dx×dK×bq×bq×Unit->Tr k8.T k9.T ((List ByteArray×Int×Int×dx×dK×bq×bq×Unit) ⊕ ((dx×dK×bq×bq×Unit))):=fun (v22,v23,v24,m3,m4,m5,m6,_) =>
 .br (decide (v24<v23)) (
 .nb v24 (((v22).length:Nat):Int) <|
 .bd (.rc (((v22).getD (Int.toNat v24) (bs [])),m3,m4,m5,m6,())) fun y0 =>
 .ni (v24+(1:Int)) <|
 .ret (.inl (v22,v23,(v24+(1:Int)),y0.1,y0.2.1,y0.2.2.1,y0.2.2.2.1,()))) (
 .ret (.inr (m3,m4,m5,m6,())))
theorem abg (rec:k8.T->Option k9.T) (h:Ht.Ok prog ⟨51,k8,k9,rec⟩):∀x,nV (iz (IF.T ⊕ IG.T)) (QT rec) bW [0,1,2,3,4,5,6] IF IG (QU rec h) (fun y=>some (.inl y)) (fun b=>some (.inr b)) x=run rec (gH51_0 x):=fun x=>by kernel_rfl
noncomputable def abh (rec:k8.T->Option k9.T) (h:Ht.Ok prog ⟨51,k8,k9,rec⟩):bt prog 32 none 7:=aW mixed (QT rec) (Gg rec h) [0,1,2,3,4,5,6] rfl IF IG rfl (QU rec h) (fun x=>run rec (gH51_0 x)) (abg rec h)
noncomputable def YB (rec:k8.T->Option k9.T) (h:Ht.Ok prog ⟨51,k8,k9,rec⟩):D prog 32 none 7:=dO [.l (abh rec h)] (kd prog f51) 0
noncomputable def FH51 (v0:ByteArray) (m3:dx) (m4:dK) (m5:bq) (m6:bq):Tr k8.T k9.T (dx×dK×bq×bq×Unit) :=
 .br (ay .str false m6 v0) (
 .ret (m3,m4,m5,m6,())) (
 .bd (.it gH51_0 ((ay .str [] m4 v0),((((ay .str [] m4 v0)).length:Nat):Int),(0:Int),m3,m4,m5,(bp .str m6 v0 true),())) fun z1 =>
 .ret (z1.1,z1.2.1,z1.2.2.1,z1.2.2.2.1,()))
theorem Vg (rec:k8.T->Option k9.T) (h:Ht.Ok prog ⟨51,k8,k9,rec⟩):cM prog f51=some ⟨32,3,(YB rec h).er,[],[]⟩:=by kernel_rfl
theorem M4 (rec:k8.T->Option k9.T) (h:Ht.Ok prog ⟨51,k8,k9,rec⟩):Ht.Ok prog ⟨51,k8,k9,(fun x=>run rec (FH51 x.1 x.2.1 x.2.2.1 x.2.2.2.1 x.2.2.2.2.1))⟩:=bV mixed (Gg rec h) rfl func51 (Vg rec h) (enters_of func51 rfl rfl) (YB rec h) (by kernel_rfl) rfl rfl ⟨_,rfl⟩ rfl (pre:=[0,1,2,3,4,5,6]) rfl (fun x=>by kernel_rfl)
noncomputable def FH51fix (v0:ByteArray) (m3:dx) (m4:dK) (m5:bq) (m6:bq):bR (dx×dK×bq×bq×Unit):=.fx (A1:=k8.T) (B1:=k9.T) (fun x=>FH51 x.1 x.2.1 x.2.2.1 x.2.2.2.1 x.2.2.2.2.1) (v0,m3,m4,m5,m6,())
noncomputable def ht51:Ht:=⟨51,k8,k9,fun x=>ai (FH51fix x.1 x.2.1 x.2.2.1 x.2.2.2.1 x.2.2.2.2.1)⟩
theorem Vh:ht51.Ok prog:=Is (F:=fun rec x=>run rec (FH51 x.1 x.2.1 x.2.2.1 x.2.2.2.1 x.2.2.2.2.1)) (fun rec h=>M4 rec h)

/- 28, lent -/
abbrev pH28:au:=au.mk [(0,.c (.ptr 0 0))] [(0,.cells [.mp 1] false),(1,gD)] [.slot 0,.cell 0 0] []
abbrev qH28:au:=au.mk [(0,.c (.ptr 2 0))] [(2,.cells [.mp 3,.mp 4,.mp 5,.mp 6] false),(0,.cells [.mp 1] false),(1,gD),(3,fL),(4,gB),(5,bY),(6,bY)] [.slot 0,.cell 2 0,.cell 2 1,.cell 2 2,.cell 2 3] []
noncomputable def KK:Cx:=(aM [] [aa5,U4,U9,aa6,ht52,ht51])
theorem tN:KK.Ok prog:=ak trivial ⟨⟨KE,rfl⟩,⟨Dr,rfl⟩,⟨Du,rfl⟩,⟨KI,rfl⟩,⟨Vf,rfl⟩,⟨Vh,rfl⟩,trivial⟩
abbrev abi:au:=au.mk [(3,.c (.ptr 2 0)),(26,.c (.bO 3 tG)),(27,hI),(28,hI)] [(2,.cells [.ptr 4 0] false),(3,.arr tG false),(0,.cells [.mp 1] false),(1,gD),(4,.cells [.mp 5,.mp 6,.mp 7,.mp 8] false),(5,fL),(6,gB),(7,bY),(8,bY)] [.slot 3,.slot 26,.cell 2 0,.cell 4 0,.cell 4 1,.cell 4 2,.cell 4 3] []
abbrev abj:aT:=[(.exit 0,au.mk [(3,.c (.ptr 2 0))] [(2,.cells [.ptr 3 0] false),(0,.cells [.mp 1] false),(1,gD),(3,.cells [.mp 4,.mp 5,.mp 6,.mp 7] false),(4,fL),(5,gB),(6,bY),(7,bY)] [.slot 3,.cell 2 0,.cell 3 0,.cell 3 1,.cell 3 2,.cell 3 3] [])]
noncomputable def abk:D prog 148 none 2:=dO [] (pick (kd prog f28) [(0,false)]) 0
noncomputable def gH28_0:Nat×Int×Int×AH×eX×dx×dK×bq×bq×Unit->bR ((Nat×Int×Int×AH×eX×dx×dK×bq×bq×Unit) ⊕ ((eX×dx×dK×bq×bq×Unit))):=fun (abl,v27,v28,b3,m1,m5,m6,m7,m8,_) =>
 .br (decide (v28<v27)) (
 .nb v28 ((abl:Nat):Int) <|
 .nd (decide (((0:Nat)+(Int.toNat v28))<(b3).length)) <|
 .br (!(aR .str m5 ((b3).getD ((0:Nat)+(Int.toNat v28)) ((bs []),(0:Int),(bs []),(bs []),(0:Int))).1)) (
 .ni (v28+(1:Int)) <|
 .ret (.inl (abl,v27,(v28+(1:Int)),b3,m1,(bp .str m5 ((b3).getD ((0:Nat)+(Int.toNat v28)) ((bs []),(0:Int),(bs []),(bs []),(0:Int))).1 (((b3).getD ((0:Nat)+(Int.toNat v28)) ((bs []),(0:Int),(bs []),(bs []),(0:Int))).1,((b3).getD ((0:Nat)+(Int.toNat v28)) ((bs []),(0:Int),(bs []),(bs []),(0:Int))).2.1,((b3).getD ((0:Nat)+(Int.toNat v28)) ((bs []),(0:Int),(bs []),(bs []),(0:Int))).2.2.1,((b3).getD ((0:Nat)+(Int.toNat v28)) ((bs []),(0:Int),(bs []),(bs []),(0:Int))).2.2.2.1,((b3).getD ((0:Nat)+(Int.toNat v28)) ((bs []),(0:Int),(bs []),(bs []),(0:Int))).2.2.2.2)),m6,m7,m8,()))) (
 .ni (v28+(1:Int)) <|
 .ret (.inl (abl,v27,(v28+(1:Int)),b3,m1,m5,m6,m7,m8,())))) (
 .ret (.inr (m1,m5,m6,m7,m8,())))
noncomputable def abm:bt prog 148 none 2:=aW mixed KK tN [0,1] rfl abi abj rfl (abk) (fun x=>ai (gH28_0 x)) (fun x=>by kernel_rfl)
abbrev rW:au:=au.mk [(3,.c (.ptr 2 0)),(57,.c (.bO 3 .str)),(58,hI),(59,hI)] [(2,.cells [.ptr 4 0] false),(3,.arr .str false),(0,.cells [.mp 1] false),(1,gD),(4,.cells [.mp 5,.mp 6,.mp 7,.mp 8] false),(5,fL),(6,gB),(7,bY),(8,bY)] [.slot 3,.slot 57,.cell 2 0,.cell 4 0,.cell 4 1,.cell 4 2,.cell 4 3] []
abbrev vf:aT:=[(.exit 2,au.mk [(3,.c (.ptr 2 0))] [(2,.cells [.ptr 3 0] false),(0,.cells [.mp 1] false),(1,gD),(3,.cells [.mp 4,.mp 5,.mp 6,.mp 7] false),(4,fL),(5,gB),(6,bY),(7,bY)] [.slot 3,.cell 2 0,.cell 3 0,.cell 3 1,.cell 3 2,.cell 3 3] [])]
noncomputable def abn:D prog 148 none 2:=dO [] (pick (kd prog f28) [(1,false)]) 0
noncomputable def gH28_1:Nat×Int×Int×List ByteArray×eX×dx×dK×bq×bq×Unit->bR ((Nat×Int×Int×List ByteArray×eX×dx×dK×bq×bq×Unit) ⊕ ((eX×dx×dK×bq×bq×Unit))):=fun (eo,v58,v59,b3,m1,m5,m6,m7,m8,_) =>
 .br (decide (v59<v58)) (
 .nb v59 ((eo:Nat):Int) <|
 .nd (decide (((0:Nat)+(Int.toNat v59))<(b3).length)) <|
 .br ((ay .str ((bs []),(0:Int),(bs []),(bs []),(0:Int)) m5 ((b3).getD ((0:Nat)+(Int.toNat v59)) (bs []))).2.1==(3:Int)) (
 .ni (v59+(1:Int)) <|
 .ret (.inl (eo,v58,(v59+(1:Int)),b3,m1,m5,m6,(bp .str m7 (ay .str ((bs []),(0:Int),(bs []),(bs []),(0:Int)) m5 ((b3).getD ((0:Nat)+(Int.toNat v59)) (bs []))).2.2.1 true),m8,()))) (
 .br ((ay .str ((bs []),(0:Int),(bs []),(bs []),(0:Int)) m5 ((b3).getD ((0:Nat)+(Int.toNat v59)) (bs []))).2.1==(2:Int)) (
 .nd (decide (((ay .str [] m6 (ay .str ((bs []),(0:Int),(bs []),(bs []),(0:Int)) m5 ((b3).getD ((0:Nat)+(Int.toNat v59)) (bs []))).2.2.1)).length+1<cn)) <|
 .ni (v59+(1:Int)) <|
 .ret (.inl (eo,v58,(v59+(1:Int)),b3,m1,m5,(bp .str m6 (ay .str ((bs []),(0:Int),(bs []),(bs []),(0:Int)) m5 ((b3).getD ((0:Nat)+(Int.toNat v59)) (bs []))).2.2.1 ((ay .str [] m6 (ay .str ((bs []),(0:Int),(bs []),(bs []),(0:Int)) m5 ((b3).getD ((0:Nat)+(Int.toNat v59)) (bs []))).2.2.1)++(((b3).getD ((0:Nat)+(Int.toNat v59)) (bs []))::[]))),m7,m8,()))) (
 .ni (v59+(1:Int)) <|
 .ret (.inl (eo,v58,(v59+(1:Int)),b3,m1,m5,m6,m7,m8,()))))) (
 .ret (.inr (m1,m5,m6,m7,m8,())))
/-! The loop in which lists grow that lie in a map, by hand. -/
abbrev vh:Ty:=.prod .str (.prod tI (.prod .str (.prod .str tI)))
def gK (b3:List ByteArray) (m1:List (vh.den×Bool)) (m5:List (ByteArray×vh.den)) (m7 m8:bq):ah :=
 [(2,.cells [.ptr 4 0] false),(3,.arr .str b3 false),(0,.cells [.mp 1] false),(1,.map vh true .bool false m1),(4,.cells [.mp 5,.mp 6,.mp 7,.mp 8] false),(5,.map .str false vh true m5),(7,.map .str false .bool false m7),(8,.map .str false .bool false m8)]
def zu (eo:Nat) (v58 v59:Int):Env:=[(3,.ptr 2 0),(57,.sl 3 .str 0 eo),(58,.int .i64 v58),(59,.int .i64 v59)]
def I66 (x:rW.T):St:=⟨zu x.1 x.2.1 x.2.2.1,⟨9,gK x.2.2.2.1 x.2.2.2.2.1 x.2.2.2.2.2.1 x.2.2.2.2.2.2.2.1 x.2.2.2.2.2.2.2.2.1⟩,[]⟩
def II:C:=.aX [.op (some 97) none (.bin .add (.t 59) (.c (.int .i64 (Int.ofNat 1)))),.op (some 59) none (.mv (.t 97))]
def abo : C := .draw [[], [0], [0, 1], [0, 1, 2], [], [4], [0, 1, 2, 3, 4, 5]]
 [.op (some 73) none (.load false 1 (.t 3)),.op (some 74) none (.ex .mc [.t 73]),.op (some 75) none (.lI 2 [true,true,false] (.t 74)),.op (some 76) none (.load false 1 (.t 75)),.op (some 77) none (.lI 2 [true,true,false] (.t 10)),.op (some 78) none (.load false 1 (.t 77)),
 .op none none (.ex (.iG .str false .bool false) [.t 76,.t 78,.c (.tf true)])]
def in66 : C := .block 4 (.seq (.aX [.op (some 72) none (.bin .eql (.t 70) (.c (.int .i64 (Int.ofNat 3)))), .op (some 71) none (.mv (.t 72))])
 (.cond (.t 71) abo (.seq (.aX [.op (some 80) none (.bin .eql (.t 70) (.c (.int .i64 (Int.ofNat 2)))),.op (some 79) none (.mv (.t 80))]) (.cond (.t 79) (.draw nZ FX) .skip))))
def YC : C := .seq (.block 3 (.seq (.aX [.op (some 61) none (.idx 1 (.t 57) (.t 59)), .op (some 62) none (.load false 1 (.t 61)), .op (some 9) none (.mv (.t 62))])
 (.seq (.aX [.op (some 63) none (.load false 1 (.t 3)),.op (some 64) none (.ex .mc [.t 63]),.op (some 65) none (.lI 0 [false] (.t 64)),.op (some 66) none (.load false 1 (.t 65)),.op (some 67) none (.mv (.t 9)),
 .op (some 68) none (.ex (.iF .str false vh true false) [.t 66,.t 67]),.op (some 10) none (.alloc [.str ⟨⟨[]⟩⟩,.int .i64 (Int.ofNat 0),.str ⟨⟨[]⟩⟩,.str ⟨⟨[]⟩⟩,.int .i64 (Int.ofNat 0)]),.op none none (.store 5 (.t 10) (.t 68))])
 (.seq (.aX [.op (some 69) none (.lI 1 [true,false] (.t 10)),.op (some 70) none (.load false 1 (.t 69))]) in66)))) II
def c66:C:=.seq (.aX [.op (some 60) none (.bin .lss (.t 59) (.t 58))]) (.seq (.cond (.t 60) .skip (.exit 2)) YC)
theorem agf {eo : Nat} {v58 v59 : Int} {b3 : List ByteArray} {m1 : List (vh.den × Bool)} {m5 : List (ByteArray × vh.den)} {m7 m8 : bq} {env : Env} {nx : Nat} {bl : ah}
    (h3:get 3 env = .ptr 2 0) (h57:get 57 env = .sl 3 .str 0 eo) (h58:get 58 env = .int .i64 v58) (h59:get 59 env = .int .i64 v59) (hb:∀p∈gK b3 m1 m5 m7 m8,av p.1 bl=some p.2) :
    jw 2 (List.range 9) ⟨env,⟨nx,bl⟩,[]⟩ ⟨zu eo v58 v59,⟨9,gK b3 m1 m5 m7 m8⟩,[]⟩:=by
  refine MY (by omega) rfl rfl rfl (fun p hp=>?_) (fun p hp=>?_)
  · simp only [zu, List.mem_cons, List.not_mem_nil, or_false] at hp
    rcases hp with rfl|rfl|rfl|rfl
    · rw [h3];exact .ptr 2 2 0 rfl
    · rw [h57];exact .sl 3 3 .str 0 eo rfl
    · rw [h58];exact .int _ _
    · rw [h59];exact .int _ _
  · have hg := hb p hp
    simp only [gK,List.mem_cons,List.not_mem_nil,or_false] at hp
    rcases hp with rfl|rfl|rfl|rfl|rfl|rfl|rfl|rfl
    · exact ⟨by omega,2,rfl,_,hg,.cons (.ptr 4 4 0 rfl) .nil⟩
    · exact ⟨by omega,3,rfl,.inl hg⟩
    · exact ⟨by omega,0,rfl,_,hg,.cons (.mp 1 1 rfl) .nil⟩
    · exact ⟨by omega,1,rfl,hg⟩
    · exact ⟨by omega,4,rfl,_,hg,.cons (.mp 5 5 rfl) (.cons (.mp 6 6 rfl) (.cons (.mp 7 7 rfl) (.cons (.mp 8 8 rfl) .nil)))⟩
    · exact ⟨by omega,5,rfl,hg⟩
    · exact ⟨by omega,7,rfl,hg⟩
    · exact ⟨by omega,8,rfl,hg⟩
def P66:rW.T ⊕ vf.T->Ex->St->dK->Prop:=GRnd 6 2 I66 (fun x=>x.2.2.2.2.2.2.1) (vf.st 2) (fun b=>b.2.2.1)
theorem QV {eo : Nat} {v58 v59 : Int} {b3 : List ByteArray} {m1 : List (vh.den × Bool)} {m5 : List (ByteArray × vh.den)} {m6 : dK} {m7 m8 : bq} {env : Env} {nx : Nat} {bl : ah} (u : Unit) (hi : dV .i64 (v59 + 1) = true)
    (h3:get 3 env = .ptr 2 0) (h57:get 57 env = .sl 3 .str 0 eo) (h58:get 58 env = .int .i64 v58) (h59:get 59 env = .int .i64 v59) (hb:∀p∈gK b3 m1 m5 m7 m8,av p.1 bl=some p.2) :
    gC prog 148 none 6 II ⟨env,⟨nx,bl⟩,[]⟩ m6 (P66 (.inl (eo,v58,v59+1,b3,m1,m5,m6,m7,m8,u))):=by
  refine FZ (env':=(59,.int .i64 (v59+1))::(97,.int .i64 (v59+1))::env) (HC:=nx) (bP:=bl) (ms':=[]) mixed (fun _=>rfl) (fun base=>?_) ⟨rfl,rfl,List.range 9,rfl,agf h3 h57 h58 rfl hb⟩
  refine Eq.trans (b:=need (dV .i64 (v59+1)) (some (Ex.normal,(59,.int .i64 (v59+1))::(97,.int .i64 (v59+1))::env,nx,bl,[]))) ?_ (by rw [cD hi])
  have h1:XV bW (.bin .add (.t 59) (.c (.int .i64 (Int.ofNat 1)))) env bl nx=some ([dV .i64 (v59+1)],.int .i64 (v59+1),[]):=by
    show (match (O.t 59).ev env,(O.c (V.int .i64 (Int.ofNat 1))).ev env with
      | .int k a,.int k' b=>_
      | .str a,.str b=>_
      |_,_=>_)=_
    rw [show (O.t 59).ev env = .int .i64 v59 from h59]
    rfl
  show (match XV bW (.bin .add (.t 59) (.c (.int .i64 (Int.ofNat 1)))) env bl nx with
    |some (ob,v,u)=>_
    |none=>_)=_
  rw [h1]
  rfl
def KL (eo:Nat) (v58 v59:Int):Env:=(60,.tf true)::(60,.bool (decide (v59<v58)))::zu eo v58 v59
def tO (eo:Nat) (v58 v59:Int) (id:ByteArray) (m:vh.den):Env :=
 (70,.int .i64 m.2.1)::(69,.ptr 9 1)::(10,.ptr 9 0)::(68,.agg [.str m.1,.int .i64 m.2.1,.str m.2.2.1,.str m.2.2.2.1,.int .i64 m.2.2.2.2])::(67,.str id)::(66,.mp 5)::(65,.ptr 4 0)::(64,.ptr 4 0)::(63,.ptr 4 0) ::
 (9,.str id)::(62,.str id)::(61,.ep 3 .str (0+Int.toNat v59) [])::KL eo v58 v59
/-- Up to the switch. -/
theorem zw {eo : Nat} {v58 v59 : Int} {b3 : List ByteArray} {m1 : List (vh.den × Bool)} {m5 : List (ByteArray × vh.den)} {m6 : dK} {m7 m8 : bq} {Q R : Ex → St → dK → Prop}
    (iL:eA v59 (eo:Int)=true) (gh:decide (0+Int.toNat v59<b3.length)=true) {id:ByteArray} {m:vh.den} (hid:id=b3.getD (0+Int.toNat v59) (bs [])) (hm:m=ay .str (bs [],(0:Int),bs [],bs [],(0:Int)) m5 id)
    (hin:gC prog 148 none 6 in66 ⟨tO eo v58 v59 id m,⟨10,(9,.cells [.str m.1,.int .i64 m.2.1,.str m.2.2.1,.str m.2.2.2.1,.int .i64 m.2.2.2.2] false)::gK b3 m1 m5 m7 m8⟩,[]⟩ m6 fun e S' es'=>e = .normal/\R .normal S' es')
    (h18:∀S' es',R .normal S' es'->gC prog 148 none 6 II S' es' Q):gC prog 148 none 6 YC ⟨KL eo v58 v59,⟨9,gK b3 m1 m5 m7 m8⟩,[]⟩ m6 Q:=by
  subst hm;subst hid
  refine Ko (Q1:=fun e S' es'=>e = .normal/\R .normal S' es') (fun _ _ h=>by cases h) (xk (Q1:=fun e S' es'=>e = .normal/\R .normal S' es') ?_ (fun _ _ h=>h) (fun i _ _ h=>by cases h.1) (fun _ _ h=>by cases h.1)) (fun S' es' hq=>h18 _ _ hq.2) (fun i S' es' hq=>by cases hq.1) (fun S' es' hq=>by cases hq.1)
  generalize hE3:((9,V.str (b3.getD (0+Int.toNat v59) (bs [])))::(62,V.str (b3.getD (0+Int.toNat v59) (bs [])))::(61,V.ep 3 .str (0+Int.toNat v59) [])::KL eo v58 v59:Env)=e3
  refine gu (env':=e3) (HC:=9) (bP:=gK b3 m1 m5 m7 m8) (ms':=[]) mixed (fun base=>Eq.trans (b:=need (eA v59 (eo:Int)) (need (decide (0+Int.toNat v59<b3.length)) (some (Ex.normal,e3,9,gK b3 m1 m5 m7 m8,[])))) (by subst hE3;kernel_rfl) (by rw [cD iL,cD gh])) ?_
  subst hE3
  refine gu (HC := 10) (ms' := []) (bP := (9, .cells [.str (ay .str (bs [], (0 : Int), bs [], bs [], (0 : Int)) m5 (b3.getD (0 + Int.toNat v59) (bs []))).1, .int .i64 (ay .str (bs [], (0 : Int), bs [], bs [], (0 : Int)) m5 (b3.getD (0 + Int.toNat v59) (bs []))).2.1, .str (ay .str (bs [], (0 : Int), bs [], bs [], (0 : Int)) m5 (b3.getD (0 + Int.toNat v59) (bs []))).2.2.1, .str (ay .str (bs [], (0 : Int), bs [], bs [], (0 : Int)) m5 (b3.getD (0 + Int.toNat v59) (bs []))).2.2.2.1, .int .i64 (ay .str (bs [], (0 : Int), bs [], bs [], (0 : Int)) m5 (b3.getD (0 + Int.toNat v59) (bs []))).2.2.2.2] false) :: gK b3 m1 m5 m7 m8)
    (env':=(tO eo v58 v59 (b3.getD (0+Int.toNat v59) (bs [])) (ay .str (bs [],(0:Int),bs [],bs [],(0:Int)) m5 (b3.getD (0+Int.toNat v59) (bs [])))).drop 2) mixed (fun base=>by kernel_rfl) ?_
  exact gu (HC:=10) (ms':=[]) mixed (fun base=>by kernel_rfl) hin
theorem abp:∀(x:rW.T) (r:rW.T ⊕ vf.T),ai (gH28_1 x)=some r->gC prog 148 none 6 c66 (I66 x) x.2.2.2.2.2.2.1 (P66 r):=by
  rintro ⟨eo,v58,v59,b3,m1,m5,m6,m7,m8,u⟩ r hr
  have hr:rM (decide (v59<v58)) _ _=some r:=hr
  rcases iN hr with ⟨hlt,hr⟩|⟨hlt,hr⟩
  · obtain ⟨iL, hr⟩ := cZ hr
    obtain ⟨gh,hr⟩:=cZ hr
    refine gu (env':=(60,.bool (decide (v59<v58)))::zu eo v58 v59) (HC:=9) (bP:=gK b3 m1 m5 m7 m8) (ms':=[]) mixed (fun base=>by kernel_rfl) ?_
    refine Ko (Q1:=fun e S' es'=>e = .normal/\S'=⟨KL eo v58 v59,⟨9,gK b3 m1 m5 m7 m8⟩,[]⟩/\es'=m6) (fun _ _ h=>by cases h) (rS (t:=true) (by show V.bool _=_;rw [hlt]) (FZ mixed (fun _=>rfl) (fun base=>by kernel_rfl) ⟨rfl,rfl,rfl⟩)) (fun S' es' hq=>?_) (fun i S' es' hq=>by cases hq.1) (fun S' es' hq=>by cases hq.1)
    obtain ⟨-,rfl,rfl⟩:=hq
    obtain ⟨id,hid⟩:∃id,id=b3.getD (0+Int.toNat v59) (bs []):=⟨_,rfl⟩
    obtain ⟨m,hm⟩:∃m,m=ay .str (bs [],(0:Int),bs [],bs [],(0:Int)) m5 id:=⟨_,rfl⟩
    rw [<-hid,<-hm] at hr
    have hr:rM (m.2.1==3) _ _=some r:=hr
    rcases iN hr with ⟨h3,hr⟩|⟨h3,hr⟩
    · obtain ⟨hi, hr⟩ := cZ hr
      cases hr
      refine zw (R:=fun _ S' Hy=>Hy=es'/\S'=⟨(78,.str m.2.2.1)::(77,.ptr 9 2)::(76,.mp 7)::(75,.ptr 4 2)::(74,.ptr 4 0)::(73,.ptr 4 0)::(71,.tf true)::(71,.bool (m.2.1==3))::(72,.bool (m.2.1==3))::tO eo v58 v59 id m,⟨17,(7,.map .str false .bool false (bp .str m7 m.2.2.1 true))::(9,.cells [.str m.1,.int .i64 m.2.1,.str m.2.2.1,.str m.2.2.2.1,.int .i64 m.2.2.2.2] false)::bC 7 (gK b3 m1 m5 m7 m8)⟩,[]⟩) iL gh hid hm ?_ ?_
      · refine xk (Q1 := fun e S' Hy => e = .normal ∧ (Hy = es' ∧ S' = _)) ?_ (fun _ _ h => h) (fun i _ _ h => by cases h.1) (fun _ _ h => by cases h.1)
        refine gu (env':=(71,.bool (m.2.1==3))::(72,.bool (m.2.1==3))::tO eo v58 v59 id m) (HC:=10) (ms':=[]) (bP:=(9,.cells [.str m.1,.int .i64 m.2.1,.str m.2.2.1,.str m.2.2.2.1,.int .i64 m.2.2.2.2] false)::gK b3 m1 m5 m7 m8) mixed (fun base=>by kernel_rfl) ?_
        refine rS (t:=true) (by show V.bool _=_;rw [h3]) ?_
        exact FZ mixed (fun _=>rfl) (fun base=>by kernel_rfl) ⟨rfl,rfl,rfl⟩
      · rintro S' Hy ⟨rfl, rfl⟩
        refine QV u hi rfl rfl rfl rfl fun p hp=>?_
        simp only [gK,List.mem_cons,List.not_mem_nil,or_false] at hp
        rcases hp with rfl|rfl|rfl|rfl|rfl|rfl|rfl|rfl<;>rfl
    · have hr : rM (m.2.1 == 2) _ _ = some r := hr
      rcases iN hr with ⟨h2,hr⟩|⟨h2,hr⟩
      · obtain ⟨jP, hr⟩ := cZ hr
        obtain ⟨hi,hr⟩:=cZ hr
        cases hr
        refine zw (R:=fun _ S' Hy=>Hy=bp .str es' m.2.2.1 (ay .str [] es' m.2.2.1++[id])/\S'=⟨zu eo v58 v59,⟨28,gK b3 m1 m5 m7 m8⟩,[]⟩) iL gh hid hm ?_ ?_
        · refine xk (Q1 := fun e S' Hy => e = .normal ∧ (Hy = _ ∧ S' = _)) ?_ (fun _ _ h => h) (fun i _ _ h => by cases h.1) (fun _ _ h => by cases h.1)
          refine gu (env':=(71,.bool (m.2.1==3))::(72,.bool (m.2.1==3))::tO eo v58 v59 id m) (HC:=10) (ms':=[]) (bP:=(9,.cells [.str m.1,.int .i64 m.2.1,.str m.2.2.1,.str m.2.2.2.1,.int .i64 m.2.2.2.2] false)::gK b3 m1 m5 m7 m8) mixed (fun base=>by kernel_rfl) ?_
          refine rS (t:=false) (by show V.bool _=_;rw [h3]) ?_
          refine gu (env':=(79,.bool (m.2.1==2))::(80,.bool (m.2.1==2))::(71,.tf false)::(71,.bool (m.2.1==3))::(72,.bool (m.2.1==3))::tO eo v58 v59 id m) (HC:=10) (ms':=[]) (bP:=(9,.cells [.str m.1,.int .i64 m.2.1,.str m.2.2.1,.str m.2.2.2.1,.int .i64 m.2.2.2.2] false)::gK b3 m1 m5 m7 m8) mixed (fun base=>by kernel_rfl) ?_
          refine rS (t:=true) (by show V.bool _=_;rw [h2]) ?_
          refine Qv (QA (c2:=2) (c4:=4) (c9:=9) (k:=m.2.2.1) (x:=id) (env':=zu eo v58 v59) (bP:=gK b3 m1 m5 m7 m8) mixed rfl rfl rfl rfl rfl rfl (of_decide_eq_true jP) (fun i B hB=>?_) (fun t=>?_)) fun e S' Hy hq=>⟨hq.1,hq.2.2,hq.2.1⟩
          · have hm := dD hB
            simp only [gK,List.mem_cons,List.not_mem_nil,or_false,Prod.mk.injEq] at hm
            rcases hm with ⟨rfl,rfl⟩|⟨rfl,rfl⟩|⟨rfl,rfl⟩|⟨rfl,rfl⟩|⟨rfl,rfl⟩|⟨rfl,rfl⟩|⟨rfl,rfl⟩|⟨rfl,rfl⟩<;>rfl
          · by_cases ht : t = 3 ∨ t = 57 ∨ t = 58 ∨ t = 59
            · rcases ht with rfl|rfl|rfl|rfl<;>exact .inr ⟨rfl,by omega⟩
            · refine .inl (get_none ?_)
              simp only [zu,List.map_cons,List.map_nil,List.mem_cons,List.not_mem_nil,or_false]
              omega
        · rintro S' Hy ⟨rfl, rfl⟩
          refine QV u hi rfl rfl rfl rfl fun p hp=>?_
          simp only [gK,List.mem_cons,List.not_mem_nil,or_false] at hp
          rcases hp with rfl|rfl|rfl|rfl|rfl|rfl|rfl|rfl<;>rfl
      · obtain ⟨hi, hr⟩ := cZ hr
        cases hr
        refine zw (R:=fun _ S' Hy=>Hy=es'/\S'=⟨(79,.tf false)::(79,.bool (m.2.1==2))::(80,.bool (m.2.1==2))::(71,.tf false)::(71,.bool (m.2.1==3))::(72,.bool (m.2.1==3))::tO eo v58 v59 id m,⟨10,(9,.cells [.str m.1,.int .i64 m.2.1,.str m.2.2.1,.str m.2.2.2.1,.int .i64 m.2.2.2.2] false)::gK b3 m1 m5 m7 m8⟩,[]⟩) iL gh hid hm ?_ ?_
        · refine xk (Q1 := fun e S' Hy => e = .normal ∧ (Hy = es' ∧ S' = _)) ?_ (fun _ _ h => h) (fun i _ _ h => by cases h.1) (fun _ _ h => by cases h.1)
          refine gu (env':=(71,.bool (m.2.1==3))::(72,.bool (m.2.1==3))::tO eo v58 v59 id m) (HC:=10) (ms':=[]) (bP:=(9,.cells [.str m.1,.int .i64 m.2.1,.str m.2.2.1,.str m.2.2.2.1,.int .i64 m.2.2.2.2] false)::gK b3 m1 m5 m7 m8) mixed (fun base=>by kernel_rfl) ?_
          refine rS (t:=false) (by show V.bool _=_;rw [h3]) ?_
          refine gu (env':=(79,.bool (m.2.1==2))::(80,.bool (m.2.1==2))::(71,.tf false)::(71,.bool (m.2.1==3))::(72,.bool (m.2.1==3))::tO eo v58 v59 id m) (HC:=10) (ms':=[]) (bP:=(9,.cells [.str m.1,.int .i64 m.2.1,.str m.2.2.1,.str m.2.2.2.1,.int .i64 m.2.2.2.2] false)::gK b3 m1 m5 m7 m8) mixed (fun base=>by kernel_rfl) ?_
          refine rS (t:=false) (by show V.bool _=_;rw [h2]) ?_
          exact FZ mixed (fun _=>rfl) (fun base=>by kernel_rfl) ⟨rfl,rfl,rfl⟩
        · rintro S' Hy ⟨rfl, rfl⟩
          refine QV u hi rfl rfl rfl rfl fun p hp=>?_
          simp only [gK,List.mem_cons,List.not_mem_nil,or_false] at hp
          rcases hp with rfl|rfl|rfl|rfl|rfl|rfl|rfl|rfl<;>rfl
  · cases hr
    refine gu (env':=(60,.bool (decide (v59<v58)))::zu eo v58 v59) (HC:=9) (bP:=gK b3 m1 m5 m7 m8) (ms':=[]) mixed (fun base=>by kernel_rfl) ?_
    refine Ko (Q1:=fun e S' es'=>e = .exit 2/\S'=⟨(60,.tf false)::(60,.bool (decide (v59<v58)))::zu eo v58 v59,⟨9,gK b3 m1 m5 m7 m8⟩,[]⟩/\es'=m6) (fun _ _ h=>by cases h) (rS (t:=false) (by show V.bool _=_;rw [hlt]) ?_) (fun S' es' hq=>by cases hq.1) (fun i S' es' hq=>?_) (fun S' es' hq=>by cases hq.1)
    · exact FZ mixed (fun _=>rfl) (fun base=>by kernel_rfl) ⟨rfl,rfl,rfl⟩
    · obtain ⟨h1, rfl, rfl⟩ := hq
      cases h1
      refine ⟨by simp,rfl,by show 6<9;omega,rfl,?_⟩
      obtain ⟨b',π,h1,h2,h3⟩:=aT.dR (base:=2) (xs:=vf) (e:=.exit 2) (k:=fun x=>some x) (r:=(m1,m5,es',m7,m8,u)) (env:=(60,.tf false)::(60,.bool (decide (v59<v58)))::zu eo v58 v59) (nx:=9) (bl:=(6,.map .str false (.list .str) false es')::bC 6 (gK b3 m1 m5 m7 m8)) (ms:=[]) (by kernel_rfl)
      cases h1
      exact ⟨π,h3⟩
noncomputable def abq:bt prog 148 none 2 where
  c:=(abn).er
  run kz env nx bl ms K:=rW.rd kz.no [0,1] 2 env nx bl ms fun x=>kz.nd x.2.2.2.2.2.2.1.isEmpty (kz.bd (iter (fun x=>ai (gH28_1 x)) x) fun b=>vf.go kz 2 b K)
  ok:=by
    intro X env nx bl ms K r h Q hQ
    obtain ⟨x,π,h1,h2⟩:=au.dR (base:=2) (show au.rd none (List.range 2) 2 rW _ _ _ _ _=some r from h)
    obtain ⟨hemp,h1⟩:=cZ h1
    obtain ⟨b,h3,h4⟩:=sV h1
    have h5:=aT.FA h4
    intro body hbody Y ι μ a w ho hb hR
    have qD:=h2.rep hb hR
    obtain ⟨eo,v58,v59,b3,m1,m5,m6,m7,m8,u⟩:=x
    have hm:m6=[]:=List.isEmpty_iff.1 hemp
    subst hm
    have qz:∀id B,av id (gK b3 m1 m5 m7 m8)=some B->av id (rW.st 2 (eo,v58,v59,b3,m1,m5,[],m7,m8,u)).H.bl=some B/\id≠6:=by
      intro id B hB
      have hm:=dD hB
      simp only [gK,List.mem_cons,List.not_mem_nil,or_false,Prod.mk.injEq] at hm
      rcases hm with ⟨rfl,rfl⟩|⟨rfl,rfl⟩|⟨rfl,rfl⟩|⟨rfl,rfl⟩|⟨rfl,rfl⟩|⟨rfl,rfl⟩|⟨rfl,rfl⟩|⟨rfl,rfl⟩<;>exact ⟨rfl,by omega⟩
    obtain ⟨hI,hG⟩:=Ut (gi:=6) (bP:=gK b3 m1 m5 m7 m8) qD.inv rfl qz
    exact aaI (I:=I66) (ES:=fun x=>x.2.2.2.2.2.2.1) (X:=vf.st 2) (nb:=fun b=>b.2.2.1) (c:=c66) abp h3 (hQ _ _ _ _ _ h5) (by rw [hbody];kernel_rfl) ho hb ⟨qD.env,qD.sz,hI,qD.ms⟩ hG
abbrev M5:au:=au.mk [(3,.c (.ptr 2 0)),(11,.c (.ptr 3 0)),(16,.c (.nT 10 .str)),(102,.c (.mp 5)),(103,.c (.ptr 9 0)),(121,.c (.ptr 11 1)),(122,hI),(123,.c (.hole .bool)),(132,.c (.hole (.list .str))),(133,hI),(134,hI)] [(2,.cells [.ptr 4 0] false),(3,.cells [.fn 51 .nil (.cons (.ptr 2 0) (.cons (.ptr 3 0) .nil))] false),(10,.arr .str false),(5,gB),(11,.cells [.hole .str,.hole tI,.hole .str,.hole .str,.hole tI] false),(4,.cells [.mp 6,.mp 5,.mp 7,.mp 8] false),(6,fL),(7,bY),(8,bY),(0,.cells [.mp 1] false),(1,gD)] [.slot 16,.slot 121] []
abbrev M6:aT:=[(.exit 7,au.mk [(3,.c (.ptr 2 0)),(11,.c (.ptr 3 0)),(102,.c (.mp 5)),(103,.c (.ptr 9 0)),(121,.c (.ptr 10 1)),(122,hI),(123,.c (.hole .bool))] [(2,.cells [.ptr 4 0] false),(3,.cells [.fn 51 .nil (.cons (.ptr 2 0) (.cons (.ptr 3 0) .nil))] false),(5,gB),(10,.cells [.hole .str,.hole tI,.hole .str,.hole .str,.hole tI] false),(4,.cells [.mp 6,.mp 5,.mp 7,.mp 8] false),(6,fL),(7,bY),(8,bY),(0,.cells [.mp 1] false),(1,gD)] [.slot 121] [])]
noncomputable def M7:D prog 148 none 10:=dO [] (pick (kd prog f28) [(2,false),(0,false)]) 0
noncomputable def gH28_2b_3:Nat×Nat×Int×Bool×List ByteArray×Int×Int×List ByteArray×dK×ByteArray×Int×ByteArray×ByteArray×Int×dx×bq×bq×eX×Unit->bR ((Nat×Nat×Int×Bool×List ByteArray×Int×Int×List ByteArray×dK×ByteArray×Int×ByteArray×ByteArray×Int×dx×bq×bq×eX×Unit) ⊕ ((Int×Bool×dK×ByteArray×Int×ByteArray×ByteArray×Int×dx×bq×bq×eX×Unit))):=fun (Vi,abr,Gi,Gj,QW,abt,Gk,S4,m5,QX,QY,QZ,Q2,Q3,m6,m7,m8,m1,_) =>
 .br (decide (Gk<abt)) (
 .nb Gk (((QW).length:Nat):Int) <|
 .nb (0:Int) ((abr:Nat):Int) <|
 .nd (decide ((Vi+(Int.toNat (0:Int)))<(S4).length)) <|
 .br (!(seq ((QW).getD (Int.toNat Gk) (bs [])) ((S4).getD (Vi+(Int.toNat (0:Int))) (bs [])))) (
 .bd (FH51fix ((QW).getD (Int.toNat Gk) (bs [])) m6 m5 m7 m8) fun y7 =>
 .ni (Gk+(1:Int)) <|
 .ret (.inl (Vi,abr,Gi,Gj,QW,abt,(Gk+(1:Int)),S4,y7.2.1,QX,QY,QZ,Q2,Q3,y7.1,y7.2.2.1,y7.2.2.2.1,m1,()))) (
 .ni (Gk+(1:Int)) <|
 .ret (.inl (Vi,abr,Gi,Gj,QW,abt,(Gk+(1:Int)),S4,m5,QX,QY,QZ,Q2,Q3,m6,m7,m8,m1,())))) (
 .ret (.inr (Gi,Gj,m5,QX,QY,QZ,Q2,Q3,m6,m7,m8,m1,())))
noncomputable def M8:bt prog 148 none 10:=aW mixed KK tN [0,1,2,3,4,5,6,7,8,9] rfl M5 M6 rfl (M7) (fun x=>ai (gH28_2b_3 x)) (fun x=>by kernel_rfl)
abbrev abu:au:=au.mk [(3,.c (.ptr 2 0)),(11,.c (.ptr 3 0)),(102,.c (.mp 5))] [(2,.cells [.ptr 4 0] false),(3,.cells [.fn 51 .nil (.cons (.ptr 2 0) (.cons (.ptr 3 0) .nil))] false),(4,.cells [.mp 6,.mp 5,.mp 7,.mp 8] false),(5,gB),(0,.cells [.mp 1] false),(1,gD),(6,fL),(7,bY),(8,bY)] [.slot 3,.slot 11,.cell 2 0,.cell 4 1,.cell 4 0,.cell 4 2,.cell 4 3] []
noncomputable def abv:D prog 148 none 10:=dO [.l M8] (pick (kd prog f28) [(2,false)]) 0
noncomputable def gH28_2:((ByteArray)×(List ByteArray))->dK×eX×dx×bq×bq×Unit->bR (dK×eX×dx×bq×bq×Unit):=fun e (m5,m1,m6,m7,m8,_) =>
 .br (!(aR .str m6 e.1)) (
 .nd (lU m5 m5) <|
 .ret (m5,m1,m6,m7,m8,())) (
 .br ((ay .str ((bs []),(0:Int),(bs []),(bs []),(0:Int)) m6 e.1).2.1==(3:Int)) (
 .nd (lU m5 m5) <|
 .ret (m5,m1,m6,m7,m8,())) (
 .bd (FH53 e.2) fun y5 =>
 .bd (FH52 y5.1 y5.2.1 m6 m5 m7 m8) fun y6 =>
 .br (!(((y6.2.1:Nat):Int)==(1:Int))) (
 .nd (lU y6.2.2.2.2.1 m5) <|
 .ret (y6.2.2.2.2.1,m1,y6.2.2.2.1,y6.2.2.2.2.2.1,y6.2.2.2.2.2.2.1,())) (
 .bd (.it gH28_2b_3 (y6.1,y6.2.1,(ay .str ((bs []),(0:Int),(bs []),(bs []),(0:Int)) m6 e.1).2.1,((ay .str ((bs []),(0:Int),(bs []),(bs []),(0:Int)) m6 e.1).2.1==(3:Int)),e.2,(((e.2).length:Nat):Int),(0:Int),y6.2.2.1,y6.2.2.2.2.1,(ay .str ((bs []),(0:Int),(bs []),(bs []),(0:Int)) m6 e.1).1,(ay .str ((bs []),(0:Int),(bs []),(bs []),(0:Int)) m6 e.1).2.1,(ay .str ((bs []),(0:Int),(bs []),(bs []),(0:Int)) m6 e.1).2.2.1,(ay .str ((bs []),(0:Int),(bs []),(bs []),(0:Int)) m6 e.1).2.2.2.1,(ay .str ((bs []),(0:Int),(bs []),(bs []),(0:Int)) m6 e.1).2.2.2.2,y6.2.2.2.1,y6.2.2.2.2.2.1,y6.2.2.2.2.2.2.1,m1,())) fun z8 =>
 .nd (lU z8.2.2.1 m5) <|
 .ret (z8.2.2.1,z8.2.2.2.2.2.2.2.2.2.2.2.1,z8.2.2.2.2.2.2.2.2.1,z8.2.2.2.2.2.2.2.2.2.1,z8.2.2.2.2.2.2.2.2.2.2.1,()))))
noncomputable def abw:yL prog 148 none 2:=Dg mixed KK tN [0,1] rfl abu ( [.op (some 99) none (.load false 1 (.t 3)),.op (some 100) none (.ex iS.mc [.t 99]),.op (some 101) none (.lI 1 [true,false] (.t 100)),.op (some 102) none (.load false 1 (.t 101))]) 102 103 [104,105] (some 106) ( .str)  false ( .list .str)  false 5 rfl 10 rfl (abv) (fun e x=>ai (gH28_2 e x)) (fun e=>fun x=>by kernel_rfl)
noncomputable def YD:D prog 148 none 2:=dO [.l abm,.l abq,.m abw] (kd prog f28) 0
noncomputable def FH28 (m1:eX):bR (eX×dx×dK×bq×bq×Unit) :=
 .bd (FH48 m1) fun y0 =>
 .bd (.it gH28_0 (y0.1,((y0.1:Nat):Int),(0:Int),y0.2.1,y0.2.2.1,[],[],[],[],())) fun z1 =>
 .bd (FH50 z1.2.1) fun y2 =>
 .bd (FH49 y2.1) fun y3 =>
 .nd (z1.2.2.1).isEmpty <|
 .bd (.it gH28_1 (y3.1,((y3.1:Nat):Int),(0:Int),y3.2.1,z1.1,y3.2.2.1,z1.2.2.1,z1.2.2.2.1,z1.2.2.2.2.1,())) fun z4 =>
 .bd (.mq gH28_2 z4.2.2.1 (z4.2.2.1,z4.1,z4.2.1,z4.2.2.2.1,z4.2.2.2.2.1,())) fun z9 =>
 .ret (z9.2.1,z9.2.2.1,z9.1,z9.2.2.2.1,z9.2.2.2.2.1,())
theorem Vj:cM prog f28=some ⟨148,1,YD.er,[.t 2],[none]⟩:=by kernel_rfl
noncomputable def abx:Ht:=⟨28,pH28,qH28,(fun x=>ai (FH28 x.1))⟩
theorem KM:abx.Ok prog:=bV mixed tN rfl func28 Vj (enters_of func28 rfl rfl) YD (by kernel_rfl) rfl rfl ⟨_,rfl⟩ rfl (pre:=[0,1]) rfl (fun x=>by kernel_rfl)

/- 55, lent -/
abbrev pH55:au:=au.mk [(0,.c (.mp 0)),(1,hI)] [(0,n9)] [.slot 0] []
abbrev qH55:au:=au.mk [(0,.c .any)] [(0,n9)] [] []
noncomputable def agh:Cx:=(aM [] [])
theorem Q4:agh.Ok prog:=ak trivial trivial
noncomputable def YE:D prog 7 none 1:=dO [] (kd prog f55) 0
noncomputable def FH55 (v1:Int) (m0:List (Int×Unit)):bR ((List (Int×Unit))×Unit) :=
 .ret ((bp (.int .i64) m0 v1 ()),())
theorem Vk:cM prog f55=some ⟨7,2,YE.er,[],[]⟩:=by kernel_rfl
noncomputable def aby:Ht:=⟨55,pH55,qH55,(fun x=>ai (FH55 x.1 x.2.1))⟩
theorem KN:aby.Ok prog:=bV mixed Q4 rfl func55 Vk (enters_of func55 rfl rfl) YE (by kernel_rfl) rfl rfl ⟨_,rfl⟩ rfl (pre:=[0]) rfl (fun x=>by kernel_rfl)

/- 56, lent -/
abbrev pH56:au:=au.mk [(0,.c (.ptr 0 0))] [(0,.cells [.mp 1,.mp 2,.mp 3,.mp 4] false),(1,fL),(2,gB),(3,bY),(4,bY)] [.slot 0,.cell 0 0,.cell 0 1,.cell 0 2,.cell 0 3] []
abbrev qH56:au:=au.mk [(0,.fn 83 [] [.ptr 5 0])] [(5,.cells [.ptr 0 0] false),(0,.cells [.mp 1,.mp 2,.mp 3,.mp 4] false),(1,fL),(2,gB),(3,bY),(4,bY)] [.part 0 0] []
noncomputable def agi:Cx:=(aM [] [])
theorem Q5:agi.Ok prog:=ak trivial trivial
noncomputable def YF:D prog 4 none 5:=dO [] (kd prog f56) 0
noncomputable def FH56 (m1:dx) (m2:dK) (m3:bq) (m4:bq):bR (dx×dK×bq×bq×Unit) :=
 .ret (m1,m2,m3,m4,())
theorem Vl:cM prog f56=some ⟨4,1,YF.er,[.t 2],[none]⟩:=by kernel_rfl
noncomputable def abz:Ht:=⟨56,pH56,qH56,(fun x=>ai (FH56 x.1 x.2.1 x.2.2.1 x.2.2.2.1))⟩
theorem KO:abz.Ok prog:=bV mixed Q5 rfl func56 Vl (enters_of func56 rfl rfl) YF (by kernel_rfl) rfl rfl ⟨_,rfl⟩ rfl (pre:=[0,1,2,3,4]) rfl (fun x=>by kernel_rfl)

/- 117, lent -/
abbrev agj:au:=au.mk [(0,.c (.hole .str)),(1,.c (.ptr 0 0))] [(0,.cells [.ptr 1 0] false),(1,.cells [.mp 2,.mp 3,.mp 4,.mp 5] false),(2,fL),(3,gB),(4,bY),(5,bY)] [.slot 1,.cell 0 0,.cell 1 0,.cell 1 1,.cell 1 2,.cell 1 3] []
abbrev agk:au:=au.mk [(0,.c (.hole .bool))] [(0,.cells [.ptr 1 0] false),(1,.cells [.mp 2,.mp 3,.mp 4,.mp 5] false),(2,fL),(3,gB),(4,bY),(5,bY)] [] []
noncomputable def abA:Cx:=(aM [] [])
theorem M9:abA.Ok prog:=ak trivial trivial
noncomputable def Q6:D prog 10 none 6:=dO [] (kd prog f117) 0
noncomputable def FH117 (v0:ByteArray) (m2:dx) (m3:dK) (m4:bq) (m5:bq):bR (Bool×dx×dK×bq×bq×Unit) :=
 .ret ((ay .str false m5 v0),m2,m3,m4,m5,())
theorem Q7:cM prog f117=some ⟨10,2,Q6.er,[.t 3],[some .bool]⟩:=by kernel_rfl
noncomputable def Q8:Ht:=⟨117,agj,agk,(fun x=>ai (FH117 x.1 x.2.1 x.2.2.1 x.2.2.2.1 x.2.2.2.2.1))⟩
theorem Gl:Q8.Ok prog:=bV mixed M9 rfl func117 Q7 (enters_of func117 rfl rfl) Q6 (by kernel_rfl) rfl rfl ⟨_,rfl⟩ rfl (pre:=[0,1,2,3,4,5]) rfl (fun x=>by kernel_rfl)

/- 82, lent -/
abbrev Vm:au:=au.mk [(0,.c (.bO 0 .str)),(1,.fn 117 [] [.ptr 1 0])] [(0,.arr .str false),(1,.cells [.ptr 2 0] false),(2,.cells [.mp 3,.mp 4,.mp 5,.mp 6] false),(3,fL),(4,gB),(5,bY),(6,bY)] [.slot 0,.part 1 0,.cell 1 0,.cell 2 0,.cell 2 1,.cell 2 2,.cell 2 3] []
abbrev Vn:au:=au.mk [(0,hI)] [(1,.cells [.ptr 2 0] false),(2,.cells [.mp 3,.mp 4,.mp 5,.mp 6] false),(3,fL),(4,gB),(5,bY),(6,bY),(0,.arr .str false)] [] []
noncomputable def Gm:Cx:=(aM [] [Q8])
theorem we:Gm.Ok prog:=ak trivial ⟨⟨Gl,rfl⟩,trivial⟩
abbrev Na:au:=au.mk [(0,.c (.bO 0 .str)),(1,.fn 117 [] [.ptr 1 0]),(7,hI),(8,hI)] [(0,.arr .str false),(1,.cells [.ptr 2 0] false),(2,.cells [.mp 3,.mp 4,.mp 5,.mp 6] false),(3,fL),(4,gB),(5,bY),(6,bY)] [] []
abbrev Nb:aT:=[(.ret,au.mk [(4,hI)] [(1,.cells [.ptr 2 0] false),(2,.cells [.mp 3,.mp 4,.mp 5,.mp 6] false),(3,fL),(4,gB),(5,bY),(6,bY),(0,.arr .str false)] [] []),(.exit 0,au.mk [] [(1,.cells [.ptr 2 0] false),(2,.cells [.mp 3,.mp 4,.mp 5,.mp 6] false),(3,fL),(4,gB),(5,bY),(6,bY),(0,.arr .str false)] [] [])]
noncomputable def Nc:D prog 19 none 7:=dO [] (pick (kd prog f82) [(0,false)]) 0
noncomputable def gH82_v1_0:Nat×Int×Int×List ByteArray×dx×dK×bq×bq×Unit->bR ((Nat×Int×Int×List ByteArray×dx×dK×bq×bq×Unit) ⊕ ((Int×dx×dK×bq×bq×List ByteArray×Unit) ⊕ ((dx×dK×bq×bq×List ByteArray×Unit)))):=fun (bI,v7,v8,b0,m3,m4,m5,m6,_) =>
 .br (decide (v8<v7)) (
 .nb v8 ((bI:Nat):Int) <|
 .nd (decide (((0:Nat)+(Int.toNat v8))<(b0).length)) <|
 .bd (FH117 ((b0).getD ((0:Nat)+(Int.toNat v8)) (bs [])) m3 m4 m5 m6) fun y0 =>
 .br y0.1 (
 .ret (.inr <| .inl<|(v8,y0.2.1,y0.2.2.1,y0.2.2.2.1,y0.2.2.2.2.1,b0,()))) (
 .ni (v8+(1:Int)) <|
 .ret (.inl (bI,v7,(v8+(1:Int)),b0,y0.2.1,y0.2.2.1,y0.2.2.2.1,y0.2.2.2.2.1,())))) (
 .ret (.inr <| .inr<|(m3,m4,m5,m6,b0,())))
noncomputable def Nd:bt prog 19 none 7:=aW mixed Gm we [0,1,2,3,4,5,6] rfl Na Nb rfl (Nc) (fun x=>ai (gH82_v1_0 x)) (fun x=>by kernel_rfl)
noncomputable def Gn:D prog 19 none 7:=dO [.l Nd] (kd prog f82) 0
noncomputable def FH82_v1 (bI:Nat) (b0:List ByteArray) (m3:dx) (m4:dK) (m5:bq) (m6:bq):bR (Int×dx×dK×bq×bq×List ByteArray×Unit) :=
 .bd (.it gH82_v1_0 (bI,((bI:Nat):Int),(0:Int),b0,m3,m4,m5,m6,())) fun z1 =>
 .sm z1 (fun z2 =>
 .ret (z2.1,z2.2.1,z2.2.2.1,z2.2.2.2.1,z2.2.2.2.2.1,z2.2.2.2.2.2.1,())) fun z3 =>
 .ret ((-1:Int),z3.1,z3.2.1,z3.2.2.1,z3.2.2.2.1,z3.2.2.2.2.1,())
theorem IJ:cM prog f82=some ⟨19,2,Gn.er,[.t 4],[some tI]⟩:=by kernel_rfl
noncomputable def KP:Ht:=⟨82,Vm,Vn,(fun x=>ai (FH82_v1 x.1 x.2.1 x.2.2.1 x.2.2.2.1 x.2.2.2.2.1 x.2.2.2.2.2.1))⟩
theorem IK:KP.Ok prog:=bV mixed we rfl func82 IJ (enters_of func82 rfl rfl) Gn (by kernel_rfl) rfl rfl ⟨_,rfl⟩ rfl (pre:=[0,1,2,3,4,5,6]) rfl (fun x=>by kernel_rfl)

/- 52, lent -/
abbrev Vo:au:=au.mk [(0,.c (.bO 0 .str)),(1,.fn 117 [] [.ptr 1 0])] [(0,.arr .str false),(1,.cells [.ptr 2 0] false),(2,.cells [.mp 3,.mp 4,.mp 5,.mp 6] false),(3,fL),(4,gB),(5,bY),(6,bY)] [.slot 0,.part 1 0,.cell 1 0,.cell 2 0,.cell 2 1,.cell 2 2,.cell 2 3] []
abbrev Vp:au:=au.mk [(0,.c (.nT 0 .str))] [(0,.arr .str false),(1,.cells [.ptr 2 0] false),(2,.cells [.mp 3,.mp 4,.mp 5,.mp 6] false),(3,fL),(4,gB),(5,bY),(6,bY)] [] []
noncomputable def Gp:Cx:=(aM [] [KP,Q8])
theorem wg:Gp.Ok prog:=ak trivial ⟨⟨IK,rfl⟩,⟨Gl,rfl⟩,trivial⟩
abbrev Nf:au:=au.mk [(0,.c (.bO 0 .str)),(1,.fn 117 [] [.ptr 1 0]),(5,hI),(6,hI)] [(0,.arr .str false),(1,.cells [.ptr 2 0] false),(2,.cells [.mp 3,.mp 4,.mp 5,.mp 6] false),(3,fL),(4,gB),(5,bY),(6,bY)] [] []
abbrev Ng:aT:=[(.exit 0,au.mk [(0,.c (.bO 0 .str)),(5,hI)] [(0,.arr .str false),(1,.cells [.ptr 2 0] false),(2,.cells [.mp 3,.mp 4,.mp 5,.mp 6] false),(3,fL),(4,gB),(5,bY),(6,bY)] [] [])]
noncomputable def Nh:D prog 42 none 7:=dO [] (pick (kd prog f52) [(0,false)]) 0
noncomputable def gH52_v1_0:Nat×Int×Int×List ByteArray×dx×dK×bq×bq×Unit->bR ((Nat×Int×Int×List ByteArray×dx×dK×bq×bq×Unit) ⊕ ((Nat×Int×List ByteArray×dx×dK×bq×bq×Unit))):=fun (bI,v5,v6,b0,m3,m4,m5,m6,_) =>
 .br (decide (v6<((bI:Nat):Int))) (
 .nb v6 ((bI:Nat):Int) <|
 .nd (decide (((0:Nat)+(Int.toNat v6))<(b0).length)) <|
 .bd (FH117 ((b0).getD ((0:Nat)+(Int.toNat v6)) (bs [])) m3 m4 m5 m6) fun y1 =>
 .br (!y1.1) (
 .nb v5 ((bI:Nat):Int) <|
 .nd (decide (((0:Nat)+(Int.toNat v5))<(b0).length)) <|
 .ni (v5+(1:Int)) <|
 .ni (v6+(1:Int)) <|
 .ret (.inl (bI,(v5+(1:Int)),(v6+(1:Int)),((b0).set ((0:Nat)+(Int.toNat v5)) ((b0).getD ((0:Nat)+(Int.toNat v6)) (bs []))),y1.2.1,y1.2.2.1,y1.2.2.2.1,y1.2.2.2.2.1,()))) (
 .ni (v6+(1:Int)) <|
 .ret (.inl (bI,v5,(v6+(1:Int)),b0,y1.2.1,y1.2.2.1,y1.2.2.2.1,y1.2.2.2.2.1,())))) (
 .ret (.inr (bI,v5,b0,m3,m4,m5,m6,())))
noncomputable def Ni:bt prog 42 none 7:=aW mixed Gp wg [0,1,2,3,4,5,6] rfl Nf Ng rfl (Nh) (fun x=>ai (gH52_v1_0 x)) (fun x=>by kernel_rfl)
noncomputable def Gq:D prog 42 none 7:=dO [.l Ni] (kd prog f52) 0
noncomputable def FH52_v1 (bI:Nat) (b0:List ByteArray) (m3:dx) (m4:dK) (m5:bq) (m6:bq):bR (Nat×Nat×List ByteArray×dx×dK×bq×bq×Unit) :=
 .bd (FH82_v1 bI b0 m3 m4 m5 m6) fun y0 =>
 .br (y0.1==(-1:Int)) (
 .ret ((0:Nat),bI,y0.2.2.2.2.2.1,y0.2.1,y0.2.2.1,y0.2.2.2.1,y0.2.2.2.2.1,())) (
 .ni (y0.1+(1:Int)) <|
 .bd (.it gH52_v1_0 (bI,y0.1,(y0.1+(1:Int)),y0.2.2.2.2.2.1,y0.2.1,y0.2.2.1,y0.2.2.2.1,y0.2.2.2.2.1,())) fun z2 =>
 .nd (decide ((0:Int)<=z2.2.1)) <|
 .nd (decide (z2.2.1<=((z2.1:Nat):Int))) <|
 .nd (decide (((z2.1:Nat):Int)<=((z2.1:Nat):Int))) <|
 .nd (decide ((0:Int)<=(0:Int))) <|
 .nd (decide ((0:Int)<=z2.2.1)) <|
 .nd (decide (z2.2.1<=((z2.1:Nat):Int))) <|
 .ret (((0:Nat)+(Int.toNat (0:Int))),((Int.toNat z2.2.1) - (Int.toNat (0:Int))),(xJ (bs []) z2.2.2.1 ((0:Nat)+(Int.toNat z2.2.1)) ((Int.toNat ((z2.1:Nat):Int)) - (Int.toNat z2.2.1))),z2.2.2.2.1,z2.2.2.2.2.1,z2.2.2.2.2.2.1,z2.2.2.2.2.2.2.1,()))
theorem IL:cM prog f52=some ⟨42,2,Gq.er,[.t 4],[some (.list .str)]⟩:=by kernel_rfl
noncomputable def KQ:Ht:=⟨52,Vo,Vp,(fun x=>ai (FH52_v1 x.1 x.2.1 x.2.2.1 x.2.2.2.1 x.2.2.2.2.1 x.2.2.2.2.2.1))⟩
theorem IM:KQ.Ok prog:=bV mixed wg rfl func52 IL (enters_of func52 rfl rfl) Gq (by kernel_rfl) rfl rfl ⟨_,rfl⟩ rfl (pre:=[0,1,2,3,4,5,6]) rfl (fun x=>by kernel_rfl)

/- 100, lent -/
abbrev agl:au:=au.mk [(0,.c (.ptr 0 0)),(1,.c (.hole .str))] [(0,.cells [.mp 1,.mp 2,.mp 3,.mp 4] false),(1,fL),(2,gB),(3,bY),(4,bY)] [.slot 0,.cell 0 0,.cell 0 1,.cell 0 2,.cell 0 3] []
abbrev agm:au:=au.mk [(0,.c (.nT 5 .str))] [(5,.arr .str false),(0,.cells [.mp 1,.mp 2,.mp 3,.mp 4] false),(1,fL),(2,gB),(3,bY),(4,bY)] [.slot 0] []
noncomputable def abB:Cx:=(aM [] [aa6,KQ])
theorem Nj:abB.Ok prog:=ak trivial ⟨⟨KI,rfl⟩,⟨IM,rfl⟩,trivial⟩
noncomputable def Q9:D prog 14 none 5:=dO [] (kd prog f100) 0
noncomputable def FH100 (v1:ByteArray) (m1:dx) (m2:dK) (m3:bq) (m4:bq):bR (Nat×Nat×List ByteArray×dx×dK×bq×bq×Unit) :=
 .bd (FH53 (ay .str [] m2 v1)) fun y0 =>
 .bd (FH52_v1 y0.1 y0.2.1 m1 m2 m3 m4) fun y1 =>
 .ret (y1.1,y1.2.1,y1.2.2.1,y1.2.2.2.1,y1.2.2.2.2.1,y1.2.2.2.2.2.1,y1.2.2.2.2.2.2.1,())
theorem Ra:cM prog f100=some ⟨14,2,Q9.er,[.t 4],[some (.list .str)]⟩:=by kernel_rfl
noncomputable def YG:Ht:=⟨100,agl,agm,(fun x=>ai (FH100 x.1 x.2.1 x.2.2.1 x.2.2.2.1 x.2.2.2.2.1))⟩
theorem Rb:YG.Ok prog:=bV mixed Nj rfl func100 Ra (enters_of func100 rfl rfl) Q9 (by kernel_rfl) rfl rfl ⟨_,rfl⟩ rfl (pre:=[0,1,2,3,4]) rfl (fun x=>by kernel_rfl)

/- 84, lent -/
abbrev lg:au:=au.mk [(0,.c (.ptr 0 0)),(1,.c (.hole .str))] [(0,.cells [.mp 1,.mp 2,.mp 3,.mp 4] false),(1,fL),(2,gB),(3,bY),(4,bY)] [.slot 0,.cell 0 0,.cell 0 1,.cell 0 2,.cell 0 3] []
abbrev lp:au:=au.mk [(0,.c (.bO 5 .str))] [(5,.arr .str false),(0,.cells [.mp 1,.mp 2,.mp 3,.mp 4] false),(1,fL),(2,gB),(3,bY),(4,bY)] [.slot 0] []
noncomputable def Rc (rec:lg.T->Option lp.T):Cx:=(aM [] [YG,⟨84,lg,lp,rec⟩,U5])
theorem Gr (rec:lg.T->Option lp.T) (h:Ht.Ok prog ⟨84,lg,lp,rec⟩):(Rc rec).Ok prog:=ak trivial ⟨⟨Rb,rfl⟩,⟨h,rfl⟩,⟨KF,rfl⟩,trivial⟩
abbrev IP:au:=au.mk [(0,.c (.ptr 0 0)),(6,.c (.bO 5 .str)),(17,.c (.nT 6 .str)),(18,hI),(19,hI)] [(0,.cells [.mp 1,.mp 2,.mp 3,.mp 4] false),(5,.arr .str false),(6,.arr .str false),(1,fL),(2,gB),(3,bY),(4,bY)] [.slot 6,.slot 17] []
abbrev IQ:aT:=[(.exit 0,au.mk [(6,.c (.bO 5 .str))] [(5,.arr .str false),(0,.cells [.mp 1,.mp 2,.mp 3,.mp 4] false),(1,fL),(2,gB),(3,bY),(4,bY)] [.slot 6] [])]
noncomputable def Re (rec:lg.T->Option lp.T) (h:Ht.Ok prog ⟨84,lg,lp,rec⟩):D prog 32 none 5:=dO [] (pick (kd prog f84) [(0,false)]) 0
noncomputable def gH84_0:Nat×Nat×Nat×Int×Int×List ByteArray×List ByteArray×dx×dK×bq×bq×Unit->Tr lg.T lp.T ((Nat×Nat×Nat×Int×Int×List ByteArray×List ByteArray×dx×dK×bq×bq×Unit) ⊕ ((Nat×List ByteArray×dx×dK×bq×bq×Unit))):=fun (nv6,abC,nv17,Nk,l5,b5,b6,m1,m2,m3,m4,_) =>
 .br (decide (l5<Nk)) (
 .nb l5 ((nv17:Nat):Int) <|
 .nd (decide ((abC+(Int.toNat l5))<(b6).length)) <|
 .bd (.rc (((b6).getD (abC+(Int.toNat l5)) (bs [])),m1,m2,m3,m4,())) fun y1 =>
 .nd (decide ((nv6+((((y1.2.1).drop (0:Nat)).take y1.1)).length)<cn)) <|
 .ni (l5+(1:Int)) <|
 .ret (.inl ((nv6+((((y1.2.1).drop (0:Nat)).take y1.1)).length),abC,nv17,Nk,(l5+(1:Int)),((((b5).drop (0:Nat)).take nv6)++(((y1.2.1).drop (0:Nat)).take y1.1)),b6,y1.2.2.1,y1.2.2.2.1,y1.2.2.2.2.1,y1.2.2.2.2.2.1,()))) (
 .ret (.inr (nv6,b5,m1,m2,m3,m4,())))
theorem abD (rec:lg.T->Option lp.T) (h:Ht.Ok prog ⟨84,lg,lp,rec⟩):∀x,nV (iz (IP.T ⊕ IQ.T)) (Rc rec) bW [0,1,2,3,4] IP IQ (Re rec h) (fun y=>some (.inl y)) (fun b=>some (.inr b)) x=run rec (gH84_0 x):=fun x=>by kernel_rfl
noncomputable def abE (rec:lg.T->Option lp.T) (h:Ht.Ok prog ⟨84,lg,lp,rec⟩):bt prog 32 none 5:=aW mixed (Rc rec) (Gr rec h) [0,1,2,3,4] rfl IP IQ rfl (Re rec h) (fun x=>run rec (gH84_0 x)) (abD rec h)
noncomputable def YH (rec:lg.T->Option lp.T) (h:Ht.Ok prog ⟨84,lg,lp,rec⟩):D prog 32 none 5:=dO [.l (abE rec h)] (kd prog f84) 0
noncomputable def FH84 (v1:ByteArray) (m1:dx) (m2:dK) (m3:bq) (m4:bq):Tr lg.T lp.T (Nat×List ByteArray×dx×dK×bq×bq×Unit) :=
 .bd (.up (FH100 v1 m1 m2 m3 m4)) fun y0 =>
 .br (((y0.2.1:Nat):Int)==(0:Int)) (
 .ret ((1:Nat),(v1::[]),y0.2.2.2.1,y0.2.2.2.2.1,y0.2.2.2.2.2.1,y0.2.2.2.2.2.2.1,())) (
 .bd (.it gH84_0 ((0:Nat),y0.1,y0.2.1,((y0.2.1:Nat):Int),(0:Int),[],y0.2.2.1,y0.2.2.2.1,y0.2.2.2.2.1,y0.2.2.2.2.2.1,y0.2.2.2.2.2.2.1,())) fun z2 =>
 .bd (.up (FH80 z2.1 z2.2.1)) fun y3 =>
 .ret (z2.1,y3.1,z2.2.2.1,z2.2.2.2.1,z2.2.2.2.2.1,z2.2.2.2.2.2.1,()))
theorem Vq (rec:lg.T->Option lp.T) (h:Ht.Ok prog ⟨84,lg,lp,rec⟩):cM prog f84=some ⟨32,2,(YH rec h).er,[.t 4],[some (.list .str)]⟩:=by kernel_rfl
theorem Nl (rec:lg.T->Option lp.T) (h:Ht.Ok prog ⟨84,lg,lp,rec⟩):Ht.Ok prog ⟨84,lg,lp,(fun x=>run rec (FH84 x.1 x.2.1 x.2.2.1 x.2.2.2.1 x.2.2.2.2.1))⟩:=bV mixed (Gr rec h) rfl func84 (Vq rec h) (enters_of func84 rfl rfl) (YH rec h) (by kernel_rfl) rfl rfl ⟨_,rfl⟩ rfl (pre:=[0,1,2,3,4]) rfl (fun x=>by kernel_rfl)
noncomputable def FH84fix (v1:ByteArray) (m1:dx) (m2:dK) (m3:bq) (m4:bq):bR (Nat×List ByteArray×dx×dK×bq×bq×Unit):=.fx (A1:=lg.T) (B1:=lp.T) (fun x=>FH84 x.1 x.2.1 x.2.2.1 x.2.2.2.1 x.2.2.2.2.1) (v1,m1,m2,m3,m4,())
noncomputable def abF:Ht:=⟨84,lg,lp,fun x=>ai (FH84fix x.1 x.2.1 x.2.2.1 x.2.2.2.1 x.2.2.2.2.1)⟩
theorem KR:abF.Ok prog:=Is (F:=fun rec x=>run rec (FH84 x.1 x.2.1 x.2.2.1 x.2.2.2.1 x.2.2.2.2.1)) (fun rec h=>Nl rec h)

/- 30 -/
noncomputable def cx30:Cx:=(aM [] [])
theorem Vr:cx30.Ok prog:=ak trivial trivial
noncomputable def dd30:D prog 10 none 0:=dO [] (kd prog f30) 0
noncomputable def F30 (a0:GG) (a1:ByteArray):bR (Int×Unit) :=
 .br (!(seq a0.2.2.2.1 a1)) (
 .ret ((0:Int),())) (
 .ret (a0.2.2.2.2,()))
theorem abG:cM prog f30=some ⟨10,2,dd30.er,[.t 3],[some tI]⟩:=by kernel_rfl
noncomputable def ct30:Ct:=⟨30,[.c (.hole tG),.c (.fe .str)],hI,fun x=>ai (F30 x.1 x.2.1)⟩
theorem Vs:ct30.Ok prog:=cu mixed Vr func30 abG (enters_of func30 rfl rfl) dd30 (by kernel_rfl) rfl (fun x=>by kernel_rfl)

/- 85, lent -/
abbrev pH85:au:=au.mk [(0,.c (.mp 0))] [(0,n9)] [.slot 0] []
abbrev qH85:au:=au.mk [(0,.fn 101 [] [.ptr 1 0])] [(1,.cells [.mp 0] false),(0,n9)] [.part 0 0] []
noncomputable def agq:Cx:=(aM [] [])
theorem Rf:agq.Ok prog:=ak trivial trivial
noncomputable def YI:D prog 4 none 1:=dO [] (kd prog f85) 0
noncomputable def FH85 (m0:List (Int×Unit)):bR ((List (Int×Unit))×Unit) :=
 .ret (m0,())
theorem Vt:cM prog f85=some ⟨4,1,YI.er,[.t 2],[none]⟩:=by kernel_rfl
noncomputable def ht85:Ht:=⟨85,pH85,qH85,(fun x=>ai (FH85 x.1))⟩
theorem Vu:ht85.Ok prog:=bV mixed Rf rfl func85 Vt (enters_of func85 rfl rfl) YI (by kernel_rfl) rfl rfl ⟨_,rfl⟩ rfl (pre:=[0]) rfl (fun x=>by kernel_rfl)

/- 57, lent -/
abbrev pH57:au:=au.mk [(0,.c (.mp 0))] [(0,n9)] [.slot 0] []
abbrev qH57:au:=au.mk [(0,.fn 101 [] [.ptr 1 0])] [(1,.cells [.mp 0] false),(0,n9)] [.part 0 0] []
noncomputable def ags:Cx:=(aM [] [ht85])
theorem Rg:ags.Ok prog:=ak trivial ⟨⟨Vu,rfl⟩,trivial⟩
noncomputable def YJ:D prog 5 none 1:=dO [] (kd prog f57) 0
noncomputable def FH57 (m0:List (Int×Unit)):bR ((List (Int×Unit))×Unit) :=
 .bd (FH85 m0) fun y0 =>
 .ret (y0.1,())
theorem Vv:cM prog f57=some ⟨5,1,YJ.er,[.t 2],[none]⟩:=by kernel_rfl
noncomputable def abH:Ht:=⟨57,pH57,qH57,(fun x=>ai (FH57 x.1))⟩
theorem KS:abH.Ok prog:=bV mixed Rg rfl func57 Vv (enters_of func57 rfl rfl) YJ (by kernel_rfl) rfl rfl ⟨_,rfl⟩ rfl (pre:=[0]) rfl (fun x=>by kernel_rfl)

/- 87, by hand -/
abbrev pH87:au:=au.mk [(0,.c (.bO 0 tI))] [(0,.arr tI false)] [.slot 0] []
abbrev qH87:au:=au.mk [(0,.c .any)] [(0,.arr tI false)] [] []
noncomputable def FH87 (bI:Nat) (b0:List Int):bR (List Int×Unit) :=
 .of (wO (.int .i64) b0 bI)
noncomputable def abI:Ht:=⟨87,pH87,qH87,(fun x=>ai (FH87 x.1 x.2.1))⟩
theorem Vw:abI.Ok prog:=fun x y h=>Qo (ρ:=BQ) afj (enters_of func87 rfl rfl) (xs:=x.2.1) (n:=x.1) (y:=y) h

/- 58, lent -/
abbrev pH58:au:=au.mk [(0,.fn 101 [] [.ptr 0 0])] [(0,.cells [.mp 1] false),(1,n9)] [.part 0 0,.cell 0 0] []
abbrev qH58:au:=au.mk [(0,.c (.bO 2 tI))] [(2,.arr tI false),(0,.cells [.mp 1] false),(1,n9)] [.slot 0] []
noncomputable def xA:Cx:=(aM [] [abI])
theorem rX:xA.Ok prog:=ak (AE:=[]) (hts:=[abI]) trivial ⟨⟨Vw,rfl⟩,trivial⟩
noncomputable def pE:D prog 13 (some 4) 7:=dO [] (pick (kd prog f102) [(0,false)]) 0
noncomputable def pF:D prog 13 (some 4) 7:=dO [] (pick (kd prog f102) [(0,true)]) 0
noncomputable def jC:Cx:=AF xA (fun kz=>P9 kz xA bW 4 7 [7] (pE) (pF))
theorem lq:(jC).Ok prog:=jU rX (fun h=>nW mixed rX h)
abbrev vj:au:=au.mk [(0,.c (.yl 4)),(4,.c (.mp 1))] [(4,.loop .ready none 3 [(2,.c (.ptr 2 0)),(4,.c .cw),(6,.fn 101 [] [.ptr 0 0])] [7] (.aX [.op (some 5) none (.mv (.t 7))]) (.block 1 (.aX [.op (some 8) none (.load false 1 (.t 2)),.op (some 9) none (.mv (.t 5)),.op (some 10) none (.eY tI [.t 9]),.op (some 11) none (.append 1 (.t 8) (.t 10)),.op none none (.store 1 (.t 2) (.t 11))])) 13),(1,n9),(3,.iy),(2,.cells [.bO 5 tI] false),(0,.cells [.mp 1] false),(5,.arr tI false)] [.cell 2 0] []
noncomputable def vk:D prog 14 none 7:=dO [] (pick (kd prog f101) [(0,false)]) 0
noncomputable def gH58f86f102_0i_0:((Int)×(Unit))->(List (Int×Unit))×Nat×List Int×Unit->bR ((List (Int×Unit))×Nat×List Int×Unit):=fun e (m1,iE,b5,_) =>
 .nd (decide ((iE+(((((e.1::[])).drop (0:Nat)).take (1:Nat))).length)<cn)) <|
 .nd (lU m1 m1) <|
 .ret (m1,(iE+(((((e.1::[])).drop (0:Nat)).take (1:Nat))).length),((((b5).drop (0:Nat)).take iE)++((((e.1::[])).drop (0:Nat)).take (1:Nat))),())
noncomputable def vl:yL prog 14 none 5:=Dh mixed jC lq [0,1,2,3,4] rfl vj ( [.op (some 4) none (.load false 1 (.t 1))]) 4 5 [6,7] (some 8) ( .int .i64)  false ( .unit)  true 0 rfl 7 rfl (vk) (fun e x=>ai (gH58f86f102_0i_0 e x)) (fun e=>fun x=>by kernel_rfl)
abbrev AN:au:=au.mk [(2,.c (.ptr 2 0)),(4,.c .cw),(6,.fn 101 [] [.ptr 0 0])] [(2,.cells [.cw] false),(0,.cells [.mp 1] false),(1,n9)] [.slot 2] []
abbrev AO:aT:=[(.normal,au.mk [(2,.c (.ptr 2 0))] [(2,.cells [.bO 3 tI] false),(0,.cells [.mp 1] false),(1,n9),(3,.arr tI false)] [.slot 2,.cell 2 0] [])]
noncomputable def pG:D prog 14 none 5:=dO [.m vl] (kd prog f101) 0
theorem zx:cM prog f101=some ⟨14,2,(pG).er,[],[]⟩:=by kernel_rfl
noncomputable def qP:gH prog 13 none 2:=zg mixed jC lq [0,1] rfl AN AO ( .t 6) [7] rfl (pE).er (pF).er 101 func101 (zx) (enters_of func101 rfl rfl) 5 rfl (pG) rfl
@[reducible] noncomputable def Vx:Go.AM.Fn:=⟨13,2,(dO [.r qP] (kd prog f102) 0:D prog 13 none 2).er,[.t 4],[some tL]⟩
noncomputable def KT:Cx:=FP prog xA 102 Vx 2 (dO [.r qP] (kd prog f102) 0)
theorem IU:KT.Ok prog:=zf mixed rX func102 (by kernel_rfl) (enters_of func102 rfl rfl) rfl
@[reducible] noncomputable def Vy:Go.AM.Fn:=⟨5,1,(dO [] (kd prog f86) 0:D prog 5 none 0).er,[.t 2],[some tL]⟩
noncomputable def KU:Cx:=Qm prog KT 86 Vy (fun _=>dO [] (kd prog f86) 0)
theorem IV:KU.Ok prog:=Di mixed IU func86 (by kernel_rfl) (enters_of func86 rfl rfl) (fun _=>by kernel_rfl)
noncomputable def agt:Cx:=KU
theorem Rh:agt.Ok prog:=IV
noncomputable def YK:D prog 9 none 2:=dO [] (kd prog f58) 0
noncomputable def FH58 (m1:List (Int×Unit)):bR (Nat×List Int×(List (Int×Unit))×Unit) :=
 .an m1 fun l0 =>
 .bd (.fm gH58f86f102_0i_0 l0 (m1,(0:Nat),[],())) fun z1 =>
 .bd (FH87 z1.2.1 z1.2.2.1) fun y2 =>
 .ret (z1.2.1,y2.1,z1.1,())
theorem Vz:cM prog f58=some ⟨9,1,YK.er,[.t 2],[some tL]⟩:=by kernel_rfl
noncomputable def abJ:Ht:=⟨58,pH58,qH58,(fun x=>ai (FH58 x.1))⟩
theorem KV:abJ.Ok prog:=bV mixed Rh rfl func58 Vz (enters_of func58 rfl rfl) YK (by kernel_rfl) rfl rfl ⟨_,rfl⟩ rfl (pre:=[0,1]) rfl (fun x=>by kernel_rfl)

/- 29, lent -/
abbrev pH29:au:=au.mk [(0,.c (.ptr 0 0)),(1,.fn 30 [] [.ptr 1 0])] [(0,.cells [.mp 2,.mp 3,.mp 4,.mp 5] false),(1,.cells [.hole .str] false),(2,fL),(3,gB),(4,bY),(5,bY)] [.slot 0,.part 1 0,.cell 0 0,.cell 0 1,.cell 0 2,.cell 0 3] []
abbrev qH29:au:=au.mk [(0,.c (.bO 6 tI))] [(6,.arr tI false),(0,.cells [.mp 2,.mp 3,.mp 4,.mp 5] false),(2,fL),(3,gB),(4,bY),(5,bY),(1,.cells [.hole .str] false)] [.slot 0] []
noncomputable def BT:Cx:=(aM [ct30] [aby,abz,U4,U9,abF,abH,abJ])
theorem nq:BT.Ok prog:=ak ⟨Vs,trivial⟩ ⟨⟨KN,rfl⟩,⟨KO,rfl⟩,⟨Dr,rfl⟩,⟨Du,rfl⟩,⟨KR,rfl⟩,⟨KS,rfl⟩,⟨KV,rfl⟩,trivial⟩
noncomputable def zy:D prog 48 (some 26) 29:=dO [] (pick (kd prog f29) [(0,true),(0,false),(0,false)]) 0
noncomputable def zz:D prog 48 (some 26) 29:=dO [] (pick (kd prog f29) [(0,true),(0,false),(0,true)]) 0
noncomputable def pH:Cx:=AF BT (fun kz=>P9 kz BT bW 26 29 [37] (zy) (zz))
theorem pI:(pH).Ok prog:=jU nq (fun h=>nW mixed nq h)
abbrev Dv:au:=au.mk [(0,.c (.yl 26)),(4,.c (.mp 24))] [(26,.loop .ready none 11 [(2,.c (.ptr 6 0)),(3,.c (.ptr 7 0)),(5,.c (.ptr 8 0)),(8,.c (.ptr 21 0)),(11,.c (.ptr 22 0)),(21,.c (.bO 20 .str)),(22,hI),(23,hI),(36,.fn 101 [] [.ptr 23 0])] [37] (.aX [.op (some 12) none (.mv (.t 37))]) (.block 5 (.aX [.op (some 38) none (.load false 1 (.t 8)),.op (some 39) none (.mv (.t 12)),.op (some 40) none (.load false 1 (.t 11)),.op (some 41) none (.bin .add (.t 39) (.t 40)),.call (some 42) none (.c (.fn 55 [] [])) [.t 38,.t 41] [none,some tI]])) 48),(24,n9),(11,.iy),(6,.cells [.ptr 0 0] false),(0,.cells [.mp 2,.mp 3,.mp 4,.mp 5] false),(2,fL),(3,gB),(4,bY),(5,bY),(7,.cells [.fn 30 .nil (.cons (.ptr 1 0) .nil)] false),(1,.cells [.hole .str] false),(8,.cells [.mp 24] false),(21,.cells [.mp 27] false),(22,.cells [.hole tI] false),(20,.arr .str false),(23,.cells [.mp 24] false),(9,.cells [.ptr 0 0] false),(12,.loop .busy none 11 [(2,.c (.ptr 6 0)),(3,.c (.ptr 7 0)),(4,.c .cw),(5,.c (.ptr 8 0)),(17,.fn 83 [] [.ptr 9 0])] [18,19] (.aX [.op (some 7) none (.mv (.t 19))]) (.block 1 (.seq (.aX [.op (some 20) none (.ex (iS.ja tI false .unit true) []),.op (some 8) none (.alloc [.cT]),.op none none (.store 1 (.t 8) (.t 20))]) (.seq (.seq (.aX [.op (some 21) none (.mv (.t 7)),.op (some 22) none (.len (.t 21)),.op (some 23) none (.mv (.c (.int .i64 (Int.ofNat 0))))]) (.block 2 (.loop (.seq (.aX [.op (some 24) none (.bin .lss (.t 23) (.t 22))]) (.seq (.cond (.t 24) .skip (.exit 2)) (.seq (.block 3 (.seq (.aX [.op (some 25) none (.idx 1 (.t 21) (.t 23)),.op (some 26) none (.load false 1 (.t 25)),.op (some 10) none (.mv (.t 26))]) (.seq (.draw [[],[],[1],[1,2],[1,2,3],[],[1,2,3,4,5],[0,1,2,3,4,5,6],[],[0,1,2,3,4,5,6,7,8]] [.op (some 27) none (.load false 1 (.t 3)),.op (some 28) none (.load false 1 (.t 2)),.op (some 29) none (.ex iS.mc [.t 28]),.op (some 30) none (.lI 0 [false] (.t 29)),.op (some 31) none (.load false 1 (.t 30)),.op (some 32) none (.mv (.t 10)),.op (some 33) none (.ex (iS.iF .str false tG true false) [.t 31,.t 32]),.call (some 34) none (.t 27) [.t 33] [some tG],.op (some 11) none (.alloc [.int .i64 (Int.ofNat 0)]),.op none none (.store 1 (.t 11) (.t 34))]) (.seq (.aX [.op (some 35) none (.load false 1 (.t 5)),.call (some 36) none (.c (.fn 57 [] [])) [.t 35] [none]]) (.block 4 (.bK (.t 36) [37] (.aX [.op (some 12) none (.mv (.t 37))]) (.block 5 (.aX [.op (some 38) none (.load false 1 (.t 8)),.op (some 39) none (.mv (.t 12)),.op (some 40) none (.load false 1 (.t 11)),.op (some 41) none (.bin .add (.t 39) (.t 40)),.call (some 42) none (.c (.fn 55 [] [])) [.t 38,.t 41] [none,some tI]])))))))) (.aX [.op (some 43) none (.bin .add (.t 23) (.c (.int .i64 (Int.ofNat 1)))),.op (some 23) none (.mv (.t 43))]))))))) (.aX [.op (some 44) none (.load false 1 (.t 8)),.op none none (.store 1 (.t 5) (.t 44))])))) 48),(13,.arr .str false),(27,n9)] [.cell 21 0] []
noncomputable def Dx:D prog 14 none 29:=dO [] (pick (kd prog f101) [(0,false)]) 0
noncomputable def gH29_0b_2i_0:((Int)×(Unit))->Nat×Int×Int×(List (Int×Unit))×dx×dK×bq×bq×ByteArray×Int×List ByteArray×List ByteArray×(List (Int×Unit))×Unit->bR (Nat×Int×Int×(List (Int×Unit))×dx×dK×bq×bq×ByteArray×Int×List ByteArray×List ByteArray×(List (Int×Unit))×Unit):=fun e (abK,w22,w23,m24,m2,m3,m4,m5,c7,Gs,uk,oy,m27,_) =>
 .ni (e.1+Gs) <|
 .bd (FH55 (e.1+Gs) m27) fun y7 =>
 .nd (lU m24 m24) <|
 .ret (abK,w22,w23,m24,m2,m3,m4,m5,c7,Gs,uk,oy,y7.1,())
noncomputable def Dy:yL prog 14 none 27:=Dg mixed pH pI [0,1,2,3,4,5,6,7,8,9,10,11,12,13,14,15,16,17,18,19,20,21,22,23,24,25,26] rfl Dv ( [.op (some 4) none (.load false 1 (.t 1))]) 4 5 [6,7] (some 8) ( .int .i64)  false ( .unit)  true 0 rfl 29 rfl (Dx) (fun e x=>ai (gH29_0b_2i_0 e x)) (fun e=>fun x=>by kernel_rfl)
abbrev Np:au:=au.mk [(2,.c (.ptr 6 0)),(3,.c (.ptr 7 0)),(5,.c (.ptr 8 0)),(8,.c (.ptr 21 0)),(11,.c (.ptr 22 0)),(21,.c (.bO 20 .str)),(22,hI),(23,hI),(36,.fn 101 [] [.ptr 23 0])] [(6,.cells [.ptr 0 0] false),(7,.cells [.fn 30 .nil (.cons (.ptr 1 0) .nil)] false),(8,.cells [.mp 24] false),(21,.cells [.mp 25] false),(22,.cells [.hole tI] false),(20,.arr .str false),(23,.cells [.mp 24] false),(0,.cells [.mp 2,.mp 3,.mp 4,.mp 5] false),(2,fL),(3,gB),(4,bY),(5,bY),(1,.cells [.hole .str] false),(9,.cells [.ptr 0 0] false),(11,.iy),(12,.loop .busy none 11 [(2,.c (.ptr 6 0)),(3,.c (.ptr 7 0)),(4,.c .cw),(5,.c (.ptr 8 0)),(17,.fn 83 [] [.ptr 9 0])] [18,19] (.aX [.op (some 7) none (.mv (.t 19))]) (.block 1 (.seq (.aX [.op (some 20) none (.ex (iS.ja tI false .unit true) []),.op (some 8) none (.alloc [.cT]),.op none none (.store 1 (.t 8) (.t 20))]) (.seq (.seq (.aX [.op (some 21) none (.mv (.t 7)),.op (some 22) none (.len (.t 21)),.op (some 23) none (.mv (.c (.int .i64 (Int.ofNat 0))))]) (.block 2 (.loop (.seq (.aX [.op (some 24) none (.bin .lss (.t 23) (.t 22))]) (.seq (.cond (.t 24) .skip (.exit 2)) (.seq (.block 3 (.seq (.aX [.op (some 25) none (.idx 1 (.t 21) (.t 23)),.op (some 26) none (.load false 1 (.t 25)),.op (some 10) none (.mv (.t 26))]) (.seq (.draw [[],[],[1],[1,2],[1,2,3],[],[1,2,3,4,5],[0,1,2,3,4,5,6],[],[0,1,2,3,4,5,6,7,8]] [.op (some 27) none (.load false 1 (.t 3)),.op (some 28) none (.load false 1 (.t 2)),.op (some 29) none (.ex iS.mc [.t 28]),.op (some 30) none (.lI 0 [false] (.t 29)),.op (some 31) none (.load false 1 (.t 30)),.op (some 32) none (.mv (.t 10)),.op (some 33) none (.ex (iS.iF .str false tG true false) [.t 31,.t 32]),.call (some 34) none (.t 27) [.t 33] [some tG],.op (some 11) none (.alloc [.int .i64 (Int.ofNat 0)]),.op none none (.store 1 (.t 11) (.t 34))]) (.seq (.aX [.op (some 35) none (.load false 1 (.t 5)),.call (some 36) none (.c (.fn 57 [] [])) [.t 35] [none]]) (.block 4 (.bK (.t 36) [37] (.aX [.op (some 12) none (.mv (.t 37))]) (.block 5 (.aX [.op (some 38) none (.load false 1 (.t 8)),.op (some 39) none (.mv (.t 12)),.op (some 40) none (.load false 1 (.t 11)),.op (some 41) none (.bin .add (.t 39) (.t 40)),.call (some 42) none (.c (.fn 55 [] [])) [.t 38,.t 41] [none,some tI]])))))))) (.aX [.op (some 43) none (.bin .add (.t 23) (.c (.int .i64 (Int.ofNat 1)))),.op (some 23) none (.mv (.t 43))]))))))) (.aX [.op (some 44) none (.load false 1 (.t 8)),.op none none (.store 1 (.t 5) (.t 44))])))) 48),(13,.arr .str false),(24,n9),(25,n9)] [.slot 8,.slot 11,.part 36 0,.cell 8 0,.cell 21 0] []
abbrev Nq:aT:=[(.normal,au.mk [(2,.c (.ptr 6 0)),(3,.c (.ptr 7 0)),(5,.c (.ptr 8 0)),(8,.c (.ptr 21 0)),(21,.c (.bO 20 .str)),(22,hI),(23,hI)] [(6,.cells [.ptr 0 0] false),(7,.cells [.fn 30 .nil (.cons (.ptr 1 0) .nil)] false),(8,.cells [.mp 22] false),(21,.cells [.mp 23] false),(20,.arr .str false),(0,.cells [.mp 2,.mp 3,.mp 4,.mp 5] false),(2,fL),(3,gB),(4,bY),(5,bY),(1,.cells [.hole .str] false),(9,.cells [.ptr 0 0] false),(11,.iy),(12,.loop .busy none 11 [(2,.c (.ptr 6 0)),(3,.c (.ptr 7 0)),(4,.c .cw),(5,.c (.ptr 8 0)),(17,.fn 83 [] [.ptr 9 0])] [18,19] (.aX [.op (some 7) none (.mv (.t 19))]) (.block 1 (.seq (.aX [.op (some 20) none (.ex (iS.ja tI false .unit true) []),.op (some 8) none (.alloc [.cT]),.op none none (.store 1 (.t 8) (.t 20))]) (.seq (.seq (.aX [.op (some 21) none (.mv (.t 7)),.op (some 22) none (.len (.t 21)),.op (some 23) none (.mv (.c (.int .i64 (Int.ofNat 0))))]) (.block 2 (.loop (.seq (.aX [.op (some 24) none (.bin .lss (.t 23) (.t 22))]) (.seq (.cond (.t 24) .skip (.exit 2)) (.seq (.block 3 (.seq (.aX [.op (some 25) none (.idx 1 (.t 21) (.t 23)),.op (some 26) none (.load false 1 (.t 25)),.op (some 10) none (.mv (.t 26))]) (.seq (.draw [[],[],[1],[1,2],[1,2,3],[],[1,2,3,4,5],[0,1,2,3,4,5,6],[],[0,1,2,3,4,5,6,7,8]] [.op (some 27) none (.load false 1 (.t 3)),.op (some 28) none (.load false 1 (.t 2)),.op (some 29) none (.ex iS.mc [.t 28]),.op (some 30) none (.lI 0 [false] (.t 29)),.op (some 31) none (.load false 1 (.t 30)),.op (some 32) none (.mv (.t 10)),.op (some 33) none (.ex (iS.iF .str false tG true false) [.t 31,.t 32]),.call (some 34) none (.t 27) [.t 33] [some tG],.op (some 11) none (.alloc [.int .i64 (Int.ofNat 0)]),.op none none (.store 1 (.t 11) (.t 34))]) (.seq (.aX [.op (some 35) none (.load false 1 (.t 5)),.call (some 36) none (.c (.fn 57 [] [])) [.t 35] [none]]) (.block 4 (.bK (.t 36) [37] (.aX [.op (some 12) none (.mv (.t 37))]) (.block 5 (.aX [.op (some 38) none (.load false 1 (.t 8)),.op (some 39) none (.mv (.t 12)),.op (some 40) none (.load false 1 (.t 11)),.op (some 41) none (.bin .add (.t 39) (.t 40)),.call (some 42) none (.c (.fn 55 [] [])) [.t 38,.t 41] [none,some tI]])))))))) (.aX [.op (some 43) none (.bin .add (.t 23) (.c (.int .i64 (Int.ofNat 1)))),.op (some 23) none (.mv (.t 43))]))))))) (.aX [.op (some 44) none (.load false 1 (.t 8)),.op none none (.store 1 (.t 5) (.t 44))])))) 48),(13,.arr .str false),(22,n9),(23,n9)] [.slot 8,.cell 8 0,.cell 21 0] [])]
noncomputable def zA:D prog 14 none 27:=dO [.m Dy] (kd prog f101) 0
theorem IW:cM prog f101=some ⟨14,2,(zA).er,[],[]⟩:=by kernel_rfl
noncomputable def gH29_0b_2:Nat×Int×Int×Int×List ByteArray×dx×dK×bq×bq×ByteArray×List ByteArray×(List (Int×Unit))×(List (Int×Unit))×Unit->bR ((Nat×Int×Int×List ByteArray×dx×dK×bq×bq×ByteArray×List ByteArray×(List (Int×Unit))×(List (Int×Unit))×Unit)):=fun (zB,v22,v23,Gs,uk,m2,m3,m4,m5,c7,oy,m24,m25,_) =>
 .bd (.mq gH29_0b_2i_0 m24 (zB,v22,v23,m24,m2,m3,m4,m5,c7,Gs,uk,oy,m25,())) fun z8 =>
 .ret ((zB,v22,v23,z8.2.2.2.2.2.2.2.2.2.2.1,z8.2.2.2.2.1,z8.2.2.2.2.2.1,z8.2.2.2.2.2.2.1,z8.2.2.2.2.2.2.2.1,z8.2.2.2.2.2.2.2.2.1,z8.2.2.2.2.2.2.2.2.2.2.2.1,z8.2.2.2.1,z8.2.2.2.2.2.2.2.2.2.2.2.2.1,()))
noncomputable def Nr:gH prog 48 (some 12) 21:=ql mixed pH pI [0,1,2,3,4,5,6,7,8,9,10,11,12,13,14,15,16,17,18,19,20] rfl Np Nq ( .t 36) [37] rfl (zy).er (zz).er 101 func101 (IW) (enters_of func101 rfl rfl) 27 rfl (zA) rfl (fun x=>ai (gH29_0b_2 x)) (fun x=>by kernel_rfl)
abbrev Ns:au:=au.mk [(2,.c (.ptr 6 0)),(3,.c (.ptr 7 0)),(5,.c (.ptr 8 0)),(8,.c (.ptr 21 0)),(21,.c (.bO 20 .str)),(22,hI),(23,hI)] [(6,.cells [.ptr 0 0] false),(7,.cells [.fn 30 .nil (.cons (.ptr 1 0) .nil)] false),(8,.cells [.mp 22] false),(21,.cells [.mp 23] false),(20,.arr .str false),(0,.cells [.mp 2,.mp 3,.mp 4,.mp 5] false),(2,fL),(3,gB),(4,bY),(5,bY),(1,.cells [.hole .str] false),(9,.cells [.ptr 0 0] false),(11,.iy),(12,.loop .busy none 11 [(2,.c (.ptr 6 0)),(3,.c (.ptr 7 0)),(4,.c .cw),(5,.c (.ptr 8 0)),(17,.fn 83 [] [.ptr 9 0])] [18,19] (.aX [.op (some 7) none (.mv (.t 19))]) (.block 1 (.seq (.aX [.op (some 20) none (.ex (iS.ja tI false .unit true) []),.op (some 8) none (.alloc [.cT]),.op none none (.store 1 (.t 8) (.t 20))]) (.seq (.seq (.aX [.op (some 21) none (.mv (.t 7)),.op (some 22) none (.len (.t 21)),.op (some 23) none (.mv (.c (.int .i64 (Int.ofNat 0))))]) (.block 2 (.loop (.seq (.aX [.op (some 24) none (.bin .lss (.t 23) (.t 22))]) (.seq (.cond (.t 24) .skip (.exit 2)) (.seq (.block 3 (.seq (.aX [.op (some 25) none (.idx 1 (.t 21) (.t 23)),.op (some 26) none (.load false 1 (.t 25)),.op (some 10) none (.mv (.t 26))]) (.seq (.draw [[],[],[1],[1,2],[1,2,3],[],[1,2,3,4,5],[0,1,2,3,4,5,6],[],[0,1,2,3,4,5,6,7,8]] [.op (some 27) none (.load false 1 (.t 3)),.op (some 28) none (.load false 1 (.t 2)),.op (some 29) none (.ex iS.mc [.t 28]),.op (some 30) none (.lI 0 [false] (.t 29)),.op (some 31) none (.load false 1 (.t 30)),.op (some 32) none (.mv (.t 10)),.op (some 33) none (.ex (iS.iF .str false tG true false) [.t 31,.t 32]),.call (some 34) none (.t 27) [.t 33] [some tG],.op (some 11) none (.alloc [.int .i64 (Int.ofNat 0)]),.op none none (.store 1 (.t 11) (.t 34))]) (.seq (.aX [.op (some 35) none (.load false 1 (.t 5)),.call (some 36) none (.c (.fn 57 [] [])) [.t 35] [none]]) (.block 4 (.bK (.t 36) [37] (.aX [.op (some 12) none (.mv (.t 37))]) (.block 5 (.aX [.op (some 38) none (.load false 1 (.t 8)),.op (some 39) none (.mv (.t 12)),.op (some 40) none (.load false 1 (.t 11)),.op (some 41) none (.bin .add (.t 39) (.t 40)),.call (some 42) none (.c (.fn 55 [] [])) [.t 38,.t 41] [none,some tI]])))))))) (.aX [.op (some 43) none (.bin .add (.t 23) (.c (.int .i64 (Int.ofNat 1)))),.op (some 23) none (.mv (.t 43))]))))))) (.aX [.op (some 44) none (.load false 1 (.t 8)),.op none none (.store 1 (.t 5) (.t 44))])))) 48),(13,.arr .str false),(22,n9),(23,n9)] [.slot 8,.cell 8 0,.cell 21 0] []
abbrev Nt:aT:=[(.exit 2,au.mk [(5,.c (.ptr 8 0)),(8,.c (.ptr 21 0))] [(8,.cells [.mp 22] false),(21,.cells [.mp 23] false),(0,.cells [.mp 2,.mp 3,.mp 4,.mp 5] false),(2,fL),(3,gB),(4,bY),(5,bY),(1,.cells [.hole .str] false),(6,.cells [.ptr 0 0] false),(7,.cells [.fn 30 .nil (.cons (.ptr 1 0) .nil)] false),(9,.cells [.ptr 0 0] false),(11,.iy),(12,.loop .busy none 11 [(2,.c (.ptr 6 0)),(3,.c (.ptr 7 0)),(4,.c .cw),(5,.c (.ptr 8 0)),(17,.fn 83 [] [.ptr 9 0])] [18,19] (.aX [.op (some 7) none (.mv (.t 19))]) (.block 1 (.seq (.aX [.op (some 20) none (.ex (iS.ja tI false .unit true) []),.op (some 8) none (.alloc [.cT]),.op none none (.store 1 (.t 8) (.t 20))]) (.seq (.seq (.aX [.op (some 21) none (.mv (.t 7)),.op (some 22) none (.len (.t 21)),.op (some 23) none (.mv (.c (.int .i64 (Int.ofNat 0))))]) (.block 2 (.loop (.seq (.aX [.op (some 24) none (.bin .lss (.t 23) (.t 22))]) (.seq (.cond (.t 24) .skip (.exit 2)) (.seq (.block 3 (.seq (.aX [.op (some 25) none (.idx 1 (.t 21) (.t 23)),.op (some 26) none (.load false 1 (.t 25)),.op (some 10) none (.mv (.t 26))]) (.seq (.draw [[],[],[1],[1,2],[1,2,3],[],[1,2,3,4,5],[0,1,2,3,4,5,6],[],[0,1,2,3,4,5,6,7,8]] [.op (some 27) none (.load false 1 (.t 3)),.op (some 28) none (.load false 1 (.t 2)),.op (some 29) none (.ex iS.mc [.t 28]),.op (some 30) none (.lI 0 [false] (.t 29)),.op (some 31) none (.load false 1 (.t 30)),.op (some 32) none (.mv (.t 10)),.op (some 33) none (.ex (iS.iF .str false tG true false) [.t 31,.t 32]),.call (some 34) none (.t 27) [.t 33] [some tG],.op (some 11) none (.alloc [.int .i64 (Int.ofNat 0)]),.op none none (.store 1 (.t 11) (.t 34))]) (.seq (.aX [.op (some 35) none (.load false 1 (.t 5)),.call (some 36) none (.c (.fn 57 [] [])) [.t 35] [none]]) (.block 4 (.bK (.t 36) [37] (.aX [.op (some 12) none (.mv (.t 37))]) (.block 5 (.aX [.op (some 38) none (.load false 1 (.t 8)),.op (some 39) none (.mv (.t 12)),.op (some 40) none (.load false 1 (.t 11)),.op (some 41) none (.bin .add (.t 39) (.t 40)),.call (some 42) none (.c (.fn 55 [] [])) [.t 38,.t 41] [none,some tI]])))))))) (.aX [.op (some 43) none (.bin .add (.t 23) (.c (.int .i64 (Int.ofNat 1)))),.op (some 23) none (.mv (.t 43))]))))))) (.aX [.op (some 44) none (.load false 1 (.t 8)),.op none none (.store 1 (.t 5) (.t 44))])))) 48),(13,.arr .str false),(20,.arr .str false),(22,n9),(23,n9)] [.slot 8,.cell 8 0,.cell 21 0] [])]
noncomputable def Nu:D prog 48 (some 12) 21:=dO [.r Nr] (pick (kd prog f29) [(0,true),(0,false)]) 0
noncomputable def gH29_0b_1:Nat×Int×Int×List ByteArray×dx×dK×bq×bq×ByteArray×List ByteArray×(List (Int×Unit))×(List (Int×Unit))×Unit->bR ((Nat×Int×Int×List ByteArray×dx×dK×bq×bq×ByteArray×List ByteArray×(List (Int×Unit))×(List (Int×Unit))×Unit) ⊕ ((dx×dK×bq×bq×ByteArray×List ByteArray×List ByteArray×(List (Int×Unit))×(List (Int×Unit))×Unit))):=fun (zB,v22,v23,uk,m2,m3,m4,m5,c7,oy,m22,m23,_) =>
 .br (decide (v23<v22)) (
 .nb v23 ((zB:Nat):Int) <|
 .nd (decide (((0:Nat)+(Int.toNat v23))<(uk).length)) <|
 .bd (F30 ((ay .str ((bs []),(0:Int),(bs []),(bs []),(0:Int)) m2 ((uk).getD ((0:Nat)+(Int.toNat v23)) (bs []))).1,(ay .str ((bs []),(0:Int),(bs []),(bs []),(0:Int)) m2 ((uk).getD ((0:Nat)+(Int.toNat v23)) (bs []))).2.1,(ay .str ((bs []),(0:Int),(bs []),(bs []),(0:Int)) m2 ((uk).getD ((0:Nat)+(Int.toNat v23)) (bs []))).2.2.1,(ay .str ((bs []),(0:Int),(bs []),(bs []),(0:Int)) m2 ((uk).getD ((0:Nat)+(Int.toNat v23)) (bs []))).2.2.2.1,(ay .str ((bs []),(0:Int),(bs []),(bs []),(0:Int)) m2 ((uk).getD ((0:Nat)+(Int.toNat v23)) (bs []))).2.2.2.2) c7) fun y5 =>
 .bd (FH57 m22) fun y6 =>
 .bd (gH29_0b_2 (zB,v22,v23,y5.1,uk,m2,m3,m4,m5,c7,oy,y6.1,m23,())) fun z9 =>
 .ni (z9.2.2.1+(1:Int)) <|
 .ret (.inl (z9.1,z9.2.1,(z9.2.2.1+(1:Int)),z9.2.2.2.1,z9.2.2.2.2.1,z9.2.2.2.2.2.1,z9.2.2.2.2.2.2.1,z9.2.2.2.2.2.2.2.1,z9.2.2.2.2.2.2.2.2.1,z9.2.2.2.2.2.2.2.2.2.1,z9.2.2.2.2.2.2.2.2.2.2.1,z9.2.2.2.2.2.2.2.2.2.2.2.1,()))) (
 .ret (.inr (m2,m3,m4,m5,c7,oy,uk,m22,m23,())))
noncomputable def Nv:bt prog 48 (some 12) 21:=aW mixed BT nq [0,1,2,3,4,5,6,7,8,9,10,11,12,13,14,15,16,17,18,19,20] rfl Ns Nt rfl (Nu) (fun x=>ai (gH29_0b_1 x)) (fun x=>by kernel_rfl)
noncomputable def KW:D prog 48 (some 12) 21:=dO [] (pick (kd prog f29) [(0,false)]) 0
noncomputable def KX:D prog 48 (some 12) 21:=dO [.l Nv] (pick (kd prog f29) [(0,true)]) 0
noncomputable def zC:Cx:=AF BT (fun kz=>P9 kz BT bW 12 21 [18,19] (KW) (KX))
theorem wh:(zC).Ok prog:=jU nq (fun h=>nW mixed nq h)
abbrev Nw:au:=au.mk [(0,.c (.yl 12)),(1,.c (.ptr 9 0)),(10,.c (.bO 13 .str)),(11,hI),(12,hI)] [(12,.loop .ready none 11 [(2,.c (.ptr 6 0)),(3,.c (.ptr 7 0)),(4,.c .cw),(5,.c (.ptr 8 0)),(17,.fn 83 [] [.ptr 9 0])] [18,19] (.aX [.op (some 7) none (.mv (.t 19))]) (.block 1 (.seq (.aX [.op (some 20) none (.ex (iS.ja tI false .unit true) []),.op (some 8) none (.alloc [.cT]),.op none none (.store 1 (.t 8) (.t 20))]) (.seq (.seq (.aX [.op (some 21) none (.mv (.t 7)),.op (some 22) none (.len (.t 21)),.op (some 23) none (.mv (.c (.int .i64 (Int.ofNat 0))))]) (.block 2 (.loop (.seq (.aX [.op (some 24) none (.bin .lss (.t 23) (.t 22))]) (.seq (.cond (.t 24) .skip (.exit 2)) (.seq (.block 3 (.seq (.aX [.op (some 25) none (.idx 1 (.t 21) (.t 23)),.op (some 26) none (.load false 1 (.t 25)),.op (some 10) none (.mv (.t 26))]) (.seq (.draw [[],[],[1],[1,2],[1,2,3],[],[1,2,3,4,5],[0,1,2,3,4,5,6],[],[0,1,2,3,4,5,6,7,8]] [.op (some 27) none (.load false 1 (.t 3)),.op (some 28) none (.load false 1 (.t 2)),.op (some 29) none (.ex iS.mc [.t 28]),.op (some 30) none (.lI 0 [false] (.t 29)),.op (some 31) none (.load false 1 (.t 30)),.op (some 32) none (.mv (.t 10)),.op (some 33) none (.ex (iS.iF .str false tG true false) [.t 31,.t 32]),.call (some 34) none (.t 27) [.t 33] [some tG],.op (some 11) none (.alloc [.int .i64 (Int.ofNat 0)]),.op none none (.store 1 (.t 11) (.t 34))]) (.seq (.aX [.op (some 35) none (.load false 1 (.t 5)),.call (some 36) none (.c (.fn 57 [] [])) [.t 35] [none]]) (.block 4 (.bK (.t 36) [37] (.aX [.op (some 12) none (.mv (.t 37))]) (.block 5 (.aX [.op (some 38) none (.load false 1 (.t 8)),.op (some 39) none (.mv (.t 12)),.op (some 40) none (.load false 1 (.t 11)),.op (some 41) none (.bin .add (.t 39) (.t 40)),.call (some 42) none (.c (.fn 55 [] [])) [.t 38,.t 41] [none,some tI]])))))))) (.aX [.op (some 43) none (.bin .add (.t 23) (.c (.int .i64 (Int.ofNat 1)))),.op (some 23) none (.mv (.t 43))]))))))) (.aX [.op (some 44) none (.load false 1 (.t 8)),.op none none (.store 1 (.t 5) (.t 44))])))) 48),(9,.cells [.ptr 0 0] false),(13,.arr .str false),(11,.iy),(6,.cells [.ptr 0 0] false),(0,.cells [.mp 2,.mp 3,.mp 4,.mp 5] false),(2,fL),(3,gB),(4,bY),(5,bY),(7,.cells [.fn 30 .nil (.cons (.ptr 1 0) .nil)] false),(1,.cells [.hole .str] false),(8,.cells [.mp 14] false),(14,n9)] [.slot 10,.cell 8 0] []
abbrev Nx:aT:=[(.exit 0,au.mk [] [(0,.cells [.mp 2,.mp 3,.mp 4,.mp 5] false),(2,fL),(3,gB),(4,bY),(5,bY),(1,.cells [.hole .str] false),(6,.cells [.ptr 0 0] false),(7,.cells [.fn 30 .nil (.cons (.ptr 1 0) .nil)] false),(8,.cells [.mp 13] false),(9,.cells [.ptr 0 0] false),(11,.iy),(12,.loop .ready none 11 [(2,.c (.ptr 6 0)),(3,.c (.ptr 7 0)),(4,.c .cw),(5,.c (.ptr 8 0)),(17,.fn 83 [] [.ptr 9 0])] [18,19] (.aX [.op (some 7) none (.mv (.t 19))]) (.block 1 (.seq (.aX [.op (some 20) none (.ex (iS.ja tI false .unit true) []),.op (some 8) none (.alloc [.cT]),.op none none (.store 1 (.t 8) (.t 20))]) (.seq (.seq (.aX [.op (some 21) none (.mv (.t 7)),.op (some 22) none (.len (.t 21)),.op (some 23) none (.mv (.c (.int .i64 (Int.ofNat 0))))]) (.block 2 (.loop (.seq (.aX [.op (some 24) none (.bin .lss (.t 23) (.t 22))]) (.seq (.cond (.t 24) .skip (.exit 2)) (.seq (.block 3 (.seq (.aX [.op (some 25) none (.idx 1 (.t 21) (.t 23)),.op (some 26) none (.load false 1 (.t 25)),.op (some 10) none (.mv (.t 26))]) (.seq (.draw [[],[],[1],[1,2],[1,2,3],[],[1,2,3,4,5],[0,1,2,3,4,5,6],[],[0,1,2,3,4,5,6,7,8]] [.op (some 27) none (.load false 1 (.t 3)),.op (some 28) none (.load false 1 (.t 2)),.op (some 29) none (.ex iS.mc [.t 28]),.op (some 30) none (.lI 0 [false] (.t 29)),.op (some 31) none (.load false 1 (.t 30)),.op (some 32) none (.mv (.t 10)),.op (some 33) none (.ex (iS.iF .str false tG true false) [.t 31,.t 32]),.call (some 34) none (.t 27) [.t 33] [some tG],.op (some 11) none (.alloc [.int .i64 (Int.ofNat 0)]),.op none none (.store 1 (.t 11) (.t 34))]) (.seq (.aX [.op (some 35) none (.load false 1 (.t 5)),.call (some 36) none (.c (.fn 57 [] [])) [.t 35] [none]]) (.block 4 (.bK (.t 36) [37] (.aX [.op (some 12) none (.mv (.t 37))]) (.block 5 (.aX [.op (some 38) none (.load false 1 (.t 8)),.op (some 39) none (.mv (.t 12)),.op (some 40) none (.load false 1 (.t 11)),.op (some 41) none (.bin .add (.t 39) (.t 40)),.call (some 42) none (.c (.fn 55 [] [])) [.t 38,.t 41] [none,some tI]])))))))) (.aX [.op (some 43) none (.bin .add (.t 23) (.c (.int .i64 (Int.ofNat 1)))),.op (some 23) none (.mv (.t 43))]))))))) (.aX [.op (some 44) none (.load false 1 (.t 8)),.op none none (.store 1 (.t 5) (.t 44))])))) 48),(13,n9)] [.cell 8 0] [])]
noncomputable def Ny:D prog 34 none 13:=dO [] (pick (kd prog f83) [(0,false)]) 0
noncomputable def gH29_0i_0:Nat×Int×Int×List ByteArray×dx×dK×bq×bq×ByteArray×(List (Int×Unit))×Unit->bR ((Nat×Int×Int×List ByteArray×dx×dK×bq×bq×ByteArray×(List (Int×Unit))×Unit) ⊕ ((dx×dK×bq×bq×ByteArray×(List (Int×Unit))×Unit))):=fun (AP,v11,v12,oy,m2,m3,m4,m5,c7,m14,_) =>
 .br (decide (v12<v11)) (
 .nb v12 ((AP:Nat):Int) <|
 .nd (decide (((0:Nat)+(Int.toNat v12))<(oy).length)) <|
 .br ((ay .str ((bs []),(0:Int),(bs []),(bs []),(0:Int)) m2 ((oy).getD ((0:Nat)+(Int.toNat v12)) (bs []))).2.1==(1:Int)) (
 .bd (FH84fix ((oy).getD ((0:Nat)+(Int.toNat v12)) (bs [])) m2 m3 m4 m5) fun y4 =>
 .bd (.it gH29_0b_1 (y4.1,((y4.1:Nat):Int),(0:Int),y4.2.1,y4.2.2.1,y4.2.2.2.1,y4.2.2.2.2.1,y4.2.2.2.2.2.1,c7,oy,m14,[],())) fun KY =>
 .ni (v12+(1:Int)) <|
 .ret (.inl (AP,v11,(v12+(1:Int)),KY.2.2.2.2.2.1,KY.1,KY.2.1,KY.2.2.1,KY.2.2.2.1,KY.2.2.2.2.1,KY.2.2.2.2.2.2.2.2.1,()))) (
 .ni (v12+(1:Int)) <|
 .ret (.inl (AP,v11,(v12+(1:Int)),oy,m2,m3,m4,m5,c7,m14,())))) (
 .ret (.inr (m2,m3,m4,m5,c7,m14,())))
noncomputable def Nz:bt prog 34 none 13:=aW mixed zC wh [0,1,2,3,4,5,6,7,8,9,10,11,12] rfl Nw Nx rfl (Ny) (fun x=>ai (gH29_0i_0 x)) (fun x=>by kernel_rfl)
abbrev abL:au:=au.mk [(2,.c (.ptr 6 0)),(3,.c (.ptr 7 0)),(4,.c .cw),(5,.c (.ptr 8 0)),(17,.fn 83 [] [.ptr 9 0])] [(6,.cells [.ptr 0 0] false),(7,.cells [.fn 30 .nil (.cons (.ptr 1 0) .nil)] false),(8,.cells [.mp 10] false),(9,.cells [.ptr 0 0] false),(0,.cells [.mp 2,.mp 3,.mp 4,.mp 5] false),(2,fL),(3,gB),(4,bY),(5,bY),(1,.cells [.hole .str] false),(10,n9)] [.slot 2,.slot 3,.slot 5,.part 17 0,.cell 8 0] []
abbrev abM:aT:=[(.normal,au.mk [(5,.c (.ptr 6 0))] [(6,.cells [.mp 7] false),(0,.cells [.mp 2,.mp 3,.mp 4,.mp 5] false),(2,fL),(3,gB),(4,bY),(5,bY),(1,.cells [.hole .str] false),(7,n9)] [.slot 5,.cell 6 0] [])]
noncomputable def KZ:D prog 34 none 13:=dO [.l Nz] (kd prog f83) 0
theorem VA:cM prog f83=some ⟨34,2,(KZ).er,[],[]⟩:=by kernel_rfl
noncomputable def gH29_0:dx×dK×bq×bq×ByteArray×(List (Int×Unit))×Unit->bR ((dx×dK×bq×bq×ByteArray×(List (Int×Unit))×Unit)):=fun (m2,m3,m4,m5,c7,m10,_) =>
 .bd (FH50 m2) fun y2 =>
 .bd (FH49 y2.1) fun y3 =>
 .bd (.it gH29_0i_0 (y3.1,((y3.1:Nat):Int),(0:Int),y3.2.1,y3.2.2.1,m3,m4,m5,c7,m10,())) fun K0 =>
 .ret ((K0.1,K0.2.1,K0.2.2.1,K0.2.2.2.1,K0.2.2.2.2.1,K0.2.2.2.2.2.1,()))
noncomputable def abN:gH prog 48 none 6:=ql mixed zC wh [0,1,2,3,4,5] rfl abL abM ( .t 17) [18,19] rfl (KW).er (KX).er 83 func83 (VA) (enters_of func83 rfl rfl) 13 rfl (KZ) rfl (fun x=>ai (gH29_0 x)) (fun x=>by kernel_rfl)
noncomputable def YL:D prog 48 none 6:=dO [.r abN] (kd prog f29) 0
noncomputable def FH29 (c7:ByteArray) (m2:dx) (m3:dK) (m4:bq) (m5:bq):bR (Nat×List Int×dx×dK×bq×bq×ByteArray×Unit) :=
 .bd (FH55 (0:Int) []) fun y0 =>
 .bd (FH56 m2 m3 m4 m5) fun y1 =>
 .bd (gH29_0 (y1.1,y1.2.1,y1.2.2.1,y1.2.2.2.1,c7,y0.1,())) fun z12 =>
 .bd (FH57 z12.2.2.2.2.2.1) fun y13 =>
 .bd (FH58 y13.1) fun NA =>
 .ret (NA.1,NA.2.1,z12.1,z12.2.1,z12.2.2.1,z12.2.2.2.1,z12.2.2.2.2.1,())
theorem VB:cM prog f29=some ⟨48,2,YL.er,[.t 4],[some tL]⟩:=by kernel_rfl
noncomputable def ht29:Ht:=⟨29,pH29,qH29,(fun x=>ai (FH29 x.1 x.2.1 x.2.2.1 x.2.2.2.1 x.2.2.2.2.1))⟩
theorem VC:ht29.Ok prog:=bV mixed nq rfl func29 VB (enters_of func29 rfl rfl) YL (by kernel_rfl) rfl rfl ⟨_,rfl⟩ rfl (pre:=[0,1,2,3,4,5]) rfl (fun x=>by kernel_rfl)

/- 8, lent -/
abbrev pH8:au:=au.mk [(0,.c (.ptr 0 0)),(1,.c (.hole .str))] [(0,.cells [.mp 1] false),(1,gD)] [.slot 0,.cell 0 0] []
abbrev qH8:au:=au.mk [(0,.dc [.bO 2 tI,.hole tI])] [(2,.arr tI false),(0,.cells [.mp 1] false),(1,gD)] [.part 0 0] []
noncomputable def cxH8:Cx:=(aM [M3] [M1,abx,ht29])
theorem VD:cxH8.Ok prog:=ak ⟨tH,trivial⟩ ⟨⟨tF,rfl⟩,⟨KM,rfl⟩,⟨VC,rfl⟩,trivial⟩
noncomputable def ddH8:D prog 15 none 2:=dO [] (kd prog f8) 0
noncomputable def FH8 (v1:ByteArray) (m1:eX):bR (Nat×Int×List Int×eX×Unit) :=
 .bd (FH24 m1) fun y0 =>
 .br y0.1 (
 .ret ((0:Nat),(9:Int),[],y0.2.1,())) (
 .bd (F27 v1) fun y1 =>
 .br (!y1.1) (
 .ret ((0:Nat),(8:Int),[],y0.2.1,())) (
 .bd (FH28 y0.2.1) fun y2 =>
 .bd (FH29 v1 y2.2.1 y2.2.2.1 y2.2.2.2.1 y2.2.2.2.2.1) fun y3 =>
 .ret (y3.1,(0:Int),y3.2.1,y2.1,())))
theorem abO:cM prog f8=some ⟨15,2,ddH8.er,[.t 4,.t 5],[some tL,some tI]⟩:=by kernel_rfl
noncomputable def ht8:Ht:=⟨8,pH8,qH8,(fun x=>ai (FH8 x.1 x.2.1))⟩
theorem IX:ht8.Ok prog:=bV mixed VD rfl func8 abO (enters_of func8 rfl rfl) ddH8 (by kernel_rfl) rfl rfl ⟨_,rfl⟩ rfl (pre:=[0,1]) rfl (fun x=>by kernel_rfl)

/- 11 -/
noncomputable def cx11:Cx:=(aM [] [ht5,ht6,ht8])
theorem K1:cx11.Ok prog:=ak trivial ⟨⟨QD,rfl⟩,⟨QH,rfl⟩,⟨IX,rfl⟩,trivial⟩
abbrev agx:au:=au.mk [(1,.c (.ptr 0 0)),(10,.c (.bO 1 tG)),(11,hI),(12,hI)] [(0,.cells [.mp 2] false),(1,.arr tG false),(2,gD)] [.slot 1,.slot 10,.cell 0 0] []
abbrev agy:aT:=[(.ret,au.mk [(0,.c (.tf false))] [] [] []),(.exit 0,au.mk [(1,.c (.ptr 0 0))] [(0,.cells [.mp 1] false),(1,gD)] [.slot 1,.cell 0 0] [])]
noncomputable def agz:D prog 45 none 0:=dO [] (pick (kd prog f11) [(0,false)]) 0
noncomputable def g11_0:Nat×Int×Int×AH×eX×Unit->bR ((Nat×Int×Int×AH×eX×Unit) ⊕ ((Unit) ⊕ ((eX×Unit)))):=fun (AP,v11,v12,b1,m2,_) =>
 .br (decide (v12<v11)) (
 .nb v12 ((AP:Nat):Int) <|
 .nd (decide (((0:Nat)+(Int.toNat v12))<(b1).length)) <|
 .bd (FH6 (((b1).getD ((0:Nat)+(Int.toNat v12)) ((bs []),(0:Int),(bs []),(bs []),(0:Int))).1,((b1).getD ((0:Nat)+(Int.toNat v12)) ((bs []),(0:Int),(bs []),(bs []),(0:Int))).2.1,((b1).getD ((0:Nat)+(Int.toNat v12)) ((bs []),(0:Int),(bs []),(bs []),(0:Int))).2.2.1,((b1).getD ((0:Nat)+(Int.toNat v12)) ((bs []),(0:Int),(bs []),(bs []),(0:Int))).2.2.2.1,((b1).getD ((0:Nat)+(Int.toNat v12)) ((bs []),(0:Int),(bs []),(bs []),(0:Int))).2.2.2.2) m2) fun y1 =>
 .br (!(y1.1==(0:Int))) (
 .ret (.inr <| .inl<|())) (
 .ni (v12+(1:Int)) <|
 .ret (.inl (AP,v11,(v12+(1:Int)),b1,y1.2.1,())))) (
 .ret (.inr <| .inr<|(m2,())))
noncomputable def agA:bt prog 45 none 0:=aW mixed cx11 K1 [] rfl agx agy rfl (agz) (fun x=>ai (g11_0 x)) (fun x=>by kernel_rfl)
noncomputable def dd11:D prog 45 none 0:=dO [.l agA] (kd prog f11) 0
noncomputable def F11:bR (Bool×Unit) :=
 .bd (FH5) fun y0 =>
 .bd (.it g11_0 ((3:Nat),(3:Int),(0:Int),(((bs [116,49]),(1:Int),(bs []),(bs [97,110,97]),(40:Int))::(((bs [99,49]),(2:Int),(bs [116,49]),(bs [97,110,97]),(42:Int))::(((bs [99,50]),(2:Int),(bs [116,49]),(bs [99,121]),(40:Int))::[]))),y0.1,())) fun z2 =>
 .sm z2 (fun z3 =>
 .ret (false,())) fun z4 =>
 .bd (FH8 (bs [97,110,97]) z4.1) fun y5 =>
 .br (y5.2.1==(0:Int)) (
 .br (((y5.1:Nat):Int)==(2:Int)) (
 .nb (0:Int) ((y5.1:Nat):Int) <|
 .nd (decide (((0:Nat)+(Int.toNat (0:Int)))<(y5.2.2.1).length)) <|
 .br (((y5.2.2.1).getD ((0:Nat)+(Int.toNat (0:Int))) (0:Int))==(0:Int)) (
 .nb (1:Int) ((y5.1:Nat):Int) <|
 .nd (decide (((0:Nat)+(Int.toNat (1:Int)))<(y5.2.2.1).length)) <|
 .ret ((((y5.2.2.1).getD ((0:Nat)+(Int.toNat (1:Int))) (0:Int))==(42:Int)),())) (
 .ret (false,()))) (
 .ret (false,()))) (
 .ret (false,()))
theorem abP:cM prog f11=some ⟨45,0,dd11.er,[.t 0],[some .bool]⟩:=by kernel_rfl
noncomputable def ct11:Ct:=⟨11,[],.c (.hole .bool),fun x=>ai (F11)⟩
theorem VE:ct11.Ok prog:=cu mixed K1 func11 abP (enters_of func11 rfl rfl) dd11 (by kernel_rfl) rfl (fun x=>by kernel_rfl)

/- 59 -/
noncomputable def cx59:Cx:=(aM [] [])
theorem VF:cx59.Ok prog:=ak trivial trivial
noncomputable def dd59:D prog 15 none 0:=dO [] (kd prog f59) 0
noncomputable def F59 (a0:Int) (a1:Int) (a2:Int):bR (Bool×Unit) :=
 .br (decide (a0<=a1)) (
 .ret ((decide (a1<=a2)),())) (
 .ret (false,()))
theorem abQ:cM prog f59=some ⟨15,3,dd59.er,[.t 6],[some .bool]⟩:=by kernel_rfl
noncomputable def VG:Ct:=⟨59,[hI,hI,hI],.c (.hole .bool),fun x=>ai (F59 x.1 x.2.1 x.2.2.1)⟩
theorem Dz:VG.Ok prog:=cu mixed VF func59 abQ (enters_of func59 rfl rfl) dd59 (by kernel_rfl) rfl (fun x=>by kernel_rfl)

/- 33 -/
noncomputable def cx33:Cx:=(aM [VG] [])
theorem VH:cx33.Ok prog:=ak ⟨Dz,trivial⟩ trivial
noncomputable def dd33:D prog 19 none 0:=dO [] (kd prog f33) 0
noncomputable def F33 (a0:Int×Int×Int×(List (ByteArray×Int))×List (Int×Int×Int×Int)):bR (Int×Unit) :=
 .bd (F59 (0:Int) a0.1 (1000000000:Int)) fun y0 =>
 .br (!y0.1) (
 .ret ((2:Int),())) (
 .bd (F59 (0:Int) a0.2.1 (1000:Int)) fun y1 =>
 .br (!y1.1) (
 .ret ((2:Int),())) (
 .bd (F59 (0:Int) a0.2.2.1 (1000:Int)) fun y2 =>
 .br (!y2.1) (
 .ret ((2:Int),())) (
 .ret ((0:Int),()))))
theorem abR:cM prog f33=some ⟨19,1,dd33.er,[.t 2],[some tI]⟩:=by kernel_rfl
noncomputable def ct33:Ct:=⟨33,[.c (.hole (.prod tI (.prod tI (.prod tI (.prod (.list (.prod .str tI)) (.list (.prod tI (.prod tI (.prod tI tI)))))))))],hI,fun x=>ai (F33 x.1)⟩
theorem VI:ct33.Ok prog:=cu mixed VH func33 abR (enters_of func33 rfl rfl) dd33 (by kernel_rfl) rfl (fun x=>by kernel_rfl)

/- 34 -/
noncomputable def cx34:Cx:=(aM [M3,VG] [])
theorem K2:cx34.Ok prog:=ak ⟨tH,Dz,trivial⟩ trivial
abbrev agH:au:=au.mk [(3,.c (.mp 0)),(18,.c (.hole (.list (.prod .str tI)))),(19,hI),(20,hI)] [(0,bY)] [.slot 3] []
abbrev agI:aT:=[(.ret,au.mk [(2,hI)] [] [] []),(.exit 1,au.mk [] [] [] [])]
noncomputable def agJ:D prog 43 none 0:=dO [] (pick (kd prog f34) [(0,false)]) 0
noncomputable def g34_0:(List (ByteArray×Int))×Int×Int×bq×Unit->bR (((List (ByteArray×Int))×Int×Int×bq×Unit) ⊕ ((Int×Unit) ⊕ ((Unit)))):=fun (Nk,l5,v20,m0,_) =>
 .br (decide (v20<l5)) (
 .nb v20 (((Nk).length:Nat):Int) <|
 .bd (F27 ((Nk).getD (Int.toNat v20) ((bs []),(0:Int))).1) fun y0 =>
 .br (!y0.1) (
 .ret (.inr <| .inl<|((8:Int),()))) (
 .br (ay .str false m0 ((Nk).getD (Int.toNat v20) ((bs []),(0:Int))).1) (
 .ret (.inr <| .inl<|((6:Int),()))) (
 .bd (F59 (0:Int) ((Nk).getD (Int.toNat v20) ((bs []),(0:Int))).2 (1000000000:Int)) fun y1 =>
 .br (!y1.1) (
 .ret (.inr <| .inl<|((2:Int),()))) (
 .ni (v20+(1:Int)) <|
 .ret (.inl (Nk,l5,(v20+(1:Int)),(bp .str m0 ((Nk).getD (Int.toNat v20) ((bs []),(0:Int))).1 true),())))))) (
 .ret (.inr <| .inr<|()))
noncomputable def agK:bt prog 43 none 0:=aW mixed cx34 K2 [] rfl agH agI rfl (agJ) (fun x=>ai (g34_0 x)) (fun x=>by kernel_rfl)
noncomputable def dd34:D prog 43 none 0:=dO [.l agK] (kd prog f34) 0
noncomputable def F34 (a0:Int×Int×Int×(List (ByteArray×Int))×List (Int×Int×Int×Int)):bR (Int×Unit) :=
 .br ((((a0.2.2.2.1).length:Nat):Int)==(0:Int)) (
 .ret ((4:Int),())) (
 .br (decide ((12:Int)<(((a0.2.2.2.1).length:Nat):Int))) (
 .ret ((1:Int),())) (
 .bd (.it g34_0 (a0.2.2.2.1,(((a0.2.2.2.1).length:Nat):Int),(0:Int),[],())) fun z2 =>
 .sm z2 (fun z3 =>
 .ret (z3.1,())) fun z4 =>
 .ret ((0:Int),())))
theorem abS:cM prog f34=some ⟨43,1,dd34.er,[.t 2],[some tI]⟩:=by kernel_rfl
noncomputable def ct34:Ct:=⟨34,[.c (.hole (.prod tI (.prod tI (.prod tI (.prod (.list (.prod .str tI)) (.list (.prod tI (.prod tI (.prod tI tI)))))))))],hI,fun x=>ai (F34 x.1)⟩
theorem VJ:ct34.Ok prog:=cu mixed K2 func34 abS (enters_of func34 rfl rfl) dd34 (by kernel_rfl) rfl (fun x=>by kernel_rfl)

/- 35 -/
noncomputable def cx35:Cx:=(aM [VG] [])
theorem K3:cx35.Ok prog:=ak ⟨Dz,trivial⟩ trivial
abbrev agO:au:=au.mk [(1,.c (.ptr 0 0)),(10,.c (.hole (.list (.prod tI (.prod tI (.prod tI tI)))))),(11,hI),(12,hI)] [(0,.cells [.hole tI,.hole tI,.hole tI,.hole (.list (.prod .str tI)),.hole (.list (.prod tI (.prod tI (.prod tI tI))))] false)] [.slot 1] []
abbrev agP:aT:=[(.ret,au.mk [(2,hI)] [] [] []),(.exit 0,au.mk [] [] [] [])]
noncomputable def agQ:D prog 45 none 0:=dO [] (pick (kd prog f35) [(0,false)]) 0
noncomputable def g35_0:(List (Int×Int×Int×Int))×Int×Int×Int×Int×Int×(List (ByteArray×Int))×(List (Int×Int×Int×Int))×Unit->bR (((List (Int×Int×Int×Int))×Int×Int×Int×Int×Int×(List (ByteArray×Int))×(List (Int×Int×Int×Int))×Unit) ⊕ ((Int×Unit) ⊕ ((Unit)))):=fun (v10,v11,v12,jV,jW,Gt,IY,Ri,_) =>
 .br (decide (v12<v11)) (
 .nb v12 (((v10).length:Nat):Int) <|
 .ni ((((IY).length:Nat):Int) - (1:Int)) <|
 .bd (F59 (0:Int) ((v10).getD (Int.toNat v12) ((0:Int),(0:Int),(0:Int),(0:Int))).1 ((((IY).length:Nat):Int) - (1:Int))) fun y0 =>
 .br (!y0.1) (
 .ret (.inr <| .inl<|((5:Int),()))) (
 .bd (F59 (0:Int) ((v10).getD (Int.toNat v12) ((0:Int),(0:Int),(0:Int),(0:Int))).2.1 (100000:Int)) fun y1 =>
 .br (!y1.1) (
 .ret (.inr <| .inl<|((2:Int),()))) (
 .bd (F59 (0:Int) ((v10).getD (Int.toNat v12) ((0:Int),(0:Int),(0:Int),(0:Int))).2.2.1 ((v10).getD (Int.toNat v12) ((0:Int),(0:Int),(0:Int),(0:Int))).2.1) fun y2 =>
 .br (!y2.1) (
 .ret (.inr <| .inl<|((2:Int),()))) (
 .bd (F59 (0:Int) ((v10).getD (Int.toNat v12) ((0:Int),(0:Int),(0:Int),(0:Int))).2.2.2 (1000:Int)) fun y3 =>
 .br (!y3.1) (
 .ret (.inr <| .inl<|((2:Int),()))) (
 .ni (v12+(1:Int)) <|
 .ret (.inl (v10,v11,(v12+(1:Int)),jV,jW,Gt,IY,Ri,()))))))) (
 .ret (.inr <| .inr<|()))
noncomputable def agR:bt prog 45 none 0:=aW mixed cx35 K3 [] rfl agO agP rfl (agQ) (fun x=>ai (g35_0 x)) (fun x=>by kernel_rfl)
noncomputable def dd35:D prog 45 none 0:=dO [.l agR] (kd prog f35) 0
noncomputable def F35 (a0:Int×Int×Int×(List (ByteArray×Int))×List (Int×Int×Int×Int)):bR (Int×Unit) :=
 .br (decide ((50:Int)<(((a0.2.2.2.2).length:Nat):Int))) (
 .ret ((1:Int),())) (
 .bd (.it g35_0 (a0.2.2.2.2,(((a0.2.2.2.2).length:Nat):Int),(0:Int),a0.1,a0.2.1,a0.2.2.1,a0.2.2.2.1,a0.2.2.2.2,())) fun z4 =>
 .sm z4 (fun z5 =>
 .ret (z5.1,())) fun z6 =>
 .ret ((0:Int),()))
theorem abT:cM prog f35=some ⟨45,1,dd35.er,[.t 2],[some tI]⟩:=by kernel_rfl
noncomputable def ct35:Ct:=⟨35,[.c (.hole (.prod tI (.prod tI (.prod tI (.prod (.list (.prod .str tI)) (.list (.prod tI (.prod tI (.prod tI tI)))))))))],hI,fun x=>ai (F35 x.1)⟩
theorem VK:ct35.Ok prog:=cu mixed K3 func35 abT (enters_of func35 rfl rfl) dd35 (by kernel_rfl) rfl (fun x=>by kernel_rfl)

/- 12 -/
noncomputable def cx12:Cx:=(aM [ct33,ct34,ct35] [])
theorem K4:cx12.Ok prog:=ak ⟨VI,VJ,VK,trivial⟩ trivial
noncomputable def agV:D prog 21 none 0:=dO [] (pick (kd prog f12) [(0,false)]) 0
noncomputable def agW:bt prog 21 none 0:=ae2 mixed cx12 K4 (agV) 4
noncomputable def dd12:D prog 21 none 0:=dO [.l agW] (kd prog f12) 0
noncomputable def F12 (a0:Int×Int×Int×(List (ByteArray×Int))×List (Int×Int×Int×Int)):bR (Int×Unit) :=
 .br (decide ((0:Int)<(3:Int))) (
 .bd (F33 (a0.1,a0.2.1,a0.2.2.1,a0.2.2.2.1,a0.2.2.2.2)) fun y0 =>
 .br (!(y0.1==(0:Int))) (
 .ret (y0.1,())) (
 .ni ((0:Int)+(1:Int)) <|
 .br (decide ((1:Int)<(3:Int))) (
 .bd (F34 (a0.1,a0.2.1,a0.2.2.1,a0.2.2.2.1,a0.2.2.2.2)) fun y1 =>
 .br (!(y1.1==(0:Int))) (
 .ret (y1.1,())) (
 .ni ((1:Int)+(1:Int)) <|
 .br (decide ((2:Int)<(3:Int))) (
 .bd (F35 (a0.1,a0.2.1,a0.2.2.1,a0.2.2.2.1,a0.2.2.2.2)) fun y2 =>
 .br (!(y2.1==(0:Int))) (
 .ret (y2.1,())) (
 .ni ((2:Int)+(1:Int)) <|
 .br (decide ((3:Int)<(3:Int))) (
 .no) (
 .ret ((0:Int),())))) (
 .ret ((0:Int),())))) (
 .ret ((0:Int),())))) (
 .ret ((0:Int),()))
theorem abU:cM prog f12=some ⟨21,1,dd12.er,[.t 2],[some tI]⟩:=by kernel_rfl
noncomputable def ct12:Ct:=⟨12,[.c (.hole (.prod tI (.prod tI (.prod tI (.prod (.list (.prod .str tI)) (.list (.prod tI (.prod tI (.prod tI tI)))))))))],hI,fun x=>ai (F12 x.1)⟩
theorem VL:ct12.Ok prog:=cu mixed K4 func12 abU (enters_of func12 rfl rfl) dd12 (by kernel_rfl) rfl (fun x=>by kernel_rfl)

/- 15 -/
noncomputable def cx15:Cx:=(aM [] [])
theorem VM:cx15.Ok prog:=ak trivial trivial
noncomputable def dd15:D prog 8 none 0:=dO [] (kd prog f15) 0
noncomputable def F15 (a0:Int) (a1:Int):bR (Int×Unit) :=
 .ni (a0 * a1) <|
 .ret ((a0 * a1),())
theorem abV:cM prog f15=some ⟨8,2,dd15.er,[.t 4],[some tI]⟩:=by kernel_rfl
noncomputable def ct15:Ct:=⟨15,[hI,hI],hI,fun x=>ai (F15 x.1 x.2.1)⟩
theorem VN:ct15.Ok prog:=cu mixed VM func15 abV (enters_of func15 rfl rfl) dd15 (by kernel_rfl) rfl (fun x=>by kernel_rfl)

/- 14 -/
noncomputable def cx14:Cx:=(aM [ct15] [])
theorem K5:cx14.Ok prog:=ak ⟨VN,trivial⟩ trivial
abbrev ag2:au:=au.mk [(1,.c (.fn0 15)),(5,.c (.bO 0 tI)),(13,.c (.hole (.list (.prod tI (.prod tI (.prod tI tI)))))),(14,hI),(15,hI)] [(0,.arr tI false)] [.slot 5] []
abbrev ag3:aT:=[(.exit 0,au.mk [(5,.c (.bO 0 tI))] [(0,.arr tI false)] [.slot 5] [])]
noncomputable def ag4:D prog 37 none 0:=dO [] (pick (kd prog f14) [(0,false)]) 0
noncomputable def g14_0:Nat×(List (Int×Int×Int×Int))×Int×Int×List Int×Unit->bR ((Nat×(List (Int×Int×Int×Int))×Int×Int×List Int×Unit) ⊕ ((Nat×List Int×Unit))):=fun (nv5,mD,tJ,di,b0,_) =>
 .br (decide (di<tJ)) (
 .nb di (((mD).length:Nat):Int) <|
 .nb ((mD).getD (Int.toNat di) ((0:Int),(0:Int),(0:Int),(0:Int))).1 ((nv5:Nat):Int) <|
 .nd (decide (((0:Nat)+(Int.toNat ((mD).getD (Int.toNat di) ((0:Int),(0:Int),(0:Int),(0:Int))).1))<(b0).length)) <|
 .ni (((mD).getD (Int.toNat di) ((0:Int),(0:Int),(0:Int),(0:Int))).2.1 - ((mD).getD (Int.toNat di) ((0:Int),(0:Int),(0:Int),(0:Int))).2.2.1) <|
 .bd (F15 (((mD).getD (Int.toNat di) ((0:Int),(0:Int),(0:Int),(0:Int))).2.1 - ((mD).getD (Int.toNat di) ((0:Int),(0:Int),(0:Int),(0:Int))).2.2.1) ((mD).getD (Int.toNat di) ((0:Int),(0:Int),(0:Int),(0:Int))).2.2.2) fun y0 =>
 .ni (((b0).getD ((0:Nat)+(Int.toNat ((mD).getD (Int.toNat di) ((0:Int),(0:Int),(0:Int),(0:Int))).1)) (0:Int))+y0.1) <|
 .nb ((mD).getD (Int.toNat di) ((0:Int),(0:Int),(0:Int),(0:Int))).1 ((nv5:Nat):Int) <|
 .nd (decide (((0:Nat)+(Int.toNat ((mD).getD (Int.toNat di) ((0:Int),(0:Int),(0:Int),(0:Int))).1))<(b0).length)) <|
 .ni (di+(1:Int)) <|
 .ret (.inl (nv5,mD,tJ,(di+(1:Int)),((b0).set ((0:Nat)+(Int.toNat ((mD).getD (Int.toNat di) ((0:Int),(0:Int),(0:Int),(0:Int))).1)) (((b0).getD ((0:Nat)+(Int.toNat ((mD).getD (Int.toNat di) ((0:Int),(0:Int),(0:Int),(0:Int))).1)) (0:Int))+y0.1)),()))) (
 .ret (.inr (nv5,b0,())))
noncomputable def ag5:bt prog 37 none 0:=aW mixed cx14 K5 [] rfl ag2 ag3 rfl (ag4) (fun x=>ai (g14_0 x)) (fun x=>by kernel_rfl)
noncomputable def dd14:D prog 37 none 0:=dO [.l ag5] (kd prog f14) 0
noncomputable def F14 (a0:Int×Int×Int×(List (ByteArray×Int))×List (Int×Int×Int×Int)):bR (List Int×Unit) :=
 .nb (((a0.2.2.2.1).length:Nat):Int) ((cn:Nat):Int) <|
 .bd (.it g14_0 ((Int.toNat (((a0.2.2.2.1).length:Nat):Int)),a0.2.2.2.2,(((a0.2.2.2.2).length:Nat):Int),(0:Int),(List.replicate (Int.toNat (((a0.2.2.2.1).length:Nat):Int)) (0:Int)),())) fun z1 =>
 .ret ((((z1.2.1).drop (0:Nat)).take z1.1),())
theorem abW:cM prog f14=some ⟨37,2,dd14.er,[.t 4],[some tL]⟩:=by kernel_rfl
noncomputable def ct14:Ct:=⟨14,[.c (.hole (.prod tI (.prod tI (.prod tI (.prod (.list (.prod .str tI)) (.list (.prod tI (.prod tI (.prod tI tI))))))))),.c (.fn0 15)],hL,fun x=>ai (F14 x.1)⟩
theorem VO:ct14.Ok prog:=cu mixed K5 func14 abW (enters_of func14 rfl rfl) dd14 (by kernel_rfl) rfl (fun x=>by kernel_rfl)

/- 13 -/
noncomputable def cx13:Cx:=(aM [] [])
theorem K6:cx13.Ok prog:=ak trivial trivial
abbrev ag9:au:=au.mk [(1,hL),(2,.c (.ptr 0 0)),(4,.c (.ptr 1 0)),(5,.c (.ptr 2 0)),(9,.c (.hole (.list (.prod .str tI)))),(10,hI),(11,hI)] [(0,.cells [.hole tI,.hole tI,.hole tI,.hole (.list (.prod .str tI)),.hole (.list (.prod tI (.prod tI (.prod tI tI))))] false),(1,.cells [.cw,.hole tI] false),(2,.cells [.bO 3 (.prod (.prod .str tI) (.prod tI tI)),.hole tI] false),(3,.arr (.prod (.prod .str tI) (.prod tI tI)) false)] [.slot 2,.slot 4,.slot 5,.cell 2 0] []
abbrev aha:aT:=[(.exit 0,au.mk [(2,.c (.ptr 0 0)),(4,.c (.ptr 1 0)),(5,.c (.ptr 2 0))] [(0,.cells [.hole tI,.hole tI,.hole tI,.hole (.list (.prod .str tI)),.hole (.list (.prod tI (.prod tI (.prod tI tI))))] false),(1,.cells [.cw,.hole tI] false),(2,.cells [.bO 3 (.prod (.prod .str tI) (.prod tI tI)),.hole tI] false),(3,.arr (.prod (.prod .str tI) (.prod tI tI)) false)] [.slot 2,.slot 4,.slot 5,.cell 2 0] [])]
noncomputable def ahb:D prog 47 none 0:=dO [] (pick (kd prog f13) [(0,false)]) 0
noncomputable def g13_0:List Int×(List (ByteArray×Int))×Int×Int×Int×Int×Int×(List (ByteArray×Int))×(List (Int×Int×Int×Int))×Int×Nat×Int×(List ((ByteArray×Int)×Int×Int))×Unit->bR ((List Int×(List (ByteArray×Int))×Int×Int×Int×Int×Int×(List (ByteArray×Int))×(List (Int×Int×Int×Int))×Int×Nat×Int×(List ((ByteArray×Int)×Int×Int))×Unit) ⊕ ((Int×Int×Int×(List (ByteArray×Int))×(List (Int×Int×Int×Int))×Int×Nat×Int×(List ((ByteArray×Int)×Int×Int))×Unit))):=fun (v1,v9,v10,v11,jV,jW,Gt,IY,Ri,iP,iE,tP,b3,_) =>
 .br (decide (v11<v10)) (
 .nb v11 (((v9).length:Nat):Int) <|
 .nb v11 (((v1).length:Nat):Int) <|
 .nd (decide ((iE+(((((((((v9).getD (Int.toNat v11) ((bs []),(0:Int))).1,((v9).getD (Int.toNat v11) ((bs []),(0:Int))).2),v11,((v1).getD (Int.toNat v11) (0:Int)))::[])).drop (0:Nat)).take (1:Nat))).length)<cn)) <|
 .nb v11 (((v1).length:Nat):Int) <|
 .br (decide ((0:Int)<((v1).getD (Int.toNat v11) (0:Int)))) (
 .ni (tP+((v9).getD (Int.toNat v11) ((bs []),(0:Int))).2) <|
 .ni (v11+(1:Int)) <|
 .ret (.inl (v1,v9,v10,(v11+(1:Int)),jV,jW,Gt,IY,Ri,iP,(iE+(((((((((v9).getD (Int.toNat v11) ((bs []),(0:Int))).1,((v9).getD (Int.toNat v11) ((bs []),(0:Int))).2),v11,((v1).getD (Int.toNat v11) (0:Int)))::[])).drop (0:Nat)).take (1:Nat))).length),(tP+((v9).getD (Int.toNat v11) ((bs []),(0:Int))).2),((((b3).drop (0:Nat)).take iE)++((((((((v9).getD (Int.toNat v11) ((bs []),(0:Int))).1,((v9).getD (Int.toNat v11) ((bs []),(0:Int))).2),v11,((v1).getD (Int.toNat v11) (0:Int)))::[])).drop (0:Nat)).take (1:Nat))),()))) (
 .ni (v11+(1:Int)) <|
 .ret (.inl (v1,v9,v10,(v11+(1:Int)),jV,jW,Gt,IY,Ri,iP,(iE+(((((((((v9).getD (Int.toNat v11) ((bs []),(0:Int))).1,((v9).getD (Int.toNat v11) ((bs []),(0:Int))).2),v11,((v1).getD (Int.toNat v11) (0:Int)))::[])).drop (0:Nat)).take (1:Nat))).length),tP,((((b3).drop (0:Nat)).take iE)++((((((((v9).getD (Int.toNat v11) ((bs []),(0:Int))).1,((v9).getD (Int.toNat v11) ((bs []),(0:Int))).2),v11,((v1).getD (Int.toNat v11) (0:Int)))::[])).drop (0:Nat)).take (1:Nat))),())))) (
 .ret (.inr (jV,jW,Gt,IY,Ri,iP,iE,tP,b3,())))
noncomputable def ahc:bt prog 47 none 0:=aW mixed cx13 K6 [] rfl ag9 aha rfl (ahb) (fun x=>ai (g13_0 x)) (fun x=>by kernel_rfl)
noncomputable def dd13:D prog 47 none 0:=dO [.l ahc] (kd prog f13) 0
noncomputable def F13 (a0:Int×Int×Int×(List (ByteArray×Int))×List (Int×Int×Int×Int)) (a1:List Int):bR (((List ((ByteArray×Int)×Int×Int))×Int)×Unit) :=
 .bd (.it g13_0 (a1,a0.2.2.2.1,(((a0.2.2.2.1).length:Nat):Int),(0:Int),a0.1,a0.2.1,a0.2.2.1,a0.2.2.2.1,a0.2.2.2.2,(0:Int),(0:Nat),(0:Int),[],())) fun z0 =>
 .ret (((((z0.2.2.2.2.2.2.2.2.1).drop (0:Nat)).take z0.2.2.2.2.2.2.1),(uo z0.2.2.2.2.2.2.2.1 z0.1)),())
theorem abX:cM prog f13=some ⟨47,2,dd13.er,[.cell 4 true 2],[some (.prod (.list (.prod (.prod .str tI) (.prod tI tI))) tI)]⟩:=by kernel_rfl
noncomputable def ct13:Ct:=⟨13,[.c (.hole (.prod tI (.prod tI (.prod tI (.prod (.list (.prod .str tI)) (.list (.prod tI (.prod tI (.prod tI tI))))))))),hL],.c (.hole (.prod (.list (.prod (.prod .str tI) (.prod tI tI))) tI)),fun x=>ai (F13 x.1 x.2.1)⟩
theorem VP:ct13.Ok prog:=cu mixed K6 func13 abX (enters_of func13 rfl rfl) dd13 (by kernel_rfl) rfl (fun x=>by kernel_rfl)

/- 36 -/
noncomputable def cx36:Cx:=(aM [] [])
theorem VQ:cx36.Ok prog:=ak trivial trivial
noncomputable def dd36:D prog 4 none 0:=dO [] (kd prog f36) 0
noncomputable def F36 (a0:(List ((ByteArray×Int)×Int×Int))×Int):bR (((List ((ByteArray×Int)×Int×Int))×Int)×Unit) :=
 .ret ((a0.1,a0.2),())
theorem abY:cM prog f36=some ⟨4,1,dd36.er,[.t 2],[none]⟩:=by kernel_rfl
noncomputable def ct36:Ct:=⟨36,[.c (.hole (.prod (.list (.prod (.prod .str tI) (.prod tI tI))) tI))],.fn 60 [] [.fe (.prod (.list (.prod (.prod .str tI) (.prod tI tI))) tI)],fun x=>ai (F36 x.1)⟩
theorem VR:ct36.Ok prog:=cu mixed VQ func36 abY (enters_of func36 rfl rfl) dd36 (by kernel_rfl) rfl (fun x=>by kernel_rfl)

/- 18, lent -/
abbrev pH18:au:=au.mk [(0,.c (.hole (.list (.prod (.prod .str tI) (.prod tI tI)))))] [] [] []
abbrev qH18:au:=au.mk [(0,.c (.bO 0 (.prod (.prod .str tI) (.prod tI tI))))] [(0,.arr (.prod (.prod .str tI) (.prod tI tI)) false)] [.slot 0] []
noncomputable def ahh:Cx:=(aM [] [])
theorem Rj:ahh.Ok prog:=ak trivial trivial
noncomputable def YM:D prog 8 none 0:=dO [] (kd prog f18) 0
noncomputable def FH18 (v0:List ((ByteArray×Int)×Int×Int)):bR (Nat×(List ((ByteArray×Int)×Int×Int))×Unit) :=
 .br ((((v0).length:Nat):Int)==(0:Int)) (
 .am inferInstance (
 .ret ((0:Nat),[],())) (
 .nd (decide (((0:Nat)+(v0).length)<cn)) <|
 .ret (((0:Nat)+(v0).length),(((([]).drop (0:Nat)).take (0:Nat))++v0),()))) (
 .nd (decide (((0:Nat)+(v0).length)<cn)) <|
 .ret (((0:Nat)+(v0).length),(((([]).drop (0:Nat)).take (0:Nat))++v0),()))
theorem VS:cM prog f18=some ⟨8,1,YM.er,[.t 2],[some (.list (.prod (.prod .str tI) (.prod tI tI)))]⟩:=by kernel_rfl
noncomputable def abZ:Ht:=⟨18,pH18,qH18,(fun x=>ai (FH18 x.1))⟩
theorem K7:abZ.Ok prog:=bV mixed Rj rfl func18 VS (enters_of func18 rfl rfl) YM (by kernel_rfl) rfl rfl ⟨_,rfl⟩ rfl (pre:=[]) rfl (fun x=>by kernel_rfl)

/- 62 -/
noncomputable def cx62:Cx:=(aM [] [])
theorem VT:cx62.Ok prog:=ak trivial trivial
noncomputable def dd62:D prog 6 none 0:=dO [] (kd prog f62) 0
noncomputable def F62 (a0:ByteArray×Int×Int×Int):bR (Bool×Unit) :=
 .ret ((a0.2.2.2==(0:Int)),())
theorem ab0:cM prog f62=some ⟨6,1,dd62.er,[.t 2],[some .bool]⟩:=by kernel_rfl
noncomputable def ab1:Ct:=⟨62,[.c (.hole (.prod .str (.prod tI (.prod tI tI))))],.c (.hole .bool),fun x=>ai (F62 x.1)⟩
theorem K8:ab1.Ok prog:=cu mixed VT func62 ab0 (enters_of func62 rfl rfl) dd62 (by kernel_rfl) rfl (fun x=>by kernel_rfl)

/- 88 -/
noncomputable def cx88:Cx:=(aM [ab1] [])
theorem K9:cx88.Ok prog:=ak ⟨K8,trivial⟩ trivial
abbrev ahk:au:=au.mk [(0,.c (.hole (.list (.prod (.prod .str tI) (.prod tI tI))))),(1,.c (.fn0 62)),(7,hI),(8,hI)] [] [] []
abbrev ahl:aT:=[(.ret,au.mk [(4,hI)] [] [] []),(.exit 0,au.mk [] [] [] [])]
noncomputable def ahm:D prog 19 none 0:=dO [] (pick (kd prog f88) [(0,false)]) 0
noncomputable def g88_0:(List ((ByteArray×Int)×Int×Int))×Int×Int×Unit->bR (((List ((ByteArray×Int)×Int×Int))×Int×Int×Unit) ⊕ ((Int×Unit) ⊕ ((Unit)))):=fun (v0,v7,v8,_) =>
 .br (decide (v8<v7)) (
 .nb v8 (((v0).length:Nat):Int) <|
 .bd (F62 (((v0).getD (Int.toNat v8) (((bs []),(0:Int)),(0:Int),(0:Int))).1.1,((v0).getD (Int.toNat v8) (((bs []),(0:Int)),(0:Int),(0:Int))).1.2,((v0).getD (Int.toNat v8) (((bs []),(0:Int)),(0:Int),(0:Int))).2.1,((v0).getD (Int.toNat v8) (((bs []),(0:Int)),(0:Int),(0:Int))).2.2)) fun y0 =>
 .br y0.1 (
 .ret (.inr <| .inl<|(v8,()))) (
 .ni (v8+(1:Int)) <|
 .ret (.inl (v0,v7,(v8+(1:Int)),())))) (
 .ret (.inr <| .inr<|()))
noncomputable def ahn:bt prog 19 none 0:=aW mixed cx88 K9 [] rfl ahk ahl rfl (ahm) (fun x=>ai (g88_0 x)) (fun x=>by kernel_rfl)
noncomputable def dd88:D prog 19 none 0:=dO [.l ahn] (kd prog f88) 0
noncomputable def F88 (a0:List ((ByteArray×Int)×Int×Int)):bR (Int×Unit) :=
 .bd (.it g88_0 (a0,(((a0).length:Nat):Int),(0:Int),())) fun z1 =>
 .sm z1 (fun z2 =>
 .ret (z2.1,())) fun z3 =>
 .ret ((-1:Int),())
theorem ab2:cM prog f88=some ⟨19,2,dd88.er,[.t 4],[some tI]⟩:=by kernel_rfl
noncomputable def ct88:Ct:=⟨88,[.c (.hole (.list (.prod (.prod .str tI) (.prod tI tI)))),.c (.fn0 62)],hI,fun x=>ai (F88 x.1)⟩
theorem VU:ct88.Ok prog:=cu mixed K9 func88 ab2 (enters_of func88 rfl rfl) dd88 (by kernel_rfl) rfl (fun x=>by kernel_rfl)

/- 61, lent -/
abbrev pH61:au:=au.mk [(0,.c (.bO 0 (.prod (.prod .str tI) (.prod tI tI)))),(1,.c (.fn0 62))] [(0,.arr (.prod (.prod .str tI) (.prod tI tI)) false)] [.slot 0] []
abbrev qH61:au:=au.mk [(0,.c (.nT 0 (.prod (.prod .str tI) (.prod tI tI))))] [(0,.arr (.prod (.prod .str tI) (.prod tI tI)) false)] [] []
noncomputable def YN:Cx:=(aM [ct88,ab1] [])
theorem Gu:YN.Ok prog:=ak ⟨VU,K8,trivial⟩ trivial
abbrev ab3:au:=au.mk [(0,.c (.bO 0 (.prod (.prod .str tI) (.prod tI tI)))),(1,.c (.fn0 62)),(5,hI),(6,hI)] [(0,.arr (.prod (.prod .str tI) (.prod tI tI)) false)] [] []
abbrev ab4:aT:=[(.exit 0,au.mk [(0,.c (.bO 0 (.prod (.prod .str tI) (.prod tI tI)))),(5,hI)] [(0,.arr (.prod (.prod .str tI) (.prod tI tI)) false)] [] [])]
noncomputable def ab5:D prog 42 none 1:=dO [] (pick (kd prog f61) [(0,false)]) 0
noncomputable def gH61_0:Nat×Int×Int×(List ((ByteArray×Int)×Int×Int))×Unit->bR ((Nat×Int×Int×(List ((ByteArray×Int)×Int×Int))×Unit) ⊕ ((Nat×Int×(List ((ByteArray×Int)×Int×Int))×Unit))):=fun (bI,v5,v6,b0,_) =>
 .br (decide (v6<((bI:Nat):Int))) (
 .nb v6 ((bI:Nat):Int) <|
 .nd (decide (((0:Nat)+(Int.toNat v6))<(b0).length)) <|
 .bd (F62 (((b0).getD ((0:Nat)+(Int.toNat v6)) (((bs []),(0:Int)),(0:Int),(0:Int))).1.1,((b0).getD ((0:Nat)+(Int.toNat v6)) (((bs []),(0:Int)),(0:Int),(0:Int))).1.2,((b0).getD ((0:Nat)+(Int.toNat v6)) (((bs []),(0:Int)),(0:Int),(0:Int))).2.1,((b0).getD ((0:Nat)+(Int.toNat v6)) (((bs []),(0:Int)),(0:Int),(0:Int))).2.2)) fun y1 =>
 .br (!y1.1) (
 .nb v5 ((bI:Nat):Int) <|
 .nd (decide (((0:Nat)+(Int.toNat v5))<(b0).length)) <|
 .ni (v5+(1:Int)) <|
 .ni (v6+(1:Int)) <|
 .ret (.inl (bI,(v5+(1:Int)),(v6+(1:Int)),((b0).set ((0:Nat)+(Int.toNat v5)) ((((b0).getD ((0:Nat)+(Int.toNat v6)) (((bs []),(0:Int)),(0:Int),(0:Int))).1.1,((b0).getD ((0:Nat)+(Int.toNat v6)) (((bs []),(0:Int)),(0:Int),(0:Int))).1.2),((b0).getD ((0:Nat)+(Int.toNat v6)) (((bs []),(0:Int)),(0:Int),(0:Int))).2.1,((b0).getD ((0:Nat)+(Int.toNat v6)) (((bs []),(0:Int)),(0:Int),(0:Int))).2.2)),()))) (
 .ni (v6+(1:Int)) <|
 .ret (.inl (bI,v5,(v6+(1:Int)),b0,())))) (
 .ret (.inr (bI,v5,b0,())))
noncomputable def ab6:bt prog 42 none 1:=aW mixed YN Gu [0] rfl ab3 ab4 rfl (ab5) (fun x=>ai (gH61_0 x)) (fun x=>by kernel_rfl)
noncomputable def YO:D prog 42 none 1:=dO [.l ab6] (kd prog f61) 0
noncomputable def FH61 (bI:Nat) (b0:List ((ByteArray×Int)×Int×Int)):bR (Nat×Nat×(List ((ByteArray×Int)×Int×Int))×Unit) :=
 .bd (F88 (((b0).drop (0:Nat)).take bI)) fun y0 =>
 .br (y0.1==(-1:Int)) (
 .ret ((0:Nat),bI,b0,())) (
 .ni (y0.1+(1:Int)) <|
 .bd (.it gH61_0 (bI,y0.1,(y0.1+(1:Int)),b0,())) fun z2 =>
 .nd (decide ((0:Int)<=z2.2.1)) <|
 .nd (decide (z2.2.1<=((z2.1:Nat):Int))) <|
 .nd (decide (((z2.1:Nat):Int)<=((z2.1:Nat):Int))) <|
 .nd (decide ((0:Int)<=(0:Int))) <|
 .nd (decide ((0:Int)<=z2.2.1)) <|
 .nd (decide (z2.2.1<=((z2.1:Nat):Int))) <|
 .ret (((0:Nat)+(Int.toNat (0:Int))),((Int.toNat z2.2.1) - (Int.toNat (0:Int))),(xJ (((bs []),(0:Int)),(0:Int),(0:Int)) z2.2.2.1 ((0:Nat)+(Int.toNat z2.2.1)) ((Int.toNat ((z2.1:Nat):Int)) - (Int.toNat z2.2.1))),()))
theorem VV:cM prog f61=some ⟨42,2,YO.er,[.t 4],[some (.list (.prod (.prod .str tI) (.prod tI tI)))]⟩:=by kernel_rfl
noncomputable def ht61:Ht:=⟨61,pH61,qH61,(fun x=>ai (FH61 x.1 x.2.1))⟩
theorem VW:ht61.Ok prog:=bV mixed Gu rfl func61 VV (enters_of func61 rfl rfl) YO (by kernel_rfl) rfl rfl ⟨_,rfl⟩ rfl (pre:=[0]) rfl (fun x=>by kernel_rfl)

/- 38 -/
noncomputable def cx38:Cx:=(aM [] [])
theorem VX:cx38.Ok prog:=ak trivial trivial
noncomputable def dd38:D prog 9 none 0:=dO [] (kd prog f38) 0
noncomputable def F38 (a0:ByteArray×Int×Int×Int):bR ((Int×Int)×Unit) :=
 .ret ((a0.2.1,a0.2.2.2),())
theorem ab7:cM prog f38=some ⟨9,1,dd38.er,[.cell 2 true 2],[some (.prod tI tI)]⟩:=by kernel_rfl
noncomputable def ab8:Ct:=⟨38,[.c (.hole (.prod .str (.prod tI (.prod tI tI))))],.c (.hole (.prod tI tI)),fun x=>ai (F38 x.1)⟩
theorem Lf:ab8.Ok prog:=cu mixed VX func38 ab7 (enters_of func38 rfl rfl) dd38 (by kernel_rfl) rfl (fun x=>by kernel_rfl)

/- 37 -/
noncomputable def cx37:Cx:=(aM [UA] [])
theorem VY:cx37.Ok prog:=ak ⟨Dp,trivial⟩ trivial
noncomputable def dd37:D prog 16 none 0:=dO [] (kd prog f37) 0
noncomputable def F37 (a0:Int×Int) (a1:Int×Int):bR (Int×Unit) :=
 .ni (a0.1 * a1.2) <|
 .ni (a1.1 * a0.2) <|
 .bd (F22 (a0.1 * a1.2) (a1.1 * a0.2)) fun y0 =>
 .ret (y0.1,())
theorem ab9:cM prog f37=some ⟨16,2,dd37.er,[.t 4],[some tI]⟩:=by kernel_rfl
noncomputable def acd:Ct:=⟨37,[.c (.hole (.prod tI tI)),.c (.hole (.prod tI tI))],hI,fun x=>ai (F37 x.1 x.2.1)⟩
theorem Lg:acd.Ok prog:=cu mixed VY func37 ab9 (enters_of func37 rfl rfl) dd37 (by kernel_rfl) rfl (fun x=>by kernel_rfl)

/- 64 -/
noncomputable def cx64:Cx:=(aM [ab8,acd] [])
theorem VZ:cx64.Ok prog:=ak ⟨Lf,Lg,trivial⟩ trivial
noncomputable def dd64:D prog 12 none 0:=dO [] (kd prog f64) 0
noncomputable def F64 (a0:ByteArray×Int×Int×Int) (a1:ByteArray×Int×Int×Int):bR (Int×Unit) :=
 .bd (F38 (a0.1,a0.2.1,a0.2.2.1,a0.2.2.2)) fun y0 =>
 .bd (F38 (a1.1,a1.2.1,a1.2.2.1,a1.2.2.2)) fun y1 =>
 .bd (F37 (y0.1.1,y0.1.2) (y1.1.1,y1.1.2)) fun y2 =>
 .ret (y2.1,())
theorem ace:cM prog f64=some ⟨12,3,dd64.er,[.t 5],[some tI]⟩:=by kernel_rfl
noncomputable def acf:Ct:=⟨64,[.c (.hole (.prod .str (.prod tI (.prod tI tI)))),.c (.hole (.prod .str (.prod tI (.prod tI tI)))),.c (.Iq (.cons (.fn0 37) .nil))],hI,fun x=>ai (F64 x.1 x.2.1)⟩
theorem Lh:acf.Ok prog:=cu mixed VZ func64 ace (enters_of func64 rfl rfl) dd64 (by kernel_rfl) rfl (fun x=>by kernel_rfl)

/- 65, lent -/
abbrev pH65:au:=au.mk [(0,.c (.nT 0 (.prod (.prod .str tI) (.prod tI tI)))),(1,hI),(2,hI),(3,.fn 64 [] [.ptr 1 0])] [(0,.arr (.prod (.prod .str tI) (.prod tI tI)) false),(1,.cells [.fn0 37] false)] [.slot 0,.part 3 0] []
abbrev qH65:au:=au.mk [(0,.c .any)] [(1,.cells [.fn0 37] false),(0,.arr (.prod (.prod .str tI) (.prod tI tI)) false)] [] []
noncomputable def Rk:Cx:=(aM [acf] [])
theorem zD:Rk.Ok prog:=ak ⟨Lh,trivial⟩ trivial
abbrev acg:au:=au.mk [(0,.c (.nT 0 (.prod (.prod .str tI) (.prod tI tI)))),(1,hI),(2,hI),(3,.fn 64 [] [.ptr 1 0]),(8,hI),(9,hI)] [(0,.arr (.prod (.prod .str tI) (.prod tI tI)) false),(1,.cells [.fn0 37] false)] [] []
abbrev ach:aT:=[(.exit 2,au.mk [(0,.c (.nT 0 (.prod (.prod .str tI) (.prod tI tI)))),(1,hI),(2,hI),(3,.fn 64 [] [.ptr 1 0]),(8,hI)] [(0,.arr (.prod (.prod .str tI) (.prod tI tI)) false),(1,.cells [.fn0 37] false)] [] [])]
noncomputable def aci:D prog 53 none 2:=dO [] (pick (kd prog f65) [(0,false),(0,false)]) 0
noncomputable def gH65_1:Nat×Nat×Int×Int×Int×Int×(List ((ByteArray×Int)×Int×Int))×Unit->bR ((Nat×Nat×Int×Int×Int×Int×(List ((ByteArray×Int)×Int×Int))×Unit) ⊕ ((Nat×Nat×Int×Int×Int×(List ((ByteArray×Int)×Int×Int))×Unit))):=fun (bu,bI,v1,v2,v8,v9,b0,_) =>
 .br (decide (v1<v9)) (
 .nb v9 ((bI:Nat):Int) <|
 .nd (decide ((bu+(Int.toNat v9))<(b0).length)) <|
 .ni (v9 - (1:Int)) <|
 .nb (v9 - (1:Int)) ((bI:Nat):Int) <|
 .nd (decide ((bu+(Int.toNat (v9 - (1:Int))))<(b0).length)) <|
 .bd (F64 (((b0).getD (bu+(Int.toNat v9)) (((bs []),(0:Int)),(0:Int),(0:Int))).1.1,((b0).getD (bu+(Int.toNat v9)) (((bs []),(0:Int)),(0:Int),(0:Int))).1.2,((b0).getD (bu+(Int.toNat v9)) (((bs []),(0:Int)),(0:Int),(0:Int))).2.1,((b0).getD (bu+(Int.toNat v9)) (((bs []),(0:Int)),(0:Int),(0:Int))).2.2) (((b0).getD (bu+(Int.toNat (v9 - (1:Int)))) (((bs []),(0:Int)),(0:Int),(0:Int))).1.1,((b0).getD (bu+(Int.toNat (v9 - (1:Int)))) (((bs []),(0:Int)),(0:Int),(0:Int))).1.2,((b0).getD (bu+(Int.toNat (v9 - (1:Int)))) (((bs []),(0:Int)),(0:Int),(0:Int))).2.1,((b0).getD (bu+(Int.toNat (v9 - (1:Int)))) (((bs []),(0:Int)),(0:Int),(0:Int))).2.2)) fun y0 =>
 .br (decide (y0.1<(0:Int))) (
 .ni (v9 - (1:Int)) <|
 .ni (v9 - (1:Int)) <|
 .nb (v9 - (1:Int)) ((bI:Nat):Int) <|
 .nd (decide ((bu+(Int.toNat (v9 - (1:Int))))<(b0).length)) <|
 .nb v9 ((bI:Nat):Int) <|
 .nd (decide ((bu+(Int.toNat v9))<(b0).length)) <|
 .nb v9 ((bI:Nat):Int) <|
 .nd (decide ((bu+(Int.toNat v9))<(b0).length)) <|
 .nb (v9 - (1:Int)) ((bI:Nat):Int) <|
 .nd (decide ((bu+(Int.toNat (v9 - (1:Int))))<(((b0).set (bu+(Int.toNat v9)) ((((b0).getD (bu+(Int.toNat (v9 - (1:Int)))) (((bs []),(0:Int)),(0:Int),(0:Int))).1.1,((b0).getD (bu+(Int.toNat (v9 - (1:Int)))) (((bs []),(0:Int)),(0:Int),(0:Int))).1.2),((b0).getD (bu+(Int.toNat (v9 - (1:Int)))) (((bs []),(0:Int)),(0:Int),(0:Int))).2.1,((b0).getD (bu+(Int.toNat (v9 - (1:Int)))) (((bs []),(0:Int)),(0:Int),(0:Int))).2.2))).length)) <|
 .ni (v9 - (1:Int)) <|
 .ret (.inl (bu,bI,v1,v2,v8,(v9 - (1:Int)),((((b0).set (bu+(Int.toNat v9)) ((((b0).getD (bu+(Int.toNat (v9 - (1:Int)))) (((bs []),(0:Int)),(0:Int),(0:Int))).1.1,((b0).getD (bu+(Int.toNat (v9 - (1:Int)))) (((bs []),(0:Int)),(0:Int),(0:Int))).1.2),((b0).getD (bu+(Int.toNat (v9 - (1:Int)))) (((bs []),(0:Int)),(0:Int),(0:Int))).2.1,((b0).getD (bu+(Int.toNat (v9 - (1:Int)))) (((bs []),(0:Int)),(0:Int),(0:Int))).2.2))).set (bu+(Int.toNat (v9 - (1:Int)))) ((((b0).getD (bu+(Int.toNat v9)) (((bs []),(0:Int)),(0:Int),(0:Int))).1.1,((b0).getD (bu+(Int.toNat v9)) (((bs []),(0:Int)),(0:Int),(0:Int))).1.2),((b0).getD (bu+(Int.toNat v9)) (((bs []),(0:Int)),(0:Int),(0:Int))).2.1,((b0).getD (bu+(Int.toNat v9)) (((bs []),(0:Int)),(0:Int),(0:Int))).2.2)),()))) (
 .ret (.inr (bu,bI,v1,v2,v8,b0,())))) (
 .ret (.inr (bu,bI,v1,v2,v8,b0,())))
noncomputable def acj:bt prog 53 none 2:=aW mixed Rk zD [0,1] rfl acg ach rfl (aci) (fun x=>ai (gH65_1 x)) (fun x=>by kernel_rfl)
abbrev ack:au:=au.mk [(0,.c (.nT 0 (.prod (.prod .str tI) (.prod tI tI)))),(1,hI),(2,hI),(3,.fn 64 [] [.ptr 1 0]),(8,hI)] [(0,.arr (.prod (.prod .str tI) (.prod tI tI)) false),(1,.cells [.fn0 37] false)] [] []
abbrev acm:aT:=[(.exit 0,au.mk [] [(1,.cells [.fn0 37] false),(0,.arr (.prod (.prod .str tI) (.prod tI tI)) false)] [] [])]
noncomputable def acn:D prog 53 none 2:=dO [.l acj] (pick (kd prog f65) [(0,false)]) 0
noncomputable def gH65_0:Nat×Nat×Int×Int×Int×(List ((ByteArray×Int)×Int×Int))×Unit->bR ((Nat×Nat×Int×Int×Int×(List ((ByteArray×Int)×Int×Int))×Unit) ⊕ (((List ((ByteArray×Int)×Int×Int))×Unit))):=fun (bu,bI,v1,v2,v8,b0,_) =>
 .br (decide (v8<v2)) (
 .bd (.it gH65_1 (bu,bI,v1,v2,v8,v8,b0,())) fun z1 =>
 .ni (z1.2.2.2.2.1+(1:Int)) <|
 .ret (.inl (z1.1,z1.2.1,z1.2.2.1,z1.2.2.2.1,(z1.2.2.2.2.1+(1:Int)),z1.2.2.2.2.2.1,()))) (
 .ret (.inr (b0,())))
noncomputable def aco:bt prog 53 none 2:=aW mixed Rk zD [0,1] rfl ack acm rfl (acn) (fun x=>ai (gH65_0 x)) (fun x=>by kernel_rfl)
noncomputable def YP:D prog 53 none 2:=dO [.l aco] (kd prog f65) 0
noncomputable def FH65 (bu:Nat) (bI:Nat) (v1:Int) (v2:Int) (b0:List ((ByteArray×Int)×Int×Int)):bR ((List ((ByteArray×Int)×Int×Int))×Unit) :=
 .ni (v1+(1:Int)) <|
 .bd (.it gH65_0 (bu,bI,v1,v2,(v1+(1:Int)),b0,())) fun z2 =>
 .ret (z2.1,())
theorem V0:cM prog f65=some ⟨53,4,YP.er,[],[]⟩:=by kernel_rfl
noncomputable def ht65:Ht:=⟨65,pH65,qH65,(fun x=>ai (FH65 x.1 x.2.1 x.2.2.1 x.2.2.2.1 x.2.2.2.2.1))⟩
theorem V1:ht65.Ok prog:=bV mixed zD rfl func65 V0 (enters_of func65 rfl rfl) YP (by kernel_rfl) rfl rfl ⟨_,rfl⟩ rfl (pre:=[0,1]) rfl (fun x=>by kernel_rfl)

/- 142, lent -/
abbrev ahv:au:=au.mk [(0,.c (.nT 0 (.prod (.prod .str tI) (.prod tI tI)))),(1,hI),(2,hI),(3,hI),(4,.fn 64 [] [.ptr 1 0])] [(0,.arr (.prod (.prod .str tI) (.prod tI tI)) false),(1,.cells [.fn0 37] false)] [.slot 0,.part 4 0] []
abbrev ahw:au:=au.mk [(0,.c .any)] [(1,.cells [.fn0 37] false),(0,.arr (.prod (.prod .str tI) (.prod tI tI)) false)] [] []
noncomputable def Rl:Cx:=(aM [] [])
theorem BU:Rl.Ok prog:=ak trivial trivial
abbrev V2:au:=au.mk [(0,.c (.nT 0 (.prod (.prod .str tI) (.prod tI tI)))),(1,hI),(2,hI),(3,hI),(10,hI)] [(0,.arr (.prod (.prod .str tI) (.prod tI tI)) false),(1,.cells [.fn0 37] false)] [] []
abbrev V3:aT:=[(.exit 0,au.mk [] [(1,.cells [.fn0 37] false),(0,.arr (.prod (.prod .str tI) (.prod tI tI)) false)] [] [])]
noncomputable def V4:D prog 38 none 2:=dO [] (pick (kd prog f142) [(0,false)]) 0
noncomputable def gH142_0:Nat×Nat×Int×Int×Int×Int×(List ((ByteArray×Int)×Int×Int))×Unit->bR ((Nat×Nat×Int×Int×Int×Int×(List ((ByteArray×Int)×Int×Int))×Unit) ⊕ (((List ((ByteArray×Int)×Int×Int))×Unit))):=fun (bu,bI,v1,v2,v3,v10,b0,_) =>
 .br (decide (v10<v3)) (
 .ni (v1+v10) <|
 .ni (v2+v10) <|
 .ni (v2+v10) <|
 .nb (v2+v10) ((bI:Nat):Int) <|
 .nd (decide ((bu+(Int.toNat (v2+v10)))<(b0).length)) <|
 .ni (v1+v10) <|
 .nb (v1+v10) ((bI:Nat):Int) <|
 .nd (decide ((bu+(Int.toNat (v1+v10)))<(b0).length)) <|
 .nb (v1+v10) ((bI:Nat):Int) <|
 .nd (decide ((bu+(Int.toNat (v1+v10)))<(b0).length)) <|
 .nb (v2+v10) ((bI:Nat):Int) <|
 .nd (decide ((bu+(Int.toNat (v2+v10)))<(((b0).set (bu+(Int.toNat (v1+v10))) ((((b0).getD (bu+(Int.toNat (v2+v10))) (((bs []),(0:Int)),(0:Int),(0:Int))).1.1,((b0).getD (bu+(Int.toNat (v2+v10))) (((bs []),(0:Int)),(0:Int),(0:Int))).1.2),((b0).getD (bu+(Int.toNat (v2+v10))) (((bs []),(0:Int)),(0:Int),(0:Int))).2.1,((b0).getD (bu+(Int.toNat (v2+v10))) (((bs []),(0:Int)),(0:Int),(0:Int))).2.2))).length)) <|
 .ni (v10+(1:Int)) <|
 .ret (.inl (bu,bI,v1,v2,v3,(v10+(1:Int)),((((b0).set (bu+(Int.toNat (v1+v10))) ((((b0).getD (bu+(Int.toNat (v2+v10))) (((bs []),(0:Int)),(0:Int),(0:Int))).1.1,((b0).getD (bu+(Int.toNat (v2+v10))) (((bs []),(0:Int)),(0:Int),(0:Int))).1.2),((b0).getD (bu+(Int.toNat (v2+v10))) (((bs []),(0:Int)),(0:Int),(0:Int))).2.1,((b0).getD (bu+(Int.toNat (v2+v10))) (((bs []),(0:Int)),(0:Int),(0:Int))).2.2))).set (bu+(Int.toNat (v2+v10))) ((((b0).getD (bu+(Int.toNat (v1+v10))) (((bs []),(0:Int)),(0:Int),(0:Int))).1.1,((b0).getD (bu+(Int.toNat (v1+v10))) (((bs []),(0:Int)),(0:Int),(0:Int))).1.2),((b0).getD (bu+(Int.toNat (v1+v10))) (((bs []),(0:Int)),(0:Int),(0:Int))).2.1,((b0).getD (bu+(Int.toNat (v1+v10))) (((bs []),(0:Int)),(0:Int),(0:Int))).2.2)),()))) (
 .ret (.inr (b0,())))
noncomputable def V5:bt prog 38 none 2:=aW mixed Rl BU [0,1] rfl V2 V3 rfl (V4) (fun x=>ai (gH142_0 x)) (fun x=>by kernel_rfl)
noncomputable def Rm:D prog 38 none 2:=dO [.l V5] (kd prog f142) 0
noncomputable def FH142 (bu:Nat) (bI:Nat) (v1:Int) (v2:Int) (v3:Int) (b0:List ((ByteArray×Int)×Int×Int)):bR ((List ((ByteArray×Int)×Int×Int))×Unit) :=
 .bd (.it gH142_0 (bu,bI,v1,v2,v3,(0:Int),b0,())) fun z0 =>
 .ret (z0.1,())
theorem Rn:cM prog f142=some ⟨38,5,Rm.er,[],[]⟩:=by kernel_rfl
noncomputable def YQ:Ht:=⟨142,ahv,ahw,(fun x=>ai (FH142 x.1 x.2.1 x.2.2.1 x.2.2.2.1 x.2.2.2.2.1 x.2.2.2.2.2.1))⟩
theorem Ro:YQ.Ok prog:=bV mixed BU rfl func142 Rn (enters_of func142 rfl rfl) Rm (by kernel_rfl) rfl rfl ⟨_,rfl⟩ rfl (pre:=[0,1]) rfl (fun x=>by kernel_rfl)

/- 127, lent -/
abbrev ahx:au:=au.mk [(0,.c (.nT 0 (.prod (.prod .str tI) (.prod tI tI)))),(1,hI),(2,hI),(3,hI),(4,.fn 64 [] [.ptr 1 0])] [(0,.arr (.prod (.prod .str tI) (.prod tI tI)) false),(1,.cells [.fn0 37] false)] [.slot 0,.part 4 0] []
abbrev ahy:au:=au.mk [(0,.c .any)] [(1,.cells [.fn0 37] false),(0,.arr (.prod (.prod .str tI) (.prod tI tI)) false)] [] []
noncomputable def Rp:Cx:=(aM [] [YQ])
theorem BV:Rp.Ok prog:=ak trivial ⟨⟨Ro,rfl⟩,trivial⟩
abbrev V6:au:=au.mk [(0,.c (.nT 0 (.prod (.prod .str tI) (.prod tI tI)))),(2,hI),(4,.fn 64 [] [.ptr 1 0]),(10,hI),(11,hI)] [(0,.arr (.prod (.prod .str tI) (.prod tI tI)) false),(1,.cells [.fn0 37] false)] [] []
abbrev V7:aT:=[(.exit 0,au.mk [(0,.c (.nT 0 (.prod (.prod .str tI) (.prod tI tI)))),(2,hI),(4,.fn 64 [] [.ptr 1 0]),(10,hI)] [(0,.arr (.prod (.prod .str tI) (.prod tI tI)) false),(1,.cells [.fn0 37] false)] [] [])]
noncomputable def V8:D prog 58 none 2:=dO [] (pick (kd prog f127) [(0,false)]) 0
noncomputable def gH127_0:Nat×Nat×Int×Int×Int×(List ((ByteArray×Int)×Int×Int))×Unit->bR ((Nat×Nat×Int×Int×Int×(List ((ByteArray×Int)×Int×Int))×Unit) ⊕ ((Nat×Nat×Int×Int×(List ((ByteArray×Int)×Int×Int))×Unit))):=fun (bu,bI,v2,v10,v11,b0,_) =>
 .br (!(v10==v11)) (
 .br (decide (v11<v10)) (
 .ni (v2 - v10) <|
 .bd (FH142 bu bI (v2 - v10) v2 v11 b0) fun y0 =>
 .ni (v10 - v11) <|
 .ret (.inl (bu,bI,v2,(v10 - v11),v11,y0.1,()))) (
 .ni (v2 - v10) <|
 .ni (v2+v11) <|
 .ni ((v2+v11) - v10) <|
 .bd (FH142 bu bI (v2 - v10) ((v2+v11) - v10) v10 b0) fun y1 =>
 .ni (v11 - v10) <|
 .ret (.inl (bu,bI,v2,v10,(v11 - v10),y1.1,())))) (
 .ret (.inr (bu,bI,v2,v10,b0,())))
noncomputable def V9:bt prog 58 none 2:=aW mixed Rp BV [0,1] rfl V6 V7 rfl (V8) (fun x=>ai (gH127_0 x)) (fun x=>by kernel_rfl)
noncomputable def Rq:D prog 58 none 2:=dO [.l V9] (kd prog f127) 0
noncomputable def FH127 (bu:Nat) (bI:Nat) (v1:Int) (v2:Int) (v3:Int) (b0:List ((ByteArray×Int)×Int×Int)):bR ((List ((ByteArray×Int)×Int×Int))×Unit) :=
 .ni (v2 - v1) <|
 .ni (v3 - v2) <|
 .bd (.it gH127_0 (bu,bI,v2,(v2 - v1),(v3 - v2),b0,())) fun z2 =>
 .ni (z2.2.2.1 - z2.2.2.2.1) <|
 .bd (FH142 z2.1 z2.2.1 (z2.2.2.1 - z2.2.2.2.1) z2.2.2.1 z2.2.2.2.1 z2.2.2.2.2.1) fun y3 =>
 .ret (y3.1,())
theorem Rr:cM prog f127=some ⟨58,5,Rq.er,[],[]⟩:=by kernel_rfl
noncomputable def YR:Ht:=⟨127,ahx,ahy,(fun x=>ai (FH127 x.1 x.2.1 x.2.2.1 x.2.2.2.1 x.2.2.2.2.1 x.2.2.2.2.2.1))⟩
theorem Rs:YR.Ok prog:=bV mixed BV rfl func127 Rr (enters_of func127 rfl rfl) Rq (by kernel_rfl) rfl rfl ⟨_,rfl⟩ rfl (pre:=[0,1]) rfl (fun x=>by kernel_rfl)

/- 104, lent -/
abbrev bM:au:=au.mk [(0,.c (.nT 0 (.prod (.prod .str tI) (.prod tI tI)))),(1,hI),(2,hI),(3,hI),(4,.fn 64 [] [.ptr 1 0])] [(0,.arr (.prod (.prod .str tI) (.prod tI tI)) false),(1,.cells [.fn0 37] false)] [.slot 0,.part 4 0] []
abbrev bN:au:=au.mk [(0,.c .any)] [(1,.cells [.fn0 37] false),(0,.arr (.prod (.prod .str tI) (.prod tI tI)) false)] [] []
noncomputable def lu (rec:bM.T->Option bN.T):Cx:=(aM [acf] [YR,⟨104,bM,bN,rec⟩])
theorem kA (rec:bM.T->Option bN.T) (h:Ht.Ok prog ⟨104,bM,bN,rec⟩):(lu rec).Ok prog:=ak ⟨Lh,trivial⟩ ⟨⟨Rs,rfl⟩,⟨h,rfl⟩,trivial⟩
abbrev DA:au:=au.mk [(0,.c (.nT 0 (.prod (.prod .str tI) (.prod tI tI)))),(1,hI),(4,.fn 64 [] [.ptr 1 0]),(10,hI),(11,hI)] [(0,.arr (.prod (.prod .str tI) (.prod tI tI)) false),(1,.cells [.fn0 37] false)] [] []
abbrev DB:aT:=[(.exit 0,au.mk [(0,.c (.nT 0 (.prod (.prod .str tI) (.prod tI tI)))),(1,hI),(10,hI)] [(0,.arr (.prod (.prod .str tI) (.prod tI tI)) false),(1,.cells [.fn0 37] false)] [] [])]
noncomputable def Li (rec:bM.T->Option bN.T) (h:Ht.Ok prog ⟨104,bM,bN,rec⟩):D prog 220 none 2:=dO [] (pick (kd prog f104) [(0,false)]) 0
noncomputable def gH104_0:Nat×Nat×Int×Int×Int×(List ((ByteArray×Int)×Int×Int))×Unit->Tr bM.T bN.T ((Nat×Nat×Int×Int×Int×(List ((ByteArray×Int)×Int×Int))×Unit) ⊕ ((Nat×Nat×Int×Int×(List ((ByteArray×Int)×Int×Int))×Unit))):=fun (bu,bI,v1,v10,v11,b0,_) =>
 .br (decide (v10<v11)) (
 .ni (v10+v11) <|
 .nd (dV .u64 (v10+v11)) <|
 .nb (1:Int) (64:Int) <|
 .ni (bW.shr (v10+v11) (1:Int)) <|
 .nb (bW.shr (v10+v11) (1:Int)) ((bI:Nat):Int) <|
 .nd (decide ((bu+(Int.toNat (bW.shr (v10+v11) (1:Int))))<(b0).length)) <|
 .nb v1 ((bI:Nat):Int) <|
 .nd (decide ((bu+(Int.toNat v1))<(b0).length)) <|
 .bd (.up (F64 (((b0).getD (bu+(Int.toNat (bW.shr (v10+v11) (1:Int)))) (((bs []),(0:Int)),(0:Int),(0:Int))).1.1,((b0).getD (bu+(Int.toNat (bW.shr (v10+v11) (1:Int)))) (((bs []),(0:Int)),(0:Int),(0:Int))).1.2,((b0).getD (bu+(Int.toNat (bW.shr (v10+v11) (1:Int)))) (((bs []),(0:Int)),(0:Int),(0:Int))).2.1,((b0).getD (bu+(Int.toNat (bW.shr (v10+v11) (1:Int)))) (((bs []),(0:Int)),(0:Int),(0:Int))).2.2) (((b0).getD (bu+(Int.toNat v1)) (((bs []),(0:Int)),(0:Int),(0:Int))).1.1,((b0).getD (bu+(Int.toNat v1)) (((bs []),(0:Int)),(0:Int),(0:Int))).1.2,((b0).getD (bu+(Int.toNat v1)) (((bs []),(0:Int)),(0:Int),(0:Int))).2.1,((b0).getD (bu+(Int.toNat v1)) (((bs []),(0:Int)),(0:Int),(0:Int))).2.2))) fun y0 =>
 .br (decide (y0.1<(0:Int))) (
 .ni ((bW.shr (v10+v11) (1:Int))+(1:Int)) <|
 .ret (.inl (bu,bI,v1,((bW.shr (v10+v11) (1:Int))+(1:Int)),v11,b0,()))) (
 .ret (.inl (bu,bI,v1,v10,(bW.shr (v10+v11) (1:Int)),b0,())))) (
 .ret (.inr (bu,bI,v1,v10,b0,())))
theorem Wa (rec:bM.T->Option bN.T) (h:Ht.Ok prog ⟨104,bM,bN,rec⟩):∀x,nV (iz (DA.T ⊕ DB.T)) (lu rec) bW [0,1] DA DB (Li rec h) (fun y=>some (.inl y)) (fun b=>some (.inr b)) x=run rec (gH104_0 x):=fun x=>by kernel_rfl
noncomputable def Wb (rec:bM.T->Option bN.T) (h:Ht.Ok prog ⟨104,bM,bN,rec⟩):bt prog 220 none 2:=aW mixed (lu rec) (kA rec h) [0,1] rfl DA DB rfl (Li rec h) (fun x=>run rec (gH104_0 x)) (Wa rec h)
abbrev DC:au:=au.mk [(0,.c (.nT 0 (.prod (.prod .str tI) (.prod tI tI)))),(10,hI),(13,hI)] [(0,.arr (.prod (.prod .str tI) (.prod tI tI)) false),(1,.cells [.fn0 37] false)] [] []
abbrev DE:aT:=[(.exit 2,au.mk [] [(1,.cells [.fn0 37] false),(0,.arr (.prod (.prod .str tI) (.prod tI tI)) false)] [] [])]
noncomputable def Lk (rec:bM.T->Option bN.T) (h:Ht.Ok prog ⟨104,bM,bN,rec⟩):D prog 220 none 2:=dO [] (pick (kd prog f104) [(1,false)]) 0
noncomputable def gH104_1:Nat×Nat×Int×Int×(List ((ByteArray×Int)×Int×Int))×Unit->Tr bM.T bN.T ((Nat×Nat×Int×Int×(List ((ByteArray×Int)×Int×Int))×Unit) ⊕ (((List ((ByteArray×Int)×Int×Int))×Unit))):=fun (bu,bI,v10,mD,b0,_) =>
 .ni (v10 - (1:Int)) <|
 .br (decide (mD<(v10 - (1:Int)))) (
 .ni (mD+(1:Int)) <|
 .ni (mD+(1:Int)) <|
 .nb (mD+(1:Int)) ((bI:Nat):Int) <|
 .nd (decide ((bu+(Int.toNat (mD+(1:Int))))<(b0).length)) <|
 .nb mD ((bI:Nat):Int) <|
 .nd (decide ((bu+(Int.toNat mD))<(b0).length)) <|
 .nb mD ((bI:Nat):Int) <|
 .nd (decide ((bu+(Int.toNat mD))<(b0).length)) <|
 .nb (mD+(1:Int)) ((bI:Nat):Int) <|
 .nd (decide ((bu+(Int.toNat (mD+(1:Int))))<(((b0).set (bu+(Int.toNat mD)) ((((b0).getD (bu+(Int.toNat (mD+(1:Int)))) (((bs []),(0:Int)),(0:Int),(0:Int))).1.1,((b0).getD (bu+(Int.toNat (mD+(1:Int)))) (((bs []),(0:Int)),(0:Int),(0:Int))).1.2),((b0).getD (bu+(Int.toNat (mD+(1:Int)))) (((bs []),(0:Int)),(0:Int),(0:Int))).2.1,((b0).getD (bu+(Int.toNat (mD+(1:Int)))) (((bs []),(0:Int)),(0:Int),(0:Int))).2.2))).length)) <|
 .ni (mD+(1:Int)) <|
 .ret (.inl (bu,bI,v10,(mD+(1:Int)),((((b0).set (bu+(Int.toNat mD)) ((((b0).getD (bu+(Int.toNat (mD+(1:Int)))) (((bs []),(0:Int)),(0:Int),(0:Int))).1.1,((b0).getD (bu+(Int.toNat (mD+(1:Int)))) (((bs []),(0:Int)),(0:Int),(0:Int))).1.2),((b0).getD (bu+(Int.toNat (mD+(1:Int)))) (((bs []),(0:Int)),(0:Int),(0:Int))).2.1,((b0).getD (bu+(Int.toNat (mD+(1:Int)))) (((bs []),(0:Int)),(0:Int),(0:Int))).2.2))).set (bu+(Int.toNat (mD+(1:Int)))) ((((b0).getD (bu+(Int.toNat mD)) (((bs []),(0:Int)),(0:Int),(0:Int))).1.1,((b0).getD (bu+(Int.toNat mD)) (((bs []),(0:Int)),(0:Int),(0:Int))).1.2),((b0).getD (bu+(Int.toNat mD)) (((bs []),(0:Int)),(0:Int),(0:Int))).2.1,((b0).getD (bu+(Int.toNat mD)) (((bs []),(0:Int)),(0:Int),(0:Int))).2.2)),()))) (
 .ret (.inr (b0,())))
theorem Wc (rec:bM.T->Option bN.T) (h:Ht.Ok prog ⟨104,bM,bN,rec⟩):∀x,nV (iz (DC.T ⊕ DE.T)) (lu rec) bW [0,1] DC DE (Lk rec h) (fun y=>some (.inl y)) (fun b=>some (.inr b)) x=run rec (gH104_1 x):=fun x=>by kernel_rfl
noncomputable def Wd (rec:bM.T->Option bN.T) (h:Ht.Ok prog ⟨104,bM,bN,rec⟩):bt prog 220 none 2:=aW mixed (lu rec) (kA rec h) [0,1] rfl DC DE rfl (Lk rec h) (fun x=>run rec (gH104_1 x)) (Wc rec h)
abbrev DF:au:=au.mk [(0,.c (.nT 0 (.prod (.prod .str tI) (.prod tI tI)))),(2,hI),(4,.fn 64 [] [.ptr 1 0]),(14,hI),(15,hI)] [(0,.arr (.prod (.prod .str tI) (.prod tI tI)) false),(1,.cells [.fn0 37] false)] [] []
abbrev DG:aT:=[(.exit 4,au.mk [(0,.c (.nT 0 (.prod (.prod .str tI) (.prod tI tI)))),(2,hI),(14,hI)] [(0,.arr (.prod (.prod .str tI) (.prod tI tI)) false),(1,.cells [.fn0 37] false)] [] [])]
noncomputable def Lm (rec:bM.T->Option bN.T) (h:Ht.Ok prog ⟨104,bM,bN,rec⟩):D prog 220 none 2:=dO [] (pick (kd prog f104) [(2,false)]) 0
noncomputable def gH104_2:Nat×Nat×Int×Int×Int×(List ((ByteArray×Int)×Int×Int))×Unit->Tr bM.T bN.T ((Nat×Nat×Int×Int×Int×(List ((ByteArray×Int)×Int×Int))×Unit) ⊕ ((Nat×Nat×Int×Int×(List ((ByteArray×Int)×Int×Int))×Unit))):=fun (bu,bI,v2,tJ,di,b0,_) =>
 .br (decide (tJ<di)) (
 .ni (tJ+di) <|
 .nd (dV .u64 (tJ+di)) <|
 .nb (1:Int) (64:Int) <|
 .ni (bW.shr (tJ+di) (1:Int)) <|
 .nb v2 ((bI:Nat):Int) <|
 .nd (decide ((bu+(Int.toNat v2))<(b0).length)) <|
 .nb (bW.shr (tJ+di) (1:Int)) ((bI:Nat):Int) <|
 .nd (decide ((bu+(Int.toNat (bW.shr (tJ+di) (1:Int))))<(b0).length)) <|
 .bd (.up (F64 (((b0).getD (bu+(Int.toNat v2)) (((bs []),(0:Int)),(0:Int),(0:Int))).1.1,((b0).getD (bu+(Int.toNat v2)) (((bs []),(0:Int)),(0:Int),(0:Int))).1.2,((b0).getD (bu+(Int.toNat v2)) (((bs []),(0:Int)),(0:Int),(0:Int))).2.1,((b0).getD (bu+(Int.toNat v2)) (((bs []),(0:Int)),(0:Int),(0:Int))).2.2) (((b0).getD (bu+(Int.toNat (bW.shr (tJ+di) (1:Int)))) (((bs []),(0:Int)),(0:Int),(0:Int))).1.1,((b0).getD (bu+(Int.toNat (bW.shr (tJ+di) (1:Int)))) (((bs []),(0:Int)),(0:Int),(0:Int))).1.2,((b0).getD (bu+(Int.toNat (bW.shr (tJ+di) (1:Int)))) (((bs []),(0:Int)),(0:Int),(0:Int))).2.1,((b0).getD (bu+(Int.toNat (bW.shr (tJ+di) (1:Int)))) (((bs []),(0:Int)),(0:Int),(0:Int))).2.2))) fun y3 =>
 .br (!(decide (y3.1<(0:Int)))) (
 .ni ((bW.shr (tJ+di) (1:Int))+(1:Int)) <|
 .ret (.inl (bu,bI,v2,((bW.shr (tJ+di) (1:Int))+(1:Int)),di,b0,()))) (
 .ret (.inl (bu,bI,v2,tJ,(bW.shr (tJ+di) (1:Int)),b0,())))) (
 .ret (.inr (bu,bI,v2,tJ,b0,())))
theorem We (rec:bM.T->Option bN.T) (h:Ht.Ok prog ⟨104,bM,bN,rec⟩):∀x,nV (iz (DF.T ⊕ DG.T)) (lu rec) bW [0,1] DF DG (Lm rec h) (fun y=>some (.inl y)) (fun b=>some (.inr b)) x=run rec (gH104_2 x):=fun x=>by kernel_rfl
noncomputable def Wg (rec:bM.T->Option bN.T) (h:Ht.Ok prog ⟨104,bM,bN,rec⟩):bt prog 220 none 2:=aW mixed (lu rec) (kA rec h) [0,1] rfl DF DG rfl (Lm rec h) (fun x=>run rec (gH104_2 x)) (We rec h)
abbrev DH:au:=au.mk [(0,.c (.nT 0 (.prod (.prod .str tI) (.prod tI tI)))),(14,hI),(17,hI)] [(0,.arr (.prod (.prod .str tI) (.prod tI tI)) false),(1,.cells [.fn0 37] false)] [] []
abbrev DI:aT:=[(.exit 6,au.mk [] [(1,.cells [.fn0 37] false),(0,.arr (.prod (.prod .str tI) (.prod tI tI)) false)] [] [])]
noncomputable def Ln (rec:bM.T->Option bN.T) (h:Ht.Ok prog ⟨104,bM,bN,rec⟩):D prog 220 none 2:=dO [] (pick (kd prog f104) [(3,false)]) 0
noncomputable def gH104_3:Nat×Nat×Int×Int×(List ((ByteArray×Int)×Int×Int))×Unit->Tr bM.T bN.T ((Nat×Nat×Int×Int×(List ((ByteArray×Int)×Int×Int))×Unit) ⊕ (((List ((ByteArray×Int)×Int×Int))×Unit))):=fun (bu,bI,tJ,v17,b0,_) =>
 .br (decide (tJ<v17)) (
 .ni (v17 - (1:Int)) <|
 .ni (v17 - (1:Int)) <|
 .nb (v17 - (1:Int)) ((bI:Nat):Int) <|
 .nd (decide ((bu+(Int.toNat (v17 - (1:Int))))<(b0).length)) <|
 .nb v17 ((bI:Nat):Int) <|
 .nd (decide ((bu+(Int.toNat v17))<(b0).length)) <|
 .nb v17 ((bI:Nat):Int) <|
 .nd (decide ((bu+(Int.toNat v17))<(b0).length)) <|
 .nb (v17 - (1:Int)) ((bI:Nat):Int) <|
 .nd (decide ((bu+(Int.toNat (v17 - (1:Int))))<(((b0).set (bu+(Int.toNat v17)) ((((b0).getD (bu+(Int.toNat (v17 - (1:Int)))) (((bs []),(0:Int)),(0:Int),(0:Int))).1.1,((b0).getD (bu+(Int.toNat (v17 - (1:Int)))) (((bs []),(0:Int)),(0:Int),(0:Int))).1.2),((b0).getD (bu+(Int.toNat (v17 - (1:Int)))) (((bs []),(0:Int)),(0:Int),(0:Int))).2.1,((b0).getD (bu+(Int.toNat (v17 - (1:Int)))) (((bs []),(0:Int)),(0:Int),(0:Int))).2.2))).length)) <|
 .ni (v17 - (1:Int)) <|
 .ret (.inl (bu,bI,tJ,(v17 - (1:Int)),((((b0).set (bu+(Int.toNat v17)) ((((b0).getD (bu+(Int.toNat (v17 - (1:Int)))) (((bs []),(0:Int)),(0:Int),(0:Int))).1.1,((b0).getD (bu+(Int.toNat (v17 - (1:Int)))) (((bs []),(0:Int)),(0:Int),(0:Int))).1.2),((b0).getD (bu+(Int.toNat (v17 - (1:Int)))) (((bs []),(0:Int)),(0:Int),(0:Int))).2.1,((b0).getD (bu+(Int.toNat (v17 - (1:Int)))) (((bs []),(0:Int)),(0:Int),(0:Int))).2.2))).set (bu+(Int.toNat (v17 - (1:Int)))) ((((b0).getD (bu+(Int.toNat v17)) (((bs []),(0:Int)),(0:Int),(0:Int))).1.1,((b0).getD (bu+(Int.toNat v17)) (((bs []),(0:Int)),(0:Int),(0:Int))).1.2),((b0).getD (bu+(Int.toNat v17)) (((bs []),(0:Int)),(0:Int),(0:Int))).2.1,((b0).getD (bu+(Int.toNat v17)) (((bs []),(0:Int)),(0:Int),(0:Int))).2.2)),()))) (
 .ret (.inr (b0,())))
theorem Wh (rec:bM.T->Option bN.T) (h:Ht.Ok prog ⟨104,bM,bN,rec⟩):∀x,nV (iz (DH.T ⊕ DI.T)) (lu rec) bW [0,1] DH DI (Ln rec h) (fun y=>some (.inl y)) (fun b=>some (.inr b)) x=run rec (gH104_3 x):=fun x=>by kernel_rfl
noncomputable def Wi (rec:bM.T->Option bN.T) (h:Ht.Ok prog ⟨104,bM,bN,rec⟩):bt prog 220 none 2:=aW mixed (lu rec) (kA rec h) [0,1] rfl DH DI rfl (Ln rec h) (fun x=>run rec (gH104_3 x)) (Wh rec h)
abbrev DJ:au:=au.mk [(0,.c (.nT 0 (.prod (.prod .str tI) (.prod tI tI)))),(1,hI),(2,hI),(3,hI),(4,.fn 64 [] [.ptr 1 0]),(18,hI),(19,hI),(20,hI),(21,hI),(22,hI)] [(0,.arr (.prod (.prod .str tI) (.prod tI tI)) false),(1,.cells [.fn0 37] false)] [] []
abbrev DK:aT:=[(.exit 8,au.mk [(0,.c (.nT 0 (.prod (.prod .str tI) (.prod tI tI)))),(1,hI),(2,hI),(3,hI),(4,.fn 64 [] [.ptr 1 0]),(18,hI),(19,hI),(20,hI)] [(0,.arr (.prod (.prod .str tI) (.prod tI tI)) false),(1,.cells [.fn0 37] false)] [] [])]
noncomputable def Lp (rec:bM.T->Option bN.T) (h:Ht.Ok prog ⟨104,bM,bN,rec⟩):D prog 220 none 2:=dO [] (pick (kd prog f104) [(4,false)]) 0
noncomputable def gH104_4:Nat×Nat×Int×Int×Int×Int×Int×Int×Int×Int×(List ((ByteArray×Int)×Int×Int))×Unit->Tr bM.T bN.T ((Nat×Nat×Int×Int×Int×Int×Int×Int×Int×Int×(List ((ByteArray×Int)×Int×Int))×Unit) ⊕ ((Nat×Nat×Int×Int×Int×Int×Int×Int×(List ((ByteArray×Int)×Int×Int))×Unit))):=fun (bu,bI,v1,v2,v3,Nk,l5,v20,v21,v22,b0,_) =>
 .br (decide (v20<v21)) (
 .ni (v20+v21) <|
 .nd (dV .u64 (v20+v21)) <|
 .nb (1:Int) (64:Int) <|
 .ni (bW.shr (v20+v21) (1:Int)) <|
 .ni (v22 - (bW.shr (v20+v21) (1:Int))) <|
 .nb (v22 - (bW.shr (v20+v21) (1:Int))) ((bI:Nat):Int) <|
 .nd (decide ((bu+(Int.toNat (v22 - (bW.shr (v20+v21) (1:Int)))))<(b0).length)) <|
 .nb (bW.shr (v20+v21) (1:Int)) ((bI:Nat):Int) <|
 .nd (decide ((bu+(Int.toNat (bW.shr (v20+v21) (1:Int))))<(b0).length)) <|
 .bd (.up (F64 (((b0).getD (bu+(Int.toNat (v22 - (bW.shr (v20+v21) (1:Int))))) (((bs []),(0:Int)),(0:Int),(0:Int))).1.1,((b0).getD (bu+(Int.toNat (v22 - (bW.shr (v20+v21) (1:Int))))) (((bs []),(0:Int)),(0:Int),(0:Int))).1.2,((b0).getD (bu+(Int.toNat (v22 - (bW.shr (v20+v21) (1:Int))))) (((bs []),(0:Int)),(0:Int),(0:Int))).2.1,((b0).getD (bu+(Int.toNat (v22 - (bW.shr (v20+v21) (1:Int))))) (((bs []),(0:Int)),(0:Int),(0:Int))).2.2) (((b0).getD (bu+(Int.toNat (bW.shr (v20+v21) (1:Int)))) (((bs []),(0:Int)),(0:Int),(0:Int))).1.1,((b0).getD (bu+(Int.toNat (bW.shr (v20+v21) (1:Int)))) (((bs []),(0:Int)),(0:Int),(0:Int))).1.2,((b0).getD (bu+(Int.toNat (bW.shr (v20+v21) (1:Int)))) (((bs []),(0:Int)),(0:Int),(0:Int))).2.1,((b0).getD (bu+(Int.toNat (bW.shr (v20+v21) (1:Int)))) (((bs []),(0:Int)),(0:Int),(0:Int))).2.2))) fun y7 =>
 .br (!(decide (y7.1<(0:Int)))) (
 .ni ((bW.shr (v20+v21) (1:Int))+(1:Int)) <|
 .ret (.inl (bu,bI,v1,v2,v3,Nk,l5,((bW.shr (v20+v21) (1:Int))+(1:Int)),v21,v22,b0,()))) (
 .ret (.inl (bu,bI,v1,v2,v3,Nk,l5,v20,(bW.shr (v20+v21) (1:Int)),v22,b0,())))) (
 .ret (.inr (bu,bI,v1,v2,v3,Nk,l5,v20,b0,())))
theorem Wj (rec:bM.T->Option bN.T) (h:Ht.Ok prog ⟨104,bM,bN,rec⟩):∀x,nV (iz (DJ.T ⊕ DK.T)) (lu rec) bW [0,1] DJ DK (Lp rec h) (fun y=>some (.inl y)) (fun b=>some (.inr b)) x=run rec (gH104_4 x):=fun x=>by kernel_rfl
noncomputable def Wl (rec:bM.T->Option bN.T) (h:Ht.Ok prog ⟨104,bM,bN,rec⟩):bt prog 220 none 2:=aW mixed (lu rec) (kA rec h) [0,1] rfl DJ DK rfl (Lp rec h) (fun x=>run rec (gH104_4 x)) (Wj rec h)
noncomputable def Rt (rec:bM.T->Option bN.T) (h:Ht.Ok prog ⟨104,bM,bN,rec⟩):D prog 220 none 2:=dO [.l (Wb rec h),.l (Wd rec h),.l (Wg rec h),.l (Wi rec h),.l (Wl rec h)] (kd prog f104) 0
noncomputable def FH104 (bu:Nat) (bI:Nat) (v1:Int) (v2:Int) (v3:Int) (b0:List ((ByteArray×Int)×Int×Int)):Tr bM.T bN.T ((List ((ByteArray×Int)×Int×Int))×Unit) :=
 .ni (v2 - v1) <|
 .br ((v2 - v1)==(1:Int)) (
 .bd (.it gH104_0 (bu,bI,v1,v2,v3,b0,())) fun z1 =>
 .bd (.it gH104_1 (z1.1,z1.2.1,z1.2.2.2.1,z1.2.2.1,z1.2.2.2.2.1,())) fun z2 =>
 .ret (z2.1,())) (
 .ni (v3 - v2) <|
 .br ((v3 - v2)==(1:Int)) (
 .bd (.it gH104_2 (bu,bI,v2,v1,v2,b0,())) fun z4 =>
 .bd (.it gH104_3 (z4.1,z4.2.1,z4.2.2.2.1,z4.2.2.1,z4.2.2.2.2.1,())) fun z5 =>
 .ret (z5.1,())) (
 .ni (v1+v3) <|
 .nd (dV .u64 (v1+v3)) <|
 .nb (1:Int) (64:Int) <|
 .ni (bW.shr (v1+v3) (1:Int)) <|
 .ni ((bW.shr (v1+v3) (1:Int))+v2) <|
 .jx (
 .br (decide ((bW.shr (v1+v3) (1:Int))<v2)) (
 .ni (((bW.shr (v1+v3) (1:Int))+v2) - v3) <|
 .ret (.inl (bu,bI,v1,v2,v3,(bW.shr (v1+v3) (1:Int)),((bW.shr (v1+v3) (1:Int))+v2),(((bW.shr (v1+v3) (1:Int))+v2) - v3),(bW.shr (v1+v3) (1:Int)),b0,()))) (
 .ret (.inl (bu,bI,v1,v2,v3,(bW.shr (v1+v3) (1:Int)),((bW.shr (v1+v3) (1:Int))+v2),v1,v2,b0,())))) fun j6 =>
 .ni (j6.2.2.2.2.2.2.1 - (1:Int)) <|
 .bd (.it gH104_4 (j6.1,j6.2.1,j6.2.2.1,j6.2.2.2.1,j6.2.2.2.2.1,j6.2.2.2.2.2.1,j6.2.2.2.2.2.2.1,j6.2.2.2.2.2.2.2.1,j6.2.2.2.2.2.2.2.2.1,(j6.2.2.2.2.2.2.1 - (1:Int)),j6.2.2.2.2.2.2.2.2.2.1,())) fun z8 =>
 .ni (z8.2.2.2.2.2.2.1 - z8.2.2.2.2.2.2.2.1) <|
 .jx (
 .br (decide (z8.2.2.2.2.2.2.2.1<z8.2.2.2.1)) (
 .br (decide (z8.2.2.2.1<(z8.2.2.2.2.2.2.1 - z8.2.2.2.2.2.2.2.1))) (
 .bd (.up (FH127 z8.1 z8.2.1 z8.2.2.2.2.2.2.2.1 z8.2.2.2.1 (z8.2.2.2.2.2.2.1 - z8.2.2.2.2.2.2.2.1) z8.2.2.2.2.2.2.2.2.1)) fun y11 =>
 .ret (.inl (z8.1,z8.2.1,z8.2.2.1,z8.2.2.2.2.1,z8.2.2.2.2.2.1,z8.2.2.2.2.2.2.2.1,(z8.2.2.2.2.2.2.1 - z8.2.2.2.2.2.2.2.1),y11.1,()))) (
 .ret (.inl (z8.1,z8.2.1,z8.2.2.1,z8.2.2.2.2.1,z8.2.2.2.2.2.1,z8.2.2.2.2.2.2.2.1,(z8.2.2.2.2.2.2.1 - z8.2.2.2.2.2.2.2.1),z8.2.2.2.2.2.2.2.2.1,())))) (
 .ret (.inl (z8.1,z8.2.1,z8.2.2.1,z8.2.2.2.2.1,z8.2.2.2.2.2.1,z8.2.2.2.2.2.2.2.1,(z8.2.2.2.2.2.2.1 - z8.2.2.2.2.2.2.2.1),z8.2.2.2.2.2.2.2.2.1,())))) fun vm =>
 .jx (
 .br (decide (vm.2.2.1<vm.2.2.2.2.2.1)) (
 .br (decide (vm.2.2.2.2.2.1<vm.2.2.2.2.1)) (
 .bd (.rc (vm.1,vm.2.1,vm.2.2.1,vm.2.2.2.2.2.1,vm.2.2.2.2.1,vm.2.2.2.2.2.2.2.1,())) fun NA =>
 .ret (.inl (vm.1,vm.2.1,vm.2.2.2.1,vm.2.2.2.2.1,vm.2.2.2.2.2.2.1,NA.1,()))) (
 .ret (.inl (vm.1,vm.2.1,vm.2.2.2.1,vm.2.2.2.2.1,vm.2.2.2.2.2.2.1,vm.2.2.2.2.2.2.2.1,())))) (
 .ret (.inl (vm.1,vm.2.1,vm.2.2.2.1,vm.2.2.2.2.1,vm.2.2.2.2.2.2.1,vm.2.2.2.2.2.2.2.1,())))) fun Oo =>
 .br (decide (Oo.2.2.2.1<Oo.2.2.2.2.1)) (
 .br (decide (Oo.2.2.2.2.1<Oo.2.2.1)) (
 .bd (.rc (Oo.1,Oo.2.1,Oo.2.2.2.1,Oo.2.2.2.2.1,Oo.2.2.1,Oo.2.2.2.2.2.1,())) fun EC =>
 .ret (EC.1,())) (
 .ret (Oo.2.2.2.2.2.1,()))) (
 .ret (Oo.2.2.2.2.2.1,()))))
theorem Ru (rec:bM.T->Option bN.T) (h:Ht.Ok prog ⟨104,bM,bN,rec⟩):cM prog f104=some ⟨220,5,(Rt rec h).er,[],[]⟩:=by kernel_rfl
theorem IZ (rec:bM.T->Option bN.T) (h:Ht.Ok prog ⟨104,bM,bN,rec⟩):Ht.Ok prog ⟨104,bM,bN,(fun x=>run rec (FH104 x.1 x.2.1 x.2.2.1 x.2.2.2.1 x.2.2.2.2.1 x.2.2.2.2.2.1))⟩:=bV mixed (kA rec h) rfl func104 (Ru rec h) (enters_of func104 rfl rfl) (Rt rec h) (by kernel_rfl) rfl rfl ⟨_,rfl⟩ rfl (pre:=[0,1]) rfl (fun x=>Eq.trans (b:=run rec (flat (FH104 x.1 x.2.1 x.2.2.1 x.2.2.2.1 x.2.2.2.2.1 x.2.2.2.2.2.1))) (by kernel_rfl) FO)
noncomputable def FH104fix (bu:Nat) (bI:Nat) (v1:Int) (v2:Int) (v3:Int) (b0:List ((ByteArray×Int)×Int×Int)):bR ((List ((ByteArray×Int)×Int×Int))×Unit):=.fx (A1:=bM.T) (B1:=bN.T) (fun x=>FH104 x.1 x.2.1 x.2.2.1 x.2.2.2.1 x.2.2.2.2.1 x.2.2.2.2.2.1) (bu,bI,v1,v2,v3,b0,())
noncomputable def YS:Ht:=⟨104,bM,bN,fun x=>ai (FH104fix x.1 x.2.1 x.2.2.1 x.2.2.2.1 x.2.2.2.2.1 x.2.2.2.2.2.1)⟩
theorem Rv:YS.Ok prog:=Is (F:=fun rec x=>run rec (FH104 x.1 x.2.1 x.2.2.1 x.2.2.2.1 x.2.2.2.2.1 x.2.2.2.2.2.1)) (fun rec h=>IZ rec h)

/- 89, lent -/
abbrev pH89:au:=au.mk [(0,.c (.nT 0 (.prod (.prod .str tI) (.prod tI tI)))),(1,hI),(2,.fn 64 [] [.ptr 1 0])] [(0,.arr (.prod (.prod .str tI) (.prod tI tI)) false),(1,.cells [.fn0 37] false)] [.slot 0,.part 2 0] []
abbrev qH89:au:=au.mk [(0,.c .any)] [(1,.cells [.fn0 37] false),(0,.arr (.prod (.prod .str tI) (.prod tI tI)) false)] [] []
noncomputable def Lq:Cx:=(aM [] [ht65,YS])
theorem tQ:Lq.Ok prog:=ak trivial ⟨⟨V1,rfl⟩,⟨Rv,rfl⟩,trivial⟩
abbrev acp:au:=au.mk [(0,.c (.nT 0 (.prod (.prod .str tI) (.prod tI tI)))),(1,hI),(2,.fn 64 [] [.ptr 1 0]),(6,hI),(7,hI),(8,hI)] [(0,.arr (.prod (.prod .str tI) (.prod tI tI)) false),(1,.cells [.fn0 37] false)] [] []
abbrev acq:aT:=[(.exit 0,au.mk [(0,.c (.nT 0 (.prod (.prod .str tI) (.prod tI tI)))),(1,hI),(2,.fn 64 [] [.ptr 1 0]),(6,hI),(7,hI)] [(0,.arr (.prod (.prod .str tI) (.prod tI tI)) false),(1,.cells [.fn0 37] false)] [] [])]
noncomputable def acr:D prog 63 none 2:=dO [] (pick (kd prog f89) [(0,false)]) 0
noncomputable def gH89_0:Nat×Nat×Int×Int×Int×Int×(List ((ByteArray×Int)×Int×Int))×Unit->bR ((Nat×Nat×Int×Int×Int×Int×(List ((ByteArray×Int)×Int×Int))×Unit) ⊕ ((Nat×Nat×Int×Int×Int×(List ((ByteArray×Int)×Int×Int))×Unit))):=fun (bu,bI,v1,v6,v7,v8,b0,_) =>
 .br (decide (v8<=v1)) (
 .bd (FH65 bu bI v7 v8 b0) fun y0 =>
 .ni (v8+v6) <|
 .ret (.inl (bu,bI,v1,v6,v8,(v8+v6),y0.1,()))) (
 .ret (.inr (bu,bI,v1,v6,v7,b0,())))
noncomputable def acs:bt prog 63 none 2:=aW mixed Lq tQ [0,1] rfl acp acq rfl (acr) (fun x=>ai (gH89_0 x)) (fun x=>by kernel_rfl)
abbrev acu:au:=au.mk [(0,.c (.nT 0 (.prod (.prod .str tI) (.prod tI tI)))),(1,hI),(2,.fn 64 [] [.ptr 1 0]),(6,hI),(7,hI),(8,hI)] [(0,.arr (.prod (.prod .str tI) (.prod tI tI)) false),(1,.cells [.fn0 37] false)] [] []
abbrev acv:aT:=[(.exit 4,au.mk [(0,.c (.nT 0 (.prod (.prod .str tI) (.prod tI tI)))),(1,hI),(2,.fn 64 [] [.ptr 1 0]),(6,hI),(7,hI)] [(0,.arr (.prod (.prod .str tI) (.prod tI tI)) false),(1,.cells [.fn0 37] false)] [] [])]
noncomputable def acw:D prog 63 none 2:=dO [] (pick (kd prog f89) [(1,false),(0,false)]) 0
noncomputable def gH89_2:Nat×Nat×Int×Int×Int×Int×(List ((ByteArray×Int)×Int×Int))×Unit->bR ((Nat×Nat×Int×Int×Int×Int×(List ((ByteArray×Int)×Int×Int))×Unit) ⊕ ((Nat×Nat×Int×Int×Int×(List ((ByteArray×Int)×Int×Int))×Unit))):=fun (bu,bI,v1,v6,v7,v8,b0,_) =>
 .br (decide (v8<=v1)) (
 .ni (v7+v6) <|
 .bd (FH104fix bu bI v7 (v7+v6) v8 b0) fun y3 =>
 .ni ((2:Int) * v6) <|
 .ni (v8+((2:Int) * v6)) <|
 .ret (.inl (bu,bI,v1,v6,v8,(v8+((2:Int) * v6)),y3.1,()))) (
 .ret (.inr (bu,bI,v1,v6,v7,b0,())))
noncomputable def acy:bt prog 63 none 2:=aW mixed Lq tQ [0,1] rfl acu acv rfl (acw) (fun x=>ai (gH89_2 x)) (fun x=>by kernel_rfl)
abbrev acz:au:=au.mk [(0,.c (.nT 0 (.prod (.prod .str tI) (.prod tI tI)))),(1,hI),(2,.fn 64 [] [.ptr 1 0]),(6,hI)] [(0,.arr (.prod (.prod .str tI) (.prod tI tI)) false),(1,.cells [.fn0 37] false)] [] []
abbrev acA:aT:=[(.exit 2,au.mk [] [(1,.cells [.fn0 37] false),(0,.arr (.prod (.prod .str tI) (.prod tI tI)) false)] [] [])]
noncomputable def acB:D prog 63 none 2:=dO [.l acy] (pick (kd prog f89) [(1,false)]) 0
noncomputable def gH89_1:Nat×Nat×Int×Int×(List ((ByteArray×Int)×Int×Int))×Unit->bR ((Nat×Nat×Int×Int×(List ((ByteArray×Int)×Int×Int))×Unit) ⊕ (((List ((ByteArray×Int)×Int×Int))×Unit))):=fun (bu,bI,v1,v6,b0,_) =>
 .br (decide (v6<v1)) (
 .ni ((2:Int) * v6) <|
 .bd (.it gH89_2 (bu,bI,v1,v6,(0:Int),((2:Int) * v6),b0,())) fun z4 =>
 .ni (z4.2.2.2.2.1+z4.2.2.2.1) <|
 .br (decide ((z4.2.2.2.2.1+z4.2.2.2.1)<z4.2.2.1)) (
 .bd (FH104fix z4.1 z4.2.1 z4.2.2.2.2.1 (z4.2.2.2.2.1+z4.2.2.2.1) z4.2.2.1 z4.2.2.2.2.2.1) fun y5 =>
 .ni (z4.2.2.2.1 * (2:Int)) <|
 .ret (.inl (z4.1,z4.2.1,z4.2.2.1,(z4.2.2.2.1 * (2:Int)),y5.1,()))) (
 .ni (z4.2.2.2.1 * (2:Int)) <|
 .ret (.inl (z4.1,z4.2.1,z4.2.2.1,(z4.2.2.2.1 * (2:Int)),z4.2.2.2.2.2.1,())))) (
 .ret (.inr (b0,())))
noncomputable def acC:bt prog 63 none 2:=aW mixed Lq tQ [0,1] rfl acz acA rfl (acB) (fun x=>ai (gH89_1 x)) (fun x=>by kernel_rfl)
noncomputable def YT:D prog 63 none 2:=dO [.l acs,.l acC] (kd prog f89) 0
noncomputable def FH89 (bu:Nat) (bI:Nat) (v1:Int) (b0:List ((ByteArray×Int)×Int×Int)):bR ((List ((ByteArray×Int)×Int×Int))×Unit) :=
 .bd (.it gH89_0 (bu,bI,v1,(20:Int),(0:Int),(20:Int),b0,())) fun z1 =>
 .bd (FH65 z1.1 z1.2.1 z1.2.2.2.2.1 z1.2.2.1 z1.2.2.2.2.2.1) fun y2 =>
 .bd (.it gH89_1 (z1.1,z1.2.1,z1.2.2.1,z1.2.2.2.1,y2.1,())) fun z6 =>
 .ret (z6.1,())
theorem Wm:cM prog f89=some ⟨63,3,YT.er,[],[]⟩:=by kernel_rfl
noncomputable def ht89:Ht:=⟨89,pH89,qH89,(fun x=>ai (FH89 x.1 x.2.1 x.2.2.1 x.2.2.2.1))⟩
theorem Wn:ht89.Ok prog:=bV mixed tQ rfl func89 Wm (enters_of func89 rfl rfl) YT (by kernel_rfl) rfl rfl ⟨_,rfl⟩ rfl (pre:=[0,1]) rfl (fun x=>by kernel_rfl)

/- 63, lent -/
abbrev pH63:au:=au.mk [(0,.c (.nT 0 (.prod (.prod .str tI) (.prod tI tI)))),(1,.fn 64 [] [.ptr 1 0])] [(0,.arr (.prod (.prod .str tI) (.prod tI tI)) false),(1,.cells [.fn0 37] false)] [.slot 0,.part 1 0] []
abbrev qH63:au:=au.mk [(0,.c .any)] [(1,.cells [.fn0 37] false),(0,.arr (.prod (.prod .str tI) (.prod tI tI)) false)] [] []
noncomputable def ahA:Cx:=(aM [] [ht89])
theorem Rw:ahA.Ok prog:=ak trivial ⟨⟨Wn,rfl⟩,trivial⟩
noncomputable def YU:D prog 9 none 2:=dO [] (kd prog f63) 0
noncomputable def FH63 (bu:Nat) (bI:Nat) (b0:List ((ByteArray×Int)×Int×Int)):bR ((List ((ByteArray×Int)×Int×Int))×Unit) :=
 .bd (FH89 bu bI ((bI:Nat):Int) b0) fun y0 =>
 .ret (y0.1,())
theorem Wo:cM prog f63=some ⟨9,2,YU.er,[],[]⟩:=by kernel_rfl
noncomputable def ht63:Ht:=⟨63,pH63,qH63,(fun x=>ai (FH63 x.1 x.2.1 x.2.2.1))⟩
theorem Wp:ht63.Ok prog:=bV mixed Rw rfl func63 Wo (enters_of func63 rfl rfl) YU (by kernel_rfl) rfl rfl ⟨_,rfl⟩ rfl (pre:=[0,1]) rfl (fun x=>by kernel_rfl)

/- 39 -/
noncomputable def cx39:Cx:=(aM [] [])
theorem Lr:cx39.Ok prog:=ak trivial trivial
abbrev ahD:au:=au.mk [(1,.c (.ptr 0 0)),(2,.c (.ptr 1 0)),(3,hI),(4,hI)] [(0,.cells [.hole tI,.hole tI] false),(1,.cells [.hole tI,.hole tI] false)] [.slot 1,.slot 2] []
abbrev ahE:aT:=[(.exit 0,au.mk [(1,.c (.ptr 0 0)),(2,.c (.ptr 1 0)),(3,hI)] [(0,.cells [.hole tI,.hole tI] false),(1,.cells [.hole tI,.hole tI] false)] [.slot 1,.slot 2] [])]
noncomputable def ahF:D prog 24 none 0:=dO [] (pick (kd prog f39) [(0,false)]) 0
noncomputable def g39_0:Int×Int×Int×Int×Int×Int×Unit->bR ((Int×Int×Int×Int×Int×Int×Unit) ⊕ ((Int×Int×Int×Int×Int×Unit))):=fun (v3,v4,jV,jW,c7,iP,_) =>
 .br (decide ((0:Int)<v4)) (
 .nd (!(v4==(0:Int))) <|
 .ret (.inl (v4,(Int.tmod v3 v4),jV,jW,c7,iP,()))) (
 .ret (.inr (v3,jV,jW,c7,iP,())))
noncomputable def ahG:bt prog 24 none 0:=aW mixed cx39 Lr [] rfl ahD ahE rfl (ahF) (fun x=>ai (g39_0 x)) (fun x=>by kernel_rfl)
noncomputable def dd39:D prog 24 none 0:=dO [.l ahG] (kd prog f39) 0
noncomputable def F39 (a0:Int×Int):bR ((Int×Int)×Unit) :=
 .bd (.it g39_0 (a0.1,a0.2,a0.1,a0.2,(0:Int),(0:Int),())) fun z0 =>
 .nd (!(z0.1==(0:Int))) <|
 .ni (Int.tdiv z0.2.1 z0.1) <|
 .nd (!(z0.1==(0:Int))) <|
 .ni (Int.tdiv z0.2.2.1 z0.1) <|
 .ret (((Int.tdiv z0.2.1 z0.1),(Int.tdiv z0.2.2.1 z0.1)),())
theorem acD:cM prog f39=some ⟨24,1,dd39.er,[.cell 2 true 2],[some (.prod tI tI)]⟩:=by kernel_rfl
noncomputable def ct39:Ct:=⟨39,[.c (.hole (.prod tI tI))],.c (.hole (.prod tI tI)),fun x=>ai (F39 x.1)⟩
theorem Wq:ct39.Ok prog:=cu mixed Lr func39 acD (enters_of func39 rfl rfl) dd39 (by kernel_rfl) rfl (fun x=>by kernel_rfl)

/- 16 -/
noncomputable def Rx:Cx:=(aM [ct36,ab8,acd,ct39] [abZ,ht61,ht63])
theorem tR:Rx.Ok prog:=ak ⟨VR,Lf,Lg,Wq,trivial⟩ ⟨⟨K7,rfl⟩,⟨VW,rfl⟩,⟨Wp,rfl⟩,trivial⟩
noncomputable def Ry:D prog 45 (some 5) 8:=dO [] (pick (kd prog f16) [(0,false)]) 0
noncomputable def Rz:D prog 45 (some 5) 8:=dO [] (pick (kd prog f16) [(0,true)]) 0
noncomputable def DL:Cx:=AF Rx (fun kz=>P9 kz Rx bW 5 8 [13] (Ry) (Rz))
theorem zF:(DL).Ok prog:=jU tR (fun h=>nW mixed tR h)
abbrev RA:au:=au.mk [(0,.c (.yl 5)),(14,.c (.nT 6 (.prod (.prod .str tI) (.prod tI tI)))),(15,hI),(16,hI)] [(5,.loop .ready none 4 [(1,.c (.ptr 0 0)),(2,.c (.ptr 1 0)),(3,.c (.ptr 2 0)),(4,.c (.ptr 3 0)),(12,.fn 60 [] [.fe (.prod (.list (.prod (.prod .str tI) (.prod tI tI))) tI)])] [13] (.aX [.op (some 5) none (.alloc [.str (ByteArray.mk (Array.mk [])),.int .i64 (Int.ofNat 0),.int .i64 (Int.ofNat 0),.int .i64 (Int.ofNat 0)]),.op none none (.store 4 (.t 5) (.t 13))]) (.block 1 (.aX [.op (some 14) none (.load false 1 (.t 4)),.op (some 15) none (.lI 3 [true,true] (.t 5)),.op (some 16) none (.load false 1 (.t 15)),.op (some 17) none (.bin .add (.t 14) (.t 16)),.op none none (.store 1 (.t 4) (.t 17))])) 45),(6,.arr (.prod (.prod .str tI) (.prod tI tI)) false),(4,.iy),(0,.cells [.hole (.list (.prod (.prod .str tI) (.prod tI tI))),.hole tI] false),(1,.cells [.hole tI,.hole tI] false),(2,.cells [.hole tI] false),(3,.cells [.hole tI] false)] [.slot 14] []
abbrev RB:aT:=[(.exit 0,au.mk [] [(0,.cells [.hole (.list (.prod (.prod .str tI) (.prod tI tI))),.hole tI] false),(1,.cells [.hole tI,.hole tI] false),(2,.cells [.hole tI] false),(3,.cells [.hole tI] false),(4,.iy),(5,.loop .ready none 4 [(1,.c (.ptr 0 0)),(2,.c (.ptr 1 0)),(3,.c (.ptr 2 0)),(4,.c (.ptr 3 0)),(12,.fn 60 [] [.fe (.prod (.list (.prod (.prod .str tI) (.prod tI tI))) tI)])] [13] (.aX [.op (some 5) none (.alloc [.str (ByteArray.mk (Array.mk [])),.int .i64 (Int.ofNat 0),.int .i64 (Int.ofNat 0),.int .i64 (Int.ofNat 0)]),.op none none (.store 4 (.t 5) (.t 13))]) (.block 1 (.aX [.op (some 14) none (.load false 1 (.t 4)),.op (some 15) none (.lI 3 [true,true] (.t 5)),.op (some 16) none (.load false 1 (.t 15)),.op (some 17) none (.bin .add (.t 14) (.t 16)),.op none none (.store 1 (.t 4) (.t 17))])) 45)] [] [])]
noncomputable def RC:D prog 25 none 6:=dO [] (pick (kd prog f60) [(0,false)]) 0
noncomputable def g16_0i_0:Nat×Nat×Int×Int×((List ((ByteArray×Int)×Int×Int))×Int)×(List ((ByteArray×Int)×Int×Int))×(List ((ByteArray×Int)×Int×Int))×Int×Int×Int×Int×Int×Unit->bR ((Nat×Nat×Int×Int×((List ((ByteArray×Int)×Int×Int))×Int)×(List ((ByteArray×Int)×Int×Int))×(List ((ByteArray×Int)×Int×Int))×Int×Int×Int×Int×Int×Unit) ⊕ (((List ((ByteArray×Int)×Int×Int))×Int×Int×Int×Int×Int×((List ((ByteArray×Int)×Int×Int))×Int)×Unit))):=fun (oa,Gv,di,lH,Ls,b6,jV,jW,c7,iP,lz,AQ,_) =>
 .br (decide (lH<di)) (
 .nb lH ((Gv:Nat):Int) <|
 .nd (decide ((oa+(Int.toNat lH))<(b6).length)) <|
 .ni (AQ+((b6).getD (oa+(Int.toNat lH)) (((bs []),(0:Int)),(0:Int),(0:Int))).2.2) <|
 .ni (lH+(1:Int)) <|
 .ret (.inl (oa,Gv,di,(lH+(1:Int)),(Ls.1,Ls.2),b6,jV,jW,c7,iP,lz,(AQ+((b6).getD (oa+(Int.toNat lH)) (((bs []),(0:Int)),(0:Int),(0:Int))).2.2),()))) (
 .ret (.inr (jV,jW,c7,iP,lz,AQ,(Ls.1,Ls.2),())))
noncomputable def RD:bt prog 25 none 6:=aW mixed DL zF [0,1,2,3,4,5] rfl RA RB rfl (RC) (fun x=>ai (g16_0i_0 x)) (fun x=>by kernel_rfl)
abbrev ahJ:au:=au.mk [(1,.c (.ptr 0 0)),(2,.c (.ptr 1 0)),(3,.c (.ptr 2 0)),(4,.c (.ptr 3 0)),(12,.fn 60 [] [.fe (.prod (.list (.prod (.prod .str tI) (.prod tI tI))) tI)])] [(0,.cells [.hole (.list (.prod (.prod .str tI) (.prod tI tI))),.hole tI] false),(1,.cells [.hole tI,.hole tI] false),(2,.cells [.hole tI] false),(3,.cells [.hole tI] false)] [.slot 1,.slot 2,.slot 3,.slot 4] []
abbrev ahK:aT:=[(.normal,au.mk [(1,.c (.ptr 0 0)),(2,.c (.ptr 1 0)),(3,.c (.ptr 2 0)),(4,.c (.ptr 3 0))] [(0,.cells [.hole (.list (.prod (.prod .str tI) (.prod tI tI))),.hole tI] false),(1,.cells [.hole tI,.hole tI] false),(2,.cells [.hole tI] false),(3,.cells [.hole tI] false)] [.slot 1,.slot 2,.slot 3,.slot 4] [])]
noncomputable def RE:D prog 25 none 6:=dO [.l RD] (kd prog f60) 0
theorem acE:cM prog f60=some ⟨25,2,(RE).er,[],[]⟩:=by kernel_rfl
noncomputable def g16_0:((List ((ByteArray×Int)×Int×Int))×Int)×(List ((ByteArray×Int)×Int×Int))×Int×Int×Int×Int×Int×Unit->bR (((List ((ByteArray×Int)×Int×Int))×Int×Int×Int×Int×Int×Unit)):=fun (RG,jV,jW,c7,iP,lz,AQ,_) =>
 .bd (FH18 RG.1) fun y1 =>
 .bd (FH61 y1.1 y1.2.1) fun y2 =>
 .bd (FH63 y2.1 y2.2.1 y2.2.2.1) fun y3 =>
 .bd (.it g16_0i_0 (y2.1,y2.2.1,((y2.2.1:Nat):Int),(0:Int),(RG.1,RG.2),y3.1,jV,jW,c7,iP,lz,AQ,())) fun z4 =>
 .ret ((z4.1,z4.2.1,z4.2.2.1,z4.2.2.2.1,z4.2.2.2.2.1,z4.2.2.2.2.2.1,()))
noncomputable def ahL:gH prog 45 none 0:=ql mixed DL zF [] rfl ahJ ahK ( .t 12) [13] rfl (Ry).er (Rz).er 60 func60 (acE) (enters_of func60 rfl rfl) 6 rfl (RE) rfl (fun x=>ai (g16_0 x)) (fun x=>by kernel_rfl)
noncomputable def RH:D prog 45 (some 5) 8:=dO [] (pick (kd prog f16) [(1,false)]) 0
noncomputable def RI:D prog 45 (some 5) 8:=dO [] (pick (kd prog f16) [(1,true)]) 0
noncomputable def DM:Cx:=AF Rx (fun kz=>P9 kz Rx bW 5 8 [21] (RH) (RI))
theorem zG:(DM).Ok prog:=jU tR (fun h=>nW mixed tR h)
abbrev RJ:au:=au.mk [(0,.c (.yl 5)),(14,.c (.nT 6 (.prod (.prod .str tI) (.prod tI tI)))),(15,hI),(16,hI)] [(5,.loop .ready none 4 [(2,.c (.ptr 0 0)),(3,.c (.ptr 1 0)),(4,.c (.ptr 2 0)),(6,.c (.ptr 3 0)),(20,.fn 60 [] [.fe (.prod (.list (.prod (.prod .str tI) (.prod tI tI))) tI)])] [21] (.aX [.op (some 7) none (.alloc [.str (ByteArray.mk (Array.mk [])),.int .i64 (Int.ofNat 0),.int .i64 (Int.ofNat 0),.int .i64 (Int.ofNat 0)]),.op none none (.store 4 (.t 7) (.t 21))]) (.block 3 (.seq (.seq (.aX [.op (some 22) none (.load false 1 (.t 3)),.op (some 23) none (.load false 1 (.t 4)),.op (some 24) none (.build [.int .i64 (Int.ofNat 0),.int .i64 (Int.ofNat 0)] [(0,1,.t 22),(1,1,.t 23)]),.op (some 8) none (.alloc [.int .i64 (Int.ofNat 0),.int .i64 (Int.ofNat 0)]),.op none none (.store 2 (.t 8) (.t 24))]) (.seq (.seq (.draw [[],[],[1],[0,1,2],[0,1,2,3]] [.op (some 25) none (.load true 2 (.t 8)),.op (some 26) none (.load true 4 (.t 7)),.call (some 27) none (.c (.fn 38 [] [])) [.t 26] [some (.prod (.prod .str tI) (.prod tI tI))]]) (.aX [.call (some 28) none (.c (.fn 37 [] [])) [.t 25,.t 27] [some (.prod tI tI),some (.prod tI tI)],.op (some 29) none (.bin .leq (.t 28) (.c (.int .i64 (Int.ofNat 0))))])) (.cond (.t 29) (.seq (.aX [.op (some 30) none (.load true 2 (.t 8)),.call (some 31) none (.c (.fn 39 [] [])) [.t 30] [some (.prod tI tI)],.op none none (.store 2 (.t 2) (.t 31))]) .ret) .skip))) (.seq (.aX [.op (some 32) none (.load true 4 (.t 7)),.call (some 33) none (.c (.fn 38 [] [])) [.t 32] [some (.prod (.prod .str tI) (.prod tI tI))],.call (some 34) none (.c (.fn 39 [] [])) [.t 33] [some (.prod tI tI)],.op none none (.store 2 (.t 6) (.t 34))]) (.seq (.aX [.op (some 35) none (.load false 1 (.t 3)),.op (some 36) none (.lI 0 [false] (.t 7)),.op (some 37) none (.lI 1 [true] (.t 36)),.op (some 38) none (.load false 1 (.t 37)),.op (some 39) none (.bin .sub (.t 35) (.t 38)),.op none none (.store 1 (.t 3) (.t 39))]) (.aX [.op (some 40) none (.load false 1 (.t 4)),.op (some 41) none (.lI 3 [true,true] (.t 7)),.op (some 42) none (.load false 1 (.t 41)),.op (some 43) none (.bin .sub (.t 40) (.t 42)),.op none none (.store 1 (.t 4) (.t 43))]))))) 45),(6,.arr (.prod (.prod .str tI) (.prod tI tI)) false),(4,.iy),(0,.cells [.hole tI,.hole tI] false),(1,.cells [.hole tI] false),(2,.cells [.hole tI] false),(3,.cells [.hole tI,.hole tI] false)] [.slot 14] []
abbrev RK:aT:=[(.ret,au.mk [] [(0,.cells [.hole tI,.hole tI] false),(1,.cells [.hole tI] false),(2,.cells [.hole tI] false),(3,.cells [.hole tI,.hole tI] false),(4,.iy),(5,.loop .done (some .ret) 4 [(2,.c (.ptr 0 0)),(3,.c (.ptr 1 0)),(4,.c (.ptr 2 0)),(6,.c (.ptr 3 0)),(20,.fn 60 [] [.fe (.prod (.list (.prod (.prod .str tI) (.prod tI tI))) tI)])] [21] (.aX [.op (some 7) none (.alloc [.str (ByteArray.mk (Array.mk [])),.int .i64 (Int.ofNat 0),.int .i64 (Int.ofNat 0),.int .i64 (Int.ofNat 0)]),.op none none (.store 4 (.t 7) (.t 21))]) (.block 3 (.seq (.seq (.aX [.op (some 22) none (.load false 1 (.t 3)),.op (some 23) none (.load false 1 (.t 4)),.op (some 24) none (.build [.int .i64 (Int.ofNat 0),.int .i64 (Int.ofNat 0)] [(0,1,.t 22),(1,1,.t 23)]),.op (some 8) none (.alloc [.int .i64 (Int.ofNat 0),.int .i64 (Int.ofNat 0)]),.op none none (.store 2 (.t 8) (.t 24))]) (.seq (.seq (.draw [[],[],[1],[0,1,2],[0,1,2,3]] [.op (some 25) none (.load true 2 (.t 8)),.op (some 26) none (.load true 4 (.t 7)),.call (some 27) none (.c (.fn 38 [] [])) [.t 26] [some (.prod (.prod .str tI) (.prod tI tI))]]) (.aX [.call (some 28) none (.c (.fn 37 [] [])) [.t 25,.t 27] [some (.prod tI tI),some (.prod tI tI)],.op (some 29) none (.bin .leq (.t 28) (.c (.int .i64 (Int.ofNat 0))))])) (.cond (.t 29) (.seq (.aX [.op (some 30) none (.load true 2 (.t 8)),.call (some 31) none (.c (.fn 39 [] [])) [.t 30] [some (.prod tI tI)],.op none none (.store 2 (.t 2) (.t 31))]) .ret) .skip))) (.seq (.aX [.op (some 32) none (.load true 4 (.t 7)),.call (some 33) none (.c (.fn 38 [] [])) [.t 32] [some (.prod (.prod .str tI) (.prod tI tI))],.call (some 34) none (.c (.fn 39 [] [])) [.t 33] [some (.prod tI tI)],.op none none (.store 2 (.t 6) (.t 34))]) (.seq (.aX [.op (some 35) none (.load false 1 (.t 3)),.op (some 36) none (.lI 0 [false] (.t 7)),.op (some 37) none (.lI 1 [true] (.t 36)),.op (some 38) none (.load false 1 (.t 37)),.op (some 39) none (.bin .sub (.t 35) (.t 38)),.op none none (.store 1 (.t 3) (.t 39))]) (.aX [.op (some 40) none (.load false 1 (.t 4)),.op (some 41) none (.lI 3 [true,true] (.t 7)),.op (some 42) none (.load false 1 (.t 41)),.op (some 43) none (.bin .sub (.t 40) (.t 42)),.op none none (.store 1 (.t 4) (.t 43))]))))) 45)] [] []),(.exit 0,au.mk [] [(0,.cells [.hole tI,.hole tI] false),(1,.cells [.hole tI] false),(2,.cells [.hole tI] false),(3,.cells [.hole tI,.hole tI] false),(4,.iy),(5,.loop .ready none 4 [(2,.c (.ptr 0 0)),(3,.c (.ptr 1 0)),(4,.c (.ptr 2 0)),(6,.c (.ptr 3 0)),(20,.fn 60 [] [.fe (.prod (.list (.prod (.prod .str tI) (.prod tI tI))) tI)])] [21] (.aX [.op (some 7) none (.alloc [.str (ByteArray.mk (Array.mk [])),.int .i64 (Int.ofNat 0),.int .i64 (Int.ofNat 0),.int .i64 (Int.ofNat 0)]),.op none none (.store 4 (.t 7) (.t 21))]) (.block 3 (.seq (.seq (.aX [.op (some 22) none (.load false 1 (.t 3)),.op (some 23) none (.load false 1 (.t 4)),.op (some 24) none (.build [.int .i64 (Int.ofNat 0),.int .i64 (Int.ofNat 0)] [(0,1,.t 22),(1,1,.t 23)]),.op (some 8) none (.alloc [.int .i64 (Int.ofNat 0),.int .i64 (Int.ofNat 0)]),.op none none (.store 2 (.t 8) (.t 24))]) (.seq (.seq (.draw [[],[],[1],[0,1,2],[0,1,2,3]] [.op (some 25) none (.load true 2 (.t 8)),.op (some 26) none (.load true 4 (.t 7)),.call (some 27) none (.c (.fn 38 [] [])) [.t 26] [some (.prod (.prod .str tI) (.prod tI tI))]]) (.aX [.call (some 28) none (.c (.fn 37 [] [])) [.t 25,.t 27] [some (.prod tI tI),some (.prod tI tI)],.op (some 29) none (.bin .leq (.t 28) (.c (.int .i64 (Int.ofNat 0))))])) (.cond (.t 29) (.seq (.aX [.op (some 30) none (.load true 2 (.t 8)),.call (some 31) none (.c (.fn 39 [] [])) [.t 30] [some (.prod tI tI)],.op none none (.store 2 (.t 2) (.t 31))]) .ret) .skip))) (.seq (.aX [.op (some 32) none (.load true 4 (.t 7)),.call (some 33) none (.c (.fn 38 [] [])) [.t 32] [some (.prod (.prod .str tI) (.prod tI tI))],.call (some 34) none (.c (.fn 39 [] [])) [.t 33] [some (.prod tI tI)],.op none none (.store 2 (.t 6) (.t 34))]) (.seq (.aX [.op (some 35) none (.load false 1 (.t 3)),.op (some 36) none (.lI 0 [false] (.t 7)),.op (some 37) none (.lI 1 [true] (.t 36)),.op (some 38) none (.load false 1 (.t 37)),.op (some 39) none (.bin .sub (.t 35) (.t 38)),.op none none (.store 1 (.t 3) (.t 39))]) (.aX [.op (some 40) none (.load false 1 (.t 4)),.op (some 41) none (.lI 3 [true,true] (.t 7)),.op (some 42) none (.load false 1 (.t 41)),.op (some 43) none (.bin .sub (.t 40) (.t 42)),.op none none (.store 1 (.t 4) (.t 43))]))))) 45)] [] [])]
noncomputable def RL:D prog 25 none 6:=dO [] (pick (kd prog f60) [(0,false)]) 0
noncomputable def g16_1i_0:Nat×Nat×Int×Int×((List ((ByteArray×Int)×Int×Int))×Int)×(List ((ByteArray×Int)×Int×Int))×Int×Int×Int×Int×Int×Int×Unit->bR ((Nat×Nat×Int×Int×((List ((ByteArray×Int)×Int×Int))×Int)×(List ((ByteArray×Int)×Int×Int))×Int×Int×Int×Int×Int×Int×Unit) ⊕ ((Int×Int×Int×Int×Int×Int×((List ((ByteArray×Int)×Int×Int))×Int)×Unit) ⊕ ((Int×Int×Int×Int×Int×Int×((List ((ByteArray×Int)×Int×Int))×Int)×Unit)))):=fun (oa,Gv,di,lH,BW,b6,jV,jW,c7,lz,AQ,Wr,_) =>
 .br (decide (lH<di)) (
 .nb lH ((Gv:Nat):Int) <|
 .nd (decide ((oa+(Int.toNat lH))<(b6).length)) <|
 .bd (F38 (((b6).getD (oa+(Int.toNat lH)) (((bs []),(0:Int)),(0:Int),(0:Int))).1.1,((b6).getD (oa+(Int.toNat lH)) (((bs []),(0:Int)),(0:Int),(0:Int))).1.2,((b6).getD (oa+(Int.toNat lH)) (((bs []),(0:Int)),(0:Int),(0:Int))).2.1,((b6).getD (oa+(Int.toNat lH)) (((bs []),(0:Int)),(0:Int),(0:Int))).2.2)) fun y10 =>
 .bd (F37 (c7,lz) (y10.1.1,y10.1.2)) fun y11 =>
 .br (decide (y11.1<=(0:Int))) (
 .bd (F39 (c7,lz)) fun y12 =>
 .ret (.inr <| .inl<|(y12.1.1,y12.1.2,c7,lz,AQ,Wr,(BW.1,BW.2),()))) (
 .bd (F38 (((b6).getD (oa+(Int.toNat lH)) (((bs []),(0:Int)),(0:Int),(0:Int))).1.1,((b6).getD (oa+(Int.toNat lH)) (((bs []),(0:Int)),(0:Int),(0:Int))).1.2,((b6).getD (oa+(Int.toNat lH)) (((bs []),(0:Int)),(0:Int),(0:Int))).2.1,((b6).getD (oa+(Int.toNat lH)) (((bs []),(0:Int)),(0:Int),(0:Int))).2.2)) fun y13 =>
 .bd (F39 (y13.1.1,y13.1.2)) fun NA =>
 .ni (c7 - ((b6).getD (oa+(Int.toNat lH)) (((bs []),(0:Int)),(0:Int),(0:Int))).1.2) <|
 .ni (lz - ((b6).getD (oa+(Int.toNat lH)) (((bs []),(0:Int)),(0:Int),(0:Int))).2.2) <|
 .ni (lH+(1:Int)) <|
 .ret (.inl (oa,Gv,di,(lH+(1:Int)),(BW.1,BW.2),b6,jV,jW,(c7 - ((b6).getD (oa+(Int.toNat lH)) (((bs []),(0:Int)),(0:Int),(0:Int))).1.2),(lz - ((b6).getD (oa+(Int.toNat lH)) (((bs []),(0:Int)),(0:Int),(0:Int))).2.2),NA.1.1,NA.1.2,())))) (
 .ret (.inr <| .inr<|(jV,jW,c7,lz,AQ,Wr,(BW.1,BW.2),())))
noncomputable def RM:bt prog 25 none 6:=aW mixed DM zG [0,1,2,3,4,5] rfl RJ RK rfl (RL) (fun x=>ai (g16_1i_0 x)) (fun x=>by kernel_rfl)
abbrev ahN:au:=au.mk [(2,.c (.ptr 0 0)),(3,.c (.ptr 1 0)),(4,.c (.ptr 2 0)),(6,.c (.ptr 3 0)),(20,.fn 60 [] [.fe (.prod (.list (.prod (.prod .str tI) (.prod tI tI))) tI)])] [(0,.cells [.hole tI,.hole tI] false),(1,.cells [.hole tI] false),(2,.cells [.hole tI] false),(3,.cells [.hole tI,.hole tI] false)] [.slot 2,.slot 3,.slot 4,.slot 6] []
abbrev ahO:aT:=[(.ret,au.mk [(2,.c (.ptr 0 0))] [(0,.cells [.hole tI,.hole tI] false)] [.slot 2] []),(.normal,au.mk [(2,.c (.ptr 0 0)),(6,.c (.ptr 1 0))] [(0,.cells [.hole tI,.hole tI] false),(1,.cells [.hole tI,.hole tI] false)] [.slot 2,.slot 6] [])]
noncomputable def RN:D prog 25 none 6:=dO [.l RM] (kd prog f60) 0
theorem acF:cM prog f60=some ⟨25,2,(RN).er,[],[]⟩:=by kernel_rfl
noncomputable def g16_1:((List ((ByteArray×Int)×Int×Int))×Int)×Int×Int×Int×Int×Int×Int×Unit->bR ((Int×Int×Unit) ⊕ ((Int×Int×Int×Int×Unit))):=fun (RO,jV,jW,c7,lz,AQ,Wr,_) =>
 .bd (FH18 RO.1) fun y7 =>
 .bd (FH61 y7.1 y7.2.1) fun y8 =>
 .bd (FH63 y8.1 y8.2.1 y8.2.2.1) fun y9 =>
 .bd (.it g16_1i_0 (y8.1,y8.2.1,((y8.2.1:Nat):Int),(0:Int),(RO.1,RO.2),y9.1,jV,jW,c7,lz,AQ,Wr,())) fun z15 =>
 .sm z15 (fun z16 =>
 .ret (.inl<|(z16.1,z16.2.1,()))) fun z17 =>
 .ret (.inr<|(z17.1,z17.2.1,z17.2.2.2.2.1,z17.2.2.2.2.2.1,()))
noncomputable def ahP:gH prog 45 none 0:=ql mixed DM zG [] rfl ahN ahO ( .t 20) [21] rfl (RH).er (RI).er 60 func60 (acF) (enters_of func60 rfl rfl) 6 rfl (RN) rfl (fun x=>ai (g16_1 x)) (fun x=>by kernel_rfl)
noncomputable def dd16:D prog 45 none 0:=dO [.r ahL,.r ahP] (kd prog f16) 0
noncomputable def F16 (a0:(List ((ByteArray×Int)×Int×Int))×Int):bR ((Int×Int)×Unit) :=
 .bd (F36 (a0.1,a0.2)) fun y0 =>
 .bd (g16_0 ((y0.1.1,y0.1.2),a0.1,a0.2,(0:Int),(0:Int),a0.2,(0:Int),())) fun z5 =>
 .bd (F36 (z5.1,z5.2.1)) fun y6 =>
 .bd (g16_1 ((y6.1.1,y6.1.2),z5.2.2.1,z5.2.2.2.1,z5.2.2.2.2.1,z5.2.2.2.2.2.1,(0:Int),(1:Int),())) fun sn =>
 .sm sn (fun z19 =>
 .ret ((z19.1,z19.2.1),())) fun z20 =>
 .ret ((z20.2.2.1,z20.2.2.2.1),())
theorem acG:cM prog f16=some ⟨45,1,dd16.er,[.cell 2 true 2],[some (.prod tI tI)]⟩:=by kernel_rfl
noncomputable def ct16:Ct:=⟨16,[.c (.hole (.prod (.list (.prod (.prod .str tI) (.prod tI tI))) tI))],.c (.hole (.prod tI tI)),fun x=>ai (F16 x.1)⟩
theorem Ws:ct16.Ok prog:=cu mixed tR func16 acG (enters_of func16 rfl rfl) dd16 (by kernel_rfl) rfl (fun x=>by kernel_rfl)

/- 17 -/
noncomputable def cx17:Cx:=(aM [] [])
theorem Wt:cx17.Ok prog:=ak trivial trivial
noncomputable def dd17:D prog 31 none 0:=dO [] (kd prog f17) 0
noncomputable def F17 (a0:ByteArray×Int×Int×Int) (a1:Int×Int):bR (Int×Int×Unit) :=
 .ni (a1.1 * a0.2.2.2) <|
 .ni (a0.2.1 * a1.2) <|
 .br (decide ((a0.2.1 * a1.2)<=(a1.1 * a0.2.2.2))) (
 .ret (a0.2.1,(0:Int),())) (
 .nd (!(a1.2==(0:Int))) <|
 .ni (Int.tdiv (a1.1 * a0.2.2.2) a1.2) <|
 .nd (!(a1.2==(0:Int))) <|
 .ret ((Int.tdiv (a1.1 * a0.2.2.2) a1.2),(Int.tmod (a1.1 * a0.2.2.2) a1.2),()))
theorem acH:cM prog f17=some ⟨31,2,dd17.er,[.t 4,.t 5],[some tI,some tI]⟩:=by kernel_rfl
noncomputable def ct17:Ct:=⟨17,[.c (.hole (.prod .str (.prod tI (.prod tI tI)))),.c (.hole (.prod tI tI))],.dc [.hole tI,.hole tI],fun x=>ai (F17 x.1 x.2.1)⟩
theorem Wu:ct17.Ok prog:=cu mixed Wt func17 acH (enters_of func17 rfl rfl) dd17 (by kernel_rfl) rfl (fun x=>by kernel_rfl)

/- 74 -/
noncomputable def cx74:Cx:=(aM [] [])
theorem Wv:cx74.Ok prog:=ak trivial trivial
noncomputable def dd74:D prog 25 none 0:=dO [] (kd prog f74) 0
noncomputable def F74 (a0:Int):bR (Int×Unit) :=
 .jx (
 .br (decide ((4294967296:Int)<=a0)) (
 .nb (32:Int) (64:Int) <|
 .ret (.inl ((bW.shr a0 (32:Int)),(32:Int),()))) (
 .ret (.inl (a0,(0:Int),())))) fun j0 =>
 .jx (
 .br (decide ((65536:Int)<=j0.1)) (
 .nb (16:Int) (64:Int) <|
 .ni (j0.2.1+(16:Int)) <|
 .ret (.inl ((bW.shr j0.1 (16:Int)),(j0.2.1+(16:Int)),()))) (
 .ret (.inl (j0.1,j0.2.1,())))) fun j1 =>
 .jx (
 .br (decide ((256:Int)<=j1.1)) (
 .nb (8:Int) (64:Int) <|
 .ni (j1.2.1+(8:Int)) <|
 .ret (.inl ((bW.shr j1.1 (8:Int)),(j1.2.1+(8:Int)),()))) (
 .ret (.inl (j1.1,j1.2.1,())))) fun j2 =>
 .nd (dV .u8 j2.1) <|
 .nb j2.1 (((bs [0,1,2,2,3,3,3,3,4,4,4,4,4,4,4,4,5,5,5,5,5,5,5,5,5,5,5,5,5,5,5,5,6,6,6,6,6,6,6,6,6,6,6,6,6,6,6,6,6,6,6,6,6,6,6,6,6,6,6,6,6,6,6,6,7,7,7,7,7,7,7,7,7,7,7,7,7,7,7,7,7,7,7,7,7,7,7,7,7,7,7,7,7,7,7,7,7,7,7,7,7,7,7,7,7,7,7,7,7,7,7,7,7,7,7,7,7,7,7,7,7,7,7,7,7,7,7,7,8,8,8,8,8,8,8,8,8,8,8,8,8,8,8,8,8,8,8,8,8,8,8,8,8,8,8,8,8,8,8,8,8,8,8,8,8,8,8,8,8,8,8,8,8,8,8,8,8,8,8,8,8,8,8,8,8,8,8,8,8,8,8,8,8,8,8,8,8,8,8,8,8,8,8,8,8,8,8,8,8,8,8,8,8,8,8,8,8,8,8,8,8,8,8,8,8,8,8,8,8,8,8,8,8,8,8,8,8,8,8,8,8,8,8,8,8,8,8,8,8,8,8,8,8,8,8,8]).size:Nat):Int) <|
 .ni (HK (bs [0,1,2,2,3,3,3,3,4,4,4,4,4,4,4,4,5,5,5,5,5,5,5,5,5,5,5,5,5,5,5,5,6,6,6,6,6,6,6,6,6,6,6,6,6,6,6,6,6,6,6,6,6,6,6,6,6,6,6,6,6,6,6,6,7,7,7,7,7,7,7,7,7,7,7,7,7,7,7,7,7,7,7,7,7,7,7,7,7,7,7,7,7,7,7,7,7,7,7,7,7,7,7,7,7,7,7,7,7,7,7,7,7,7,7,7,7,7,7,7,7,7,7,7,7,7,7,7,8,8,8,8,8,8,8,8,8,8,8,8,8,8,8,8,8,8,8,8,8,8,8,8,8,8,8,8,8,8,8,8,8,8,8,8,8,8,8,8,8,8,8,8,8,8,8,8,8,8,8,8,8,8,8,8,8,8,8,8,8,8,8,8,8,8,8,8,8,8,8,8,8,8,8,8,8,8,8,8,8,8,8,8,8,8,8,8,8,8,8,8,8,8,8,8,8,8,8,8,8,8,8,8,8,8,8,8,8,8,8,8,8,8,8,8,8,8,8,8,8,8,8,8,8,8,8,8]) (Int.toNat j2.1)) <|
 .ni (j2.2.1+(HK (bs [0,1,2,2,3,3,3,3,4,4,4,4,4,4,4,4,5,5,5,5,5,5,5,5,5,5,5,5,5,5,5,5,6,6,6,6,6,6,6,6,6,6,6,6,6,6,6,6,6,6,6,6,6,6,6,6,6,6,6,6,6,6,6,6,7,7,7,7,7,7,7,7,7,7,7,7,7,7,7,7,7,7,7,7,7,7,7,7,7,7,7,7,7,7,7,7,7,7,7,7,7,7,7,7,7,7,7,7,7,7,7,7,7,7,7,7,7,7,7,7,7,7,7,7,7,7,7,7,8,8,8,8,8,8,8,8,8,8,8,8,8,8,8,8,8,8,8,8,8,8,8,8,8,8,8,8,8,8,8,8,8,8,8,8,8,8,8,8,8,8,8,8,8,8,8,8,8,8,8,8,8,8,8,8,8,8,8,8,8,8,8,8,8,8,8,8,8,8,8,8,8,8,8,8,8,8,8,8,8,8,8,8,8,8,8,8,8,8,8,8,8,8,8,8,8,8,8,8,8,8,8,8,8,8,8,8,8,8,8,8,8,8,8,8,8,8,8,8,8,8,8,8,8,8,8,8]) (Int.toNat j2.1))) <|
 .ret ((j2.2.1+(HK (bs [0,1,2,2,3,3,3,3,4,4,4,4,4,4,4,4,5,5,5,5,5,5,5,5,5,5,5,5,5,5,5,5,6,6,6,6,6,6,6,6,6,6,6,6,6,6,6,6,6,6,6,6,6,6,6,6,6,6,6,6,6,6,6,6,7,7,7,7,7,7,7,7,7,7,7,7,7,7,7,7,7,7,7,7,7,7,7,7,7,7,7,7,7,7,7,7,7,7,7,7,7,7,7,7,7,7,7,7,7,7,7,7,7,7,7,7,7,7,7,7,7,7,7,7,7,7,7,7,8,8,8,8,8,8,8,8,8,8,8,8,8,8,8,8,8,8,8,8,8,8,8,8,8,8,8,8,8,8,8,8,8,8,8,8,8,8,8,8,8,8,8,8,8,8,8,8,8,8,8,8,8,8,8,8,8,8,8,8,8,8,8,8,8,8,8,8,8,8,8,8,8,8,8,8,8,8,8,8,8,8,8,8,8,8,8,8,8,8,8,8,8,8,8,8,8,8,8,8,8,8,8,8,8,8,8,8,8,8,8,8,8,8,8,8,8,8,8,8,8,8,8,8,8,8,8,8]) (Int.toNat j2.1))),())
theorem acI:cM prog f74=some ⟨25,1,dd74.er,[.t 2],[some tI]⟩:=by kernel_rfl
noncomputable def ct74:Ct:=⟨74,[.c (.hole (.int .u64))],hI,fun x=>ai (F74 x.1)⟩
theorem Ww:ct74.Ok prog:=cu mixed Wv func74 acI (enters_of func74 rfl rfl) dd74 (by kernel_rfl) rfl (fun x=>Eq.trans (b:=ai (flat (F74 x.1))) (by kernel_rfl) FO)

/- 41 -/
noncomputable def cx41:Cx:=(aM [ct74] [])
theorem Wx:cx41.Ok prog:=ak ⟨Ww,trivial⟩ trivial
noncomputable def dd41:D prog 8 none 0:=dO [] (kd prog f41) 0
noncomputable def F41 (a0:Int):bR (Int×Unit) :=
 .bd (F74 a0) fun y0 =>
 .ret (y0.1,())
theorem acJ:cM prog f41=some ⟨8,1,dd41.er,[.t 2],[some tI]⟩:=by kernel_rfl
noncomputable def ct41:Ct:=⟨41,[.c (.hole (.int .u64))],hI,fun x=>ai (F41 x.1)⟩
theorem Wy:ct41.Ok prog:=cu mixed Wx func41 acJ (enters_of func41 rfl rfl) dd41 (by kernel_rfl) rfl (fun x=>by kernel_rfl)

/- 20 -/
noncomputable def cx20:Cx:=(aM [UA,aaL,aaP] [])
theorem Wz:cx20.Ok prog:=ak ⟨Dp,Ku,Kw,trivial⟩ trivial
noncomputable def dd20:D prog 26 none 0:=dO [] (kd prog f20) 0
noncomputable def F20 (a0:ByteArray×Int×Int×Int) (a1:ByteArray×Int×Int×Int) (a2:List Int):bR (Int×Unit) :=
 .nb a1.2.2.1 (((a2).length:Nat):Int) <|
 .nb a0.2.2.1 (((a2).length:Nat):Int) <|
 .bd (F22 ((a2).getD (Int.toNat a1.2.2.1) (0:Int)) ((a2).getD (Int.toNat a0.2.2.1) (0:Int))) fun y0 =>
 .bd (F23 a0.1 a1.1) fun y1 =>
 .bd (F21 ((((y0.1::(y1.1::[]))).drop (0:Nat)).take (2:Nat))) fun y2 =>
 .ret (y2.1,())
theorem acK:cM prog f20=some ⟨26,3,dd20.er,[.t 5],[some tI]⟩:=by kernel_rfl
noncomputable def ct20:Ct:=⟨20,[.c (.hole (.prod .str (.prod tI (.prod tI tI)))),.c (.hole (.prod .str (.prod tI (.prod tI tI)))),.c (.fe tL)],hI,fun x=>ai (F20 x.1 x.2.1 x.2.2.1)⟩
theorem WA:ct20.Ok prog:=cu mixed Wz func20 acK (enters_of func20 rfl rfl) dd20 (by kernel_rfl) rfl (fun x=>by kernel_rfl)

/- 65, lent -/
abbrev WB:au:=au.mk [(0,.c (.bO 0 (.prod (.prod .str tI) (.prod tI tI)))),(1,hI),(2,hI),(3,.fn 20 [] [.ptr 1 0])] [(0,.arr (.prod (.prod .str tI) (.prod tI tI)) false),(1,.cells [.bO 2 tI] false),(2,.arr tI false)] [.slot 0,.part 3 0,.cell 1 0] []
abbrev WC:au:=au.mk [(0,.c .any)] [(1,.cells [.bO 3 tI] false),(0,.arr (.prod (.prod .str tI) (.prod tI tI)) false),(3,.arr tI false)] [.cell 1 0] []
noncomputable def zH:Cx:=(aM [ct20] [])
theorem pJ:zH.Ok prog:=ak ⟨WA,trivial⟩ trivial
abbrev NB:au:=au.mk [(0,.c (.bO 0 (.prod (.prod .str tI) (.prod tI tI)))),(1,hI),(2,hI),(3,.fn 20 [] [.ptr 1 0]),(8,hI),(9,hI)] [(0,.arr (.prod (.prod .str tI) (.prod tI tI)) false),(1,.cells [.bO 3 tI] false),(3,.arr tI false)] [.cell 1 0] []
abbrev NC:aT:=[(.exit 2,au.mk [(0,.c (.bO 0 (.prod (.prod .str tI) (.prod tI tI)))),(1,hI),(2,hI),(3,.fn 20 [] [.ptr 1 0]),(8,hI)] [(0,.arr (.prod (.prod .str tI) (.prod tI tI)) false),(1,.cells [.bO 3 tI] false),(3,.arr tI false)] [.cell 1 0] [])]
noncomputable def ND:D prog 53 none 3:=dO [] (pick (kd prog f65) [(0,false),(0,false)]) 0
noncomputable def gH65_v1_1:Nat×Int×Int×Int×Int×(List ((ByteArray×Int)×Int×Int))×Nat×List Int×Unit->bR ((Nat×Int×Int×Int×Int×(List ((ByteArray×Int)×Int×Int))×Nat×List Int×Unit) ⊕ ((Nat×Int×Int×Int×(List ((ByteArray×Int)×Int×Int))×Nat×List Int×Unit))):=fun (bI,v1,v2,v8,v9,b0,lB,b3,_) =>
 .br (decide (v1<v9)) (
 .nb v9 ((bI:Nat):Int) <|
 .nd (decide (((0:Nat)+(Int.toNat v9))<(b0).length)) <|
 .ni (v9 - (1:Int)) <|
 .nb (v9 - (1:Int)) ((bI:Nat):Int) <|
 .nd (decide (((0:Nat)+(Int.toNat (v9 - (1:Int))))<(b0).length)) <|
 .bd (F20 (((b0).getD ((0:Nat)+(Int.toNat v9)) (((bs []),(0:Int)),(0:Int),(0:Int))).1.1,((b0).getD ((0:Nat)+(Int.toNat v9)) (((bs []),(0:Int)),(0:Int),(0:Int))).1.2,((b0).getD ((0:Nat)+(Int.toNat v9)) (((bs []),(0:Int)),(0:Int),(0:Int))).2.1,((b0).getD ((0:Nat)+(Int.toNat v9)) (((bs []),(0:Int)),(0:Int),(0:Int))).2.2) (((b0).getD ((0:Nat)+(Int.toNat (v9 - (1:Int)))) (((bs []),(0:Int)),(0:Int),(0:Int))).1.1,((b0).getD ((0:Nat)+(Int.toNat (v9 - (1:Int)))) (((bs []),(0:Int)),(0:Int),(0:Int))).1.2,((b0).getD ((0:Nat)+(Int.toNat (v9 - (1:Int)))) (((bs []),(0:Int)),(0:Int),(0:Int))).2.1,((b0).getD ((0:Nat)+(Int.toNat (v9 - (1:Int)))) (((bs []),(0:Int)),(0:Int),(0:Int))).2.2) (((b3).drop (0:Nat)).take lB)) fun y0 =>
 .br (decide (y0.1<(0:Int))) (
 .ni (v9 - (1:Int)) <|
 .ni (v9 - (1:Int)) <|
 .nb (v9 - (1:Int)) ((bI:Nat):Int) <|
 .nd (decide (((0:Nat)+(Int.toNat (v9 - (1:Int))))<(b0).length)) <|
 .nb v9 ((bI:Nat):Int) <|
 .nd (decide (((0:Nat)+(Int.toNat v9))<(b0).length)) <|
 .nb v9 ((bI:Nat):Int) <|
 .nd (decide (((0:Nat)+(Int.toNat v9))<(b0).length)) <|
 .nb (v9 - (1:Int)) ((bI:Nat):Int) <|
 .nd (decide (((0:Nat)+(Int.toNat (v9 - (1:Int))))<(((b0).set ((0:Nat)+(Int.toNat v9)) ((((b0).getD ((0:Nat)+(Int.toNat (v9 - (1:Int)))) (((bs []),(0:Int)),(0:Int),(0:Int))).1.1,((b0).getD ((0:Nat)+(Int.toNat (v9 - (1:Int)))) (((bs []),(0:Int)),(0:Int),(0:Int))).1.2),((b0).getD ((0:Nat)+(Int.toNat (v9 - (1:Int)))) (((bs []),(0:Int)),(0:Int),(0:Int))).2.1,((b0).getD ((0:Nat)+(Int.toNat (v9 - (1:Int)))) (((bs []),(0:Int)),(0:Int),(0:Int))).2.2))).length)) <|
 .ni (v9 - (1:Int)) <|
 .ret (.inl (bI,v1,v2,v8,(v9 - (1:Int)),((((b0).set ((0:Nat)+(Int.toNat v9)) ((((b0).getD ((0:Nat)+(Int.toNat (v9 - (1:Int)))) (((bs []),(0:Int)),(0:Int),(0:Int))).1.1,((b0).getD ((0:Nat)+(Int.toNat (v9 - (1:Int)))) (((bs []),(0:Int)),(0:Int),(0:Int))).1.2),((b0).getD ((0:Nat)+(Int.toNat (v9 - (1:Int)))) (((bs []),(0:Int)),(0:Int),(0:Int))).2.1,((b0).getD ((0:Nat)+(Int.toNat (v9 - (1:Int)))) (((bs []),(0:Int)),(0:Int),(0:Int))).2.2))).set ((0:Nat)+(Int.toNat (v9 - (1:Int)))) ((((b0).getD ((0:Nat)+(Int.toNat v9)) (((bs []),(0:Int)),(0:Int),(0:Int))).1.1,((b0).getD ((0:Nat)+(Int.toNat v9)) (((bs []),(0:Int)),(0:Int),(0:Int))).1.2),((b0).getD ((0:Nat)+(Int.toNat v9)) (((bs []),(0:Int)),(0:Int),(0:Int))).2.1,((b0).getD ((0:Nat)+(Int.toNat v9)) (((bs []),(0:Int)),(0:Int),(0:Int))).2.2)),lB,b3,()))) (
 .ret (.inr (bI,v1,v2,v8,b0,lB,b3,())))) (
 .ret (.inr (bI,v1,v2,v8,b0,lB,b3,())))
noncomputable def NF:bt prog 53 none 3:=aW mixed zH pJ [0,1,2] rfl NB NC rfl (ND) (fun x=>ai (gH65_v1_1 x)) (fun x=>by kernel_rfl)
abbrev NG:au:=au.mk [(0,.c (.bO 0 (.prod (.prod .str tI) (.prod tI tI)))),(1,hI),(2,hI),(3,.fn 20 [] [.ptr 1 0]),(8,hI)] [(0,.arr (.prod (.prod .str tI) (.prod tI tI)) false),(1,.cells [.bO 3 tI] false),(3,.arr tI false)] [.cell 1 0] []
abbrev NH:aT:=[(.exit 0,au.mk [] [(1,.cells [.bO 3 tI] false),(0,.arr (.prod (.prod .str tI) (.prod tI tI)) false),(3,.arr tI false)] [.cell 1 0] [])]
noncomputable def NI:D prog 53 none 3:=dO [.l NF] (pick (kd prog f65) [(0,false)]) 0
noncomputable def gH65_v1_0:Nat×Int×Int×Int×(List ((ByteArray×Int)×Int×Int))×Nat×List Int×Unit->bR ((Nat×Int×Int×Int×(List ((ByteArray×Int)×Int×Int))×Nat×List Int×Unit) ⊕ ((Nat×(List ((ByteArray×Int)×Int×Int))×List Int×Unit))):=fun (bI,v1,v2,v8,b0,lB,b3,_) =>
 .br (decide (v8<v2)) (
 .bd (.it gH65_v1_1 (bI,v1,v2,v8,v8,b0,lB,b3,())) fun z1 =>
 .ni (z1.2.2.2.1+(1:Int)) <|
 .ret (.inl (z1.1,z1.2.1,z1.2.2.1,(z1.2.2.2.1+(1:Int)),z1.2.2.2.2.1,z1.2.2.2.2.2.1,z1.2.2.2.2.2.2.1,()))) (
 .ret (.inr (lB,b0,b3,())))
noncomputable def NJ:bt prog 53 none 3:=aW mixed zH pJ [0,1,2] rfl NG NH rfl (NI) (fun x=>ai (gH65_v1_0 x)) (fun x=>by kernel_rfl)
noncomputable def Gw:D prog 53 none 3:=dO [.l NJ] (kd prog f65) 0
noncomputable def FH65_v1 (bI:Nat) (v1:Int) (v2:Int) (b0:List ((ByteArray×Int)×Int×Int)) (lB:Nat) (b2:List Int):bR (Nat×(List ((ByteArray×Int)×Int×Int))×List Int×Unit) :=
 .ni (v1+(1:Int)) <|
 .bd (.it gH65_v1_0 (bI,v1,v2,(v1+(1:Int)),b0,lB,b2,())) fun z2 =>
 .ret (z2.1,z2.2.1,z2.2.2.1,())
theorem I1:cM prog f65=some ⟨53,4,Gw.er,[],[]⟩:=by kernel_rfl
noncomputable def Lt:Ht:=⟨65,WB,WC,(fun x=>ai (FH65_v1 x.1 x.2.1 x.2.2.1 x.2.2.2.1 x.2.2.2.2.1 x.2.2.2.2.2.1))⟩
theorem I2:Lt.Ok prog:=bV mixed pJ rfl func65 I1 (enters_of func65 rfl rfl) Gw (by kernel_rfl) rfl rfl ⟨_,rfl⟩ rfl (pre:=[0,1,2]) rfl (fun x=>by kernel_rfl)

/- 40, lent -/
abbrev pH40:au:=au.mk [(0,.c (.bO 0 (.prod (.prod .str tI) (.prod tI tI)))),(1,hI),(2,hI),(3,hI),(4,.fn 20 [] [.ptr 1 0])] [(0,.arr (.prod (.prod .str tI) (.prod tI tI)) false),(1,.cells [.bO 2 tI] false),(2,.arr tI false)] [.slot 0,.part 4 0,.cell 1 0] []
abbrev qH40:au:=au.mk [(0,.c .any)] [(1,.cells [.bO 3 tI] false),(0,.arr (.prod (.prod .str tI) (.prod tI tI)) false),(3,.arr tI false)] [.cell 1 0] []
noncomputable def YV:Cx:=(aM [] [Lt])
theorem Gx:YV.Ok prog:=ak trivial ⟨⟨I2,rfl⟩,trivial⟩
abbrev acL:au:=au.mk [(0,.c (.bO 0 (.prod (.prod .str tI) (.prod tI tI)))),(1,hI),(2,hI),(3,hI),(4,.fn 20 [] [.ptr 1 0]),(10,.c (.tf true)),(11,.c (.tf true))] [(0,.arr (.prod (.prod .str tI) (.prod tI tI)) false),(1,.cells [.bO 3 tI] false),(3,.arr tI false)] [.cell 1 0] []
abbrev acM:aT:=[(.ret,au.mk [] [(1,.cells [.bO 3 tI] false),(0,.arr (.prod (.prod .str tI) (.prod tI tI)) false),(3,.arr tI false)] [.cell 1 0] [])]
noncomputable def acN:D prog 148 none 3:=dO [] (pick (kd prog f40) [(0,false)]) 0
noncomputable def gH40_0:Nat×Int×Int×Int×(List ((ByteArray×Int)×Int×Int))×Nat×List Int×Unit->bR ((Nat×Int×Int×Int×(List ((ByteArray×Int)×Int×Int))×Nat×List Int×Unit) ⊕ ((Nat×(List ((ByteArray×Int)×Int×Int))×List Int×Unit))):=fun (bI,v1,v2,v3,b0,lB,b3,_) =>
 .ni (v2 - v1) <|
 .br (decide ((v2 - v1)<=(12:Int))) (
 .bd (FH65_v1 bI v1 v2 b0 lB b3) fun y0 =>
 .ret (.inr (y0.1,y0.2.1,y0.2.2.1,()))) (
 .br (v3==(0:Int)) (
 .no) (
 .no))
noncomputable def acO:bt prog 148 none 3:=aW mixed YV Gx [0,1,2] rfl acL acM rfl (acN) (fun x=>ai (gH40_0 x)) (fun x=>by kernel_rfl)
noncomputable def YW:D prog 148 none 3:=dO [.l acO] (kd prog f40) 0
noncomputable def FH40 (bI:Nat) (v1:Int) (v2:Int) (v3:Int) (b0:List ((ByteArray×Int)×Int×Int)) (lB:Nat) (b2:List Int):bR (Nat×(List ((ByteArray×Int)×Int×Int))×List Int×Unit) :=
 .bd (.it gH40_0 (bI,v1,v2,v3,b0,lB,b2,())) fun z1 =>
 .ret (z1.1,z1.2.1,z1.2.2.1,())
theorem WD:cM prog f40=some ⟨148,5,YW.er,[],[]⟩:=by kernel_rfl
noncomputable def ht40:Ht:=⟨40,pH40,qH40,(fun x=>ai (FH40 x.1 x.2.1 x.2.2.1 x.2.2.2.1 x.2.2.2.2.1 x.2.2.2.2.2.1 x.2.2.2.2.2.2.1))⟩
theorem WE:ht40.Ok prog:=bV mixed Gx rfl func40 WD (enters_of func40 rfl rfl) YW (by kernel_rfl) rfl rfl ⟨_,rfl⟩ rfl (pre:=[0,1,2]) rfl (fun x=>by kernel_rfl)

/- 19, lent -/
abbrev pH19:au:=au.mk [(0,.c (.bO 0 (.prod (.prod .str tI) (.prod tI tI)))),(1,.fn 20 [] [.ptr 1 0])] [(0,.arr (.prod (.prod .str tI) (.prod tI tI)) false),(1,.cells [.bO 2 tI] false),(2,.arr tI false)] [.slot 0,.part 1 0,.cell 1 0] []
abbrev qH19:au:=au.mk [(0,.c .any)] [(1,.cells [.bO 3 tI] false),(0,.arr (.prod (.prod .str tI) (.prod tI tI)) false),(3,.arr tI false)] [.cell 1 0] []
noncomputable def ah1:Cx:=(aM [ct41] [ht40])
theorem RP:ah1.Ok prog:=ak ⟨Wy,trivial⟩ ⟨⟨WE,rfl⟩,trivial⟩
noncomputable def YX:D prog 14 none 3:=dO [] (kd prog f19) 0
noncomputable def FH19 (bI:Nat) (b0:List ((ByteArray×Int)×Int×Int)) (lB:Nat) (b2:List Int):bR (Nat×(List ((ByteArray×Int)×Int×Int))×List Int×Unit) :=
 .nd (dV .u64 ((bI:Nat):Int)) <|
 .bd (F41 ((bI:Nat):Int)) fun y0 =>
 .bd (FH40 bI (0:Int) ((bI:Nat):Int) y0.1 b0 lB b2) fun y1 =>
 .ret (y1.1,y1.2.1,y1.2.2.1,())
theorem WG:cM prog f19=some ⟨14,2,YX.er,[],[]⟩:=by kernel_rfl
noncomputable def ht19:Ht:=⟨19,pH19,qH19,(fun x=>ai (FH19 x.1 x.2.1 x.2.2.1 x.2.2.2.1))⟩
theorem WH:ht19.Ok prog:=bV mixed RP rfl func19 WG (enters_of func19 rfl rfl) YX (by kernel_rfl) rfl rfl ⟨_,rfl⟩ rfl (pre:=[0,1,2]) rfl (fun x=>by kernel_rfl)

/- 4 -/
noncomputable def cx4:Cx:=(aM [ct12,ct14,ct13,ct16,ct17] [abZ,ht19])
theorem I3:cx4.Ok prog:=ak ⟨VL,VO,VP,Ws,Wu,trivial⟩ ⟨⟨K7,rfl⟩,⟨WH,rfl⟩,trivial⟩
abbrev p4_0:au:=au.mk [(5,.c (.ptr 0 0)),(6,.c (.ptr 1 0)),(7,.c (.bO 2 tI)),(8,.c (.ptr 3 0)),(9,hI),(37,.c (.hole (.list (.prod (.prod .str tI) (.prod tI tI))))),(38,hI),(39,hI)] [(0,.cells [.hole (.list (.prod (.prod .str tI) (.prod tI tI))),.hole tI] false),(1,.cells [.hole tI,.hole tI] false),(2,.arr tI false),(3,.cells [.bO 4 tI] false),(4,.arr tI false)] [.slot 5,.slot 6,.slot 7,.slot 8,.cell 3 0] []
abbrev x4_0:aT:=[(.exit 0,au.mk [(5,.c (.ptr 0 0)),(7,.c (.bO 1 tI)),(8,.c (.ptr 2 0)),(9,hI)] [(0,.cells [.hole (.list (.prod (.prod .str tI) (.prod tI tI))),.hole tI] false),(1,.arr tI false),(2,.cells [.bO 3 tI] false),(3,.arr tI false)] [.slot 5,.slot 7,.slot 8,.cell 2 0] [])]
noncomputable def b4_0:D prog 86 none 0:=dO [] (pick (kd prog f4) [(0,false)]) 0
noncomputable def g4_0:Nat×Int×(List ((ByteArray×Int)×Int×Int))×Int×Int×(List ((ByteArray×Int)×Int×Int))×Int×Int×Int×List Int×Nat×List Int×Unit->bR ((Nat×Int×(List ((ByteArray×Int)×Int×Int))×Int×Int×(List ((ByteArray×Int)×Int×Int))×Int×Int×Int×List Int×Nat×List Int×Unit) ⊕ ((Nat×Int×(List ((ByteArray×Int)×Int×Int))×Int×List Int×Nat×List Int×Unit))):=fun (WI,v9,v37,v38,v39,jV,jW,c7,iP,b2,RQ,b4,_) =>
 .br (decide (v39<v38)) (
 .nb v39 (((v37).length:Nat):Int) <|
 .bd (F17 (((v37).getD (Int.toNat v39) (((bs []),(0:Int)),(0:Int),(0:Int))).1.1,((v37).getD (Int.toNat v39) (((bs []),(0:Int)),(0:Int),(0:Int))).1.2,((v37).getD (Int.toNat v39) (((bs []),(0:Int)),(0:Int),(0:Int))).2.1,((v37).getD (Int.toNat v39) (((bs []),(0:Int)),(0:Int),(0:Int))).2.2) (c7,iP)) fun y4 =>
 .nb v39 ((WI:Nat):Int) <|
 .nd (decide (((0:Nat)+(Int.toNat v39))<(b2).length)) <|
 .nb v39 ((RQ:Nat):Int) <|
 .nd (decide (((0:Nat)+(Int.toNat v39))<(b4).length)) <|
 .nb v39 ((WI:Nat):Int) <|
 .nd (decide (((0:Nat)+(Int.toNat v39))<(((b2).set ((0:Nat)+(Int.toNat v39)) y4.1)).length)) <|
 .ni (v9 - ((((b2).set ((0:Nat)+(Int.toNat v39)) y4.1)).getD ((0:Nat)+(Int.toNat v39)) (0:Int))) <|
 .ni (v39+(1:Int)) <|
 .ret (.inl (WI,(v9 - ((((b2).set ((0:Nat)+(Int.toNat v39)) y4.1)).getD ((0:Nat)+(Int.toNat v39)) (0:Int))),v37,v38,(v39+(1:Int)),jV,jW,c7,iP,((b2).set ((0:Nat)+(Int.toNat v39)) y4.1),RQ,((b4).set ((0:Nat)+(Int.toNat v39)) y4.2.1),()))) (
 .ret (.inr (WI,v9,jV,jW,b2,RQ,b4,())))
noncomputable def L4_0:bt prog 86 none 0:=aW mixed cx4 I3 [] rfl p4_0 x4_0 rfl (b4_0) (fun x=>ai (g4_0 x)) (fun x=>by kernel_rfl)
abbrev p4_1:au:=au.mk [(7,.c (.bO 0 tI)),(71,.c (.nT 1 (.prod (.prod .str tI) (.prod tI tI)))),(72,hI),(73,hI)] [(0,.arr tI false),(1,.arr (.prod (.prod .str tI) (.prod tI tI)) false)] [.slot 7,.slot 71] []
abbrev x4_1:aT:=[(.exit 2,au.mk [(7,.c (.bO 0 tI))] [(0,.arr tI false)] [.slot 7] [])]
noncomputable def b4_1:D prog 86 none 0:=dO [] (pick (kd prog f4) [(1,false)]) 0
noncomputable def g4_1:Nat×Nat×Nat×Int×Int×List Int×(List ((ByteArray×Int)×Int×Int))×Unit->bR ((Nat×Nat×Nat×Int×Int×List Int×(List ((ByteArray×Int)×Int×Int))×Unit) ⊕ ((Nat×List Int×Unit))):=fun (WI,DN,nv71,v72,Oq,b0,b1,_) =>
 .br (decide (Oq<v72)) (
 .nb Oq ((nv71:Nat):Int) <|
 .nd (decide ((DN+(Int.toNat Oq))<(b1).length)) <|
 .nb ((b1).getD (DN+(Int.toNat Oq)) (((bs []),(0:Int)),(0:Int),(0:Int))).2.1 ((WI:Nat):Int) <|
 .nd (decide (((0:Nat)+(Int.toNat ((b1).getD (DN+(Int.toNat Oq)) (((bs []),(0:Int)),(0:Int),(0:Int))).2.1))<(b0).length)) <|
 .ni (((b0).getD ((0:Nat)+(Int.toNat ((b1).getD (DN+(Int.toNat Oq)) (((bs []),(0:Int)),(0:Int),(0:Int))).2.1)) (0:Int))+(1:Int)) <|
 .nb ((b1).getD (DN+(Int.toNat Oq)) (((bs []),(0:Int)),(0:Int),(0:Int))).2.1 ((WI:Nat):Int) <|
 .nd (decide (((0:Nat)+(Int.toNat ((b1).getD (DN+(Int.toNat Oq)) (((bs []),(0:Int)),(0:Int),(0:Int))).2.1))<(b0).length)) <|
 .ni (Oq+(1:Int)) <|
 .ret (.inl (WI,DN,nv71,v72,(Oq+(1:Int)),((b0).set ((0:Nat)+(Int.toNat ((b1).getD (DN+(Int.toNat Oq)) (((bs []),(0:Int)),(0:Int),(0:Int))).2.1)) (((b0).getD ((0:Nat)+(Int.toNat ((b1).getD (DN+(Int.toNat Oq)) (((bs []),(0:Int)),(0:Int),(0:Int))).2.1)) (0:Int))+(1:Int))),b1,()))) (
 .ret (.inr (WI,b0,())))
noncomputable def L4_1:bt prog 86 none 0:=aW mixed cx4 I3 [] rfl p4_1 x4_1 rfl (b4_1) (fun x=>ai (g4_1 x)) (fun x=>by kernel_rfl)
noncomputable def dd4:D prog 86 none 0:=dO [.l L4_0,.l L4_1] (kd prog f4) 0
noncomputable def F4 (a0:Int×Int×Int×(List (ByteArray×Int))×List (Int×Int×Int×Int)):bR (List Int×Int×Unit) :=
 .bd (F12 (a0.1,a0.2.1,a0.2.2.1,a0.2.2.2.1,a0.2.2.2.2)) fun y0 =>
 .br (!(y0.1==(0:Int))) (
 .ret ([],y0.1,())) (
 .bd (F14 (a0.1,a0.2.1,a0.2.2.1,a0.2.2.2.1,a0.2.2.2.2)) fun y1 =>
 .bd (F13 (a0.1,a0.2.1,a0.2.2.1,a0.2.2.2.1,a0.2.2.2.2) y1.1) fun y2 =>
 .bd (F16 (y2.1.1,y2.1.2)) fun y3 =>
 .nb (((y2.1.1).length:Nat):Int) ((cn:Nat):Int) <|
 .nb (((y2.1.1).length:Nat):Int) ((cn:Nat):Int) <|
 .bd (.it g4_0 ((Int.toNat (((y2.1.1).length:Nat):Int)),y2.1.2,y2.1.1,(((y2.1.1).length:Nat):Int),(0:Int),y2.1.1,y2.1.2,y3.1.1,y3.1.2,(List.replicate (Int.toNat (((y2.1.1).length:Nat):Int)) (0:Int)),(Int.toNat (((y2.1.1).length:Nat):Int)),(List.replicate (Int.toNat (((y2.1.1).length:Nat):Int)) (0:Int)),())) fun z5 =>
 .bd (FH18 z5.2.2.1) fun y6 =>
 .bd (FH19 y6.1 y6.2.1 z5.2.2.2.2.2.1 z5.2.2.2.2.2.2.1) fun y7 =>
 .nd (decide ((0:Int)<=(0:Int))) <|
 .nd (decide ((0:Int)<=z5.2.1)) <|
 .nd (decide (z5.2.1<=((y6.1:Nat):Int))) <|
 .bd (.it g4_1 (z5.1,((0:Nat)+(Int.toNat (0:Int))),((Int.toNat z5.2.1) - (Int.toNat (0:Int))),((((Int.toNat z5.2.1) - (Int.toNat (0:Int))):Nat):Int),(0:Int),z5.2.2.2.2.1,y7.2.1,())) fun z8 =>
 .ret ((((z8.2.1).drop (0:Nat)).take z8.1),(0:Int),()))
theorem ah4:cM prog f4=some ⟨86,1,dd4.er,[.t 2,.t 3],[some tL,some tI]⟩:=by kernel_rfl
noncomputable def ct4:Ct:=⟨4,[.c (.hole (.prod tI (.prod tI (.prod tI (.prod (.list (.prod .str tI)) (.list (.prod tI (.prod tI (.prod tI tI)))))))))],.dc [.hole tL,.hole tI],fun x=>ai (F4 x.1)⟩
theorem acP:ct4.Ok prog:=cu mixed I3 func4 ah4 (enters_of func4 rfl rfl) dd4 (by kernel_rfl) rfl (fun x=>by kernel_rfl)

/- 166, lent -/
abbrev ah5:au:=au.mk [(0,.c (.ptr 0 0))] [(0,.cells [.mp 1] false),(1,gD)] [.slot 0,.cell 0 0] []
abbrev ah6:au:=au.mk [(0,.c (.bO 2 tG))] [(2,.arr tG false),(0,.cells [.mp 1] false),(1,gD)] [.slot 0] []
noncomputable def acQ:Cx:=(aM [] [aa5])
theorem NK:acQ.Ok prog:=ak trivial ⟨⟨KE,rfl⟩,trivial⟩
noncomputable def RR:D prog 5 none 2:=dO [] (kd prog f166) 0
noncomputable def FH166 (m1:eX):bR (Nat×AH×eX×Unit) :=
 .bd (FH48 m1) fun y0 =>
 .ret (y0.1,y0.2.1,y0.2.2.1,())
theorem RT:cM prog f166=some ⟨5,1,RR.er,[.t 2],[some (.list tG)]⟩:=by kernel_rfl
noncomputable def YY:Ht:=⟨166,ah5,ah6,(fun x=>ai (FH166 x.1))⟩
theorem RU:YY.Ok prog:=bV mixed NK rfl func166 RT (enters_of func166 rfl rfl) RR (by kernel_rfl) rfl rfl ⟨_,rfl⟩ rfl (pre:=[0,1]) rfl (fun x=>by kernel_rfl)

/- 26, lent -/
abbrev WJ:au:=au.mk [(0,.c (.ptr 0 0)),(1,.c (.Fu 43 false (.cons (.ptr 1 0) .nil)))] [(0,.cells [.mp 2] false),(1,.cells [.mp 3] false),(2,gD),(3,gD)] [.slot 0,.slot 1,.cell 0 0,.cell 1 0] []
abbrev WK:au:=au.mk [(0,hI)] [(0,.cells [.mp 4] false),(1,.cells [.mp 5] false),(4,gD),(5,gD)] [.cell 0 0,.cell 1 0] []
noncomputable def Gy:Cx:=(aM [] [aaX,YY])
theorem wj:Gy.Ok prog:=ak trivial ⟨⟨KA,rfl⟩,⟨RU,rfl⟩,trivial⟩
abbrev NL:au:=au.mk [(0,.c (.ptr 0 0)),(5,.c (.mp 4)),(14,.c (.bO 5 tG)),(15,hI),(16,hI)] [(0,.cells [.mp 2] false),(4,gD),(5,.arr tG false),(2,gD),(1,.cells [.mp 3] false),(3,gD)] [.slot 5,.slot 14] []
abbrev NM:aT:=[(.exit 0,au.mk [(0,.c (.ptr 0 0)),(5,.c (.mp 4))] [(0,.cells [.mp 2] false),(4,gD),(2,gD),(1,.cells [.mp 3] false),(3,gD)] [.slot 5] [])]
noncomputable def NN:D prog 30 none 4:=dO [] (pick (kd prog f26) [(0,false)]) 0
noncomputable def gH26_v1_0:Nat×Int×Int×eX×AH×eX×eX×Unit->bR ((Nat×Int×Int×eX×AH×eX×eX×Unit) ⊕ ((eX×eX×eX×Unit))):=fun (Gv,di,lH,m4,b5,m2,m3,_) =>
 .br (decide (lH<di)) (
 .nb lH ((Gv:Nat):Int) <|
 .nd (decide (((0:Nat)+(Int.toNat lH))<(b5).length)) <|
 .ni (lH+(1:Int)) <|
 .ret (.inl (Gv,di,(lH+(1:Int)),(bp (.prod .str (.prod (.int .i64) (.prod .str (.prod .str (.int .i64))))) m4 (((b5).getD ((0:Nat)+(Int.toNat lH)) ((bs []),(0:Int),(bs []),(bs []),(0:Int))).1,((b5).getD ((0:Nat)+(Int.toNat lH)) ((bs []),(0:Int),(bs []),(bs []),(0:Int))).2.1,((b5).getD ((0:Nat)+(Int.toNat lH)) ((bs []),(0:Int),(bs []),(bs []),(0:Int))).2.2.1,((b5).getD ((0:Nat)+(Int.toNat lH)) ((bs []),(0:Int),(bs []),(bs []),(0:Int))).2.2.2.1,((b5).getD ((0:Nat)+(Int.toNat lH)) ((bs []),(0:Int),(bs []),(bs []),(0:Int))).2.2.2.2) true),b5,m2,m3,()))) (
 .ret (.inr (m4,m2,m3,())))
noncomputable def NO:bt prog 30 none 4:=aW mixed Gy wj [0,1,2,3] rfl NL NM rfl (NN) (fun x=>ai (gH26_v1_0 x)) (fun x=>by kernel_rfl)
noncomputable def Gz:D prog 30 none 4:=dO [.l NO] (kd prog f26) 0
noncomputable def FH26_v1 (m2:eX) (m3:eX):bR (Int×eX×eX×Unit) :=
 .bd (FH47 m2) fun y0 =>
 .bd (FH166 m3) fun y1 =>
 .bd (.it gH26_v1_0 (y1.1,((y1.1:Nat):Int),(0:Int),y0.1,y1.2.1,y0.2.1,y1.2.2.1,())) fun z2 =>
 .br (decide ((60:Int)<(((z2.1).length:Nat):Int))) (
 .ret ((15:Int),z2.2.1,z2.2.2.1,())) (
 .ret ((0:Int),z2.1,z2.2.2.1,()))
theorem I4:cM prog f26=some ⟨30,2,Gz.er,[.t 4],[some tI]⟩:=by kernel_rfl
noncomputable def Lu:Ht:=⟨26,WJ,WK,(fun x=>ai (FH26_v1 x.1 x.2.1))⟩
theorem I5:Lu.Ok prog:=bV mixed wj rfl func26 I4 (enters_of func26 rfl rfl) Gz (by kernel_rfl) rfl rfl ⟨_,rfl⟩ rfl (pre:=[0,1,2,3]) rfl (fun x=>by kernel_rfl)

/- 7, lent -/
abbrev pH7:au:=au.mk [(0,.c (.ptr 0 0)),(1,.c (.ptr 1 0))] [(0,.cells [.mp 2] false),(1,.cells [.mp 3] false),(2,gD),(3,gD)] [.slot 0,.slot 1,.cell 0 0,.cell 1 0] []
abbrev qH7:au:=au.mk [(0,hI)] [(0,.cells [.mp 4] false),(1,.cells [.mp 5] false),(4,gD),(5,gD)] [.cell 0 0,.cell 1 0] []
noncomputable def cxH7:Cx:=(aM [] [M1,Lu])
theorem WL:cxH7.Ok prog:=ak trivial ⟨⟨tF,rfl⟩,⟨I5,rfl⟩,trivial⟩
noncomputable def ddH7:D prog 15 none 4:=dO [] (kd prog f7) 0
noncomputable def FH7 (m2:eX) (m3:eX):bR (Int×eX×eX×Unit) :=
 .bd (FH24 m2) fun y0 =>
 .br y0.1 (
 .ret ((9:Int),y0.2.1,m3,())) (
 .bd (FH24 m3) fun y1 =>
 .br y1.1 (
 .ret ((9:Int),y0.2.1,y1.2.1,())) (
 .bd (FH26_v1 y0.2.1 y1.2.1) fun y2 =>
 .ret (y2.1,y2.2.1,y2.2.2.1,())))
theorem acR:cM prog f7=some ⟨15,2,ddH7.er,[.t 4],[some tI]⟩:=by kernel_rfl
noncomputable def ht7:Ht:=⟨7,pH7,qH7,(fun x=>ai (FH7 x.1 x.2.1))⟩
theorem acS:ht7.Ok prog:=bV mixed WL rfl func7 acR (enters_of func7 rfl rfl) ddH7 (by kernel_rfl) rfl rfl ⟨_,rfl⟩ rfl (pre:=[0,1,2,3]) rfl (fun x=>by kernel_rfl)

/- 32 -/
noncomputable def cx32:Cx:=(aM [] [])
theorem WM:cx32.Ok prog:=ak trivial trivial
noncomputable def dd32:D prog 5 none 0:=dO [] (kd prog f32) 0
noncomputable def F32 (a0:GG):bR (Int×Unit) :=
 .ret (a0.2.2.2.2,())
theorem acT:cM prog f32=some ⟨5,1,dd32.er,[.t 2],[some tI]⟩:=by kernel_rfl
noncomputable def ct32:Ct:=⟨32,[.c (.hole tG)],hI,fun x=>ai (F32 x.1)⟩
theorem WN:ct32.Ok prog:=cu mixed WM func32 acT (enters_of func32 rfl rfl) dd32 (by kernel_rfl) rfl (fun x=>by kernel_rfl)

end Go.Proofs.Tryz

