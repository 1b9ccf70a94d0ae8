/- Messages: names, what is wrong with them. Books: telling, all messages in order. DeleteFunc, Clone, the keys of maps. The messages that count, and what they say of each other. Striking: what is struck, and what corrects it. A book's desk. The versions of a ticket. The versions of a ticket: walked. States and versions. Sums. Spans, sums, accounts. Messages by numbers. Books that were told good messages. Joins; books that answer the same. Nine messages: three tickets, each corrected by two clerks; and rulings for one of the clerks. What the book says: totals, spans, sums. Payments of three farmers: all of the pot. The known book of three messages. The rounds of the law: names, wagons, messages, and the telling in any order. The rounds of the law: totals of each account, and rulings. Payments are booked, and corrected by two clerks: the law. -/
import Derived.Test.YtilhpkaklpdblaaGreatR03
set_option linter.unusedSectionVars false
set_option linter.unusedVariables false
set_option linter.unusedSimpArgs false
section
namespace Go.Proofs.Tryz
open Go.AM
set_option maxRecDepth 100000
abbrev Mg:=ByteArray×Int×ByteArray×ByteArray×Int
abbrev tM:Ty:=.prod .str (.prod (.int .i64) (.prod .str (.prod .str (.int .i64))))
abbrev kM:bG tM=some [.s,.i,.s,.s,.i]:=rfl
abbrev kS:bG .str=some [.s]:=rfl
theorem seq_eq (a b:ByteArray):seq a b=decide (a=b):=by
 unfold seq
 rw [Go.ByteArray.toList_eq,Go.ByteArray.toList_eq]
 by_cases h:a=b
 ·subst h;simp
 ·rw [decide_eq_false h, beq_eq_false_iff_ne]
  intro e;apply h
  obtain ⟨x⟩:=a;obtain ⟨y⟩:=b
  simp at e;rw [e]
theorem Xd (a b:ByteArray):eB .str a b=decide (a=b):=by
 rw [<-seq_eq];simp only [eB,seq,Go.ByteArray.toList_eq]
def Ee (i:Nat) (b:Int):Bool:=decide (97<=b/\b<=122)||decide (i≠0/\48<=b/\b<=57)
def Zb : Nat → List Int → Bool
 |_,[]=>true
 |i,b::r=>Ee i b&&Zb (i+1) r
def r9 (s:ByteArray):Bool:=Zb 0 (b8 s)&&decide (0<s.size/\s.size<=10)
theorem k65 (s:ByteArray) (hs:s.size<1000000000):ai (F27 s)=some (r9 s,()):=by
 have hl:(b8 s).length=s.size:=vW s
 unfold F27
 simp only [az,bD]
 refine bind_eq (aZ (b8 s) (fun k (_:Nat)=>(s,b8 s,((b8 s).length:Int),(k:Int),())) (fun i r=>if Zb i r=true then .inr (s,()) else .inl ()) (fun pre i=>i=pre.length) ?_ ?_ (s:=0) rfl) ?_
 ·intro pre x post i hx hi
  subst hi
  have hlen:(b8 s).length=pre.length+(post.length+1):=by rw [hx];simp
  have hd:(b8 s).getD pre.length 0=x:=by rw [hx];exact bg rfl
  have key:run (fun _=>none) (g27_0 (s,b8 s,((b8 s).length:Int),(pre.length:Int),()))=if Ee pre.length x=true then some (.inl (s,b8 s,((b8 s).length:Int),((pre.length+1:Nat):Int),())) else some (.inr (.inl ())):=by
   simp only [g27_0,aq,aY,aO,aN,aa,Int.toNat_natCast,hd,aQ,bE]
   rw [if_pos (by omega),fI (by omega) (by omega)]
   unfold Ee;simp only [Bool.or_eq_true,decide_eq_true_eq]
   by_cases h1:x<97
   ·rw [if_pos h1]
    by_cases h2:(pre.length:Int)=0
    ·rw [if_pos h2,if_neg (by omega)]
    ·rw [if_neg h2]
     by_cases h3:x<48
     ·rw [if_pos h3,if_neg (by omega)]
     ·rw [if_neg h3]
      by_cases h4:57<x
      ·rw [if_pos h4,if_neg (by omega)]
      ·rw [if_neg h4, if_pos, aP (by omega) (by omega)]; · rfl
       omega
   ·rw [if_neg h1]
    by_cases h5:122<x
    ·rw [if_pos h5]
     by_cases h2:(pre.length:Int)=0
     ·rw [if_pos h2,if_neg (by omega)]
     ·rw [if_neg h2]
      by_cases h3:x<48
      ·omega
      ·rw [if_neg h3,if_pos (by omega),if_neg (by omega)]
    ·rw [if_neg h5, if_pos, aP (by omega) (by omega)]; · rfl
     omega
  rw [key]
  by_cases hb:Ee pre.length x=true
  ·left
   exact ⟨pre.length+1,by rw [if_pos hb],by simp,by simp [Zb,hb]⟩
  ·right
   rw [if_neg hb]
   have:Zb pre.length (x::post)=false:=by simp [Zb,hb]
   simp [this]
 ·intro i _
  simp only [g27_0,aq,aQ]
  rw [if_neg (by omega)]
  simp [Zb,aa]
 ·unfold r9
  by_cases h:Zb 0 (b8 s)=true
  ·rw [if_pos h, h]
   simp only [jA,aq,aa,aQ]
   by_cases h0:(0:Int)<((s.size:Nat):Int)
   ·rw [if_pos h0, Bool.true_and]
    congr 2
    exact decide_eq_decide.2 (by omega)
   ·rw [if_neg h0]
    simp;omega
  ·rw [if_neg h]
   simp [h,o7,aa]
def He (l:List Int):Int:=(l.find? (· != 0)).getD 0
theorem k86 (l:List Int) (hl:l.length<1000000000):ai (F44 l)=some (He l,()):=by
 unfold F44
 simp only [az,bD]
 refine bind_eq (aZ l (fun k (_:Nat)=>((0:Int),l,((l.length:Nat):Int),(k:Int),())) (fun i r=>if (r.find? (· != 0)).isSome then .inl (He r,()) else .inr (0,())) (fun pre i=>i=pre.length) ?_ ?_ (s:=0) rfl) ?_
 ·intro pre x post i hx hi
  subst hi
  have hlen:l.length=pre.length+(post.length+1):=by rw [hx];simp
  have hd:l.getD pre.length 0=x:=by rw [hx];exact bg rfl
  have hin:eA (pre.length:Int) (l.length:Int)=true:=bH (by omega) (by omega)
  have hni:dV .i64 ((pre.length:Int)+1)=true:=aK (by omega) (by omega)
  by_cases h:x=0
  ·left
   refine ⟨pre.length+1,?_,by simp,by simp [h,He]⟩
   simp only [g44_0,aq,aY,aO,aa,Int.toNat_natCast,hd,aQ,bE,bU,hin,hni,ax]
   rw [if_pos (by omega),if_pos h];rfl
  ·right
   simp only [g44_0,aq,aY,aO,aa,Int.toNat_natCast,hd,aQ,bE,bU,hin,hni,ax]
   rw [if_pos (by omega),if_neg h]
   simp [h,He]
 ·intro i _
  simp only [g44_0,aq,aQ]
  rw [if_neg (by omega)]
  simp [aa]
 ·cases h:(l.find? (· != 0)).isSome with
  |true=>rw [if_pos rfl];simp only [o7,aa]
  |false =>
   rw [if_neg (by simp)]
   have:He l=0:=by
    unfold He
    cases h':l.find? (· != 0) with
    |none=>rfl
    |some _=>rw [h'] at h;cases h
   rw [this];simp only [jA,aa]
def wA (m:Mg):Int:=if m.2.1=1 then (if m.2.2.1=bs [] then 0 else 22) else if r9 m.2.2.1=true then (if m.2.2.1=m.1 then 22 else 0) else 8
def qZ (m:Mg):Int:=if m.2.1=3 then (if m.2.2.2.1=bs []/\m.2.2.2.2=0 then 0 else 22) else if r9 m.2.2.2.1=true then (if -1000<=m.2.2.2.2/\m.2.2.2.2<=1000 then 0 else 2) else 8
def um (m:Mg):Int:=if m.2.1<1\/3<m.2.1 then 18 else if r9 m.1=true then He [wA m,qZ m] else 8
def Sh (s:ByteArray):Prop:=s.size<1000000000
def LN (m:Mg):Prop:=Sh m.1/\Sh m.2.2.1/\Sh m.2.2.2.1
theorem k87 (m:Mg) (h:LN m):ai (F45 m)=some (wA m,()):=by
 unfold F45 wA
 simp only [aq,az,aa,bE,k65 _ h.2.1,aH,bU,seq_eq,aQ]
 split
 ·split<;>rfl
 ·rw [tA]
  split
  ·split<;>rfl
  ·rfl
theorem k88 (m:Mg) (h:LN m):ai (F46 m)=some (qZ m,()):=by
 unfold F46 qZ
 simp only [aq,az,aa,bE,k65 _ h.2.2,aH,bU,seq_eq,aQ]
 split
 ·by_cases h1 : m.2.2.2.1 = bs []
  ·by_cases h2:m.2.2.2.2=0<;>simp [h1,h2]
  ·simp [h1]
 ·rw [tA]
  split
  ·by_cases h1 : m.2.2.2.2 < -1000
   ·rw [if_pos h1,if_neg (by omega)]
   ·rw [if_neg h1]
    by_cases h2:1000<m.2.2.2.2
    ·rw [if_pos h2,if_neg (by omega)]
    ·rw [if_neg h2,if_pos (by omega)]
  ·rfl
theorem k55 (m:Mg) (h:LN m):ai (F25 m)=some (um m,()):=by
 have h86:=k86 [wA m,qZ m] (by simp)
 unfold F25 um
 simp only [aq,az,aa,aQ,k65 _ h.1,aH,bU,k87 m h,k88 m h]
 have hl:((wA m::qZ m::[]).drop 0).take 2=[wA m,qZ m]:=rfl
 simp only [hl,h86,aH]
 by_cases h1:m.2.1<1
 ·rw [if_pos h1,if_pos (.inl h1)]
 ·rw [if_neg h1]
  by_cases h2:3<m.2.1
  ·rw [if_pos h2,if_pos (.inr h2)]
  ·rw [if_neg h2, if_neg (by omega), tA]
   split<;>rfl
end Go.Proofs.Tryz
end
section
namespace Go.Proofs.Tryz
open Go.AM
set_option maxRecDepth 100000
def bk (L:List Mg):List (Mg×Bool):=L.map fun m=>(m,true)
def SL (L:List Mg):Prop:=L.Pairwise fun a b=>gZ tM a b=true
theorem SL.can {L:List Mg} (h:SL L):iY tM (bk L):=by
 unfold iY bk;rw [List.pairwise_map];exact h
theorem bk_t {L:List Mg}:∀e∈bk L,e.2=true:=fun e he=>by
 obtain ⟨m,_,rfl⟩:=List.mem_map.1 he;rfl
theorem Jj {L:List Mg} {m:Mg} {b:Bool}:(m,b)∈bk L↔m∈L/\b=true:=by
 unfold bk;rw [List.mem_map]
 constructor
 ·rintro ⟨x,hx,h⟩;cases h;exact ⟨hx,rfl⟩
 ·rintro ⟨h,rfl⟩;exact ⟨m,h,rfl⟩
theorem LO {L:List Mg}:(bk L).map (·.1)=L:=by simp [bk,List.map_map,Function.comp_def]
theorem Jk {L:List Mg}:(bk L).length=L.length:=by simp [bk]
theorem aiy {es:List (Mg×Bool)} (h:∀e∈es,e.2=true):bk (es.map (·.1))=es:=by
 unfold bk;rw [List.map_map]
 conv=>rhs;rw [<-List.map_id es]
 refine List.map_congr_left fun e he=>?_
 obtain ⟨a,b⟩:=e
 have:=h _ he
 simp only at this;subst this;rfl
def jY (L:List Mg) (m:Mg):List Mg:=(bp tM (bk L) m true).map (·.1)
theorem Ef {L:List Mg} (h:SL L) {m:Mg}:bk (jY L m)=bp tM (bk L) m true:=aiy (R7 kM h.can bk_t)
theorem pS {L:List Mg} (h:SL L) {m x:Mg}:x∈jY L m↔x=m\/x∈L:=by
 have:x∈jY L m↔(x,true)∈bk (jY L m):=by rw [Jj];simp
 rw [this,Ef h,gw kM h.can]
 constructor
 ·rintro (e | ⟨h1, h2⟩)
  ·cases e;exact .inl rfl
  ·exact .inr (Jj.1 h1).1
 ·by_cases e : x = m
  ·subst e;exact fun _=>.inl rfl
  ·rintro (e' | h')
   ·exact absurd e' e
   ·exact .inr ⟨Jj.2 ⟨h',rfl⟩,e⟩
theorem SL.ins {L:List Mg} (h:SL L) {m:Mg}:SL (jY L m):=by
 have:=h.can.iG (x:=m) (v:=true) kM
 rw [<-Ef h] at this
 unfold iY bk at this;rw [List.pairwise_map] at this;exact this
theorem SL.ext {L L':List Mg} (h:SL L) (h':SL L') (hm:∀x,x∈L↔x∈L'):L=L' :=
 lE (fun a h=>by rw [iX kM] at h;cases h) (fun a b h1 h2=>ef kM h1 h2) h h' hm
theorem Aa {L:List Mg} {m:Mg}:(jY L m).length<=L.length+1:=by
 unfold jY bp
 rw [List.length_map]
 split
 ·simp [bk]
 ·rw [j7.length_eq];simp [bk]
theorem Sv (m:List (Mg×Bool)):ai (FH24 m)=some (false,m,()):=rfl
def lF (L:List Mg) (m:Mg):Int×List Mg:=if um m=0 then (if 60<(jY L m).length then (15,L) else (0,jY L m)) else (um m,L)
theorem g56 {mm m1:List (Mg×Bool)} {b3:List Mg} {k:Nat} (hb:b3.length<1000000000) (hk:k<b3.length) :
  ai (gH26_0 (b3,((b3.length:Nat):Int),(k:Int),mm,m1,()))=some (.inl (b3,((b3.length:Nat):Int),((k+1:Nat):Int),bp tM mm (b3.getD k (bs [],(0:Int),bs [],bs [],(0:Int))) true,m1,())):=by
 have hin:eA (k:Int) (b3.length:Int)=true:=bH (by omega) (by omega)
 have hni:dV .i64 ((k:Int)+1)=true:=aK (by omega) (by omega)
 simp only [gH26_0,aq,aY,aN,aO,aa,Int.toNat_natCast,Nat.zero_add,aQ,hin,hni,ax]
 rw [if_pos (by omega)]
 rfl
theorem g56e {mm m1:List (Mg×Bool)} {b3:List Mg}:ai (gH26_0 (b3,((b3.length:Nat):Int),(b3.length:Int),mm,m1,()))=some (.inr (mm,m1,())):=by
 simp only [gH26_0,aq,aa,aQ]
 rw [if_neg (by omega)]
theorem kH56 {L:List Mg} (h:SL L) (hl:L.length<=60) (m:Mg):ai (FH26 m.1 m.2.1 m.2.2.1 m.2.2.2.1 m.2.2.2.2 (bk L))=some (if 60<(jY L m).length then (15,bk L,()) else (0,bk (jY L m),())):=by
 have hit:iter (fun x=>ai (gH26_0 x)) ([m],(([m].length:Nat):Int),(0:Int),bk L,bk L,())=some (bk (jY L m),bk L,()):=by
  rw [Ef h]
  exact cI (g56 (b3:=[m]) (k:=0) (by simp) (by simp)) (cA g56e)
 unfold FH26
 simp only [az,FH47,F165,aa,aH,bD]
 refine bind_eq hit ?_
 simp only [aq,aa,aQ,Jk]
 by_cases hc:60<(jY L m).length
 ·rw [if_pos (by omega),if_pos hc]
 ·rw [if_neg (by omega),if_neg hc]
theorem kH20 {L:List Mg} (h:SL L) (hl:L.length<=60) {m:Mg} (hm:LN m):ai (FH6 m (bk L))=some ((lF L m).1,bk (lF L m).2,()):=by
 have h55:=k55 m hm
 unfold FH6
 simp only [az,Sv,aH,aq,gO]
 rw [aA (show ai (F25 (m.1,m.2.1,m.2.2.1,m.2.2.2.1,m.2.2.2.2))=_ from h55)]
 simp only [bU,bE]
 unfold lF
 by_cases hc:um m=0
 ·rw [if_pos hc, if_pos hc]
  rw [aA (kH56 h hl m)]
  split<;>rfl
 ·rw [if_neg hc,if_neg hc];rfl
structure pT (L:List Mg):Prop where
 s:SL L
 len:L.length<=60
 um:∀m∈L,um m=0
theorem pT.nil:pT []:=⟨.nil,by simp,fun m h=>by cases h⟩
theorem pT.tell {L:List Mg} (h:pT L) (m:Mg):pT (lF L m).2:=by
 unfold lF
 split
 ·rename_i hc
  split
  ·exact h
  ·rename_i h60
   refine ⟨h.s.ins,by simp only;omega,fun x hx=>?_⟩
   rcases (pS h.s).1 hx with rfl|hx
   ·exact hc
   ·exact h.um x hx
 ·exact h
theorem Hf {E A : Type} {step : E → A → Option A} (f : A → E → A) (I : A → Prop) : ∀ (l : List E) (x : A), I x → (∀ e ∈ l, ∀ x, I x → step e x = some (f x e) ∧ I (f x e)) → Bu step l x = some (l.foldl f x) ∧ I (l.foldl f x)
 |[],x,hx,_=>⟨rfl,hx⟩
 |e::l,x,hx,h=>by
  obtain ⟨h1,h2⟩:=h e (List.mem_cons_self ..) x hx
  obtain ⟨h3,h4⟩:=Hf f I l (f x e) h2 fun e he=>h e (List.mem_cons_of_mem _ he)
  exact ⟨by simp only [Bu,h1];exact h3,h4⟩
theorem Ab {K V M : Type} {step : K × V → M × Nat × List K × Unit → Option (M × Nat × List K × Unit)} {m : M} {l : List (K × V)} (hl : l.length < 1000000000)
  (h:∀e n b,n<1000000000->step e (m,n,b,())=some (m,n+1,(b.drop 0).take n++[e.1],())):Bu step l (m,0,[],())=some (m,l.length,l.map (·.1),()):=by
 have key:∀(l:List (K×V)) (b:List K),b.length+l.length<1000000000->Bu step l (m,b.length,b,())=some (m,b.length+l.length,b++l.map (·.1),()):=by
  intro l
  induction l with
  |nil=>intro b _;simp [Bu]
  |cons e l ih =>
   intro b hb
   simp only [List.length_cons] at hb
   simp only [Bu,h e b.length b (by omega)]
   have:=ih (b++[e.1]) (by simp;omega)
   simp only [List.drop_zero,List.take_length]
   rw [List.length_append,List.length_singleton] at this
   rw [this]
   simp only [List.length_cons,List.map_cons,List.append_assoc,List.singleton_append]
   congr 3
   omega
 have:=key l [] (by simpa using hl)
 simpa using this
theorem tX {t:Ty} {ks:List Kd} (hk:bG t=some ks) {l s:List t.den} (hp:s.Perm l) (hs:EB t s) (hl:l.length<1000000000):wO t l l.length=some (s,()):=by
 unfold wO
 rw [if_pos ⟨Nat.le_refl _,by rw [qm];omega⟩,List.take_length,List.drop_length,List.append_nil,tr hk hp hs]
theorem SL.XQ {L:List Mg} (h:SL L):EB tM L:=by
 have:=h.can.keys kM
 rwa [LO] at this
theorem kH83 {L:List Mg} (h:SL L) (hl:L.length<1000000000):ai (FH76 (bk L))=some (L.length,L,bk L,()):=by
 unfold FH76
 refine Eq.trans Iu (ko fun l hp=>?_)
 have A8:l.length=L.length:=by rw [hp.length_eq,Jk]
 simp only [az,Iv]
 refine bind_eq (Ab (m:=bk L) (l:=l) (by rw [A8];exact hl) fun e n b hn=>?_) ?_
 ·simp only [gH76f95f106_0i_0, aN, aa, fG, ax]
  rw [aI (show _<cn by rw [qm];simp;omega)]
  rfl
 ·simp only [FH96, Df]
  have hpk:L.Perm (l.map (·.1)):=by
   have:=(hp.map (·.1)).symm
   rwa [LO] at this
  have:=tX kM hpk h.XQ (by rw [List.length_map];omega)
  rw [List.length_map] at this
  rw [aA this,A8]
  rfl
theorem kH47 {L:List Mg} (h:SL L) (hl:L.length<1000000000):ai (FH48 (bk L))=some (L.length,L,bk L,()):=by
 unfold FH48
 simp only [az,Sv,aH,aq,gO,FH77,aa]
 rw [aA (kH83 h hl)]
end Go.Proofs.Tryz
end
section
namespace Go.Proofs.Tryz
open Go.AM
set_option maxRecDepth 100000
abbrev Eg:=List (ByteArray×Mg)
abbrev Jl:=List (ByteArray×List ByteArray)
abbrev gx:=List (ByteArray×Bool)
theorem kH98 {l:List ByteArray} (hl:l.length<1000000000):ai (FH53 l)=some (l.length,l,()):=by
 simp only [FH53,aq,Qk,aN,aa,bE]
 rw [pe (by omega)]
 split
 ·have : l = [] := List.length_eq_zero_iff.1 (by omega)
  subst this
  simp only [List.length_nil,List.drop_nil,List.take_nil,List.append_nil,Nat.add_zero]
  exact uT
 ·simp
def ir (del : ByteArray → Bool) : Nat → List ByteArray → Option Nat
 |_,[]=>none
 |k,x::r=>if del x=true then some k else ir del (k+1) r
theorem pU (del : ByteArray → Bool) : ∀ (l : List ByteArray) (k : Nat), (∃ p x q, l = p ++ x :: q ∧ (∀ c ∈ p, del c = false) ∧ del x = true ∧ ir del k l = some (k + p.length)) ∨ ((∀ c ∈ l, del c = false) ∧ ir del k l = none)
 |[],k=>.inr ⟨by simp,rfl⟩
 |y::l,k=>by
  by_cases h:del y=true
  ·left
   exact ⟨[],y,l,rfl,by simp,h,by simp [ir,h]⟩
  ·rcases pU del l (k + 1) with ⟨p, x, q, h1, h2, h3, h4⟩ | ⟨h1, h2⟩
   ·left
    refine ⟨y::p,x,q,by rw [h1];rfl,fun c hc=>?_,h3,?_⟩
    ·rcases List.mem_cons.1 hc with rfl | hc
     ·simpa using h
     ·exact h2 c hc
    ·unfold ir;rw [if_neg h,h4,List.length_cons,show k+1+p.length=k+(p.length+1) by omega]
   ·right
    refine ⟨fun c hc=>?_,by unfold ir;rw [if_neg h,h2]⟩
    rcases List.mem_cons.1 hc with rfl|hc
    ·simpa using h
    ·exact h1 c hc
theorem tY {del:ByteArray->Bool} {l:List ByteArray} (h:∀c∈l,del c=false):l.filter (fun c => !del c)=l:=List.filter_eq_self.2 fun c hc=>by rw [h c hc];rfl
section
variable {m3:Eg} {m4:Jl} {m5 m6:gx}
theorem kH99 (v:ByteArray):ai (FH54 v m3 m4 m5 m6)=some (!(ay .str false m5 v),m3,m4,m5,m6,()):=rfl
theorem aiD {l:List ByteArray} (hl:l.length<1000000000):ai (FH82 l.length l m3 m4 m5 m6)=some ((match ir (fun v => !(ay .str false m5 v)) 0 l with|some k=>((k:Nat):Int)|none => -1),m3,m4,m5,m6,l,()):=by
 have hi := aZ (f := fun a => run (fun _ => none) (gH82_0 a)) l (fun k (_ : Nat) => (l.length, ((l.length : Nat) : Int), (k : Int), l, m3, m4, m5, m6, ())) (fun k r => match ir (fun v => !(ay .str false m5 v)) k r with | some k => .inl (((k : Nat) : Int), m3, m4, m5, m6, l, ()) | none => .inr (m3, m4, m5, m6, l, ())) (fun pre k => k = pre.length) (by
  rintro pre x post k hx rfl
  have hlen:l.length=pre.length+(post.length+1):=by rw [hx];simp
  have hd:l.getD pre.length (bs [])=x:=by rw [hx];exact bg rfl
  have i1:eA (pre.length:Int) ((l.length:Nat):Int)=true:=bH (by omega) (by omega)
  have r1:dV .i64 ((pre.length:Int)+1)=true:=aK (by omega) (by omega)
  have d1:decide (pre.length<l.length)=true:=decide_eq_true (by omega)
  simp only [gH82_0,aq,az,aY,aN,aO,aa,Int.toNat_natCast,Nat.zero_add,hd,kH99,aH,i1,r1,d1,ax,aQ]
  rw [if_pos (by omega)]
  by_cases h:(!(ay .str false m5 x))=true
  ·right;rw [h,sU];simp only [ir,h,if_true]
  ·left
   refine ⟨pre.length+1,?_⟩
   rw [It (by simpa using h)]
   refine ⟨rfl,by simp,?_⟩
   simp only [ir,h,if_false];rfl) (by
  rintro k _
  simp only [gH82_0,aq,aQ,aa]
  rw [if_neg (by omega)];rfl) (s:=0) rfl
 simp only [FH82,az,bD]
 refine bind_eq hi ?_
 split<;>rfl
theorem kH97 {l:List ByteArray} (hl:l.length<1000000000):∃b,b.length=l.length/\b.take (l.filter fun v => !(!(ay .str false m5 v))).length=l.filter (fun v => !(!(ay .str false m5 v)))/\ai (FH52 l.length l m3 m4 m5 m6)=some (0,(l.filter fun v => !(!(ay .str false m5 v))).length,b,m3,m4,m5,m6,()):=by
 have adb:=aiD (m3:=m3) (m4:=m4) (m5:=m5) (m6:=m6) hl
 simp only [FH52,az,bD,aq,aa,aO,aN,bE]
 rw [aA adb]
 rcases pU (fun v => !(ay .str false m5 v)) l 0 with ⟨p,x,q,h1,h2,h3,h4⟩|⟨h1,h2⟩
 case inr =>
  rw [h2]
  simp only [if_true]
  rw [tY h1]
  exact ⟨l,rfl,List.take_length ..,rfl⟩
 rw [h4]
 simp only [Nat.zero_add]
 have hlen:l.length=p.length+(q.length+1):=by rw [h1];simp
 rw [if_neg (by omega),aP (by omega) (by omega)]
 have hk:l.filter (fun v => !(!(ay .str false m5 v)))=p++q.filter fun v => !(!(ay .str false m5 v)):=by
  have e1:=tY h2
  have e2:(x::q).filter (fun v => !(!(ay .str false m5 v)))=q.filter fun v => !(!(ay .str false m5 v)):=by rw [List.filter_cons_of_neg];simpa using h3
  rw [h1,List.filter_append,e2]
  rw [show p.filter (fun v => !(!(ay .str false m5 v)))=p from e1]
 obtain ⟨res, hres, m, b, rfl, hb, hm, ht⟩ := Dm (step := fun a => run (fun _ => none) (gH52_0 a)) q.length
  (fun k x=>∃(i:Nat) (b:List ByteArray),x=(l.length,(i:Int),((p.length+1+k:Nat):Int),b,m3,m4,m5,m6,())/\b.length=l.length/\i<=p.length+k/\b.take i=p++(q.take k).filter (fun v => !(!(ay .str false m5 v)))/\b.drop (p.length+1+k)=q.drop k)
  (fun r => ∃ (m : Nat) (b : List ByteArray), r = (l.length, (m : Int), b, m3, m4, m5, m6, ()) ∧ b.length = l.length ∧ m ≤ l.length ∧ b.take m = p ++ q.filter fun v => !(!(ay .str false m5 v))) (by
   rintro k _ hk ⟨i,b,rfl,hb,hi,ht,hd⟩
   have hx:b.getD (p.length+1+k) (bs [])=q.getD k (bs []):=by
    have:=congrArg (fun l=>l.getD 0 (bs [])) hd
    simpa [List.getD_eq_getElem?_getD] using this
   have Se:q.take (k+1)=q.take k++[q.getD k (bs [])]:=by
    rw [List.take_succ_eq_append_getElem hk];simp [List.getD_eq_getElem?_getD,List.getElem?_eq_getElem hk]
   generalize q.getD k (bs [])=y at hx Se
   have i1:eA ((p.length+1+k:Nat):Int) ((l.length:Nat):Int)=true:=bH (by omega) (by omega)
   have i2:eA (i:Int) ((l.length:Nat):Int)=true:=bH (by omega) (by omega)
   have d1:decide (p.length+1+k<b.length)=true:=decide_eq_true (by omega)
   have d2:decide (i<b.length)=true:=decide_eq_true (by omega)
   have r1:dV .i64 ((i:Int)+1)=true:=aK (by omega) (by omega)
   have r2:dV .i64 (((p.length+1+k:Nat):Int)+1)=true:=aK (by omega) (by omega)
   simp only [gH52_0,aq,az,aY,aN,aO,aa,Int.toNat_natCast,Nat.zero_add,hx,kH99,aH,i1,i2,d1,d2,r1,r2,ax,aQ]
   rw [if_pos (by omega)]
   by_cases hy:(!(ay .str false m5 y))=true
   ·refine ⟨_, by rw [It (by rw [hy]; rfl)], i, b, by rw [show ((p.length + 1 + (k + 1) : Nat) : Int) = ((p.length + 1 + k : Nat) : Int) + 1 by omega], hb, by omega, ?_, ?_⟩
    ·rw [ht,Se,List.filter_append,List.filter_cons_of_neg (by rw [hy];simp)];simp
    ·have := congrArg (List.drop 1) hd
     simpa [List.drop_drop,Nat.add_assoc] using this
   ·refine ⟨_, by rw [Qh (by rw [Bool.eq_false_iff.2 hy]; rfl)], i + 1, b.set i y, by rw [show ((p.length + 1 + (k + 1) : Nat) : Int) = ((p.length + 1 + k : Nat) : Int) + 1 by omega, show ((i + 1 : Nat) : Int) = (i : Int) + 1 by omega], by simp [hb], by omega, ?_, ?_⟩
    ·have e:(b.set i y).take (i+1)=b.take i++[y]:=by
      rw [List.take_succ_eq_append_getElem (by simp;omega)]
      simp [List.take_set_of_le]
     rw [e,ht,Se,List.filter_append,List.filter_cons_of_pos (by simpa using hy)];simp
    ·have := congrArg (List.drop 1) hd
     rw [List.drop_set_of_lt (by omega)]
     simpa [List.drop_drop,Nat.add_assoc] using this) (by
   rintro _ ⟨i,b,rfl,hb,hi,ht,hd⟩
   simp only [gH52_0,aq,aa,aQ]
   rw [if_neg (by omega)]
   exact ⟨_,rfl,i,b,rfl,hb,by omega,by rw [ht,List.take_length]⟩) (x:=(l.length,(p.length:Int),(p.length:Int)+1,l,m3,m4,m5,m6,())) ⟨p.length,l,by simp,rfl,by omega,by rw [h1];simp,by rw [h1];simp⟩
 rw [aA hres]
 have hml:m=(l.filter fun v => !(!(ay .str false m5 v))).length:=by rw [hk,<-ht,List.length_take];omega
 simp only [Int.toNat_natCast,Nat.zero_add,xJ,Int.toNat_zero,Nat.sub_zero]
 rw [aI (by omega),aI (by omega),aI (by omega),aI (by omega),aI (by omega),aI (by omega)]
 refine ⟨b.take m++List.replicate (l.length - m) (bs [])++b.drop (m+(l.length - m)),?_,?_,by rw [<-hml]⟩
 ·simp only [List.length_append,List.length_take,List.length_replicate,List.length_drop];omega
 ·rw [<-hml,List.take_append_of_le_length (by simp;omega),List.take_append_of_le_length (by simp;omega),List.take_take,Nat.min_self,ht,hk]
theorem Zc (v:ByteArray):ai (FH117 v m3 m4 m5 m6)=some (ay .str false m6 v,m3,m4,m5,m6,()):=rfl
theorem Sw {l:List ByteArray} (hl:l.length<1000000000):ai (FH82_v1 l.length l m3 m4 m5 m6)=some ((match ir (fun v=>ay .str false m6 v) 0 l with|some k=>((k:Nat):Int)|none => -1),m3,m4,m5,m6,l,()):=by
 have hi := aZ (f := fun a => run (fun _ => none) (gH82_v1_0 a)) l (fun k (_ : Nat) => (l.length, ((l.length : Nat) : Int), (k : Int), l, m3, m4, m5, m6, ())) (fun k r => match ir (fun v => ay .str false m6 v) k r with | some k => .inl (((k : Nat) : Int), m3, m4, m5, m6, l, ()) | none => .inr (m3, m4, m5, m6, l, ())) (fun pre k => k = pre.length) (by
  rintro pre x post k hx rfl
  have hlen:l.length=pre.length+(post.length+1):=by rw [hx];simp
  have hd:l.getD pre.length (bs [])=x:=by rw [hx];exact bg rfl
  have i1:eA (pre.length:Int) ((l.length:Nat):Int)=true:=bH (by omega) (by omega)
  have r1:dV .i64 ((pre.length:Int)+1)=true:=aK (by omega) (by omega)
  have d1:decide (pre.length<l.length)=true:=decide_eq_true (by omega)
  simp only [gH82_v1_0,aq,az,aY,aN,aO,aa,Int.toNat_natCast,Nat.zero_add,hd,Zc,aH,i1,r1,d1,ax,aQ]
  rw [if_pos (by omega)]
  by_cases h:(ay .str false m6 x)=true
  ·right;rw [h,sU];simp only [ir,h,if_true]
  ·left
   refine ⟨pre.length+1,?_⟩
   rw [It (by simpa using h)]
   refine ⟨rfl,by simp,?_⟩
   simp only [ir,h,if_false];rfl) (by
  rintro k _
  simp only [gH82_v1_0,aq,aQ,aa]
  rw [if_neg (by omega)];rfl) (s:=0) rfl
 simp only [FH82_v1,az,bD]
 refine bind_eq hi ?_
 split<;>rfl
theorem Xe {l:List ByteArray} (hl:l.length<1000000000):∃b,b.length=l.length/\b.take (l.filter fun v => !(ay .str false m6 v)).length=l.filter (fun v => !(ay .str false m6 v))/\ai (FH52_v1 l.length l m3 m4 m5 m6)=some (0,(l.filter fun v => !(ay .str false m6 v)).length,b,m3,m4,m5,m6,()):=by
 have adb:=Sw (m3:=m3) (m4:=m4) (m5:=m5) (m6:=m6) hl
 simp only [FH52_v1,az,bD,aq,aa,aO,aN,bE]
 rw [aA adb]
 rcases pU (fun v=>ay .str false m6 v) l 0 with ⟨p,x,q,h1,h2,h3,h4⟩|⟨h1,h2⟩
 case inr =>
  rw [h2]
  simp only [if_true]
  rw [tY h1]
  exact ⟨l,rfl,List.take_length ..,rfl⟩
 rw [h4]
 simp only [Nat.zero_add]
 have hlen:l.length=p.length+(q.length+1):=by rw [h1];simp
 rw [if_neg (by omega),aP (by omega) (by omega)]
 have hk:l.filter (fun v => !(ay .str false m6 v))=p++q.filter fun v => !(ay .str false m6 v):=by
  have e1:=tY h2
  have e2:(x::q).filter (fun v => !(ay .str false m6 v))=q.filter fun v => !(ay .str false m6 v):=by rw [List.filter_cons_of_neg];simpa using h3
  rw [h1,List.filter_append,e2]
  rw [show p.filter (fun v => !(ay .str false m6 v))=p from e1]
 obtain ⟨res, hres, m, b, rfl, hb, hm, ht⟩ := Dm (step := fun a => run (fun _ => none) (gH52_v1_0 a)) q.length
  (fun k x=>∃(i:Nat) (b:List ByteArray),x=(l.length,(i:Int),((p.length+1+k:Nat):Int),b,m3,m4,m5,m6,())/\b.length=l.length/\i<=p.length+k/\b.take i=p++(q.take k).filter (fun v => !(ay .str false m6 v))/\b.drop (p.length+1+k)=q.drop k)
  (fun r => ∃ (m : Nat) (b : List ByteArray), r = (l.length, (m : Int), b, m3, m4, m5, m6, ()) ∧ b.length = l.length ∧ m ≤ l.length ∧ b.take m = p ++ q.filter fun v => !(ay .str false m6 v)) (by
   rintro k _ hk ⟨i,b,rfl,hb,hi,ht,hd⟩
   have hx:b.getD (p.length+1+k) (bs [])=q.getD k (bs []):=by
    have:=congrArg (fun l=>l.getD 0 (bs [])) hd
    simpa [List.getD_eq_getElem?_getD] using this
   have Se:q.take (k+1)=q.take k++[q.getD k (bs [])]:=by
    rw [List.take_succ_eq_append_getElem hk];simp [List.getD_eq_getElem?_getD,List.getElem?_eq_getElem hk]
   generalize q.getD k (bs [])=y at hx Se
   have i1:eA ((p.length+1+k:Nat):Int) ((l.length:Nat):Int)=true:=bH (by omega) (by omega)
   have i2:eA (i:Int) ((l.length:Nat):Int)=true:=bH (by omega) (by omega)
   have d1:decide (p.length+1+k<b.length)=true:=decide_eq_true (by omega)
   have d2:decide (i<b.length)=true:=decide_eq_true (by omega)
   have r1:dV .i64 ((i:Int)+1)=true:=aK (by omega) (by omega)
   have r2:dV .i64 (((p.length+1+k:Nat):Int)+1)=true:=aK (by omega) (by omega)
   simp only [gH52_v1_0,aq,az,aY,aN,aO,aa,Int.toNat_natCast,Nat.zero_add,hx,Zc,aH,i1,i2,d1,d2,r1,r2,ax,aQ]
   rw [if_pos (by omega)]
   by_cases hy:(ay .str false m6 y)=true
   ·refine ⟨_, by rw [It (by rw [hy]; rfl)], i, b, by rw [show ((p.length + 1 + (k + 1) : Nat) : Int) = ((p.length + 1 + k : Nat) : Int) + 1 by omega], hb, by omega, ?_, ?_⟩
    ·rw [ht,Se,List.filter_append,List.filter_cons_of_neg (by rw [hy];simp)];simp
    ·have := congrArg (List.drop 1) hd
     simpa [List.drop_drop,Nat.add_assoc] using this
   ·refine ⟨_, by rw [Qh (by rw [Bool.eq_false_iff.2 hy]; rfl)], i + 1, b.set i y, by rw [show ((p.length + 1 + (k + 1) : Nat) : Int) = ((p.length + 1 + k : Nat) : Int) + 1 by omega, show ((i + 1 : Nat) : Int) = (i : Int) + 1 by omega], by simp [hb], by omega, ?_, ?_⟩
    ·have e:(b.set i y).take (i+1)=b.take i++[y]:=by
      rw [List.take_succ_eq_append_getElem (by simp;omega)]
      simp [List.take_set_of_le]
     rw [e,ht,Se,List.filter_append,List.filter_cons_of_pos (by simpa using hy)];simp
    ·have := congrArg (List.drop 1) hd
     rw [List.drop_set_of_lt (by omega)]
     simpa [List.drop_drop,Nat.add_assoc] using this) (by
   rintro _ ⟨i,b,rfl,hb,hi,ht,hd⟩
   simp only [gH52_v1_0,aq,aa,aQ]
   rw [if_neg (by omega)]
   exact ⟨_,rfl,i,b,rfl,hb,by omega,by rw [ht,List.take_length]⟩) (x:=(l.length,(p.length:Int),(p.length:Int)+1,l,m3,m4,m5,m6,())) ⟨p.length,l,by simp,rfl,by omega,by rw [h1];simp,by rw [h1];simp⟩
 rw [aA hres]
 have hml:m=(l.filter fun v => !(ay .str false m6 v)).length:=by rw [hk,<-ht,List.length_take];omega
 simp only [Int.toNat_natCast,Nat.zero_add,xJ,Int.toNat_zero,Nat.sub_zero]
 rw [aI (by omega),aI (by omega),aI (by omega),aI (by omega),aI (by omega),aI (by omega)]
 refine ⟨b.take m++List.replicate (l.length - m) (bs [])++b.drop (m+(l.length - m)),?_,?_,by rw [<-hml]⟩
 ·simp only [List.length_append,List.length_take,List.length_replicate,List.length_drop];omega
 ·rw [<-hml,List.take_append_of_le_length (by simp;omega),List.take_append_of_le_length (by simp;omega),List.take_take,Nat.min_self,ht,hk]
end
end Go.Proofs.Tryz
end
section
namespace Go.Proofs.Tryz
open Go.AM
set_option maxRecDepth 100000
abbrev zM:Mg:=(bs [],(0:Int),bs [],bs [],(0:Int))
def jD (es:Eg) (m:Mg):Eg:=if aR .str es m.1=true then es else bp .str es m.1 m
def rj (L:List Mg):Eg:=L.foldl jD []
def cnt (L:List Mg):List Mg:=(rj L).map (·.2)
theorem Ad {es:Eg} (h:iY .str es) (m:Mg):iY .str (jD es m):=by
 unfold jD;split
 ·exact h
 ·exact h.iG kS
theorem Ae : ∀ {L : List Mg} {es : Eg}, iY .str es → iY .str (L.foldl jD es)
 |[],_,h=>h
 |m::L,es,h=>Ae (L:=L) (es:=jD es m) (Ad h m)
theorem Oa (L:List Mg):iY .str (rj L):=Ae .nil
theorem Af : ∀ {L : List Mg} {es : Eg} {e : ByteArray × Mg}, iY .str es → (e ∈ L.foldl jD es ↔ e ∈ es ∨ (aR .str es e.1 = false ∧ ∃ pre post, L = pre ++ e.2 :: post ∧ e.2.1 = e.1 ∧ ∀ x ∈ pre, x.1 ≠ e.1))
 |[],es,e,_=>by simp
 |m::L,es,e,h=>by
  rw [List.foldl_cons,Af (Ad h m)]
  have hs:jD es m=es/\aR .str es m.1=true\/jD es m=bp .str es m.1 m/\aR .str es m.1=false:=by
   unfold jD
   cases hm:aR .str es m.1
   ·right;simp
   ·left;simp
  rcases hs with ⟨hs,hm⟩|⟨hs,hm⟩
  ·rw [hs]
   refine or_congr_right ?_
   constructor
   ·rintro ⟨h1, pre, post, rfl, h2, h3⟩
    refine ⟨h1,m::pre,post,rfl,h2,fun x hx=>?_⟩
    rcases List.mem_cons.1 hx with rfl|hx
    ·intro e';rw [e'] at hm;rw [hm] at h1;cases h1
    ·exact h3 x hx
   ·rintro ⟨h1, pre, post, h2, h3, h4⟩
    cases pre with
    |nil =>
     simp only [List.nil_append,List.cons.injEq] at h2
     rw [h2.1] at hm;rw [h3] at hm;rw [hm] at h1;cases h1
    |cons p pre =>
     simp only [List.cons_append,List.cons.injEq] at h2
     exact ⟨h1,pre,post,h2.2,h3,fun x hx=>h4 x (List.mem_cons_of_mem _ hx)⟩
  ·rw [hs, gw kS h, qo kS h]
   have hk:∀{v:Mg},(m.1,v)∉es:=fun {v} hv=>by rw [(dG kS).2 ⟨v,hv⟩] at hm;cases hm
   constructor
   ·rintro ((h1 | ⟨h1, _⟩) | ⟨h1, pre, post, rfl, h2, h3⟩)
    ·subst h1
     exact .inr ⟨hm,[],L,rfl,rfl,by simp⟩
    ·exact .inl h1
    ·simp only [Bool.or_eq_false_iff] at h1
     have hne:e.1≠m.1:=fun e'=>by have:=h1.1;rw [e',jX kS] at this;cases this
     refine .inr ⟨h1.2,m::pre,post,rfl,h2,fun x hx=>?_⟩
     rcases List.mem_cons.1 hx with rfl|hx
     ·exact Ne.symm hne
     ·exact h3 x hx
   ·rintro (h1 | ⟨h1, pre, post, h2, h3, h4⟩)
    ·refine .inl (.inr ⟨h1, fun e' => ?_⟩)
     obtain ⟨a,b⟩:=e
     simp only at e';subst e';exact hk h1
    ·cases pre with
     |nil =>
      simp only [List.nil_append,List.cons.injEq] at h2
      obtain ⟨a,b⟩:=e
      simp only at h2 h3
      exact .inl (.inl (by rw [<-h3,h2.1]))
     |cons p pre =>
      simp only [List.cons_append,List.cons.injEq] at h2
      have hne:e.1≠m.1:=fun e'=>by
       have:=h4 p (List.mem_cons_self ..)
       rw [<-h2.1,e'] at this;exact this rfl
      refine .inr ⟨?_,pre,post,h2.2,h3,fun x hx=>h4 x (List.mem_cons_of_mem _ hx)⟩
      rw [Bool.or_eq_false_iff]
      refine ⟨?_,h1⟩
      cases hd:eB .str e.1 m.1 with
      |false=>rfl
      |true=>exact absurd (bS hd) hne
theorem vw {L:List Mg} {e:ByteArray×Mg}:e∈rj L↔∃pre post,L=pre++e.2::post/\e.2.1=e.1/\∀x∈pre,x.1≠e.1:=by
 unfold rj
 rw [Af .nil]
 simp [aR]
theorem Hg {L:List Mg} {e:ByteArray×Mg} (h:e∈rj L):e.2.1=e.1:=by
 obtain ⟨_,_,_,h,_⟩:=vw.1 h;exact h
theorem Hi (L:List Mg):rj L=(cnt L).map fun m=>(m.1,m):=by
 unfold cnt
 rw [List.map_map]
 conv=>lhs;rw [<-List.map_id (rj L)]
 refine List.map_congr_left fun e he=>?_
 have:=Hg he
 obtain ⟨a,b⟩:=e
 simp only at this;subst this;rfl
theorem LP {L:List Mg} {m:Mg}:m∈cnt L↔(m.1,m)∈rj L:=by
 unfold cnt
 rw [List.mem_map]
 constructor
 ·rintro ⟨e, he, rfl⟩
  have:=Hg he
  obtain ⟨a,b⟩:=e
  simp only at this;subst this;exact he
 ·intro h;exact ⟨_,h,rfl⟩
def SI (c:List Mg):Prop:=c.Pairwise fun a b=>slt a.1 b.1=true
theorem ot (L:List Mg):SI (cnt L):=by
 have h:=Oa L
 rw [Hi] at h
 unfold iY at h;rw [List.pairwise_map] at h;exact h
theorem SI.cam {c:List Mg} (h:SI c):iY .str (c.map fun m=>(m.1,m)):=by
 unfold iY;rw [List.pairwise_map];exact h
theorem SI.inj {c:List Mg} (h:SI c) {m m':Mg} (hm:m∈c) (hm':m'∈c) (e:m.1=m'.1):m=m':=by
 have h1:=gv (d:=zM) kS h.cam (List.mem_map.2 ⟨m,hm,rfl⟩)
 have h2:=gv (d:=zM) kS h.cam (List.mem_map.2 ⟨m',hm',rfl⟩)
 rw [<-h1,<-h2,e]
theorem Eh {L:List Mg} {m:Mg} (h:m∈cnt L):m∈L:=by
 obtain ⟨pre,post,h,_⟩:=vw.1 (LP.1 h)
 rw [h];simp
theorem Xf {L:List Mg} (hL:SL L) {m:Mg}:m∈cnt L↔m∈L/\∀x∈L,x.1=m.1->x=m\/gZ tM m x=true:=by
 rw [LP,vw]
 constructor
 ·rintro ⟨pre, post, h, _, h2⟩
  simp only at h h2
  subst h
  refine ⟨by simp,fun x hx e=>?_⟩
  rcases List.mem_append.1 hx with hx|hx
  ·exact absurd e (h2 x hx)
  ·rcases List.mem_cons.1 hx with rfl | hx
   ·exact .inl rfl
   ·unfold SL at hL
    rw [List.pairwise_append,List.pairwise_cons] at hL
    exact .inr (hL.2.1.1 x hx)
 ·rintro ⟨h1, h2⟩
  obtain ⟨pre,post,h⟩:=List.append_of_mem h1
  refine ⟨pre,post,h,rfl,fun x hx e=>?_⟩
  subst h
  unfold SL at hL
  rw [List.pairwise_append] at hL
  have h3:=hL.2.2 x hx m (List.mem_cons_self ..)
  rcases h2 x (by simp [hx]) e with rfl|h4
  ·rw [iX kM] at h3;cases h3
  ·exact ef kM h3 h4
theorem aiF {L:List Mg} {m1:List (Mg×Bool)} (hl:L.length<1000000000):iter (fun x=>ai (gH28_0 x)) (L.length,((L.length:Nat):Int),(0:Int),L,m1,[],[],[],[],())=some (m1,rj L,[],[],[],()):=by
 refine aZ L (fun k (es:Eg)=>(L.length,((L.length:Nat):Int),(k:Int),L,m1,es,[],[],[],())) (fun es r=>(m1,r.foldl jD es,[],[],[],())) (fun _ _=>True) ?_ ?_ (s:=[]) trivial
 ·intro pre x post es hx _
  have hlen:L.length=pre.length+(post.length+1):=by rw [hx];simp
  have hd:L.getD pre.length zM=x:=by rw [hx];exact bg rfl
  have i1:eA (pre.length:Int) ((L.length:Nat):Int)=true:=bH (by omega) (by omega)
  have r1:dV .i64 ((pre.length:Int)+1)=true:=aK (by omega) (by omega)
  have d1:decide (pre.length<L.length)=true:=decide_eq_true (by omega)
  left
  refine ⟨jD es x,?_,trivial,rfl⟩
  simp only [gH28_0,aq,aY,aN,aO,aa,Int.toNat_natCast,Nat.zero_add,hd,i1,r1,d1,ax,aQ]
  rw [if_pos (by omega)]
  unfold jD
  cases hm:aR .str es x.1
  ·rw [Qh (by rfl)];rfl
  ·rw [It (by rfl)];rfl
 ·intro es _
  simp only [gH28_0,aq,aa,aQ]
  rw [if_neg (by omega)]
  rfl
theorem ade {c:List Mg} (h:SI c) (hl:c.length<1000000000):ai (FH49 (c.map fun m=>(m.1,m)))=some (c.length,c.map (·.1),c.map (fun m=>(m.1,m)),()):=by
 unfold FH49
 refine Eq.trans Iu (ko fun l hp=>?_)
 have A8:l.length=c.length:=by rw [hp.length_eq,List.length_map]
 simp only [az,Iv]
 refine bind_eq (Ab (m:=c.map fun m=>(m.1,m)) (l:=l) (by rw [A8];exact hl) fun e n b hn=>?_) ?_
 ·simp only [gH49f79f98_0i_0, aN, aa, fG, ax]
  rw [aI (show _<cn by rw [qm];simp;omega)]
  rfl
 ·simp only [FH80, Df]
  have hpk:(c.map (·.1)).Perm (l.map (·.1)):=by
   have:=(hp.map (·.1)).symm
   rwa [List.map_map] at this
  have hs:EB .str (c.map (·.1)):=by
   have:=h.cam.keys kS
   rwa [List.map_map] at this
  have:=tX kS hpk hs (by rw [List.length_map];omega)
  rw [List.length_map] at this
  rw [aA this,A8]
  rfl
def kids (c:List Mg) (x:ByteArray):List ByteArray:=(c.filter fun m=>decide (m.2.1=2/\m.2.2.1=x)).map (·.1)
def Hj (c:List Mg) (x:ByteArray):Bool:=c.any fun m=>decide (m.2.1=3/\m.2.2.1=x)
def jE (t:Jl) (m:Mg):Jl:=if m.2.1=2 then bp .str t m.2.2.1 (ay .str [] t m.2.2.1++[m.1]) else t
def jF (t:gx) (m:Mg):gx:=if m.2.1=3 then bp .str t m.2.2.1 true else t
def cO (c:List Mg):Jl:=c.foldl jE []
def eV (c:List Mg):gx:=c.foldl jF []
theorem Jm {t:Jl} (h:iY .str t) (m:Mg):iY .str (jE t m):=by
 unfold jE;split
 ·exact h.iG kS
 ·exact h
theorem Jn {t:gx} (h:iY .str t) (m:Mg):iY .str (jF t m):=by
 unfold jF;split
 ·exact h.iG kS
 ·exact h
theorem Ag : ∀ {c : List Mg} {t : Jl}, iY .str t → iY .str (c.foldl jE t) ∧ (∀ x, ay .str [] (c.foldl jE t) x = ay .str [] t x ++ kids c x) ∧ ∀ x, aR .str (c.foldl jE t) x = (aR .str t x || !(kids c x).isEmpty)
 |[],t,h=>⟨h,fun x=>by simp [kids],fun x=>by simp [kids]⟩
 |m::c,t,h=>by
  obtain ⟨h1,h2,h3⟩:=Ag (c:=c) (Jm h m)
  refine ⟨h1,fun x=>?_,fun x=>?_⟩
  ·rw [List.foldl_cons, h2]
   unfold jE kids
   by_cases hk:m.2.1=2
   ·rw [if_pos hk, B8 kS h]
    by_cases hx:m.2.2.1=x
    ·subst hx
     rw [if_pos (jX kS),List.filter_cons_of_pos (by simp [hk])]
     simp
    ·rw [if_neg (fun h=>hx (bS h).symm),List.filter_cons_of_neg (by simp [hx])]
   ·rw [if_neg hk,List.filter_cons_of_neg (by simp [hk])]
  ·rw [List.foldl_cons, h3]
   unfold jE kids
   by_cases hk:m.2.1=2
   ·rw [if_pos hk, qo kS h]
    by_cases hx:m.2.2.1=x
    ·subst hx
     rw [jX kS,List.filter_cons_of_pos (by simp [hk])]
     simp
    ·have:eB .str x m.2.2.1=false:=by
      cases hd:eB .str x m.2.2.1 with
      |false=>rfl
      |true=>exact absurd (bS hd).symm hx
     rw [this,List.filter_cons_of_neg (by simp [hx]),Bool.false_or]
   ·rw [if_neg hk,List.filter_cons_of_neg (by simp [hk])]
theorem LQ (c:List Mg):iY .str (cO c):=(Ag .nil).1
theorem xF (c:List Mg) (x:ByteArray):ay .str [] (cO c) x=kids c x:=by
 exact ((Ag (c:=c) (t:=[]) .nil).2.1 x).trans (by simp [ay])
theorem LS (c:List Mg) (x:ByteArray):aR .str (cO c) x = !(kids c x).isEmpty:=by
 exact ((Ag (c:=c) (t:=[]) .nil).2.2 x).trans (by simp [aR])
theorem LU {c:List Mg} {e:ByteArray×List ByteArray}:e∈cO c↔e.2=kids c e.1/\kids c e.1≠[]:=by
 constructor
 ·intro h
  have h1:=gv (d:=[]) kS (LQ c) (show (e.1,e.2)∈cO c from h)
  rw [xF] at h1
  refine ⟨h1.symm,fun h2=>?_⟩
  have h3:=(dG kS).2 ⟨e.2,(show (e.1,e.2)∈cO c from h)⟩
  rw [LS,h2] at h3;cases h3
 ·rintro ⟨h1, h2⟩
  have h3:aR .str (cO c) e.1=true:=by
   rw [LS]
   cases hk:kids c e.1 with
   |nil=>exact absurd hk h2
   |cons _ _=>rfl
  obtain ⟨v,hv⟩:=(dG kS).1 h3
  have h4:=gv (d:=[]) kS (LQ c) hv
  rw [xF] at h4
  obtain ⟨a,b⟩:=e
  simp only at h1 h4 hv
  rw [h1,h4];exact hv
theorem Sx : ∀ {c : List Mg} {t : gx}, iY .str t → (∀ e ∈ t, e.2 = true) → iY .str (c.foldl jF t) ∧ (∀ e ∈ c.foldl jF t, e.2 = true) ∧ ∀ x, aR .str (c.foldl jF t) x = (aR .str t x || Hj c x)
 |[],t,h,ht=>⟨h,ht,fun x=>by simp [Hj]⟩
 |m::c,t,h,ht=>by
  obtain ⟨h1, h0, h2⟩ := Sx (c := c) (Jn h m) (by
   unfold jF;split
   ·exact R7 kS h ht
   ·exact ht)
  refine ⟨h1,h0,fun x=>?_⟩
  rw [List.foldl_cons,h2]
  unfold jF Hj
  by_cases hk:m.2.1=3
  ·rw [if_pos hk, qo kS h, List.any_cons]
   have:eB .str x m.2.2.1=decide (m.2.1=3/\m.2.2.1=x):=by
    rw [Xd];exact decide_eq_decide.2 ⟨fun e=>⟨hk,e.symm⟩,fun e=>e.2.symm⟩
   rw [this,Bool.or_comm (decide _) (aR .str t x),Bool.or_assoc]
  ·rw [if_neg hk, List.any_cons]
   simp [hk]
theorem Xg (c:List Mg) (x:ByteArray):ay .str false (eV c) x=Hj c x:=by
 have h:=Sx (c:=c) (t:=[]) .nil (fun e h=>by cases h)
 rw [show eV c=c.foldl jF [] from rfl,R8 kS h.1 h.2.1,h.2.2]
 simp [aR]
theorem pV (c:List Mg) (x:ByteArray):(kids c x).length<=c.length:=by
 unfold kids;rw [List.length_map];exact List.length_filter_le ..
theorem aiG {c:List Mg} {m1:List (Mg×Bool)} (h:SI c) (hl:c.length<1000000):iter (fun x=>ai (gH28_1 x)) (c.length,((c.length:Nat):Int),(0:Int),c.map (·.1),m1,c.map (fun m=>(m.1,m)),[],[],[],()) =
  some (m1,c.map (fun m=>(m.1,m)),cO c,eV c,[],()):=by
 have A8:(c.map (·.1)).length=c.length:=List.length_map ..
 refine aZ c (fun k (s : Jl × gx) => (c.length, ((c.length : Nat) : Int), (k : Int), c.map (·.1), m1, c.map (fun m => (m.1, m)), s.1, s.2, [], ())) (fun s r => (m1, c.map (fun m => (m.1, m)), r.foldl jE s.1, r.foldl jF s.2, [], ()))
  (fun pre s=>s.1=pre.foldl jE []) ?_ ?_ (s:=([],[])) rfl
 ·rintro pre x post ⟨t, r⟩ hx ht
  simp only at ht
  have hlen:c.length=pre.length+(post.length+1):=by rw [hx];simp
  have hd:(c.map (·.1)).getD pre.length (bs [])=x.1:=by rw [hx,List.map_append,List.map_cons];exact bg (by simp)
  have hg:ay .str zM (c.map fun m=>(m.1,m)) x.1=x:=gv kS h.cam (List.mem_map.2 ⟨x,by rw [hx];simp,rfl⟩)
  have i1:eA (pre.length:Int) ((c.length:Nat):Int)=true:=bH (by omega) (by omega)
  have r1:dV .i64 ((pre.length:Int)+1)=true:=aK (by omega) (by omega)
  have d1:decide (pre.length<(c.map (·.1)).length)=true:=decide_eq_true (by omega)
  left
  refine ⟨(jE t x,jF r x),?_,by simp only;rw [ht,List.foldl_append];rfl,rfl⟩
  simp only [gH28_1,aq,aY,aN,aO,aa,Int.toNat_natCast,Nat.zero_add,hd,hg,i1,r1,d1,ax,aQ,bE]
  rw [if_pos (by omega)]
  unfold jE jF
  by_cases h3:x.2.1=3
  ·rw [if_pos h3,if_pos h3,if_neg (by omega)];rfl
  ·rw [if_neg h3, if_neg h3]
   by_cases h2:x.2.1=2
   ·rw [if_pos h2, if_pos h2]
    have hlt:(ay .str [] t x.2.2.1).length<=c.length:=by
     have:=(Ag (c:=pre) (t:=[]) .nil).2.1 x.2.2.1
     rw [<-ht] at this
     rw [this]
     have:=pV pre x.2.2.1
     simp only [ay,List.nil_append];omega
    rw [aI (show _<cn by rw [qm];omega)]
    rfl
   ·rw [if_neg h2,if_neg h2];rfl
 ·rintro ⟨t, r⟩ _
  simp only [gH28_1,aq,aa,aQ]
  rw [if_neg (by omega)]
  rfl
end Go.Proofs.Tryz
end
section
namespace Go.Proofs.Tryz
open Go.AM
set_option maxRecDepth 100000
theorem Xh {A B : Type} {F : (A → Option B) → A → Option B} (R : A → B → Prop) (m : A → Nat)
  (h:∀rec x y,R x y->(∀x' y',R x' y'->m x'<m x->rec x'=some y')->F rec x=some y):∀x y,R x y->wN F x=some y:=by
 have key:∀n x y,R x y->m x<n->Ir F n x=some y:=by
  intro n
  induction n with
  |zero=>intro x y _ hm;omega
  |succ n ih=>intro x y hx hm;exact h _ x y hx fun x' y' hx' hm'=>ih x' y' hx' (by omega)
 intro x y hx
 exact Dd (N:=m x+1) fun n hn=>key n x y hx (by omega)
structure pW (S:gx):Prop where
 c:iY .str S
 t:∀e∈S,e.2=true
theorem pW.nil:pW []:=⟨.nil,fun e h=>by cases h⟩
theorem pW.put {S:gx} (h:pW S) (x:ByteArray):pW (bp .str S x true):=⟨h.c.iG kS,R7 kS h.c h.t⟩
abbrev has (S:gx) (x:ByteArray):Bool:=aR .str S x
def Sub (S S':gx):Prop:=∀x,has S x=true->has S' x=true
theorem Sub.rfl {S:gx}:Sub S S:=fun _ h=>h
theorem Sub.trans {S S' C9:gx} (h:Sub S S') (h':Sub S' C9):Sub S C9:=fun x hx=>h' x (h x hx)
theorem qt {S:gx} (h:pW S) {x y:ByteArray}:has (bp .str S x true) y=true↔y=x\/has S y=true:=by
 unfold has
 rw [qo kS h.c,Bool.or_eq_true,xC kS]
theorem Sub.put {S:gx} (h:pW S) (x:ByteArray):Sub S (bp .str S x true):=fun y hy=>(qt h).2 (.inr hy)
theorem pW.ext {S S':gx} (h:pW S) (h':pW S') (hx:∀x,has S x=true↔has S' x=true):S=S' :=
 R9 kS h.c h'.c h.t h'.t fun x=>by rw [Bool.eq_iff_iff];exact hx x
section
variable {c:List Mg}
inductive lM (c : List Mg) : ByteArray → ByteArray → Prop
 |refl (x):lM c x x
 |step {x y z} (h:lM c x y) (hz:z∈kids c y):lM c x z
theorem lM.trans {x y z:ByteArray} (h:lM c x y) (h':lM c y z):lM c x z:=by
 induction h' with
 |refl=>exact h
 |step _ hz ih=>exact .step ih hz
theorem lM.cons {x y z:ByteArray} (hy:y∈kids c x) (h:lM c y z):lM c x z:=(lM.step (.refl x) hy).trans h
def ids (c:List Mg):List ByteArray:=c.map (·.1)
theorem nu {x z:ByteArray} (h:z∈kids c x):z∈ids c:=by
 unfold kids at h
 obtain ⟨m,hm,rfl⟩:=List.mem_map.1 h
 exact List.mem_map.2 ⟨m,(List.mem_filter.1 hm).1,rfl⟩
def ED (c:List Mg) (S:gx):Nat:=((ids c).filter fun x => !has S x).length
theorem Sy (S:gx):ED c S<=c.length:=by
 unfold ED ids;exact Nat.le_trans (List.length_filter_le ..) (by simp)
theorem ou {α : Type} {p q : α → Bool} : ∀ {l : List α}, (∀ x ∈ l, p x = true → q x = true) → (l.filter p).length ≤ (l.filter q).length
 |[],_=>by simp
 |a::l,h=>by
  have ih:=ou (l:=l) fun x hx=>h x (List.mem_cons_of_mem _ hx)
  by_cases hp:p a=true
  ·rw [List.filter_cons_of_pos hp, List.filter_cons_of_pos (h a (List.mem_cons_self ..) hp)]
   simp only [List.length_cons];omega
  ·rw [List.filter_cons_of_neg hp]
   by_cases hq:q a=true
   ·rw [List.filter_cons_of_pos hq];simp only [List.length_cons];omega
   ·rw [List.filter_cons_of_neg hq];exact ih
theorem tZ {α : Type} {p q : α → Bool} : ∀ {l : List α}, (∀ x ∈ l, p x = true → q x = true) → ∀ {y : α}, y ∈ l → q y = true → p y = false → (l.filter p).length < (l.filter q).length
 |[],_,y,h,_,_=>by cases h
 |a::l,h,y,hy,hq,hp=>by
  have hl:∀x∈l,p x=true->q x=true:=fun x hx=>h x (List.mem_cons_of_mem _ hx)
  rcases List.mem_cons.1 hy with rfl|hy
  ·rw [List.filter_cons_of_neg (by rw [hp]; simp), List.filter_cons_of_pos hq]
   have:=ou hl
   simp only [List.length_cons];omega
  ·have ih := tZ hl hy hq hp
   by_cases hpa:p a=true
   ·rw [List.filter_cons_of_pos hpa, List.filter_cons_of_pos (h a (List.mem_cons_self ..) hpa)]
    simp only [List.length_cons];omega
   ·rw [List.filter_cons_of_neg hpa]
    by_cases hqa:q a=true
    ·rw [List.filter_cons_of_pos hqa];simp only [List.length_cons];omega
    ·rw [List.filter_cons_of_neg hqa];exact ih
theorem Ah {S S':gx} (h:Sub S S'):ED c S'<=ED c S:=ou fun x _ hx=>by
 cases hs:has S x with
 |false=>rfl
 |true=>rw [h x hs] at hx;cases hx
theorem Jo {S:gx} (h:pW S) {x:ByteArray} (hx:x∈ids c) (hn:has S x=false):ED c (bp .str S x true)<ED c S:=by
 refine tZ (fun y _ hy=>?_) hx (by rw [hn];rfl) (by rw [(qt h).2 (.inl rfl)];rfl)
 cases hs:has S y with
 |false=>rfl
 |true=>rw [(qt h).2 (.inr hs)] at hy;cases hy
def dh (c : List Mg) : Nat → ByteArray → gx → gx
 |0,_,S=>S
 |n+1,x,S=>if has S x=true then S else (kids c x).foldl (fun S k=>dh c n k S) (bp .str S x true)
theorem iZ : ∀ {n : Nat} {x : ByteArray} {S : gx}, pW S → pW (dh c n x S) ∧ Sub S (dh c n x S)
 |0,_,_,h=>⟨h,.rfl⟩
 |n+1,x,S,h=>by
  unfold dh
  split
  ·exact ⟨h,.rfl⟩
  ·have key:∀(l:List ByteArray) (S:gx),pW S->pW (l.foldl (fun S k=>dh c n k S) S)/\Sub S (l.foldl (fun S k=>dh c n k S) S):=by
    intro l
    induction l with
    |nil=>intro S h;exact ⟨h,.rfl⟩
    |cons k l ih =>
     intro S h
     obtain ⟨h1,h2⟩:=iZ (n:=n) (x:=k) h
     obtain ⟨h3,h4⟩:=ih _ h1
     exact ⟨h3,h2.trans h4⟩
   obtain ⟨h1,h2⟩:=key (kids c x) _ (h.put x)
   exact ⟨h1,(Sub.put h x).trans h2⟩
theorem ua {n : Nat} : ∀ {l : List ByteArray} {S : gx}, pW S → pW (l.foldl (fun S k => dh c n k S) S) ∧ Sub S (l.foldl (fun S k => dh c n k S) S)
 |[],_,h=>⟨h,.rfl⟩
 |k::l,S,h=>by
  obtain ⟨h1,h2⟩:=iZ (c:=c) (n:=n) (x:=k) h
  obtain ⟨h3,h4⟩:=ua (l:=l) h1
  exact ⟨h3,h2.trans h4⟩
theorem wB : ∀ {n n' : Nat} {x : ByteArray} {S : gx}, pW S → x ∈ ids c → ED c S < n → ED c S < n' → dh c n x S = dh c n' x S
 |0,_,_,_,_,_,h,_=>by omega
 |_+1,0,_,_,_,_,_,h=>by omega
 |n+1,n'+1,x,S,hS,hx,h,h'=>by
  unfold dh
  split
  ·rfl
  ·rename_i hn
   have hn:has S x=false:=by simpa using hn
   have hlt:=Jo hS hx hn
   have key:∀(l:List ByteArray) (S1:gx),(∀k∈l,k∈ids c)->pW S1->ED c S1<n->ED c S1<n'->l.foldl (fun S k=>dh c n k S) S1=l.foldl (fun S k=>dh c n' k S) S1:=by
    intro l
    induction l with
    |nil=>intro _ _ _ _ _;rfl
    |cons k l ih =>
     intro S1 hk h1 h2 h3
     simp only [List.foldl_cons]
     rw [wB (n:=n) (n':=n') h1 (hk k (List.mem_cons_self ..)) h2 h3]
     obtain ⟨h4,h5⟩:=iZ (c:=c) (n:=n') (x:=k) h1
     have:=Ah (c:=c) h5
     exact ih _ (fun k hk'=>hk k (List.mem_cons_of_mem _ hk')) h4 (by omega) (by omega)
   exact key _ _ (fun k hk=>nu hk) (hS.put x) (by omega) (by omega)
theorem Hl {n:Nat} {x:ByteArray} {S:gx} (h:pW S) (hn:ED c S<n):has (dh c n x S) x=true:=by
 cases n with
 |zero=>omega
 |succ n =>
  unfold dh
  split
  ·assumption
  ·exact (ua (h.put x)).2 x ((qt h).2 (.inl rfl))
theorem Cg : ∀ {n : Nat} {x : ByteArray} {S : gx}, pW S → ∀ y, has (dh c n x S) y = true → has S y = true ∨ lM c x y
 |0,_,_,_,y,hy=>.inl hy
 |n+1,x,S,h,y,hy=>by
  unfold dh at hy
  split at hy
  ·exact .inl hy
  ·have key:∀(l:List ByteArray) (S1:gx),(∀k∈l,k∈kids c x)->pW S1->has (l.foldl (fun S k=>dh c n k S) S1) y=true->has S1 y=true\/lM c x y:=by
    intro l
    induction l with
    |nil=>intro S1 _ _ h;exact .inl h
    |cons k l ih =>
     intro S1 hk h1 h2
     simp only [List.foldl_cons] at h2
     rcases ih _ (fun k hk'=>hk k (List.mem_cons_of_mem _ hk')) (iZ h1).1 h2 with h3|h3
     ·rcases Cg h1 y h3 with h4 | h4
      ·exact .inl h4
      ·exact .inr (.cons (hk k (List.mem_cons_self ..)) h4)
     ·exact .inr h3
   rcases key _ _ (fun k hk=>hk) (h.put x) hy with h1|h1
   ·rcases (qt h).1 h1 with rfl | h2
    ·exact .inr (.refl _)
    ·exact .inl h2
   ·exact .inr h1
theorem Ch : ∀ {n : Nat} {x : ByteArray} {S : gx}, pW S → x ∈ ids c → ED c S < n → ∀ y, has (dh c n x S) y = true → has S y = false → ∀ z ∈ kids c y, has (dh c n x S) z = true
 |0,_,_,_,_,h,_,_,_=>by omega
 |n+1,x,S,hS,hx,hlt,y,hy,hyn=>by
  intro z hz
  unfold dh at hy ⊢
  split at hy
  ·rw [hyn] at hy;cases hy
  ·rename_i hn
   rw [if_neg hn]
   have hn:has S x=false:=by simpa using hn
   have hl:=Jo hS hx hn
   have key:∀(l:List ByteArray) (S1:gx),(∀k∈l,k∈kids c x)->pW S1->ED c S1<n->(∀k∈l,has (l.foldl (fun S k=>dh c n k S) S1) k=true) /\
     (has (l.foldl (fun S k=>dh c n k S) S1) y=true->has S1 y=false->has (l.foldl (fun S k=>dh c n k S) S1) z=true):=by
    intro l
    induction l with
    |nil=>intro S1 _ _ _;exact ⟨(fun k hk=>by cases hk),(fun h h'=>by rw [List.foldl_nil,h'] at h;cases h)⟩
    |cons k l ih =>
     intro S1 hk h1 h2
     simp only [List.foldl_cons]
     obtain ⟨h3,h4⟩:=iZ (c:=c) (n:=n) (x:=k) h1
     have h5:=Ah (c:=c) h4
     obtain ⟨h6,h7⟩:=ih _ (fun k hk'=>hk k (List.mem_cons_of_mem _ hk')) h3 (by omega)
     have h8:=(ua (c:=c) (n:=n) (l:=l) h3).2
     refine ⟨fun k' hk'=>?_,fun h9 XM=>?_⟩
     ·rcases List.mem_cons.1 hk' with rfl | hk'
      ·exact h8 _ (Hl h1 (by omega))
      ·exact h6 k' hk'
     ·cases h11:has (dh c n k S1) y with
      |false=>exact h7 h9 h11
      |true=>exact h8 _ (Ch h1 (nu (hk k (List.mem_cons_self ..))) h2 y h11 XM z hz)
   obtain ⟨h1,h2⟩:=key _ _ (fun k hk=>hk) (hS.put x) (by omega)
   by_cases he:y=x
   ·subst he;exact h1 z hz
   ·refine h2 hy ?_
    cases h3:has (bp .str S x true) y with
    |false=>rfl
    |true =>
     rcases (qt hS).1 h3 with h4|h4
     ·exact absurd h4 he
     ·rw [hyn] at h4;cases h4
def Zd (c:List Mg) (S:gx):Prop:=∀y,has S y=true->∀z∈kids c y,has S z=true
theorem Zd.desc {S:gx} (h:Zd c S) {x y:ByteArray} (hx:has S x=true) (hd:lM c x y):has S y=true:=by
 induction hd with
 |refl=>exact hx
 |step _ hz ih=>exact h _ ih _ hz
theorem Sz {n:Nat} {x:ByteArray} {S:gx} (hS:pW S) (hC:Zd c S) (hx:x∈ids c) (hn:ED c S<n):Zd c (dh c n x S)/\∀y,has (dh c n x S) y=true↔has S y=true\/lM c x y:=by
 have hc:Zd c (dh c n x S):=fun y hy z hz=>by
  cases h:has S y with
  |true=>exact (iZ hS).2 z (hC y h z hz)
  |false=>exact Ch hS hx hn y hy h z hz
 refine ⟨hc,fun y=>⟨Cg hS y,?_⟩⟩
 rintro (h|h)
 ·exact (iZ hS).2 y h
 ·exact hc.desc (Hl hS hn) h
theorem kH96 {m3:Eg} {m5:gx} {x:ByteArray} {S:gx} (hc:c.length<1000000) (hS:pW S) (hx:x∈ids c):ai (FH51fix x m3 (cO c) m5 S)=some (m3,cO c,m5,dh c (c.length+1) x S,()):=by
 have h0:ai (FH51fix x m3 (cO c) m5 S)=wN (A:=k8.T) (B:=k9.T) (fun r y=>run r (FH51 y.1 y.2.1 y.2.2.1 y.2.2.2.1 y.2.2.2.2.1)) (x,m3,cO c,m5,S,()):=rfl
 refine h0.trans ?_
 refine Xh (A:=k8.T) (B:=k9.T) (fun a b=>∃x S,a=(x,m3,cO c,m5,S,())/\pW S/\x∈ids c/\b=(m3,cO c,m5,dh c (c.length+1) x S,())) (fun a=>ED c a.2.2.2.2.1) ?_ _ _ ⟨x,S,rfl,hS,hx,rfl⟩
 rintro rec _ _ ⟨x,S,rfl,hS,hx,rfl⟩ ih
 have e:(run rec (FH51 x m3 (cO c) m5 S):Option (Eg×Jl×gx×gx×Unit))=rM (ay .str false S x) (some (m3,cO c,m5,S,())) (dF (iter (fun a=>run rec (gH51_0 a)) (ay .str [] (cO c) x,(((ay .str [] (cO c) x).length:Nat):Int),(0:Int),m3,cO c,m5,bp .str S x true,())) fun z=>some (z.1,z.2.1,z.2.2.1,z.2.2.2.1,())):=rfl
 refine Eq.trans (α:=Option (Eg×Jl×gx×gx×Unit)) e ?_
 rw [R8 kS hS.c hS.t,xF]
 by_cases hh:has S x=true
 ·rw [Qh hh]
  have:dh c (c.length+1) x S=S:=by unfold dh;rw [if_pos hh]
  rw [this];rfl
 ·rw [It (by simpa using hh)]
  have hn:has S x=false:=by simpa using hh
  have hlt:=Jo hS hx hn
  have hle:=Sy (c:=c) S
  have HB:=pV c x
  have he:dh c (c.length+1) x S=(kids c x).foldl (fun S k=>dh c (c.length+1) k S) (bp .str S x true):=by
   have:dh c (c.length+1) x S=dh c (c.length+2) x S:=wB hS hx (by omega) (by omega)
   rw [this]
   conv=>lhs;unfold dh
   rw [if_neg hh]
  rw [he]
  refine bind_eq (aZ (kids c x) (fun k (S:gx)=>(kids c x,(((kids c x).length:Nat):Int),(k:Int),m3,cO c,m5,S,())) (fun S r=>(m3,cO c,m5,r.foldl (fun S k=>dh c (c.length+1) k S) S,())) (fun _ S1=>pW S1/\ED c S1<ED c S) ?_ ?_ (s:=bp .str S x true) ⟨hS.put x,hlt⟩) rfl
  ·rintro pre k post S1 hk ⟨h1, h2⟩
   have hlen:(kids c x).length=pre.length+(post.length+1):=by rw [hk];simp
   have hd:(kids c x).getD pre.length (bs [])=k:=by rw [hk];exact bg rfl
   have i1:eA (pre.length:Int) (((kids c x).length:Nat):Int)=true:=bH (by omega) (by omega)
   have r1:dV .i64 ((pre.length:Int)+1)=true:=aK (by omega) (by omega)
   have hki:k∈ids c:=nu (x:=x) (by rw [hk];simp)
   obtain ⟨h3,h4⟩:=iZ (c:=c) (n:=c.length+1) (x:=k) h1
   have h5:=Ah (c:=c) h4
   left
   refine ⟨dh c (c.length+1) k S1,?_,⟨h3,by omega⟩,rfl⟩
   simp only [gH51_0,aq,aY,aO,aa,az,aar,Int.toNat_natCast,hd,i1,r1,ax,aQ]
   rw [if_pos (by omega)]
   have hq:(run rec (Tr.rc (k,m3,cO c,m5,S1,())):Option (Eg×Jl×gx×gx×Unit))=some (m3,cO c,m5,dh c (c.length+1) k S1,()):=ih (k,m3,cO c,m5,S1,()) _ ⟨k,S1,rfl,h1,hki,rfl⟩ h2
   exact bind_eq (A:=Eg×Jl×gx×gx×Unit) hq rfl
  ·rintro S1 _
   simp only [gH51_0,aq,aa,aQ]
   rw [if_neg (by omega)]
   rfl
end
end Go.Proofs.Tryz
end
section
namespace Go.Proofs.Tryz
open Go.AM
set_option maxRecDepth 100000
def thrB (c:List Mg) (x:ByteArray):Bool:=aR .str (c.map fun m=>(m.1,m)) x && !((ay .str zM (c.map fun m=>(m.1,m)) x).2.1==3)
def dir (c:List Mg) (e:ByteArray×List ByteArray):List ByteArray:=if thrB c e.1=true then (match e.2.filter (Hj c) with|[o]=>e.2.filter (fun k => !decide (k=o))|_=>[]) else []
def pX (c:List Mg) (S:gx) (e:ByteArray×List ByteArray):gx:=(dir c e).foldl (fun S k=>dh c (c.length+1) k S) S
def gy (c:List Mg):gx:=(cO c).foldl (pX c) []
abbrev dL (c:List Mg):Eg:=c.map fun m=>(m.1,m)
section
variable {c:List Mg}
theorem Xi {e:ByteArray×List ByteArray} {y:ByteArray} (h:y∈dir c e):y∈e.2:=by
 unfold dir at h
 split at h
 ·split at h
  ·exact (List.mem_filter.1 h).1
  ·cases h
 ·cases h
structure oE (c:List Mg) (l:List (ByteArray×List ByteArray)) (S:gx):Prop where
 ok:pW S
 clo:Zd c S
 iff:∀x,has S x=true↔∃e∈l,∃y∈dir c e,lM c y x
theorem aiI {l:List ByteArray}:∀{S:gx},pW S->Zd c S->(∀k∈l,k∈ids c)->pW (l.foldl (fun S k=>dh c (c.length+1) k S) S)/\Zd c (l.foldl (fun S k=>dh c (c.length+1) k S) S) /\
  ∀x,has (l.foldl (fun S k=>dh c (c.length+1) k S) S) x=true↔has S x=true\/∃y∈l,lM c y x:=by
 induction l with
 |nil=>intro S h1 h2 _;exact ⟨h1,h2,fun x=>by simp⟩
 |cons k l ih =>
  intro S h1 h2 h3
  have hn:ED c S<c.length+1:=by have:=Sy (c:=c) S;omega
  have hk:=h3 k (List.mem_cons_self ..)
  obtain ⟨h4,h5⟩:=Sz h1 h2 hk hn
  obtain ⟨h6,h7,h8⟩:=ih (iZ h1).1 h4 fun k hk=>h3 k (List.mem_cons_of_mem _ hk)
  refine ⟨h6,h7,fun x=>?_⟩
  rw [List.foldl_cons,h8,h5]
  simp only [List.mem_cons,exists_eq_or_imp,or_assoc]
theorem oE.step {l:List (ByteArray×List ByteArray)} {S:gx} (h:oE c l S) {e:ByteArray×List ByteArray} (he:∀k∈e.2,k∈ids c):oE c (l++[e]) (pX c S e):=by
 obtain ⟨h1,h2,h3⟩:=aiI (l:=dir c e) h.ok h.clo fun k hk=>he k (Xi hk)
 refine ⟨h1,h2,fun x=>?_⟩
 unfold pX
 rw [h3,h.iff]
 constructor
 ·rintro (⟨e', he', h⟩ | h)
  ·exact ⟨e',by simp [he'],h⟩
  ·exact ⟨e,by simp,h⟩
 ·rintro ⟨e', he', h⟩
  rcases List.mem_append.1 he' with he'|he'
  ·exact .inl ⟨e',he',h⟩
  ·rw [List.mem_singleton] at he';subst he';exact .inr h
theorem oE.all : ∀ {r l : List (ByteArray × List ByteArray)} {S : gx}, oE c l S → (∀ e ∈ r, ∀ k ∈ e.2, k ∈ ids c) → oE c (l ++ r) (r.foldl (pX c) S)
 |[],l,S,h,_=>by simpa using h
 |e::r,l,S,h,hr=>by
  have:=oE.all (h.step (hr e (List.mem_cons_self ..))) fun e he=>hr e (List.mem_cons_of_mem _ he)
  simpa using this
theorem oE.nil:oE c [] []:=⟨.nil,fun y hy=>by simp [has,aR] at hy,fun x=>by simp [has,aR]⟩
theorem LV:∀e∈cO c,∀k∈e.2,k∈ids c:=fun e he k hk=>by
 rw [(LU.1 he).1] at hk;exact nu hk
theorem Ai {l:List (ByteArray×List ByteArray)} (hp:l.Perm (cO c)):oE c l (l.foldl (pX c) []):=by
 have:=oE.all (c:=c) (r:=l) (l:=[]) .nil fun e he=>LV e (hp.mem_iff.1 he)
 simpa using this
theorem Ei (c:List Mg):oE c (cO c) (gy c):=Ai (.refl _)
theorem adf {l:List (ByteArray×List ByteArray)} (hp:l.Perm (cO c)):l.foldl (pX c) []=gy c :=
 (Ai hp).ok.ext (Ei c).ok fun x=>by
  rw [(Ai hp).iff,(Ei c).iff]
  exact ⟨fun ⟨e,he,h⟩=>⟨e,hp.mem_iff.1 he,h⟩,fun ⟨e,he,h⟩=>⟨e,hp.mem_iff.2 he,h⟩⟩
def stkB (c:List Mg) (x:ByteArray):Bool:=has (gy c) x
theorem Xj (x:ByteArray):ay .str false (gy c) x=stkB c x:=R8 kS (Ei c).ok.c (Ei c).ok.t
theorem adg {m1:List (Mg×Bool)} {m6:Eg} {Gi:Int} {Gj:Bool} {l S4:List ByteArray} {o:ByteArray} {m:Mg} {S:gx} (hc:c.length<1000000) (hl:l.length<=c.length) (SV:∀k∈l,k∈ids c) (hb:S4.getD 0 (bs [])=o) (qz:0<S4.length) (hS:pW S) :
  iter (fun x=>ai (gH28_2b_3 x)) (0,1,Gi,Gj,l,((l.length:Nat):Int),(0:Int),S4,cO c,m.1,m.2.1,m.2.2.1,m.2.2.2.1,m.2.2.2.2,m6,eV c,S,m1,()) =
   some (Gi,Gj,cO c,m.1,m.2.1,m.2.2.1,m.2.2.2.1,m.2.2.2.2,m6,eV c,(l.filter fun k => !decide (k=o)).foldl (fun S k=>dh c (c.length+1) k S) S,m1,()):=by
 refine aZ l (fun k (S : gx) => (0, 1, Gi, Gj, l, ((l.length : Nat) : Int), (k : Int), S4, cO c, m.1, m.2.1, m.2.2.1, m.2.2.2.1, m.2.2.2.2, m6, eV c, S, m1, ()))
  (fun S r=>(Gi,Gj,cO c,m.1,m.2.1,m.2.2.1,m.2.2.2.1,m.2.2.2.2,m6,eV c,(r.filter fun k => !decide (k=o)).foldl (fun S k=>dh c (c.length+1) k S) S,m1,())) (fun _ S=>pW S) ?_ ?_ (s:=S) hS
 ·intro pre x post S hx hS
  have hlen:l.length=pre.length+(post.length+1):=by rw [hx];simp
  have hd:l.getD pre.length (bs [])=x:=by rw [hx];exact bg rfl
  have i1:eA (pre.length:Int) ((l.length:Nat):Int)=true:=bH (by omega) (by omega)
  have i2:eA (0:Int) ((1:Nat):Int)=true:=bH (by omega) (by omega)
  have r1:dV .i64 ((pre.length:Int)+1)=true:=aK (by omega) (by omega)
  have d1:decide (0<S4.length)=true:=decide_eq_true qz
  left
  by_cases Om:x=o
  ·refine ⟨S, ?_, hS, by rw [List.filter_cons_of_neg (by simp [Om])]⟩
   simp only [gH28_2b_3,aq,aY,aN,aO,aa,az,Int.toNat_natCast,Int.toNat_zero,Nat.zero_add,Nat.add_zero,hd,hb,i1,i2,r1,d1,ax,aQ,seq_eq,Om]
   rw [if_pos (by omega),It (by simp)]
   rfl
  ·refine ⟨dh c (c.length + 1) x S, ?_, (iZ hS).1, by rw [List.filter_cons_of_pos (by simp [Om])]; rfl⟩
   simp only [gH28_2b_3,aq,aY,aN,aO,aa,az,Int.toNat_natCast,Int.toNat_zero,Nat.zero_add,Nat.add_zero,hd,hb,i1,i2,r1,d1,ax,aQ,seq_eq]
   rw [if_pos (by omega),Qh (by simp [Om])]
   rw [aA (kH96 hc hS (SV x (by rw [hx];simp)))]
   rfl
 ·intro S _
  simp only [gH28_2b_3,aq,aa,aQ]
  rw [if_neg (by omega)]
  rfl
theorem aiK {m1:List (Mg×Bool)} {e:ByteArray×List ByteArray} {S:gx} (hc:c.length<1000000) (he:e∈cO c) (hS:pW S):ai (gH28_2 e (cO c,m1,dL c,eV c,S,()))=some (cO c,m1,dL c,eV c,pX c S e,()):=by
 have SS:=(LU.1 he).1
 have hl:e.2.length<=c.length:=by rw [SS];exact pV c e.1
 simp only [gH28_2,aq,aN,aa,az,bD,fG,ax,bU]
 unfold pX dir thrB
 cases hh:aR .str (dL c) e.1 with
 |false=>rw [gO];simp
 |true =>
  rw [sU]
  by_cases h3:(ay .str zM (dL c) e.1).2.1=3
  ·rw [bE, if_pos h3, if_neg (by simp [h3])]
   rfl
  ·rw [bE, if_neg h3, if_pos (by simp [h3])]
   rw [aA (kH98 (by omega))]
   obtain ⟨b,iL,gh,Et⟩:=kH97 (m3:=dL c) (m4:=cO c) (m5:=eV c) (m6:=S) (l:=e.2) (by omega)
   rw [aA Et]
   have hf:(e.2.filter fun v => !(!ay .str false (eV c) v))=e.2.filter (Hj c):=List.filter_congr fun v _=>by rw [Xg];simp
   rw [hf] at gh ⊢
   simp only [fG,ax,bE]
   by_cases h1:(e.2.filter (Hj c)).length=1
   ·rw [if_pos (by omega)]
    obtain ⟨o,ho⟩:=List.length_eq_one_iff.1 h1
    rw [ho] at gh h1 ⊢
    simp only [List.length_singleton] at gh ⊢
    have qz:0<b.length:=by
     cases b with
     |nil=>simp at gh
     |cons _ _=>simp
    have hbo:b.getD 0 (bs [])=o:=by
     cases b with
     |nil=>simp at gh
     |cons x r=>simp at gh;simp [gh]
    rw [aA (adg (m:=ay .str zM (dL c) e.1) (o:=o) hc hl (LV e he) hbo qz hS)]
    simp only [fG,ax]
   ·rw [if_neg (by omega)]
    have:(match e.2.filter (Hj c) with|[o]=>e.2.filter (fun k => !decide (k=o))|_=>[])=([]:List ByteArray):=by
     split
     ·rename_i o ho;rw [ho] at h1;simp at h1
     ·rfl
    rw [this]
    rfl
theorem kH66 {L:List Mg} (h:pT L):ai (FH28 (bk L))=some (bk L,dL (cnt L),cO (cnt L),eV (cnt L),gy (cnt L),()):=by
 have hl:=h.len
 have mN:(cnt L).length<=60:=by
  have:(cnt L).length<=L.length:=by
   have hn:(cnt L).Nodup:=List.Pairwise.imp (fun {a b} h e=>by subst e;rw [show slt a.1 a.1=false from iX (t:=.str) kS a.1] at h;cases h) (ot L)
   exact List.Nodup.length_le_of_subset hn fun m hm=>Eh hm
  omega
 have hby:rj L=dL (cnt L):=Hi L
 unfold FH28
 simp only [az,bD,aN]
 rw [aA (kH47 h.s (by omega))]
 simp only
 rw [aA (aiF (by omega))]
 simp only [FH50,aa,aH]
 rw [hby,aA (ade (ot L) (by omega))]
 simp only [List.isEmpty_nil,ax]
 rw [aA (aiG (ot L) (by omega))]
 simp only
 have hmq:run (fun _=>none) (.mq gH28_2 (cO (cnt L)) (cO (cnt L),bk L,dL (cnt L),eV (cnt L),[],()))=some (cO (cnt L),bk L,dL (cnt L),eV (cnt L),gy (cnt L),()):=by
  refine Eq.trans Iw (ko fun l hp=>?_)
  have := (Hf (step := fun e a => run (fun _ => none) (gH28_2 e a)) (fun (a : Jl × List (Mg × Bool) × Eg × gx × gx × Unit) e => (cO (cnt L), bk L, dL (cnt L), eV (cnt L), pX (cnt L) a.2.2.2.2.1 e, ())) (fun a => ∃ S, a = (cO (cnt L), bk L, dL (cnt L), eV (cnt L), S, ()) ∧ pW S) l (cO (cnt L), bk L, dL (cnt L), eV (cnt L), [], ()) ⟨[], rfl, .nil⟩ (by
   rintro e he _ ⟨S,rfl,hS⟩
   refine ⟨aiK (by omega) (hp.mem_iff.1 he) hS,_,rfl,?_⟩
   exact (ua hS).1)).1
  rw [this]
  have key:∀(l:List (ByteArray×List ByteArray)) (S:gx),l.foldl (fun (a:Jl×List (Mg×Bool)×Eg×gx×gx×Unit) e=>(cO (cnt L),bk L,dL (cnt L),eV (cnt L),pX (cnt L) a.2.2.2.2.1 e,())) (cO (cnt L),bk L,dL (cnt L),eV (cnt L),S,())=(cO (cnt L),bk L,dL (cnt L),eV (cnt L),l.foldl (pX (cnt L)) S,()):=by
   intro l
   induction l with
   |nil=>intro S;rfl
   |cons e l ih=>intro S;exact ih _
  rw [key,adf hp]
 rw [aA hmq]
end
end Go.Proofs.Tryz
end
section
namespace Go.Proofs.Tryz
open Go.AM
set_option maxRecDepth 100000
theorem Xk {A B : Type} {F : (A → Option B) → A → Option B} (R : Nat → A → B → Prop)
  (h:∀rec n x y,R n x y->(∀n' x' y',n'<n->R n' x' y'->rec x'=some y')->F rec x=some y):∀n x y,R n x y->wN F x=some y:=by
 have key:∀k n x y,R n x y->n<k->Ir F k x=some y:=by
  intro k
  induction k with
  |zero=>intro n x y _ hm;omega
  |succ k ih=>intro n x y hx hm;exact h _ n x y hx fun n' x' y' hn' hx'=>ih n' x' y' hx' (by omega)
 intro n x y hx
 exact Dd (N:=n+1) fun k hk=>key k n x y hx (by omega)
section
variable {c:List Mg}
theorem uc {x y:ByteArray}:y∈kids c x↔∃m∈c,m.1=y/\m.2.1=2/\m.2.2.1=x:=by
 unfold kids
 rw [List.mem_map]
 constructor
 ·rintro ⟨m, hm, rfl⟩
  obtain ⟨h1,h2⟩:=List.mem_filter.1 hm
  simp only [decide_eq_true_eq] at h2
  exact ⟨m,h1,rfl,h2⟩
 ·rintro ⟨m, hm, rfl, h⟩
  exact ⟨m,List.mem_filter.2 ⟨hm,by simpa using h⟩,rfl⟩
theorem Xl (hs:SI c) {x x' y:ByteArray} (h:y∈kids c x) (h':y∈kids c x'):x=x':=by
 obtain ⟨m,h1,h2,_,h3⟩:=uc.1 h
 obtain ⟨m',h1',h2',_,h3'⟩:=uc.1 h'
 have:=hs.inj h1 h1' (h2.trans h2'.symm)
 subst this
 exact h3.symm.trans h3'
inductive vz (c : List Mg) (x : ByteArray) : Nat → ByteArray → Prop
 |zero:vz c x 0 x
 |step {n y z} (h:vz c x n y) (hz:z∈kids c y):vz c x (n+1) z
theorem vz.add {n m:Nat} {x y z:ByteArray} (h:vz c x n y) (h':vz c y m z):vz c x (n+m) z:=by
 induction h' with
 |zero=>exact h
 |step _ hz ih=>exact .step ih hz
theorem vz.up (hs:SI c) {n:Nat} {x y:ByteArray} (h:vz c x n y):∀{m:Nat} {x':ByteArray},vz c x' m y->n<=m->vz c x' (m - n) x:=by
 induction h with
 |zero=>intro m x' h' _;exact h'
 |step h hz ih =>
  intro m x' h' hle
  cases h' with
  |zero=>omega
  |step h2 oG =>
   have e:=Xl hs hz oG
   subst e
   have:=ih h2 (by omega)
   rwa [Nat.add_sub_add_right]
theorem vz.desc {n:Nat} {x y:ByteArray} (h:vz c x n y):lM c x y:=by
 induction h with
 |zero=>exact .refl _
 |step _ hz ih=>exact .step ih hz
theorem lM.pth {x y:ByteArray} (h:lM c x y):∃n,vz c x n y:=by
 induction h with
 |refl=>exact ⟨0,.zero⟩
 |step _ hz ih=>obtain ⟨n,h⟩:=ih;exact ⟨n+1,.step h hz⟩
def Top (c:List Mg) (t:ByteArray):Prop:=∀x,t∉kids c x
theorem vz.deep (hs:SI c) {t:ByteArray} (ht:Top c t) {n m:Nat} {y:ByteArray} (h:vz c t n y) (h':vz c t m y):n=m:=by
 have key:∀{n m:Nat},vz c t n y->vz c t m y->n<=m->n=m:=fun {n m} h h' hle=>by
  have:=h.up hs h' hle
  generalize hk:m - n=k at this
  cases this with
  |zero=>omega
  |step _ hz=>exact absurd hz (ht _)
 rcases Nat.le_total n m with hle|hle
 ·exact key h h' hle
 ·exact (key h' h hle).symm
theorem vz.short (hs:SI c) {t:ByteArray} (ht:Top c t) (Ew:t∈ids c) {n:Nat} {y:ByteArray} (h:vz c t n y):n<c.length:=by
 have key:∃l:List ByteArray,l.length=n+1/\l.Nodup/\∀a∈l,a∈ids c/\∃i,i<=n/\vz c t i a:=by
  induction h with
  |zero=>exact ⟨[t],rfl,by simp,fun a ha=>by rw [List.mem_singleton] at ha;subst ha;exact ⟨Ew,0,Nat.le_refl _,.zero⟩⟩
  |step h hz ih =>
   rename_i n' y' z
   obtain ⟨l,h1,h2,h3⟩:=ih
   have hp:vz c t (n'+1) z:=.step h hz
   refine ⟨z::l,by simp [h1],List.nodup_cons.2 ⟨fun hzl=>?_,h2⟩,fun a ha=>?_⟩
   ·obtain ⟨_, i, hi, hpi⟩ := h3 z hzl
    have:=hpi.deep hs ht hp
    omega
   ·rcases List.mem_cons.1 ha with rfl | ha
    ·exact ⟨nu hz,n'+1,Nat.le_refl _,hp⟩
    ·obtain ⟨q1, i, hi, hpi⟩ := h3 a ha
     exact ⟨q1,i,by omega,hpi⟩
 obtain ⟨l,h1,h2,h3⟩:=key
 have:=List.Nodup.length_le_of_subset h2 (fun a ha=>(h3 a ha).1)
 have hl:(ids c).length=c.length:=by simp [ids]
 omega
def lG (c:List Mg) (x:ByteArray):List ByteArray:=(kids c x).filter fun k => !stkB c k
theorem xG {x y:ByteArray} (h:y∈lG c x):y∈kids c x:=(List.mem_filter.1 h).1
theorem Xm (x:ByteArray):(lG c x).length<=c.length:=Nat.le_trans (List.length_filter_le ..) (pV c x)
def c8 (c : List Mg) : Nat → ByteArray → List ByteArray
 |0,_=>[]
 |n+1,x=>match lG c x with
  |[]=>[x]
  |k::l=>o8 .str ((k::l).flatMap (c8 c n))
def rq (c:List Mg) (t:ByteArray):List ByteArray:=c8 c (c.length+1) t
theorem Xn (hs:SI c) (x:ByteArray):(kids c x).Nodup:=by
 unfold kids List.Nodup
 rw [List.pairwise_map]
 refine List.Pairwise.imp (fun {a b} h e=>?_) (List.Pairwise.filter _ hs)
 rw [e,show slt b.1 b.1=false from iX (t:=.str) kS b.1] at h;cases h
theorem nw : ∀ {n : Nat} {x y : ByteArray}, y ∈ c8 c n x → lM c x y
 |0,_,_,h=>by cases h
 |n+1,x,y,h=>by
  unfold c8 at h
  split at h
  ·rw [List.mem_singleton] at h;subst h;exact .refl _
  ·rename_i k l hl
   rw [(fJ (t:=.str) _).mem_iff,List.mem_flatMap] at h
   obtain ⟨a,ha,h⟩:=h
   exact .cons (xG (by rw [hl];exact ha)) (nw h)
theorem LW (hs : SI c) {t : ByteArray} (ht : Top c t) : ∀ {n d : Nat} {x : ByteArray}, vz c t d x → (c8 c n x).Nodup
 |0,_,_,_=>.nil
 |n+1,d,x,hp=>by
  unfold c8
  split
  ·simp
  ·rename_i k l hl
   refine (fJ (t:=.str) _).nodup_iff.2 ?_
   have hn:(k::l).Nodup:=by rw [<-hl];exact List.Pairwise.filter _ (Xn hs x)
   have hk:∀a∈k::l,a∈kids c x:=fun a ha=>xG (by rw [hl];exact ha)
   refine List.pairwise_flatMap.2 ⟨fun a ha=>LW hs ht (hp.step (hk a ha)),List.Pairwise.imp_of_mem (fun {a b} ha hb hab=>?_) hn⟩
   intro y hya y' hyb e
   subst e
   obtain ⟨i,hi⟩:=(nw hya).pth
   obtain ⟨j,hj⟩:=(nw hyb).pth
   have h1:=(hp.step (hk a ha)).add hi
   have h2:=(hp.step (hk b hb)).add hj
   have:=h1.deep hs ht h2
   have he:i=j:=by omega
   subst he
   have:=hi.up hs hj (Nat.le_refl _)
   rw [Nat.sub_self] at this
   cases this
   exact hab rfl
theorem Aj (hs:SI c) {t:ByteArray} (ht:Top c t) (Ew:t∈ids c) {n d:Nat} {x:ByteArray} (hp:vz c t d x):(c8 c n x).length<=c.length:=by
 have h:=List.Nodup.length_le_of_subset (LW hs ht (n:=n) hp) (l₂:=ids c) fun y hy=>by
  have hd:lM c t y:=hp.desc.trans (nw hy)
  cases hd with
  |refl=>exact Ew
  |step _ hz=>exact nu hz
 have hl:(ids c).length=c.length:=by simp [ids]
 omega
end
end Go.Proofs.Tryz
end
section
namespace Go.Proofs.Tryz
open Go.AM
set_option maxRecDepth 100000
section
variable {c:List Mg}
theorem aiM (hc:c.length<1000000) (x:ByteArray):∃b,b.take (lG c x).length=lG c x/\(lG c x).length<=b.length/\ai (FH100 x (dL c) (cO c) (eV c) (gy c))=some (0,(lG c x).length,b,dL c,cO c,eV c,gy c,()):=by
 have hk:=pV c x
 obtain ⟨b,h1,h2,h3⟩:=Xe (m3:=dL c) (m4:=cO c) (m5:=eV c) (m6:=gy c) (l:=kids c x) (by omega)
 have hf:(kids c x).filter (fun v => !(ay .str false (gy c) v))=lG c x:=List.filter_congr fun v _=>by rw [Xj]
 rw [hf] at h2 h3
 refine ⟨b,h2,by rw [h1];exact List.length_filter_le ..,?_⟩
 unfold FH100
 simp only [az,xF]
 rw [aA (kH98 (by omega))]
 simp only
 rw [aA h3]
 rfl
abbrev D76:=Nat×List ByteArray×Eg×Jl×gx×gx×Unit
theorem kH76 (hs:SI c) (hc:c.length<1000000) {t:ByteArray} (ht:Top c t) (Ew:t∈ids c):ai (FH84fix t (dL c) (cO c) (eV c) (gy c))=some ((rq c t).length,rq c t,dL c,cO c,eV c,gy c,()):=by
 have h0:ai (FH84fix t (dL c) (cO c) (eV c) (gy c))=wN (A:=lg.T) (B:=lp.T) (fun r y=>run r (FH84 y.1 y.2.1 y.2.2.1 y.2.2.2.1 y.2.2.2.2.1)) (t,dL c,cO c,eV c,gy c,()):=rfl
 refine h0.trans ?_
 refine Xk (A:=lg.T) (B:=lp.T) (fun n a b=>∃z d,a=(z,dL c,cO c,eV c,gy c,())/\vz c t d z/\d+n=c.length/\b=((c8 c (n+1) z).length,c8 c (n+1) z,dL c,cO c,eV c,gy c,())) ?_ c.length _ _ ⟨t,0,rfl,.zero,by omega,rfl⟩
 rintro rec n _ _ ⟨z,d,rfl,hp,hn,rfl⟩ ih
 have hshort:=hp.short hs ht Ew
 obtain ⟨b,iL,gh,Et⟩:=aiM hc z
 have A8:=Xm (c:=c) z
 have hvl:=Aj hs ht Ew (n:=n+1) hp
 have e : (run rec (FH84 z (dL c) (cO c) (eV c) (gy c)) : Option D76) = dF (ai (FH100 z (dL c) (cO c) (eV c) (gy c))) fun y0 => rM (((y0.2.1 : Nat) : Int) == 0) (some (1, [z], y0.2.2.2.1, y0.2.2.2.2.1, y0.2.2.2.2.2.1, y0.2.2.2.2.2.2.1, ()))
   (dF (iter (fun a=>run rec (gH84_0 a)) (0,y0.1,y0.2.1,((y0.2.1:Nat):Int),(0:Int),[],y0.2.2.1,y0.2.2.2.1,y0.2.2.2.2.1,y0.2.2.2.2.2.1,y0.2.2.2.2.2.2.1,())) fun z2=>dF (ai (FH80 z2.1 z2.2.1)) fun y3=>some (z2.1,y3.1,z2.2.2.1,z2.2.2.2.1,z2.2.2.2.2.1,z2.2.2.2.2.2.1,())):=rfl
 refine Eq.trans (α:=Option D76) e ?_
 rw [aA Et]
 simp only [bE]
 cases hl:lG c z with
 |nil =>
  have hv:c8 c (n+1) z=[z]:=by unfold c8;rw [hl]
  rw [hv];rfl
 |cons k0 l0 =>
  have hlen:(lG c z).length=l0.length+1:=by rw [hl];rfl
  rw [<-hl,if_neg (by omega)]
  have hv:c8 c (n+1) z=o8 .str ((lG c z).flatMap (c8 c n)):=by
   conv=>lhs;unfold c8
   rw [hl]
  have hfl:((lG c z).flatMap (c8 c n)).length<=c.length:=by
   have:=(fJ (t:=.str) ((lG c z).flatMap (c8 c n))).length_eq
   rw [<-hv] at this
   omega
  have hit : iter (fun a => run rec (gH84_0 a)) (0, 0, (lG c z).length, (((lG c z).length : Nat) : Int), (0 : Int), [], b, dL c, cO c, eV c, gy c, ()) = some (((lG c z).flatMap (c8 c n)).length, (lG c z).flatMap (c8 c n), dL c, cO c, eV c, gy c, ()) := (aZ (lG c z) (fun k (o : List ByteArray) => (o.length, 0, (lG c z).length, (((lG c z).length : Nat) : Int), (k : Int), o, b, dL c, cO c, eV c, gy c, ())) (fun o r => ((o ++ r.flatMap (c8 c n)).length, o ++ r.flatMap (c8 c n), dL c, cO c, eV c, gy c, ()))
   (fun pre o => o = pre.flatMap (c8 c n)) (by
    rintro pre k post _ hx rfl
    have hlen:(lG c z).length=pre.length+(post.length+1):=by rw [hx];simp
    have hd:b.getD pre.length (bs [])=k:=by
     have:(b.take (lG c z).length).getD pre.length (bs [])=k:=by rw [iL,hx];exact bg rfl
     rw [getD_take (by omega)] at this;exact this
    have hkk:k∈kids c z:=xG (by rw [hx];simp)
    have i1:eA (pre.length:Int) (((lG c z).length:Nat):Int)=true:=bH (by omega) (by omega)
    have r1:dV .i64 ((pre.length:Int)+1)=true:=aK (by omega) (by omega)
    have d1:decide (pre.length<b.length)=true:=decide_eq_true (by omega)
    have hp':=hp.step hkk
    have hsh:=hp'.short hs ht Ew
    left
    refine ⟨pre.flatMap (c8 c n)++c8 c n k,?_,by simp,by simp [List.flatMap_cons]⟩
    have e2 : (run rec (gH84_0 ((pre.flatMap (c8 c n)).length, 0, (lG c z).length, (((lG c z).length : Nat) : Int), (pre.length : Int), pre.flatMap (c8 c n), b, dL c, cO c, eV c, gy c, ()))) = rM (decide ((pre.length : Int) < (((lG c z).length : Nat) : Int))) (need (eA (pre.length : Int) (((lG c z).length : Nat) : Int)) (need (decide (0 + Int.toNat (pre.length : Int) < b.length))
      (dF (rec (b.getD (0 + Int.toNat (pre.length : Int)) (bs []), dL c, cO c, eV c, gy c, ()) : Option D76) fun y1 => need (decide ((pre.flatMap (c8 c n)).length + ((y1.2.1.drop 0).take y1.1).length < cn)) (need (dV .i64 ((pre.length : Int) + 1))
       (some (.inl ((pre.flatMap (c8 c n)).length+((y1.2.1.drop 0).take y1.1).length,0,(lG c z).length,(((lG c z).length:Nat):Int),(pre.length:Int)+1,(((pre.flatMap (c8 c n)).drop 0).take (pre.flatMap (c8 c n)).length)++((y1.2.1.drop 0).take y1.1),b,y1.2.2.1,y1.2.2.2.1,y1.2.2.2.2.1,y1.2.2.2.2.2.1,())))))))
      (some (.inr ((pre.flatMap (c8 c n)).length,pre.flatMap (c8 c n),dL c,cO c,eV c,gy c,()))):=rfl
    rw [e2,Int.toNat_natCast,Nat.zero_add,hd,i1,ax,d1,ax,aQ,if_pos (by omega)]
    obtain ⟨n',rfl⟩:∃n',n=n'+1:=⟨n - 1,by omega⟩
    have hq:(rec (k,dL c,cO c,eV c,gy c,()):Option D76)=some ((c8 c (n'+1) k).length,c8 c (n'+1) k,dL c,cO c,eV c,gy c,()):=ih n' (k,dL c,cO c,eV c,gy c,()) _ (by omega) ⟨k,d+1,rfl,hp',by omega,rfl⟩
    refine bind_eq (A:=D76) hq ?_
    simp only [List.drop_zero,List.take_length,r1,ax]
    have hle:(pre.flatMap (c8 c (n'+1))).length+(c8 c (n'+1) k).length<=c.length:=by
     have:((lG c z).flatMap (c8 c (n'+1))).length=(pre.flatMap (c8 c (n'+1))).length+((c8 c (n'+1) k).length+(post.flatMap (c8 c (n'+1))).length):=by rw [hx];simp
     omega
    rw [aI (show _<cn by rw [qm];omega)]
    simp only [List.length_append]
    rfl) (by
    rintro o _
    have e2 : (run rec (gH84_0 (o.length, 0, (lG c z).length, (((lG c z).length : Nat) : Int), (((lG c z).length : Nat) : Int), o, b, dL c, cO c, eV c, gy c, ()))) = rM (decide ((((lG c z).length : Nat) : Int) < (((lG c z).length : Nat) : Int))) (need (eA (((lG c z).length : Nat) : Int) (((lG c z).length : Nat) : Int)) (need (decide (0 + Int.toNat (((lG c z).length : Nat) : Int) < b.length))
      (dF (rec (b.getD (0 + Int.toNat (((lG c z).length : Nat) : Int)) (bs []), dL c, cO c, eV c, gy c, ()) : Option D76) fun y1 => need (decide (o.length + ((y1.2.1.drop 0).take y1.1).length < cn)) (need (dV .i64 ((((lG c z).length : Nat) : Int) + 1))
       (some (.inl (o.length+((y1.2.1.drop 0).take y1.1).length,0,(lG c z).length,(((lG c z).length:Nat):Int),(((lG c z).length:Nat):Int)+1,((o.drop 0).take o.length)++((y1.2.1.drop 0).take y1.1),b,y1.2.2.1,y1.2.2.2.1,y1.2.2.2.2.1,y1.2.2.2.2.2.1,())))))))
      (some (.inr (o.length,o,dL c,cO c,eV c,gy c,()))):=rfl
    rw [e2,aQ,if_neg (by omega)]
    simp) (s:=[]) rfl)
  refine bind_eq (A:=Nat×List ByteArray×Eg×Jl×gx×gx×Unit) hit ?_
  simp only [FH80,Df]
  have hsrt:wO .str ((lG c z).flatMap (c8 c n)) ((lG c z).flatMap (c8 c n)).length=some (o8 .str ((lG c z).flatMap (c8 c n)),()):=tX kS (fJ _) (uZ kS _) (by omega)
  refine bind_eq hsrt ?_
  rw [hv]
  have hpl:=(fJ (t:=.str) ((lG c z).flatMap (c8 c n))).length_eq
  rw [hpl]
  rfl
end
end Go.Proofs.Tryz
end
section
namespace Go.Proofs.Tryz
open Go.AM
set_option maxRecDepth 100000
def msg (c:List Mg) (x:ByteArray):Mg:=ay .str zM (dL c) x
def Jp (c:List Mg) (x:ByteArray):Bool:=aR .str (dL c) x
section
variable {c:List Mg}
theorem gE {x:ByteArray}:Jp c x=true↔x∈ids c:=by
 unfold Jp ids
 rw [dG kS]
 constructor
 ·rintro ⟨v, hv⟩
  obtain ⟨m,hm,h⟩:=List.mem_map.1 hv
  exact List.mem_map.2 ⟨m,hm,congrArg Prod.fst h⟩
 ·intro h
  obtain ⟨m,hm,rfl⟩:=List.mem_map.1 h
  exact ⟨m,List.mem_map.2 ⟨m,hm,rfl⟩⟩
theorem jG (hs:SI c) {m:Mg} (hm:m∈c):msg c m.1=m:=gv kS hs.cam (List.mem_map.2 ⟨m,hm,rfl⟩)
theorem Xo (hs:SI c) {x:ByteArray} (h:Jp c x=true):msg c x∈c/\(msg c x).1=x:=by
 obtain ⟨m,hm,rfl⟩:=List.mem_map.1 (gE.1 h)
 rw [jG hs hm];exact ⟨hm,rfl⟩
theorem Ak (hs:SI c) {x:ByteArray} (h:Jp c x=true) (hk:(msg c x).2.1=1):Top c x:=by
 intro y hy
 obtain ⟨m,hm,h1,h2,_⟩:=uc.1 hy
 subst h1
 rw [jG hs hm] at hk
 omega
theorem Ej {L:List Mg} (h:pT L):(cnt L).length<=60:=by
 have hn:(cnt L).Nodup:=List.Pairwise.imp (fun {a b} h e=>by subst e;rw [show slt a.1 a.1=false from iX (t:=.str) kS a.1] at h;cases h) (ot L)
 have:=List.Nodup.length_le_of_subset hn (fun m hm=>Eh hm)
 have:=h.len
 omega
end
end Go.Proofs.Tryz
end
section
namespace Go.Proofs.Tryz
open Go.AM
set_option maxRecDepth 100000
abbrev Zs:=List (Int×Unit)
abbrev kI:bG (.int .i64)=some [.i]:=rfl
def ny (l:Zs) (n:Int) (nx:Zs):Zs:=l.foldl (fun nx e=>bp (.int .i64) nx (e.1+n) ()) nx
def CZ (z:Zs):Prop:=iY (.int .i64) z
def wW (Z:Zs) (z:Int):Prop:=(z,())∈Z
theorem CZ.put {Z:Zs} (h:CZ Z) (z:Int):CZ (bp (.int .i64) Z z ()):=iY.iG kI h
theorem LX {Z:Zs} (h:CZ Z) {z y:Int}:wW (bp (.int .i64) Z z ()) y↔y=z\/wW Z y:=by
 unfold wW
 rw [gw kI h]
 constructor
 ·rintro (e | ⟨h, _⟩)
  ·cases e;exact .inl rfl
  ·exact .inr h
 ·by_cases e : y = z
  ·subst e;exact fun _=>.inl rfl
  ·rintro (e' | h)
   ·exact absurd e' e
   ·exact .inr ⟨h,e⟩
theorem mb {n : Int} : ∀ {l nx : Zs}, CZ nx → CZ (ny l n nx) ∧ ∀ z, wW (ny l n nx) z ↔ wW nx z ∨ ∃ x, wW l x ∧ z = x + n
 |[],nx,h=>⟨h,fun z=>by simp [ny,wW]⟩
 |e::l,nx,h=>by
  obtain ⟨h1,h2⟩:=mb (n:=n) (l:=l) (h.put (e.1+n))
  refine ⟨h1,fun z=>?_⟩
  have h3:ny (e::l) n nx=ny l n (bp (.int .i64) nx (e.1+n) ()):=rfl
  rw [h3,h2,LX h]
  constructor
  ·rintro ((h | h) | ⟨x, hx, h⟩)
   ·exact .inr ⟨e.1,List.mem_cons_self ..,h⟩
   ·exact .inl h
   ·exact .inr ⟨x,List.mem_cons_of_mem _ hx,h⟩
  ·rintro (h | ⟨x, hx, h⟩)
   ·exact .inl (.inr h)
   ·rcases List.mem_cons.1 hx with e' | hx
    ·exact .inl (.inl (by rw [h,<-e']))
    ·exact .inr ⟨x,hx,h⟩
theorem CZ.ext {Z Z':Zs} (h:CZ Z) (h':CZ Z') (hz:∀z,wW Z z↔wW Z' z):Z=Z':=LB kI h h' fun e=>hz e.1
theorem Ci {l l' nx:Zs} {n:Int} (h:CZ nx) (hp:l.Perm l'):ny l n nx=ny l' n nx :=
 (mb h).1.ext (mb h).1 fun z=>by
  rw [(mb h).2,(mb h).2]
  exact or_congr_right ⟨fun ⟨x,hx,e⟩=>⟨x,hp.mem_iff.1 hx,e⟩,fun ⟨x,hx,e⟩=>⟨x,hp.mem_iff.2 hx,e⟩⟩
def oF (f:ByteArray->Int) (can:Zs) (vs:List ByteArray):Zs:=vs.foldl (fun nx v=>ny can (f v) nx) []
theorem Ho {f : ByteArray → Int} {can : Zs} : ∀ {vs : List ByteArray} {nx : Zs}, CZ nx → CZ (vs.foldl (fun nx v => ny can (f v) nx) nx) ∧ ∀ z, wW (vs.foldl (fun nx v => ny can (f v) nx) nx) z ↔ wW nx z ∨ ∃ v ∈ vs, ∃ x, wW can x ∧ z = x + f v
 |[],nx,h=>⟨h,fun z=>by simp⟩
 |v::vs,nx,h=>by
  obtain ⟨h1,h2⟩:=mb (n:=f v) (l:=can) h
  obtain ⟨h3,h4⟩:=Ho (f:=f) (can:=can) (vs:=vs) h1
  refine ⟨h3,fun z=>?_⟩
  rw [List.foldl_cons,h4,h2]
  simp only [List.mem_cons,exists_eq_or_imp,or_assoc]
theorem gz {f:ByteArray->Int} {can:Zs} {vs:List ByteArray}:CZ (oF f can vs)/\∀z,wW (oF f can vs) z↔∃v∈vs,∃x,wW can x/\z=x+f v:=by
 obtain ⟨h1,h2⟩:=Ho (f:=f) (can:=can) (vs:=vs) (nx:=[]) .nil
 exact ⟨h1,fun z=>(h2 z).trans (by simp [wW])⟩
def Al (c:List Mg):List ByteArray:=(c.filter fun m=>decide (m.2.1=1)).map (·.1)
def mF (c:List Mg) (f:ByteArray->Int) (ts:List ByteArray) (can:Zs):Zs:=ts.foldl (fun can t=>oF f can (rq c t)) can
def eU:Zs:=bp (.int .i64) [] 0 ()
def gX (c:List Mg) (f:ByteArray->Int):List Int:=(mF c f (Al c) eU).map (·.1)
theorem cS:CZ eU/\∀z,wW eU z↔z=0:=⟨CZ.put .nil 0,fun z=>(LX .nil).trans (by simp [wW])⟩
theorem ud {c : List Mg} {f : ByteArray → Int} : ∀ {ts : List ByteArray} {can : Zs}, CZ can → CZ (mF c f ts can)
 |[],_,h=>h
 |t::ts,can,_=>ud (ts:=ts) gz.1
def BZ (B:Int) (Z:Zs):Prop:=∀z,wW Z z -> -B<=z/\z<=B
theorem ue {f:ByteArray->Int} {can:Zs} {vs:List ByteArray} {B:Int} (h:BZ B can) (hf:∀v∈vs,-1000<=f v/\f v<=1000):BZ (B+1000) (oF f can vs):=fun z hz=>by
 obtain ⟨v,hv,x,hx,rfl⟩:=(gz.2 z).1 hz
 have:=h x hx;have:=hf v hv;omega
section
variable {c:List Mg}
theorem Xp (hs:SI c) {t v:ByteArray} (ht:Jp c t=true) (hk:(msg c t).2.1=1) (hv:v∈rq c t):Jp c v=true/\((msg c v).2.1=1\/(msg c v).2.1=2):=by
 have hd:=nw hv
 cases hd with
 |refl=>exact ⟨ht,.inl hk⟩
 |step _ hz =>
  obtain ⟨m,hm,h1,h2,_⟩:=uc.1 hz
  subst h1
  exact ⟨gE.2 (List.mem_map.2 ⟨m,hm,rfl⟩),.inr (by rw [jG hs hm];exact h2)⟩
theorem Xq {m:Mg} (h:um m=0) (hk:m.2.1=1\/m.2.1=2) : -1000<=m.2.2.2.2/\m.2.2.2.2<=1000:=by
 unfold um at h
 split at h
 ·cases h
 split at h
 ·unfold He at h
  have h3:qZ m=0:=by
   by_cases h1:wA m=0
   ·by_cases h2 : qZ m = 0
    ·exact h2
    ·simp [h1,h2] at h
   ·simp [h1] at h
  unfold qZ at h3
  rw [if_neg (by omega)] at h3
  split at h3
  ·split at h3
   ·assumption
   ·cases h3
  ·cases h3
 ·cases h
def fA (c:List Mg) (a v:ByteArray):Int:=if (msg c v).2.2.2.1=a then (msg c v).2.2.2.2 else 0
def fT (c:List Mg) (v:ByteArray):Int:=(msg c v).2.2.2.2
def Ze (c:List Mg) (f:ByteArray->Int):Prop:=∀t v,Jp c t=true->(msg c t).2.1=1->v∈rq c t -> -1000<=f v/\f v<=1000
theorem bndT (hs:SI c) (hc:∀m∈c,um m=0):Ze c (fT c):=fun t v h1 h2 h3=>by
 obtain ⟨h4,h5⟩:=Xp hs h1 h2 h3
 exact Xq (hc _ (Xo hs h4).1) h5
theorem bndA (hs:SI c) (hc:∀m∈c,um m=0) (a:ByteArray):Ze c (fA c a):=fun t v h1 h2 h3=>by
 have:=bndT hs hc t v h1 h2 h3
 unfold fA;unfold fT at this
 split<;>omega
theorem k68 (m:Mg) (a:ByteArray):ai (F30 m a)=some (if m.2.2.2.1=a then m.2.2.2.2 else 0,()):=by
 simp only [F30,aq,aa,bU,seq_eq,aQ]
 split<;>rfl
theorem k78 (m:Mg):ai (F32 m)=some (m.2.2.2.2,()):=rfl
theorem LY (z:Int) (m:Zs):ai (FH55 z m)=some (bp (.int .i64) m z (),()):=rfl
theorem Zf {Z:Zs} (h:CZ Z) (hl:Z.length<1000000000):ai (FH58 Z)=some (Z.length,Z.map (·.1),Z,()):=by
 unfold FH58
 refine Eq.trans Iu (ko fun l hp=>?_)
 have A8:l.length=Z.length:=hp.length_eq
 simp only [az,Iv]
 refine bind_eq (Ab (m:=Z) (l:=l) (by rw [A8];exact hl) fun e n b hn=>?_) ?_
 ·simp only [gH58f86f102_0i_0, aN, aa, fG, ax]
  rw [aI (show _<cn by rw [qm];simp;omega)]
  rfl
 ·simp only [FH87, Df]
  have hpk:(Z.map (·.1)).Perm (l.map (·.1)):=(hp.map (·.1)).symm
  have:=tX kI hpk (iY.keys kI h) (by rw [List.length_map];omega)
  rw [List.length_map] at this
  rw [aA this,A8]
  rfl
theorem Jq {Z:Zs} {B:Nat} (h:CZ Z) (hb:BZ (B:Int) Z):Z.length<=2 * B+1:=by
 have hn:(Z.map (·.1)).Nodup:=by
  unfold List.Nodup
  rw [List.pairwise_map]
  exact List.Pairwise.imp (fun {a b} h e=>by rw [e,iX kI] at h;cases h) h
 have h2:((Z.map (·.1)).map fun z:Int=>(z+(B:Int)).toNat).Nodup:=by
  unfold List.Nodup
  rw [List.pairwise_map]
  refine List.Pairwise.imp_of_mem (fun {a b} ha hb' hab e=>hab ?_) hn
  obtain ⟨p,hp,rfl⟩:=List.mem_map.1 ha
  obtain ⟨q,hq,rfl⟩:=List.mem_map.1 hb'
  have h3:=hb p.1 hp
  have h4:=hb q.1 hq
  omega
 have:=List.Nodup.length_le_of_subset h2 (l₂:=List.range (2 * B+1)) fun z hz=>by
  obtain ⟨y,hy,rfl⟩:=List.mem_map.1 hz
  obtain ⟨p,hp,rfl⟩:=List.mem_map.1 hy
  have h3:=hb p.1 hp
  rw [List.mem_range];omega
 simpa using this
theorem kA67 {a:ByteArray} {nv:Nat} {w1 w2 n:Int} {uk oy:List ByteArray} {can nx:Zs} (hx:CZ nx) (hb:BZ 1000000 can) (hn : -1000<=n/\n<=1000):ai (gH29_0b_2 (nv,w1,w2,n,uk,dL c,cO c,eV c,gy c,a,oy,can,nx,()))=some (nv,w1,w2,uk,dL c,cO c,eV c,gy c,a,oy,can,ny can n nx,()):=by
 unfold gH29_0b_2
 simp only [az]
 refine bind_eq (Eq.trans Iw (ko (b:=(nv,w1,w2,can,dL c,cO c,eV c,gy c,a,n,uk,oy,ny can n nx,())) fun l hp=>?_)) rfl
 have key:∀(l:Zs) (nx:Zs),(∀e∈l,e∈can)->Bu (fun e a=>run (fun _=>none) (gH29_0b_2i_0 e a)) l (nv,w1,w2,can,dL c,cO c,eV c,gy c,a,n,uk,oy,nx,())=some (nv,w1,w2,can,dL c,cO c,eV c,gy c,a,n,uk,oy,ny l n nx,()):=by
  intro l
  induction l with
  |nil=>intro nx _;rfl
  |cons e l ih =>
   intro nx hm
   have hz:=hb e.1 (hm e (List.mem_cons_self ..))
   have hs:run (fun _=>none) (gH29_0b_2i_0 e (nv,w1,w2,can,dL c,cO c,eV c,gy c,a,n,uk,oy,nx,()))=some (nv,w1,w2,can,dL c,cO c,eV c,gy c,a,n,uk,oy,bp (.int .i64) nx (e.1+n) (),()):=by
    simp only [gH29_0b_2i_0,aO,az,aN,aa,LY,aH,fG,ax]
    rw [cD (aK (by omega) (by omega))]
   simp only [Bu,hs]
   exact ih _ fun e he=>hm e (List.mem_cons_of_mem _ he)
 rw [key l nx fun e he=>hp.mem_iff.1 he,Ci hx hp]
theorem kB67 {a:ByteArray} {oy:List ByteArray} {can:Zs} {vs:List ByteArray} (hvl:vs.length<1000000) (hb:BZ 1000000 can) (hf:∀v∈vs,-1000<=fA c a v/\fA c a v<=1000) :
  iter (fun x=>ai (gH29_0b_1 x)) (vs.length,((vs.length:Nat):Int),(0:Int),vs,dL c,cO c,eV c,gy c,a,oy,can,[],())=some (dL c,cO c,eV c,gy c,a,oy,vs,can,oF (fA c a) can vs,()):=by
 refine aZ vs (fun k (nx:Zs)=>(vs.length,((vs.length:Nat):Int),(k:Int),vs,dL c,cO c,eV c,gy c,a,oy,can,nx,())) (fun nx r=>(dL c,cO c,eV c,gy c,a,oy,vs,can,r.foldl (fun nx v=>ny can (fA c a v) nx) nx,())) (fun _ nx=>CZ nx) ?_ ?_ (s:=[]) .nil
 ·intro pre v post nx hx JT
  have hlen:vs.length=pre.length+(post.length+1):=by rw [hx];simp
  have hd:vs.getD pre.length (bs [])=v:=by rw [hx];exact bg rfl
  have i1:eA (pre.length:Int) ((vs.length:Nat):Int)=true:=bH (by omega) (by omega)
  have r1:dV .i64 ((pre.length:Int)+1)=true:=aK (by omega) (by omega)
  have d1:decide (pre.length<vs.length)=true:=decide_eq_true (by omega)
  left
  refine ⟨ny can (fA c a v) nx,?_,(mb JT).1,rfl⟩
  simp only [gH29_0b_1,aq,aY,aN,aO,az,aa,Int.toNat_natCast,Nat.zero_add,hd,i1,d1,ax,aQ,FH57,FH85,aH]
  rw [if_pos (by omega)]
  rw [aA (show ai (F30 ((ay .str zM (dL c) v).1,(ay .str zM (dL c) v).2.1,(ay .str zM (dL c) v).2.2.1,(ay .str zM (dL c) v).2.2.2.1,(ay .str zM (dL c) v).2.2.2.2) a)=some (fA c a v,()) from k68 _ _)]
  rw [aA (kA67 JT hb (hf v (by rw [hx];simp)))]
  simp only [r1,ax]
  rfl
 ·intro nx _
  simp only [gH29_0b_1,aq,aa,aQ]
  rw [if_neg (by omega)]
  rfl
theorem kC67 {a:ByteArray} (hs:SI c) (hl:c.length<=60) (hB:Ze c (fA c a)):iter (fun x=>ai (gH29_0i_0 x)) (c.length,((c.length:Nat):Int),(0:Int),c.map (·.1),dL c,cO c,eV c,gy c,a,eU,()) =
  some (dL c,cO c,eV c,gy c,a,mF c (fA c a) (Al c) eU,()):=by
 have A8:(c.map (·.1)).length=c.length:=List.length_map ..
 refine aZ c (fun k (can:Zs)=>(c.length,((c.length:Nat):Int),(k:Int),c.map (·.1),dL c,cO c,eV c,gy c,a,can,())) (fun can r=>(dL c,cO c,eV c,gy c,a,mF c (fA c a) ((r.filter fun m=>decide (m.2.1=1)).map (·.1)) can,())) (fun pre can=>CZ can/\BZ (1000 * (pre.length:Int)) can) ?_ ?_ (s:=eU) ⟨cS.1,fun z hz=>by rw [(cS.2 z).1 hz];simp⟩
 ·rintro pre m post can hx ⟨Xr, hbz⟩
  have hlen:c.length=pre.length+(post.length+1):=by rw [hx];simp
  have hm:m∈c:=by rw [hx];simp
  have hd:(c.map (·.1)).getD pre.length (bs [])=m.1:=by rw [hx,List.map_append,List.map_cons];exact bg (by simp)
  have hg:ay .str zM (dL c) m.1=m:=jG hs hm
  have i1:eA (pre.length:Int) ((c.length:Nat):Int)=true:=bH (by omega) (by omega)
  have r1:dV .i64 ((pre.length:Int)+1)=true:=aK (by omega) (by omega)
  have d1:decide (pre.length<(c.map (·.1)).length)=true:=decide_eq_true (by omega)
  have hpl:((pre++[m]).length:Int)=(pre.length:Int)+1:=by simp
  left
  by_cases hk:m.2.1=1
  ·have him : Jp c m.1 = true := gE.2 (List.mem_map.2 ⟨m, hm, rfl⟩)
   have hkm:(msg c m.1).2.1=1:=by rw [jG hs hm];exact hk
   have hvl:(rq c m.1).length<=c.length:=Aj hs (Ak hs him hkm) (gE.1 him) .zero
   refine ⟨oF (fA c a) can (rq c m.1),?_,⟨gz.1,?_⟩,?_⟩
   ·simp only [gH29_0i_0, aq, aY, aN, aO, az, bD, aa, Int.toNat_natCast, Nat.zero_add, hd, hg, i1, d1, ax, aQ, bE]
    rw [if_pos (by omega),if_pos hk,aA (kH76 hs (by omega) (Ak hs him hkm) (gE.1 him))]
    rw [aA (kB67 (vs:=rq c m.1) (by omega) (fun z hz=>by have:=hbz z hz;omega) (fun v hv=>hB m.1 v him hkm hv))]
    simp only [r1,ax]
    rfl
   ·have := ue (f := (fA c a)) (vs := rq c m.1) hbz fun v hv => hB m.1 v him hkm hv
    intro z hz
    have:=this z hz
    omega
   ·rw [List.filter_cons_of_pos (by simpa using hk)]
    rfl
  ·refine ⟨can, ?_, ⟨Xr, fun z hz => by have := hbz z hz; omega⟩, ?_⟩
   ·simp only [gH29_0i_0, aq, aY, aN, aO, az, bD, aa, Int.toNat_natCast, Nat.zero_add, hd, hg, i1, d1, r1, ax, aQ, bE]
    rw [if_pos (by omega),if_neg hk]
    rfl
   ·rw [List.filter_cons_of_neg (by simpa using hk)]
 ·rintro can _
  simp only [gH29_0i_0,aq,aa,aQ]
  rw [if_neg (by omega)]
  rfl
theorem kH67 {a:ByteArray} (hs:SI c) (hl:c.length<=60) (hB:Ze c (fA c a)):ai (FH29 a (dL c) (cO c) (eV c) (gy c))=some ((gX c (fA c a)).length,gX c (fA c a),dL c,cO c,eV c,gy c,a,()):=by
 have Xr:CZ (mF c (fA c a) (Al c) eU):=ud cS.1
 have hbz:BZ 1000000 (mF c (fA c a) (Al c) eU):=by
  have key:∀(ts:List ByteArray) (can:Zs) (B:Int),(∀t∈ts,Jp c t=true/\(msg c t).2.1=1)->BZ B can->BZ (B+1000 * ts.length) (mF c (fA c a) ts can):=by
   intro ts
   induction ts with
   |nil=>intro can B _ h;simpa [mF] using h
   |cons t ts ih =>
    intro can B ht h
    have h1:=ht t (List.mem_cons_self ..)
    have:=ih (oF (fA c a) can (rq c t)) (B+1000) (fun t h=>ht t (List.mem_cons_of_mem _ h)) (ue h fun v hv=>hB t v h1.1 h1.2 hv)
    intro z hz
    have:=this z hz
    simp only [List.length_cons]
    omega
  have h1:=key (Al c) eU 0 (fun t ht=>by
   obtain ⟨m,hm,rfl⟩:=List.mem_map.1 ht
   obtain ⟨h1,h2⟩:=List.mem_filter.1 hm
   exact ⟨gE.2 (List.mem_map.2 ⟨m,h1,rfl⟩),by rw [jG hs h1];simpa using h2⟩) (fun z hz=>by rw [(cS.2 z).1 hz];simp)
  have hle:(Al c).length<=c.length:=by unfold Al;rw [List.length_map];exact List.length_filter_le ..
  intro z hz
  have:=h1 z hz
  omega
 have hlen:=Jq (B:=1000000) Xr (by simpa using hbz)
 unfold FH29 gH29_0
 simp only [az,LY,aH,FH56,FH50,aa,bD]
 rw [aA (ade hs (by omega))]
 refine bind_eq (bind_eq (kC67 hs hl hB) rfl) ?_
 simp only [aH,FH57,FH85,az,aa]
 rw [aA (Zf Xr (by omega))]
 unfold gX
 rw [List.length_map]
theorem Xs {nv:Nat} {w1 w2 n:Int} {uk oy:List ByteArray} {can nx:Zs} (hx:CZ nx) (hb:BZ 1000000 can) (hn : -1000<=n/\n<=1000):ai (gH29_v1_0b_2 (nv,w1,w2,n,uk,dL c,cO c,eV c,gy c,oy,can,nx,()))=some (nv,w1,w2,uk,dL c,cO c,eV c,gy c,oy,can,ny can n nx,()):=by
 unfold gH29_v1_0b_2
 simp only [az]
 refine bind_eq (Eq.trans Iw (ko (b:=(nv,w1,w2,can,dL c,cO c,eV c,gy c,n,uk,oy,ny can n nx,())) fun l hp=>?_)) rfl
 have key:∀(l:Zs) (nx:Zs),(∀e∈l,e∈can)->Bu (fun e a=>run (fun _=>none) (gH29_v1_0b_2i_0 e a)) l (nv,w1,w2,can,dL c,cO c,eV c,gy c,n,uk,oy,nx,())=some (nv,w1,w2,can,dL c,cO c,eV c,gy c,n,uk,oy,ny l n nx,()):=by
  intro l
  induction l with
  |nil=>intro nx _;rfl
  |cons e l ih =>
   intro nx hm
   have hz:=hb e.1 (hm e (List.mem_cons_self ..))
   have hs:run (fun _=>none) (gH29_v1_0b_2i_0 e (nv,w1,w2,can,dL c,cO c,eV c,gy c,n,uk,oy,nx,()))=some (nv,w1,w2,can,dL c,cO c,eV c,gy c,n,uk,oy,bp (.int .i64) nx (e.1+n) (),()):=by
    simp only [gH29_v1_0b_2i_0,aO,az,aN,aa,LY,aH,fG,ax]
    rw [cD (aK (by omega) (by omega))]
   simp only [Bu,hs]
   exact ih _ fun e he=>hm e (List.mem_cons_of_mem _ he)
 rw [key l nx fun e he=>hp.mem_iff.1 he,Ci hx hp]
theorem Xt {oy:List ByteArray} {can:Zs} {vs:List ByteArray} (hvl:vs.length<1000000) (hb:BZ 1000000 can) (hf:∀v∈vs,-1000<=fT c v/\fT c v<=1000) :
  iter (fun x=>ai (gH29_v1_0b_1 x)) (vs.length,((vs.length:Nat):Int),(0:Int),vs,dL c,cO c,eV c,gy c,oy,can,[],())=some (dL c,cO c,eV c,gy c,oy,vs,can,oF (fT c) can vs,()):=by
 refine aZ vs (fun k (nx:Zs)=>(vs.length,((vs.length:Nat):Int),(k:Int),vs,dL c,cO c,eV c,gy c,oy,can,nx,())) (fun nx r=>(dL c,cO c,eV c,gy c,oy,vs,can,r.foldl (fun nx v=>ny can (fT c v) nx) nx,())) (fun _ nx=>CZ nx) ?_ ?_ (s:=[]) .nil
 ·intro pre v post nx hx JT
  have hlen:vs.length=pre.length+(post.length+1):=by rw [hx];simp
  have hd:vs.getD pre.length (bs [])=v:=by rw [hx];exact bg rfl
  have i1:eA (pre.length:Int) ((vs.length:Nat):Int)=true:=bH (by omega) (by omega)
  have r1:dV .i64 ((pre.length:Int)+1)=true:=aK (by omega) (by omega)
  have d1:decide (pre.length<vs.length)=true:=decide_eq_true (by omega)
  left
  refine ⟨ny can (fT c v) nx,?_,(mb JT).1,rfl⟩
  simp only [gH29_v1_0b_1,aq,aY,aN,aO,az,aa,Int.toNat_natCast,Nat.zero_add,hd,i1,d1,ax,aQ,FH57,FH85,aH]
  rw [if_pos (by omega)]
  rw [aA (show ai (F32 ((ay .str zM (dL c) v).1,(ay .str zM (dL c) v).2.1,(ay .str zM (dL c) v).2.2.1,(ay .str zM (dL c) v).2.2.2.1,(ay .str zM (dL c) v).2.2.2.2))=some (fT c v,()) from k78 _)]
  rw [aA (Xs JT hb (hf v (by rw [hx];simp)))]
  simp only [r1,ax]
  rfl
 ·intro nx _
  simp only [gH29_v1_0b_1,aq,aa,aQ]
  rw [if_neg (by omega)]
  rfl
theorem Xu (hs:SI c) (hl:c.length<=60) (hB:Ze c (fT c)):iter (fun x=>ai (gH29_v1_0i_0 x)) (c.length,((c.length:Nat):Int),(0:Int),c.map (·.1),dL c,cO c,eV c,gy c,eU,()) =
  some (dL c,cO c,eV c,gy c,mF c (fT c) (Al c) eU,()):=by
 have A8:(c.map (·.1)).length=c.length:=List.length_map ..
 refine aZ c (fun k (can:Zs)=>(c.length,((c.length:Nat):Int),(k:Int),c.map (·.1),dL c,cO c,eV c,gy c,can,())) (fun can r=>(dL c,cO c,eV c,gy c,mF c (fT c) ((r.filter fun m=>decide (m.2.1=1)).map (·.1)) can,())) (fun pre can=>CZ can/\BZ (1000 * (pre.length:Int)) can) ?_ ?_ (s:=eU) ⟨cS.1,fun z hz=>by rw [(cS.2 z).1 hz];simp⟩
 ·rintro pre m post can hx ⟨Xr, hbz⟩
  have hlen:c.length=pre.length+(post.length+1):=by rw [hx];simp
  have hm:m∈c:=by rw [hx];simp
  have hd:(c.map (·.1)).getD pre.length (bs [])=m.1:=by rw [hx,List.map_append,List.map_cons];exact bg (by simp)
  have hg:ay .str zM (dL c) m.1=m:=jG hs hm
  have i1:eA (pre.length:Int) ((c.length:Nat):Int)=true:=bH (by omega) (by omega)
  have r1:dV .i64 ((pre.length:Int)+1)=true:=aK (by omega) (by omega)
  have d1:decide (pre.length<(c.map (·.1)).length)=true:=decide_eq_true (by omega)
  have hpl:((pre++[m]).length:Int)=(pre.length:Int)+1:=by simp
  left
  by_cases hk:m.2.1=1
  ·have him : Jp c m.1 = true := gE.2 (List.mem_map.2 ⟨m, hm, rfl⟩)
   have hkm:(msg c m.1).2.1=1:=by rw [jG hs hm];exact hk
   have hvl:(rq c m.1).length<=c.length:=Aj hs (Ak hs him hkm) (gE.1 him) .zero
   refine ⟨oF (fT c) can (rq c m.1),?_,⟨gz.1,?_⟩,?_⟩
   ·simp only [gH29_v1_0i_0, aq, aY, aN, aO, az, bD, aa, Int.toNat_natCast, Nat.zero_add, hd, hg, i1, d1, ax, aQ, bE]
    rw [if_pos (by omega),if_pos hk,aA (kH76 hs (by omega) (Ak hs him hkm) (gE.1 him))]
    rw [aA (Xt (vs:=rq c m.1) (by omega) (fun z hz=>by have:=hbz z hz;omega) (fun v hv=>hB m.1 v him hkm hv))]
    simp only [r1,ax]
    rfl
   ·have := ue (f := (fT c)) (vs := rq c m.1) hbz fun v hv => hB m.1 v him hkm hv
    intro z hz
    have:=this z hz
    omega
   ·rw [List.filter_cons_of_pos (by simpa using hk)]
    rfl
  ·refine ⟨can, ?_, ⟨Xr, fun z hz => by have := hbz z hz; omega⟩, ?_⟩
   ·simp only [gH29_v1_0i_0, aq, aY, aN, aO, az, bD, aa, Int.toNat_natCast, Nat.zero_add, hd, hg, i1, d1, r1, ax, aQ, bE]
    rw [if_pos (by omega),if_neg hk]
    rfl
   ·rw [List.filter_cons_of_neg (by simpa using hk)]
 ·rintro can _
  simp only [gH29_v1_0i_0,aq,aa,aQ]
  rw [if_neg (by omega)]
  rfl
theorem Xv (hs:SI c) (hl:c.length<=60) (hB:Ze c (fT c)):ai (FH29_v1 (dL c) (cO c) (eV c) (gy c))=some ((gX c (fT c)).length,gX c (fT c),dL c,cO c,eV c,gy c,()):=by
 have Xr:CZ (mF c (fT c) (Al c) eU):=ud cS.1
 have hbz:BZ 1000000 (mF c (fT c) (Al c) eU):=by
  have key:∀(ts:List ByteArray) (can:Zs) (B:Int),(∀t∈ts,Jp c t=true/\(msg c t).2.1=1)->BZ B can->BZ (B+1000 * ts.length) (mF c (fT c) ts can):=by
   intro ts
   induction ts with
   |nil=>intro can B _ h;simpa [mF] using h
   |cons t ts ih =>
    intro can B ht h
    have h1:=ht t (List.mem_cons_self ..)
    have:=ih (oF (fT c) can (rq c t)) (B+1000) (fun t h=>ht t (List.mem_cons_of_mem _ h)) (ue h fun v hv=>hB t v h1.1 h1.2 hv)
    intro z hz
    have:=this z hz
    simp only [List.length_cons]
    omega
  have h1:=key (Al c) eU 0 (fun t ht=>by
   obtain ⟨m,hm,rfl⟩:=List.mem_map.1 ht
   obtain ⟨h1,h2⟩:=List.mem_filter.1 hm
   exact ⟨gE.2 (List.mem_map.2 ⟨m,h1,rfl⟩),by rw [jG hs h1];simpa using h2⟩) (fun z hz=>by rw [(cS.2 z).1 hz];simp)
  have hle:(Al c).length<=c.length:=by unfold Al;rw [List.length_map];exact List.length_filter_le ..
  intro z hz
  have:=h1 z hz
  omega
 have hlen:=Jq (B:=1000000) Xr (by simpa using hbz)
 unfold FH29_v1 gH29_v1_0
 simp only [az,LY,aH,FH56,FH50,aa,bD]
 rw [aA (ade hs (by omega))]
 refine bind_eq (bind_eq (Xu hs hl hB) rfl) ?_
 simp only [aH,FH57,FH85,az,aa]
 rw [aA (Zf Xr (by omega))]
 unfold gX
 rw [List.length_map]
def sg (c:List Mg) (a:ByteArray):List Int×Int:=if r9 a=true then (gX c (fA c a),0) else ([],8)
theorem Ek {L:List Mg} (h:pT L):∀m∈cnt L,um m=0:=fun m hm=>h.um m (Eh hm)
theorem adi {L:List Mg} (h:pT L) {a:ByteArray} (ha:Sh a):ai (FH8 a (bk L))=some ((sg (cnt L) a).1.length,(sg (cnt L) a).2,(sg (cnt L) a).1,bk L,()):=by
 unfold FH8
 simp only [az,Sv,aH,aq,gO,k65 a ha,bU]
 rw [tA]
 unfold sg
 split
 ·rw [aA (kH66 h)]
  simp only
  rw [aA (kH67 (ot L) (Ej h) (bndA (ot L) (Ek h) a))]
  rfl
 ·rfl
end
end Go.Proofs.Tryz
end
section
namespace Go.Proofs.Tryz
open Go.AM
set_option maxRecDepth 100000
def Hp (l:List Int):Int×Int:=(l.getD 0 0,l.getD (l.length - 1) 0)
theorem k72 {l:List Int} (h0:0<l.length) (hl:l.length<1000000000):ai (F31 l)=some (Hp l,()):=by
 unfold F31
 simp only [aY,aO,aa]
 rw [bH (by omega) (by omega),ax,cD (aK (by omega) (by omega)),bH (by omega) (by omega),ax]
 rw [show ((l.length:Int) - 1).toNat=l.length - 1 by omega]
 rfl
section
variable {c:List Mg}
theorem SA {f:ByteArray->Int} {can:Zs} {vs:List ByteArray} (hc:∃z,wW can z) (hv:vs≠[]):∃z,wW (oF f can vs) z:=by
 obtain ⟨z,hz⟩:=hc
 cases vs with
 |nil=>exact absurd rfl hv
 |cons v vs=>exact ⟨z+f v,(gz.2 _).2 ⟨v,List.mem_cons_self ..,z,hz,rfl⟩⟩
def Hq (c:List Mg) (a:ByteArray):(Int×Int)×Int:=if (sg c a).2=0 then (Hp (sg c a).1,0) else ((0,0),(sg c a).2)
def adj (c:List Mg):Int×Int:=Hp (gX c (fT c))
theorem SB (hs:SI c) {t:ByteArray} (ht:t∈Al c):Jp c t=true/\(msg c t).2.1=1:=by
 obtain ⟨m,hm,rfl⟩:=List.mem_map.1 ht
 obtain ⟨h1,h2⟩:=List.mem_filter.1 hm
 exact ⟨gE.2 (List.mem_map.2 ⟨m,h1,rfl⟩),by rw [jG hs h1];simpa using h2⟩
theorem Xw:(Al c).length<=c.length:=by unfold Al;rw [List.length_map];exact List.length_filter_le ..
theorem adk {Z:Zs} (h:∃z,wW Z z):0<Z.length:=by
 obtain ⟨z,hz⟩:=h
 exact List.length_pos_of_mem hz
theorem LZ (hs : SI c) {t : ByteArray} (ht : Top c t) (Ew : t ∈ ids c) : ∀ {n d : Nat} {x : ByteArray}, vz c t d x → d + n = c.length → c8 c (n + 1) x ≠ []
 |0,d,x,hp,hd=>by have:=hp.short hs ht Ew;omega
 |n+1,d,x,hp,hd=>by
  unfold c8
  split
  ·simp
  ·rename_i k l hl
   intro h
   have h1:=(fJ (t:=.str) ((k::l).flatMap (c8 c (n+1)))).length_eq
   rw [show o8 .str ((k::l).flatMap (c8 c (n+1)))=[] from h] at h1
   have h2:=LZ hs ht Ew (n:=n) (hp.step (xG (by rw [hl];exact List.mem_cons_self ..))) (by omega)
   have h3:0<(c8 c (n+1) k).length:=List.length_pos_iff.2 h2
   rw [List.flatMap_cons,List.length_append] at h1
   simp only [List.length_nil] at h1
   omega
theorem adl (hs:SI c) {t:ByteArray} (ht:Jp c t=true/\(msg c t).2.1=1):rq c t≠[]:=LZ hs (Ak hs ht.1 ht.2) (gE.1 ht.1) .zero (by omega)
theorem L5 (hs : SI c) {f : ByteArray → Int} : ∀ {ts : List ByteArray} {can : Zs}, (∀ t ∈ ts, Jp c t = true ∧ (msg c t).2.1 = 1) → (∃ z, wW can z) → ∃ z, wW (mF c f ts can) z
 |[],_,_,h=>h
 |t::ts,can,ht,h=>L5 hs (ts:=ts) (fun t h=>ht t (List.mem_cons_of_mem _ h)) (SA h (adl hs (ht t (List.mem_cons_self ..))))
theorem L6 (hs:SI c) {f:ByteArray->Int}:0<(gX c f).length:=by
 unfold gX
 rw [List.length_map]
 exact adk (L5 hs (fun t ht=>SB hs ht) ⟨0,(cS.2 0).2 rfl⟩)
theorem Xx (hs:SI c) (hl:c.length<=60) {f:ByteArray->Int} (hB:Ze c f):BZ 60000 (mF c f (Al c) eU):=by
 have key:∀(ts:List ByteArray) (can:Zs) (B:Int),(∀t∈ts,Jp c t=true/\(msg c t).2.1=1)->BZ B can->BZ (B+1000 * ts.length) (mF c f ts can):=by
  intro ts
  induction ts with
  |nil=>intro can B _ h;simpa [mF] using h
  |cons t ts ih =>
   intro can B ht h
   have h1:=ht t (List.mem_cons_self ..)
   have:=ih (oF f can (rq c t)) (B+1000) (fun t h=>ht t (List.mem_cons_of_mem _ h)) (ue h fun v hv=>hB t v h1.1 h1.2 hv)
   intro z hz
   have:=this z hz
   simp only [List.length_cons]
   omega
 have h1:=key (Al c) eU 0 (fun t ht=>SB hs ht) (fun z hz=>by rw [(cS.2 z).1 hz];simp)
 have hle:=Xw (c:=c)
 intro z hz
 have:=h1 z hz
 omega
theorem Hr (hs:SI c) (hl:c.length<=60) {f:ByteArray->Int} (hB:Ze c f):(gX c f).length<1000000:=by
 have:=Jq (B:=60000) (ud cS.1) (by simpa using Xx hs hl hB)
 unfold gX
 rw [List.length_map]
 omega
theorem kH37 {L:List Mg} (h:pT L):ai (FH9 (bk L))=some (adj (cnt L),0,bk L,()):=by
 have hs:=ot L
 have hc:=Ej h
 have hB:=bndT hs (Ek h)
 unfold FH9
 simp only [az,Sv,aH,aq,gO]
 rw [aA (kH66 h)]
 simp only
 rw [aA (Xv hs hc hB)]
 simp only [List.drop_zero,List.take_length]
 rw [aA (k72 (L6 hs) (by have:=Hr hs hc hB;omega))]
 rfl
theorem kH25 {L:List Mg} (h:pT L) {a:ByteArray} (ha:Sh a):ai (FH10 a (bk L))=some ((Hq (cnt L) a).1,(Hq (cnt L) a).2,bk L,()):=by
 have hs:=ot L
 have hc:=Ej h
 have hB:=bndA hs (Ek h) a
 unfold FH10
 simp only [az]
 rw [aA (adi h ha)]
 simp only [aq,bU,bE,aa,List.drop_zero,List.take_length]
 unfold Hq
 by_cases h0:(sg (cnt L) a).2=0
 ·rw [if_pos h0, if_pos h0]
  have h1:(sg (cnt L) a).1=gX (cnt L) (fA (cnt L) a):=by
   revert h0
   unfold sg
   split
   ·intro _;rfl
   ·intro h;cases h
  rw [h1,az,aA (k72 (L6 hs) (by have:=Hr hs hc hB;omega))]
  rfl
 ·rw [if_neg h0,if_neg h0]
end
end Go.Proofs.Tryz
end
section
namespace Go.Proofs.Tryz
open Go.AM
set_option maxRecDepth 100000
end Go.Proofs.Tryz
end
section
namespace Go.Proofs.Tryz
open Go.AM
set_option maxRecDepth 100000
theorem L7 {L:List Mg} {m:Mg} (hc:um m=0) (hl:L.length+1<=60):lF L m=(0,jY L m):=by
 unfold lF
 have:=Aa (L:=L) (m:=m)
 rw [if_pos hc,if_neg (by omega)]
def Gd (l:List Mg):Prop:=∀m∈l,um m=0
theorem SC {L:List Mg} (h:pT L) {m:Mg} (hc:um m=0) (hl:L.length+1<=60):pT (jY L m):=by
 have:=h.tell m
 rwa [L7 hc hl] at this
end Go.Proofs.Tryz
end
section
namespace Go.Proofs.Tryz
open Go.AM
set_option maxRecDepth 100000
def S5 (L L':List Mg):List Mg:=L'.foldl jY L
theorem Zg : ∀ {L' L : List Mg}, SL L → SL (S5 L L')
 |[],_,h=>h
 |m::L',_,h=>Zg (L':=L') h.ins
theorem SD : ∀ {L' L : List Mg}, SL L → ∀ x, x ∈ S5 L L' ↔ x ∈ L ∨ x ∈ L'
 |[],L,_,x=>by simp [S5]
 |m::L',L,h,x=>by
  have:=SD (L':=L') (h.ins (m:=m)) x
  rw [show S5 L (m::L')=S5 (jY L m) L' from rfl,this,pS h,List.mem_cons]
  constructor
  ·rintro ((h | h) | h)
   ·exact .inr (.inl h)
   ·exact .inl h
   ·exact .inr (.inr h)
  ·rintro (h | h | h)
   ·exact .inl (.inr h)
   ·exact .inl (.inl h)
   ·exact .inr h
abbrev B2:=List (Mg×Bool)×List (Mg×Bool)×Unit
end Go.Proofs.Tryz
end
section
namespace Go.Proofs.Tryz
open Go.AM
set_option maxRecDepth 100000
theorem kTB {L:List Mg} (h:pT L) {m:Mg} (hm:LN m) (hc:um m=0) (hl:L.length+1<=60):ai (FH6 (m.1,m.2.1,m.2.2.1,m.2.2.2.1,m.2.2.2.2) (bk L))=some (0,bk (jY L m),()):=by
 have:=kH20 h.s h.len hm
 rw [L7 hc hl] at this
 exact this
theorem kJ {L L':List Mg} (h:pT L) (h':pT L') (hl:(S5 L L').length<=60):ai (FH7 (bk L) (bk L'))=some (0,bk (S5 L L'),bk L',()):=by
 have hl':=h'.len
 have hit:iter (fun x=>ai (gH26_v1_0 x)) (L'.length,((L'.length:Nat):Int),(0:Int),bk L,L',bk L,bk L',())=some (bk (S5 L L'),bk L,bk L',()):=by
  refine aZ L' (fun k (A:List Mg)=>(L'.length,((L'.length:Nat):Int),(k:Int),bk A,L',bk L,bk L',())) (fun A r=>(bk (r.foldl jY A),bk L,bk L',())) (fun _ A=>SL A) ?_ ?_ (s:=L) h.s
  ·intro pre x post A hx hA
   have hlen:L'.length=pre.length+(post.length+1):=by rw [hx];simp
   have hd:L'.getD pre.length (bs [],(0:Int),bs [],bs [],(0:Int))=x:=by rw [hx];exact bg rfl
   have i1:eA (pre.length:Int) ((L'.length:Nat):Int)=true:=bH (by omega) (by omega)
   have r1:dV .i64 ((pre.length:Int)+1)=true:=aK (by omega) (by omega)
   have d1:decide (pre.length<L'.length)=true:=decide_eq_true (by omega)
   left
   refine ⟨jY A x,?_,hA.ins,rfl⟩
   simp only [gH26_v1_0,aq,aY,aN,aO,aa,Int.toNat_natCast,Nat.zero_add,hd,i1,d1,r1,ax,aQ]
   rw [if_pos (by omega),Ef hA]
   rfl
  ·intro A _
   simp only [gH26_v1_0,aq,aa,aQ]
   rw [if_neg (by omega)]
   rfl
 unfold FH7 FH26_v1 FH166
 simp only [az,Sv,aH,aq,gO,FH47,aa,bD]
 rw [aA (kH47 h'.s (by omega))]
 simp only [aH]
 refine bind_eq (a:=(0,bk (S5 L L'),bk L',())) (bind_eq hit ?_) rfl
 simp only [aQ,Jk]
 rw [if_neg (by omega)]
def nB : Nat → ByteArray
 |0=>bs [97,110,97]
 |1=>bs [98,101,110]
 |_=>bs [99,121]
def tB : Nat → ByteArray
 |0=>bs [116,48]
 |1=>bs [116,49]
 |_=>bs [116,50]
def aB : Nat → ByteArray
 |0=>bs [97,116,48]
 |1=>bs [97,116,49]
 |_=>bs [97,116,50]
def bB : Nat → ByteArray
 |0=>bs [98,116,48]
 |1=>bs [98,116,49]
 |_=>bs [98,116,50]
def rB : Nat → ByteArray
 |0=>bs [114,116,48]
 |1=>bs [114,116,49]
 |_=>bs [114,116,50]
def mT (i:Nat):Mg:=(tB i,1,bs [],nB i,0)
def mA (i:Nat) (z:Int):Mg:=(aB i,2,tB i,nB i,z)
def mB (i:Nat) (z:Int):Mg:=(bB i,2,tB i,nB i,z)
def mR (c:Bool) (i:Nat):Mg:=(rB i,3,(if c=true then aB i else bB i),bs [],0)
structure Am where
 (p0 p1 p2 q0 q1 q2:Int)
def Am.p (a : Am) : Nat → Int
 |0=>a.p0
 |1=>a.p1
 |_=>a.p2
def Am.q (a : Am) : Nat → Int
 |0=>a.q0
 |1=>a.q1
 |_=>a.q2
def Am.w (a:Am) (c:Bool) (i:Nat):Int:=if c=true then a.p i else a.q i
structure Am.Ok (a:Am):Prop where
 p:∀i,0<=a.p i/\a.p i<=999
 q:∀i,0<=a.q i/\a.q i<=999
def El (a:Am):List Mg:=[mT 0,mA 0 a.p0,mB 0 a.q0,mT 1,mA 1 a.p1,mB 1 a.q1,mT 2,mA 2 a.p2,mB 2 a.q2]
def XB (a:Am) (c:Bool) (k:Nat):List Mg:=[mA 0 a.p0,mA 1 a.p1,mA 2 a.p2,mB 0 a.q0,mB 1 a.q1,mB 2 a.q2]++([mR c 0,mR c 1,mR c 2].take k++[mT 0,mT 1,mT 2])
theorem Em {L:List Mg} (h:(L.map (·.1)).Pairwise fun a b=>slt a b=true):SI L:=by
 unfold SI;rw [List.pairwise_map] at h;exact h
theorem SI.sl {L:List Mg} (h:SI L):SL L:=List.Pairwise.imp (fun {a b} h=>by
 show (gZ .str a.1 b.1||_)=true
 rw [show gZ .str a.1 b.1=true from h];rfl) h
theorem uf {L:List Mg} (h:SI L):cnt L=L:=by
 refine lE (r:=fun a b:Mg=>slt a.1 b.1=true) (fun a h=>?_) (fun a b h1 h2=>?_) (ot L) h fun m=>?_
 ·have:=iX kS a.1;rw [show gZ .str a.1 a.1=true from h] at this;cases this
 ·exact ef kS h1 h2
 ·rw [Xf h.sl]
  exact ⟨fun h=>h.1,fun hm=>⟨hm,fun x hx e=>.inl (h.inj hx hm e)⟩⟩
theorem ru (a : Am) (c : Bool) : ∀ k, k ≤ 3 → SI (XB a c k)
 | 0, _ => Em (by
  show List.Pairwise _ [aB 0,aB 1,aB 2,bB 0,bB 1,bB 2,tB 0,tB 1,tB 2]
  decide +kernel)
 | 1, _ => Em (by
  show List.Pairwise _ [aB 0,aB 1,aB 2,bB 0,bB 1,bB 2,rB 0,tB 0,tB 1,tB 2]
  decide +kernel)
 | 2, _ => Em (by
  show List.Pairwise _ [aB 0,aB 1,aB 2,bB 0,bB 1,bB 2,rB 0,rB 1,tB 0,tB 1,tB 2]
  decide +kernel)
 | 3, _ => Em (by
  show List.Pairwise _ [aB 0,aB 1,aB 2,bB 0,bB 1,bB 2,rB 0,rB 1,rB 2,tB 0,tB 1,tB 2]
  decide +kernel)
 |k+4,h=>by omega
theorem SE (i:Nat) (hi:i<3):um (mT i)=0:=by
 have:i=0\/i=1\/i=2:=by omega
 rcases this with rfl|rfl|rfl<;>decide +kernel
theorem Zh {x t n:ByteArray} {z:Int} (h1:um (x,2,t,n,0)=0) (hz:0<=z/\z<=999):um (x,2,t,n,z)=0:=by
 have oG : -1000<=z/\z<=1000:=by omega
 revert h1
 simp only [um,wA,qZ]
 simp [oG,show ¬((2:Int)=3) by decide]
theorem SF (i:Nat) (hi:i<3) {z:Int} (hz:0<=z/\z<=999):um (mA i z)=0:=by
 have:i=0\/i=1\/i=2:=by omega
 rcases this with rfl|rfl|rfl<;>exact Zh (by decide +kernel) hz
theorem SG (i:Nat) (hi:i<3) {z:Int} (hz:0<=z/\z<=999):um (mB i z)=0:=by
 have:i=0\/i=1\/i=2:=by omega
 rcases this with rfl|rfl|rfl<;>exact Zh (by decide +kernel) hz
theorem L8 (c:Bool) (i:Nat) (hi:i<3):um (mR c i)=0:=by
 have:i=0\/i=1\/i=2:=by omega
 cases c<;>rcases this with rfl|rfl|rfl<;>decide +kernel
section
variable {a:Am} (ha:a.Ok)
include ha
theorem Jr:Gd (El a):=fun m hm=>by
 simp only [El,List.mem_cons,List.not_mem_nil,or_false] at hm
 rcases hm with rfl|rfl|rfl|rfl|rfl|rfl|rfl|rfl|rfl
 ·exact SE 0 (by decide)
 ·exact SF 0 (by decide) (ha.p 0)
 ·exact SG 0 (by decide) (ha.q 0)
 ·exact SE 1 (by decide)
 ·exact SF 1 (by decide) (ha.p 1)
 ·exact SG 1 (by decide) (ha.q 1)
 ·exact SE 2 (by decide)
 ·exact SF 2 (by decide) (ha.p 2)
 ·exact SG 2 (by decide) (ha.q 2)
omit ha in
theorem Eo {c:Bool} (m:Mg):m∈XB a c 0↔m∈El a:=by
 simp only [XB,El,List.take_zero,List.nil_append,List.mem_append,List.mem_cons,List.not_mem_nil,or_false]
 constructor
 ·rintro ((h|h|h|h|h|h)|h|h|h)<;>simp [h]
 ·rintro (h|h|h|h|h|h|h|h|h)<;>simp [h]
theorem Cj (c:Bool) {k:Nat} (hk:k<=3):pT (XB a c k):=by
 refine ⟨(ru a c k hk).sl,?_,fun m hm=>?_⟩
 ·simp only [XB,List.length_append,List.length_take,List.length_cons,List.length_nil];omega
 ·simp only [XB, List.mem_append] at hm
  rcases hm with hm|hm|hm
  ·exact Jr ha m (Eo (c:=c) m |>.1 (by simp only [XB,List.mem_append];exact .inl hm))
  ·have hm := List.mem_of_mem_take hm
   simp only [List.mem_cons,List.not_mem_nil,or_false] at hm
   rcases hm with rfl|rfl|rfl
   ·exact L8 c 0 (by decide)
   ·exact L8 c 1 (by decide)
   ·exact L8 c 2 (by decide)
  ·exact Jr ha m (Eo (c:=c) m |>.1 (by simp only [XB,List.mem_append];exact .inr (.inr hm)))
omit ha in
theorem adm (c:Bool) {k:Nat} (hk:k<3):jY (XB a c k) (mR c k)=XB a c (k+1):=by
 have h1:=(ru a c k (by omega)).sl
 refine h1.ins.ext (ru a c (k+1) (by omega)).sl fun x=>?_
 rw [pS h1]
 have:k=0\/k=1\/k=2:=by omega
 rcases this with rfl|rfl|rfl
 ·simp only [XB, List.mem_append, List.take_zero, List.take_succ_cons, List.nil_append, List.mem_cons, List.not_mem_nil, or_false]
  constructor
  ·rintro (h | h | h)
   ·exact .inr (.inl h)
   ·exact .inl h
   ·exact .inr (.inr h)
  ·rintro (h | h | h)
   ·exact .inr (.inl h)
   ·exact .inl h
   ·exact .inr (.inr h)
 ·simp only [XB, List.mem_append, List.take_zero, List.take_succ_cons, List.nil_append, List.mem_cons, List.not_mem_nil, or_false]
  constructor
  ·rintro (h | h | h | h)
   ·exact .inr (.inl (.inr h))
   ·exact .inl h
   ·exact .inr (.inl (.inl h))
   ·exact .inr (.inr h)
  ·rintro (h | (h | h) | h)
   ·exact .inr (.inl h)
   ·exact .inr (.inr (.inl h))
   ·exact .inl h
   ·exact .inr (.inr (.inr h))
 ·simp only [XB, List.mem_append, List.take_zero, List.take_succ_cons, List.nil_append, List.mem_cons, List.not_mem_nil, or_false]
  constructor
  ·rintro (h | h | (h | h) | h)
   ·exact .inr (.inl (.inr (.inr h)))
   ·exact .inl h
   ·exact .inr (.inl (.inl h))
   ·exact .inr (.inl (.inr (.inl h)))
   ·exact .inr (.inr h)
  ·rintro (h | (h | h | h) | h)
   ·exact .inr (.inl h)
   ·exact .inr (.inr (.inl (.inl h)))
   ·exact .inr (.inr (.inl (.inr h)))
   ·exact .inl h
   ·exact .inr (.inr (.inr h))
end
end Go.Proofs.Tryz
end
section
namespace Go.Proofs.Tryz
open Go.AM
set_option maxRecDepth 100000
theorem v00 (a:Am) (c:Bool):rq (XB a c 0) (tB 0)=[aB 0,bB 0]:=by cases c<;>kernel_rfl
theorem v01 (a:Am) (c:Bool):rq (XB a c 0) (tB 1)=[aB 1,bB 1]:=by cases c<;>kernel_rfl
theorem v02 (a:Am) (c:Bool):rq (XB a c 0) (tB 2)=[aB 2,bB 2]:=by cases c<;>kernel_rfl
def cB (c:Bool) (i:Nat):ByteArray:=if c=true then aB i else bB i
theorem v10 (a:Am) (c:Bool):rq (XB a c 1) (tB 0)=[cB c 0]:=by cases c<;>kernel_rfl
theorem v11 (a:Am) (c:Bool):rq (XB a c 1) (tB 1)=[aB 1,bB 1]:=by cases c<;>kernel_rfl
theorem v12 (a:Am) (c:Bool):rq (XB a c 1) (tB 2)=[aB 2,bB 2]:=by cases c<;>kernel_rfl
theorem v20 (a:Am) (c:Bool):rq (XB a c 2) (tB 0)=[cB c 0]:=by cases c<;>kernel_rfl
theorem v21 (a:Am) (c:Bool):rq (XB a c 2) (tB 1)=[cB c 1]:=by cases c<;>kernel_rfl
theorem v22 (a:Am) (c:Bool):rq (XB a c 2) (tB 2)=[aB 2,bB 2]:=by cases c<;>kernel_rfl
theorem v30 (a:Am) (c:Bool):rq (XB a c 3) (tB 0)=[cB c 0]:=by cases c<;>kernel_rfl
theorem v31 (a:Am) (c:Bool):rq (XB a c 3) (tB 1)=[cB c 1]:=by cases c<;>kernel_rfl
theorem v32 (a:Am) (c:Bool):rq (XB a c 3) (tB 2)=[cB c 2]:=by cases c<;>kernel_rfl
theorem Xy (a : Am) (c : Bool) : ∀ k, k ≤ 3 → Al (XB a c k) = [tB 0, tB 1, tB 2]
 |0,_=>by cases c<;>kernel_rfl
 |1,_=>by cases c<;>kernel_rfl
 |2,_=>by cases c<;>kernel_rfl
 |3,_=>by cases c<;>kernel_rfl
 |k+4,h=>by omega
theorem Zi {a:Am} {c:Bool} {k i:Nat} (hk:k<=3) (hi:i<3):msg (XB a c k) (aB i)=mA i (a.p i):=by
 refine jG (m:=mA i (a.p i)) (ru a c k hk) ?_
 have:i=0\/i=1\/i=2:=by omega
 rcases this with rfl|rfl|rfl<;>simp [XB,Am.p]
theorem Zj {a:Am} {c:Bool} {k i:Nat} (hk:k<=3) (hi:i<3):msg (XB a c k) (bB i)=mB i (a.q i):=by
 refine jG (m:=mB i (a.q i)) (ru a c k hk) ?_
 have:i=0\/i=1\/i=2:=by omega
 rcases this with rfl|rfl|rfl<;>simp [XB,Am.q]
theorem SH {i j:Nat} (hi:i<3) (hj:j<3) (h:nB i=nB j):i=j:=by
 have h1:i=0\/i=1\/i=2:=by omega
 have h2:j=0\/j=1\/j=2:=by omega
 rcases h1 with rfl|rfl|rfl<;>rcases h2 with rfl|rfl|rfl<;>first|rfl|(revert h;decide +kernel)
section
variable {a:Am} {c:Bool} {k i j:Nat} (hk:k<=3) (hi:i<3) (hj:j<3)
include hk hi
theorem SJ:fT (XB a c k) (aB i)=a.p i:=by unfold fT;rw [Zi hk hi];rfl
theorem SK:fT (XB a c k) (bB i)=a.q i:=by unfold fT;rw [Zj hk hi];rfl
theorem adn:fT (XB a c k) (cB c i)=a.w c i:=by
 unfold cB Am.w
 cases c
 ·exact SK hk hi
 ·exact SJ hk hi
include hj
theorem Js:fA (XB a c k) (nB j) (aB i)=if i=j then a.p i else 0:=by
 unfold fA;rw [Zi hk hi]
 by_cases h:i=j
 ·rw [if_pos h,if_pos (show (mA i (a.p i)).2.2.2.1=nB j from congrArg nB h)];rfl
 ·rw [if_neg h,if_neg (show ¬(mA i (a.p i)).2.2.2.1=nB j from fun e=>h (SH hi hj e))]
theorem Jt:fA (XB a c k) (nB j) (bB i)=if i=j then a.q i else 0:=by
 unfold fA;rw [Zj hk hi]
 by_cases h:i=j
 ·rw [if_pos h,if_pos (show (mB i (a.q i)).2.2.2.1=nB j from congrArg nB h)];rfl
 ·rw [if_neg h,if_neg (show ¬(mB i (a.q i)).2.2.2.1=nB j from fun e=>h (SH hi hj e))]
theorem Ob:fA (XB a c k) (nB j) (cB c i)=if i=j then a.w c i else 0:=by
 unfold cB Am.w
 cases c
 ·exact Jt hk hi hj
 ·exact Js hk hi hj
end
def SZ (l:List Int):Prop:=l.Pairwise fun x y=>x<y
theorem xH {c:List Mg} {f:ByteArray->Int}:SZ (gX c f):=by
 have h:CZ (mF c f (Al c) eU):=ud cS.1
 unfold SZ gX
 rw [List.pairwise_map]
 exact List.Pairwise.imp (fun {x y} h=>by simpa [gZ] using h) h
theorem ug {c:List Mg} {f:ByteArray->Int} {t0 t1 t2:ByteArray} (ht:Al c=[t0,t1,t2]) (z:Int) :
  z∈gX c f↔∃v0∈rq c t0,∃v1∈rq c t1,∃v2∈rq c t2,z=f v0+f v1+f v2:=by
 have hin:z∈gX c f↔wW (mF c f (Al c) eU) z:=by
  unfold gX wW
  rw [List.mem_map]
  constructor
  ·rintro ⟨⟨x,u⟩,hx,rfl⟩;exact hx
  ·intro h;exact ⟨_,h,rfl⟩
 rw [hin,ht]
 clear hin
 simp only [mF,List.foldl_cons,List.foldl_nil]
 rw [gz.2]
 constructor
 ·rintro ⟨v2, h2, x2, hx2, rfl⟩
  obtain ⟨v1,h1,x1,hx1,rfl⟩:=(gz.2 _).1 hx2
  obtain ⟨v0,h0,x0,hx0,rfl⟩:=(gz.2 _).1 hx1
  have:=(cS.2 _).1 hx0
  exact ⟨v0,h0,v1,h1,v2,h2,by omega⟩
 ·rintro ⟨v0, h0, v1, h1, v2, h2, rfl⟩
  refine ⟨v2,h2,_,(gz.2 _).2 ⟨v1,h1,_,(gz.2 _).2 ⟨v0,h0,0,(cS.2 _).2 rfl,rfl⟩,rfl⟩,by omega⟩
theorem SZ.ext {l l':List Int} (h:SZ l) (h':SZ l') (hz:∀z,z∈l↔z∈l'):l=l' :=
 lE (fun _ h=>Int.lt_irrefl _ h) (fun _ _ h1 h2=>by omega) h h' hz
theorem SZ.two {l:List Int} (h:SZ l) {x y:Int} (hz:∀z,z∈l↔z=x\/z=y):l=if x=y then [x] else [min x y,max x y]:=by
 split
 ·rename_i e
  subst e
  exact h.ext (by simp [SZ]) fun z=>by rw [hz];simp
 ·refine h.ext ?_ fun z => ?_
  ·simp only [SZ, List.pairwise_cons, List.mem_singleton, List.not_mem_nil]
   refine ⟨fun b hb=>by subst hb;omega,by simp⟩
  ·rw [hz];simp only [List.mem_cons,List.not_mem_nil,or_false];omega
theorem SZ.head {l:List Int} (h:SZ l) {x:Int} (hx:x∈l) (hz:∀z∈l,x<=z):l.getD 0 0=x:=by
 cases l with
 |nil=>cases hx
 |cons y r =>
  show y=x
  have h1:=hz y (List.mem_cons_self ..)
  rcases List.mem_cons.1 hx with e|hx
  ·exact e.symm
  ·have:=(List.pairwise_cons.1 h).1 x hx;omega
theorem SZ.last : ∀ {l : List Int}, SZ l → ∀ {x : Int}, x ∈ l → (∀ z ∈ l, z ≤ x) → l.getD (l.length - 1) 0 = x
 |[],_,_,hx,_=>by cases hx
 |[y],_,x,hx,_=>by simp at hx;subst hx;rfl
 |y::y'::r,h,x,hx,hz=>by
  have hp:=List.pairwise_cons.1 h
  have h2:=hp.1 y' (List.mem_cons_self ..)
  have h3:=hz y' (by simp)
  have ih:=SZ.last (l:=y'::r) hp.2 (x:=x) ((List.mem_cons.1 hx).resolve_left (by omega)) fun z oG=>hz z (List.mem_cons_of_mem _ oG)
  simpa using ih
theorem SZ.ends {l:List Int} (h:SZ l) {lo hi:Int} (h1:lo∈l) (h2:hi∈l) (hz:∀z∈l,lo<=z/\z<=hi):Hp l=(lo,hi):=by
 unfold Hp
 rw [h.head h1 fun z oG=>(hz z oG).1,h.last h2 fun z oG=>(hz z oG).2]
theorem Xz:∀i,i<3->Sh (nB i)/\r9 (nB i)=true:=fun i hi=>by
 have:i=0\/i=1\/i=2:=by omega
 rcases this with rfl|rfl|rfl<;>exact ⟨by unfold Sh;decide +kernel,by decide +kernel⟩
theorem aiS (a:Am) (c:Bool) {i:Nat} (hi:i<3):sg (XB a c 0) (nB i)=((if a.p i=a.q i then [a.p i] else [min (a.p i) (a.q i),max (a.p i) (a.q i)]),0):=by
 unfold sg
 rw [if_pos (Xz i hi).2]
 refine congrArg (fun z=>(z,(0:Int))) (xH.two fun z=>?_)
 rw [ug (Xy a c 0 (by decide)),v00,v01,v02]
 simp only [List.mem_cons,List.not_mem_nil,or_false,exists_eq_or_imp,exists_eq_left,Js (k:=0) (by decide) (show 0<3 by decide) hi,Js (k:=0) (by decide) (show 1<3 by decide) hi,Js (k:=0) (by decide) (show 2<3 by decide) hi,Jt (k:=0) (by decide) (show 0<3 by decide) hi,Jt (k:=0) (by decide) (show 1<3 by decide) hi,Jt (k:=0) (by decide) (show 2<3 by decide) hi]
 have:i=0\/i=1\/i=2:=by omega
 rcases this with rfl|rfl|rfl<;>simp<;>omega
theorem aiT (a:Am) (c:Bool):adj (XB a c 0)=(min (a.p 0) (a.q 0)+min (a.p 1) (a.q 1)+min (a.p 2) (a.q 2),max (a.p 0) (a.q 0)+max (a.p 1) (a.q 1)+max (a.p 2) (a.q 2)):=by
 have hm:∀z,z∈gX (XB a c 0) (fT (XB a c 0))↔∃x0 x1 x2,(x0=a.p 0\/x0=a.q 0)/\(x1=a.p 1\/x1=a.q 1)/\(x2=a.p 2\/x2=a.q 2)/\z=x0+x1+x2:=fun z=>by
  rw [ug (Xy a c 0 (by decide)),v00,v01,v02]
  constructor
  ·rintro ⟨v0, h0, v1, h1, v2, h2, rfl⟩
   refine ⟨_,_,_,?_,?_,?_,rfl⟩
   ·simp only [List.mem_cons, List.not_mem_nil, or_false] at h0
    rcases h0 with rfl|rfl
    ·exact .inl (SJ (by decide) (by decide))
    ·exact .inr (SK (by decide) (by decide))
   ·simp only [List.mem_cons, List.not_mem_nil, or_false] at h1
    rcases h1 with rfl|rfl
    ·exact .inl (SJ (by decide) (by decide))
    ·exact .inr (SK (by decide) (by decide))
   ·simp only [List.mem_cons, List.not_mem_nil, or_false] at h2
    rcases h2 with rfl|rfl
    ·exact .inl (SJ (by decide) (by decide))
    ·exact .inr (SK (by decide) (by decide))
  ·have pk:∀i,i<3->∀x,(x=a.p i\/x=a.q i)->∃v,(v=aB i\/v=bB i)/\fT (XB a c 0) v=x:=fun i hi x hx=>by
    rcases hx with rfl|rfl
    ·exact ⟨_,.inl rfl,SJ (by decide) hi⟩
    ·exact ⟨_,.inr rfl,SK (by decide) hi⟩
   rintro ⟨x0,x1,x2,h0,h1,h2,rfl⟩
   obtain ⟨v0,g0,e0⟩:=pk 0 (by decide) x0 h0
   obtain ⟨v1,g1,e1⟩:=pk 1 (by decide) x1 h1
   obtain ⟨v2,g2,e2⟩:=pk 2 (by decide) x2 h2
   exact ⟨v0,by simpa using g0,v1,by simpa using g1,v2,by simpa using g2,by rw [e0,e1,e2]⟩
 refine xH.ends ((hm _).2 ⟨_,_,_,?_,?_,?_,rfl⟩) ((hm _).2 ⟨_,_,_,?_,?_,?_,rfl⟩) fun z hz=>?_
 any_goals omega
 obtain ⟨x0,x1,x2,h0,h1,h2,rfl⟩:=(hm z).1 hz
 omega
theorem aiU (a:Am) (c:Bool):adj (XB a c 3)=(a.w c 0+a.w c 1+a.w c 2,a.w c 0+a.w c 1+a.w c 2):=by
 have hm:∀z,z∈gX (XB a c 3) (fT (XB a c 3))↔z=a.w c 0+a.w c 1+a.w c 2:=fun z=>by
  rw [ug (Xy a c 3 (by decide)),v30,v31,v32]
  simp only [List.mem_cons,List.not_mem_nil,or_false,exists_eq_left,adn (k:=3) (by decide) (show 0<3 by decide),adn (k:=3) (by decide) (show 1<3 by decide),adn (k:=3) (by decide) (show 2<3 by decide)]
 exact xH.ends ((hm _).2 rfl) ((hm _).2 rfl) fun z hz=>by rw [(hm z).1 hz];omega
theorem ado (a:Am) (c:Bool) {i:Nat} (hi:i<3):Hq (XB a c (i+1)) (nB i)=((a.w c i,a.w c i),0):=by
 have ht:sg (XB a c (i+1)) (nB i)=([a.w c i],0):=by
  unfold sg
  rw [if_pos (Xz i hi).2]
  refine congrArg (fun z=>(z,(0:Int))) (xH.ext (by simp [SZ]) fun z=>?_)
  rw [ug (Xy a c (i+1) (by omega))]
  have:i=0\/i=1\/i=2:=by omega
  rcases this with rfl|rfl|rfl
  ·rw [v10, v11, v12]
   simp only [List.mem_cons,List.not_mem_nil,or_false,exists_eq_or_imp,exists_eq_left,Js (k:=0+1) (by decide) (show 1<3 by decide) hi,Js (k:=0+1) (by decide) (show 2<3 by decide) hi,Jt (k:=0+1) (by decide) (show 1<3 by decide) hi,Jt (k:=0+1) (by decide) (show 2<3 by decide) hi,Ob (k:=0+1) (by decide) (show 0<3 by decide) hi]
   simp
  ·rw [v20, v21, v22]
   simp only [List.mem_cons,List.not_mem_nil,or_false,exists_eq_or_imp,exists_eq_left,Js (k:=1+1) (by decide) (show 2<3 by decide) hi,Jt (k:=1+1) (by decide) (show 2<3 by decide) hi,Ob (k:=1+1) (by decide) (show 0<3 by decide) hi,Ob (k:=1+1) (by decide) (show 1<3 by decide) hi]
   simp
  ·rw [v30, v31, v32]
   simp only [List.mem_cons,List.not_mem_nil,or_false,exists_eq_or_imp,exists_eq_left,Ob (k:=2+1) (by decide) (show 0<3 by decide) hi,Ob (k:=2+1) (by decide) (show 1<3 by decide) hi,Ob (k:=2+1) (by decide) (show 2<3 by decide) hi]
   simp
 unfold Hq
 rw [ht,if_pos rfl]
 rfl
end Go.Proofs.Tryz
end
section
namespace Go.Proofs.Tryz
open Go.AM Go.vn
set_option maxRecDepth 100000
def uh:List (ByteArray×Int):=[(bs [97,110,97],1000),(bs [98,101,110],1000),(bs [99,121],1000)]
def EF (eC:Int) (ws:List (Int×Int×Int×Int)):Wk:=(eC,0,0,uh,ws)
structure SM (ws:List (Int×Int×Int×Int)):Prop where
 len:ws.length<=50
 wag:∀x∈ws,0<=x.1/\x.1<3/\x.2.2.1=0/\0<=x.2.1/\x.2.1<=100000/\0<=x.2.2.2/\x.2.2.2<=1000
 some:∃x∈ws,x.1=0/\0<x.2.1/\0<x.2.2.2
theorem Ep:∀f∈uh,iW f.1=true/\f.1.size<1000000000/\f.2=1000:=by
 intro f hf
 simp only [uh,List.mem_cons,List.not_mem_nil,or_false] at hf
 rcases hf with rfl|rfl|rfl<;>exact ⟨by decide +kernel,by decide +kernel,rfl⟩
theorem adp {ws:List (Int×Int×Int×Int)} (h:SM ws) {eC:Int} (h0:0<=eC) (h1:eC<=999):HD (EF eC ws) where
 eC:=⟨h0,by show eC<=1000000000;omega⟩
 scale:=by simp [EF]
 lab:=by simp [EF]
 some:=by show 0<3;omega
 many:=by show 3<=12;omega
 cap f hf:=by have:=(Ep f hf).2.2;omega
 name f hf:=(Ep f hf).1
 Sa:=by
  show ([bs [97,110,97],bs [98,101,110],bs [99,121]]:List ByteArray).Nodup
  decide +kernel
 D5:=h.len
 GN x hx:=by
  have:=h.wag x hx
  have h3:(EF eC ws).2.2.2.1.length=3:=rfl
  rw [h3];omega
theorem XA (h:Int×Int×Int×Int->Int) (l:List Int) (x:Int×Int×Int×Int) (hl:0<l.length) (h0:0<=h x):l.getD 0 0<=(qe h l x).getD 0 0/\(x.1=0->(qe h l x).getD 0 0=l.getD 0 0+h x):=by
 obtain ⟨y,r,rfl⟩:∃y r,l=y::r:=by
  cases l with
  |nil=>simp at hl
  |cons y r=>exact ⟨y,r,rfl⟩
 unfold qe
 rcases hx:x.1.toNat with _|k
 ·simp only [List.set_cons_zero, List.getD_cons_zero]
  exact ⟨by omega,fun _=>trivial⟩
 ·simp only [List.set_cons_succ, List.getD_cons_zero]
  exact ⟨Int.le_refl _,fun e=>by rw [e] at hx;simp at hx⟩
theorem Hs {h : Int × Int × Int × Int → Int} : ∀ {ws : List (Int × Int × Int × Int)} {l : List Int}, 0 < l.length → 0 ≤ l.getD 0 0 → (∀ x ∈ ws, 0 ≤ h x) → (0 < l.getD 0 0 ∨ ∃ x ∈ ws, x.1 = 0 ∧ 0 < h x) → 0 < (ws.foldl (qe h) l).getD 0 0
 |[],l,_,_,_,he=>by
  rcases he with h|⟨x,hx,_⟩
  ·exact h
  ·cases hx
 |x::ws,l,hl,h0,hn,he=>by
  have h1:=XA h l x hl (hn x (List.mem_cons_self ..))
  rw [List.foldl_cons]
  refine Hs (by rw [xD];exact hl) (by omega) (fun y hy=>hn y (List.mem_cons_of_mem _ hy)) ?_
  rcases he with h|⟨y,hy,e,hp⟩
  ·exact .inl (by omega)
  ·rcases List.mem_cons.1 hy with rfl | hy
   ·have:=h1.2 e;exact .inl (by omega)
   ·exact .inr ⟨y,hy,e,hp⟩
theorem len3 {α:Type} {l:List α} (h:l.length=3):∃x y z,l=[x,y,z]:=by
 match l,h with
 |[x,y,z],_=>exact ⟨x,y,z,rfl⟩
theorem Zk {ws:List (Int×Int×Int×Int)} (h:SM ws) {eC:Int} (h0:0<=eC) (h1:eC<=999):∃x y z,ai (F4 (EF eC ws))=some ([x,y,z],0,())/\0<=x/\0<=y/\0<=z/\x+y+z=eC:=by
 have hw:=adp h h0 h1
 have hs:=GR hw
 have hk:=k26 (EF eC ws) fun f hf=>(Ep f hf).2.1
 unfold ac9 at hk;rw [if_pos (ada hw)] at hk
 have hl:(zW (EF eC ws) (gT (EF eC ws))).length=3:=Sq hw hs
 have WZ:=Sr hw hs
 have hnn:∀i,i<3->0<=(zW (EF eC ws) (gT (EF eC ws))).getD i 0:=fun i hi=>by
  obtain ⟨o,c,-,-,-,-,h4,-,-,h7⟩:=Xc hw hs (i:=i) hi
  rcases h7 with h7|h7
  ·omega
  ·omega
 have hp:bT (EF eC ws) (gT (EF eC ws))=eC:=by
  have XP:(gT (EF eC ws)).length=3:=r8 ..
  have hpos:0<(gT (EF eC ws)).getD 0 0:=by
   refine Hs (by simp [EF,uh]) (by simp [EF,uh]) (fun x hx=>(hw.oC x hx).1) ?_
   obtain ⟨x,hx,e,h2,h3⟩:=h.some
   refine .inr ⟨x,hx,e,?_⟩
   have:=(h.wag x hx).2.2.1
   unfold oC
   rw [this]
   exact Int.mul_pos (by omega) h3
  have hsn:=hs.nn
  obtain ⟨x,y,z,e⟩:=len3 XP
  rw [e] at hpos hsn ⊢
  have hx:0<x:=hpos
  show min (lK [(1000,x),(1000,y),(1000,z)]) eC=eC
  simp only [lK,if_pos hx]
  split<;>split<;>omega
 rw [hp] at WZ
 generalize zW (EF eC ws) (gT (EF eC ws))=L at *
 obtain ⟨x,y,z,rfl⟩:=len3 hl
 refine ⟨x,y,z,hk,hnn 0 (by decide),hnn 1 (by decide),hnn 2 (by decide),?_⟩
 simpa [Int.add_assoc] using WZ
end Go.Proofs.Tryz
end
section
namespace Go.Proofs.Tryz
open Go.AM
set_option maxRecDepth 100000
def kw1:Mg:=(bs [116,49],1,bs [],bs [97,110,97],40)
def kw2:Mg:=(bs [99,49],2,bs [116,49],bs [97,110,97],42)
def kw3:Mg:=(bs [99,50],2,bs [116,49],bs [99,121],40)
def kws:List Mg:=[kw1,kw2,kw3]
def KB1:List Mg:=(lF [] kw1).2
def KB2:List Mg:=(lF KB1 kw2).2
def KB3:List Mg:=(lF KB2 kw3).2
theorem okb1:pT KB1:=pT.nil.tell _
theorem okb2:pT KB2:=okb1.tell _
theorem okb3:pT KB3:=okb2.tell _
theorem kt1:(lF [] kw1).1=0:=by kernel_rfl
theorem kt2:(lF KB1 kw2).1=0:=by kernel_rfl
theorem kt3:(lF KB2 kw3).1=0:=by kernel_rfl
theorem ktot:sg (cnt KB3) (bs [97,110,97])=([0,42],0):=by kernel_rfl
theorem r11 {L:List Mg} {m:Mg} {k:Nat} (hL:pT L) (hd:kws.getD k (bs [],(0:Int),bs [],bs [],(0:Int))=m) (hk:k<3) (hm:LN m) (hc:(lF L m).1=0) :
  ai (g11_0 (3,(3:Int),(k:Int),kws,bk L,()))=some (.inl (3,(3:Int),((k+1:Nat):Int),kws,bk (lF L m).2,())):=by
 have h3:kws.length=3:=rfl
 have i1:eA (k:Int) (((3:Nat):Int))=true:=bH (by omega) (by omega)
 have r1:dV .i64 ((k:Int)+1)=true:=aK (by omega) (by omega)
 have d1:decide (k<kws.length)=true:=decide_eq_true (by omega)
 have e:=kH20 hL.s hL.len hm
 rw [hc] at e
 simp only [g11_0,aq,aY,aN,aO,az,aa,Int.toNat_natCast,Nat.zero_add,hd,i1,r1,d1,ax,aQ]
 rw [if_pos (by omega),aA (show ai (FH6 (m.1,m.2.1,m.2.2.1,m.2.2.2.1,m.2.2.2.2) (bk L))=_ from e)]
 show rM (!((0:Int)==0)) _ _=_
 rw [bU,bE,if_pos rfl]
 rfl
theorem k11:ai F11=some (true,()):=by
 have hit:iter (fun x=>ai (g11_0 x)) (3,(3:Int),(0:Int),kws,bk [],())=some (.inr (bk KB3,())):=by
  refine cI (r11 (k:=0) pT.nil (m:=kw1) rfl (by decide) (by unfold LN Sh;decide +kernel) kt1) ?_
  refine cI (r11 (k:=1) okb1 (m:=kw2) rfl (by decide) (by unfold LN Sh;decide +kernel) kt2) ?_
  refine cI (r11 (k:=2) okb2 (m:=kw3) rfl (by decide) (by unfold LN Sh;decide +kernel) kt3) ?_
  refine cA ?_
  simp only [g11_0,aq,aa,aQ]
  rw [if_neg (by omega)]
  rfl
 have h8:=adi okb3 (a:=bs [97,110,97]) (by unfold Sh;decide +kernel)
 rw [ktot] at h8
 simp only [F11,az,bD,FH5,aa,aH]
 refine bind_eq hit ?_
 simp only [jA,az,aq,aY,aN,aa]
 rw [aA h8]
 simp only [bE]
 rw [if_pos trivial,if_pos (by decide),fI (by decide) (by decide),aI (by decide),if_pos (by decide),fI (by decide) (by decide),aI (by decide)]
 rfl
end Go.Proofs.Tryz
end
section
namespace Go.Proofs.Tryz
open Go.AM Go.vn
set_option maxRecDepth 100000
def jq:List ByteArray:=[bs [97,110,97],bs [98,101,110],bs [99,121]]
abbrev SN:=Int×Int×Int×Int
theorem it0 (a0:List (Int×Int×Int)) (a3:List Int) (a4:Bool) (Zl:List Int) (eC:Int) :
  iter (fun x=>ai (g3_0 x)) (a0,a3,a4,3,3,(3:Int),(0:Int),Zl,jq,eC,(0:Int),(0:Int),0,[],())=some (a0,a3,a4,3,Zl,jq,eC,0,0,3,uh,()) :=
 dg (t:=.it g3_0 (a0,a3,a4,3,3,(3:Int),(0:Int),Zl,jq,eC,(0:Int),(0:Int),0,[],())) 20 (by kernel_rfl)
theorem it2 (a:Am) (a3:List Int) (a4:Bool) (eC:Int) (n4:Nat) (ws:List SN) :
  iter (fun x=>ai (g3_2 x)) (a3,a4,3,[a.p0,a.p1,a.p2],[a.q0,a.q1,a.q2],0,3,(3:Int),(0:Int),jq,eC,(0:Int),(0:Int),3,n4,[],uh,ws,())=some (a3,a4,3,[a.p0,a.p1,a.p2],[a.q0,a.q1,a.q2],9,jq,eC,0,0,3,n4,El a,uh,ws,()) :=
 dg (t:=.it g3_2 (a3,a4,3,[a.p0,a.p1,a.p2],[a.q0,a.q1,a.q2],0,3,(3:Int),(0:Int),jq,eC,(0:Int),(0:Int),3,n4,[],uh,ws,())) 20 (by kernel_rfl)
def U3 (x:Int×Int×Int):Prop:=(0<=x.1/\x.1<=255)/\(0<=x.2.1/\x.2.1<=255)/\(0<=x.2.2/\x.2.2<=255)
def SO (x:Int×Int×Int):SN:=(Int.tmod x.1 3,x.2.1,0,x.2.2)
theorem it1 {a0:List (Int×Int×Int)} (h0:∀x∈a0,U3 x) (a3:List Int) (a4:Bool) (Zl:List Int) (eC:Int) {w0:List SN} (hw:w0.length=1) :
  iter (fun x=>ai (g3_1 x)) (a0,a3,a4,3,(0:Int),Zl,jq,eC,(0:Int),(0:Int),3,1,uh,w0,())=some (a3,a4,3,Zl,jq,eC,0,0,3,(w0++(a0.take 6).map SO).length,uh,w0++(a0.take 6).map SO,()):=by
 have ht:(a0.take 6).length<=6/\(a0.take 6).length<=a0.length:=by rw [List.length_take];omega
 have key:=aZ (f:=fun x=>ai (g3_1 x)) (a0.take 6) (fun k (w:List SN)=>(a0,a3,a4,3,(k:Int),Zl,jq,eC,(0:Int),(0:Int),3,w.length,uh,w,())) (fun w r=>(a3,a4,3,Zl,jq,eC,0,0,3,(w++r.map SO).length,uh,w++r.map SO,())) (fun pre w=>w.length=pre.length+1) ?_ ?_ (s:=w0) (by simpa using hw)
 ·rw [hw] at key;exact key
 ·intro pre x post w hx XN
  have hlen:(a0.take 6).length=pre.length+(post.length+1):=by rw [hx];simp
  have hxm:x∈a0:=List.mem_of_mem_take (by rw [hx];simp)
  obtain ⟨⟨x1,x2⟩,⟨y1,y2⟩,z1,z2⟩:=h0 x hxm
  have hd:a0.getD pre.length ((0:Int),(0:Int),(0:Int))=x:=by
   have:(a0.take 6).getD pre.length ((0:Int),(0:Int),(0:Int))=x:=by rw [hx];exact bg rfl
   rwa [getD_take (by omega)] at this
  have i1:eA (pre.length:Int) ((a0.length:Nat):Int)=true:=bH (by omega) (by omega)
  have r0:dV .i64 ((pre.length:Int)+1)=true:=aK (by omega) (by omega)
  have r1:dV .i64 x.1=true:=aK (by omega) (by omega)
  have r2:dV .i64 x.2.1=true:=aK (by omega) (by omega)
  have r3:dV .i64 x.2.2=true:=aK (by omega) (by omega)
  have jP:=o9
  left
  refine ⟨w++[SO x],?_,by simp [XN],by simp [List.append_assoc]⟩
  simp only [g3_1,aq,aY,aN,aO,aa,Int.toNat_natCast,aQ,hd,i1,ax,List.drop_zero,List.take_length,List.length_cons,List.length_nil,List.take_succ_cons,List.take_zero,List.getD_cons_zero,List.getD_cons_succ,r0,r1,r2,r3]
  rw [if_pos (by omega),if_pos (by omega),aI (by decide),aI (by decide),aI (by decide),aI (by omega),cD (show (!((3:Int)==0))=true from rfl)]
  simp [SO]
 ·intro w XN
  simp only [g3_1,aq,aa,aQ]
  by_cases h1:a0.length<=6
  ·have : (a0.take 6).length = a0.length := by rw [List.length_take]; omega
   rw [if_neg (by omega)];simp
  ·have : (a0.take 6).length = 6 := by rw [List.length_take]; omega
   rw [if_pos (by omega),if_neg (by omega)];simp
theorem it3 {v3:List Int} (h3:∀x∈v3,0<=x/\x<=255) (v4:Bool) (p q:List Int) (eC:Int) (n4:Nat) (ws:List SN):∀(n:Nat) (rest Lb Ll:List Mg) (k:Nat),rest.length=n->k+n=9->pT Lb->pT Ll->Lb.length<=k->Ll.length<=k->(∀m∈rest,um m=0/\LN m) ->
  ∃XC XD,iter (fun x=>ai (g3_3 x)) (v3,v4,3,p,q,n,(k:Int),jq,eC,(0:Int),(0:Int),3,n4,rest,uh,ws,bk Lb,bk Ll,())=some (.inl (v4,3,p,q,jq,eC,0,0,3,n4,uh,ws,bk XC,bk XD,())) /\
   pT XC/\pT XD/\∀m,(m∈XC\/m∈XD)↔(m∈Lb\/m∈Ll\/m∈rest):=by
 intro n
 induction n with
 |zero =>
  intro rest Lb Ll k hr hk hb hl qz A8 hm
  refine ⟨Lb,Ll,cA ?_,hb,hl,fun m=>?_⟩
  ·simp only [g3_3, aq, aa, aQ]
   rw [if_neg (by omega)]
  ·rw [List.length_eq_zero_iff.1 hr];simp
 |succ n ih =>
  intro rest Lb Ll k hr hk hb hl qz A8 hm
  have jP:=o9
  -- which one
  obtain ⟨d,hd,hd0⟩:∃d:Int,d=(if (k:Int)<((v3.length:Nat):Int) then v3.getD k 0 else 0)/\0<=d/\d<=255:=by
   refine ⟨_,rfl,?_⟩
   split
   ·exact h3 _ (by rw [List.getD_eq_getElem?_getD,List.getElem?_eq_getElem (by omega)];exact List.getElem_mem _)
   ·omega
  have t1:0<=Int.tmod d ((n+1:Nat):Int):=Int.tmod_nonneg _ hd0.1
  have t2:Int.tmod d ((n+1:Nat):Int)<((n+1:Nat):Int):=Int.tmod_lt_of_pos _ (by omega)
  obtain ⟨j,hj⟩:∃j:Nat,Int.tmod d ((n+1:Nat):Int)=(j:Int):=⟨(Int.tmod d ((n+1:Nat):Int)).toNat,by omega⟩
  have hjl:j<rest.length:=by omega
  obtain ⟨m,hmd⟩:∃m,rest.getD j (bs [],(0:Int),bs [],bs [],(0:Int))=m:=⟨_,rfl⟩
  have hmem:m∈rest:=by rw [<-hmd,List.getD_eq_getElem?_getD,List.getElem?_eq_getElem hjl];exact List.getElem_mem _
  have hmm:∀x,x∈rest↔x=m\/x∈rest.take j++rest.drop (j+1):=by
   have e:rest=rest.take j++m::rest.drop (j+1):=by
    have h1:rest[j]=m:=by rw [<-hmd,List.getD_eq_getElem?_getD,List.getElem?_eq_getElem hjl];rfl
    rw [<-h1,List.getElem_cons_drop,List.take_append_drop]
   intro x
   conv=>lhs;rw [e]
   simp only [List.mem_append,List.mem_cons]
   constructor
   ·rintro (h | h | h)
    ·exact .inr (.inl h)
    ·exact .inl h
    ·exact .inr (.inr h)
   ·rintro (h | h | h)
    ·exact .inr (.inl h)
    ·exact .inl h
    ·exact .inr (.inr h)
  have hrl:(rest.take j++rest.drop (j+1)).length=n:=by rw [List.length_append,List.length_take,List.length_drop];omega
  obtain ⟨hc,hs⟩:=hm m hmem
  have hm':∀x∈rest.take j++rest.drop (j+1),um x=0/\LN x:=fun x hx=>hm x ((hmm x).2 (.inr hx))
  have i0:eA (k:Int) ((v3.length:Nat):Int)=decide ((k:Int)<((v3.length:Nat):Int)):=by
   by_cases h:(k:Int)<((v3.length:Nat):Int)
   ·rw [bH (by omega) h,decide_eq_true h]
   ·rw [decide_eq_false h];unfold eA;simp;omega
  have i1:eA (j:Int) ((n+1:Nat):Int)=true:=bH (by omega) (by omega)
  have r0:dV .i64 ((k:Int)+1)=true:=aK (by omega) (by omega)
  have r1:dV .i64 ((j:Int)+1)=true:=aK (by omega) (by omega)
  have rd:dV .i64 d=true:=aK (by omega) (by omega)
  have tj:Int.toNat ((j:Int)+1)=j+1:=by omega
  have el:(rest.drop (j+1)).take (n+1 - (j+1))=rest.drop (j+1):=List.take_of_length_le (by rw [List.length_drop];omega)
  have et:(rest.take j).length=j:=by rw [List.length_take];omega
  have ed:(rest.drop (j+1)).length=n - j:=by rw [List.length_drop];omega
  have ez:(((n+1:Nat):Int)==0)=false:=by simp;omega
  have fin:∀Lb1 Ll1:List Mg,pT Lb1->pT Ll1->Lb1.length<=k+1->Ll1.length<=k+1->(∀x,(x∈Lb1\/x∈Ll1)↔(x=m\/x∈Lb\/x∈Ll))->ai (g3_3 (v3,v4,3,p,q,n+1,(k:Int),jq,eC,(0:Int),(0:Int),3,n4,rest,uh,ws,bk Lb,bk Ll,()))=some (.inl (v3,v4,3,p,q,n,((k+1:Nat):Int),jq,eC,(0:Int),(0:Int),3,n4,rest.take j++rest.drop (j+1),uh,ws,bk Lb1,bk Ll1,())) ->
    ∃XC XD,iter (fun x=>ai (g3_3 x)) (v3,v4,3,p,q,n+1,(k:Int),jq,eC,(0:Int),(0:Int),3,n4,rest,uh,ws,bk Lb,bk Ll,())=some (.inl (v4,3,p,q,jq,eC,0,0,3,n4,uh,ws,bk XC,bk XD,())) /\
     pT XC/\pT XD/\∀m,(m∈XC\/m∈XD)↔(m∈Lb\/m∈Ll\/m∈rest):=fun Lb1 Ll1 o1 o2 l1 l2 hx hstep=>by
   obtain ⟨XC,XD,e1,e2,e3,e4⟩:=ih (rest.take j++rest.drop (j+1)) Lb1 Ll1 (k+1) hrl (by omega) o1 o2 l1 l2 hm'
   refine ⟨XC,XD,cI hstep e1,e2,e3,fun x=>?_⟩
   rw [e4,hmm]
   have:=hx x
   constructor
   ·rintro (h | h | h)
    ·rcases this.1 (.inl h) with h | h | h
     ·exact .inr (.inr (.inl h))
     ·exact .inl h
     ·exact .inr (.inl h)
    ·rcases this.1 (.inr h) with h | h | h
     ·exact .inr (.inr (.inl h))
     ·exact .inl h
     ·exact .inr (.inl h)
    ·exact .inr (.inr (.inr h))
   ·rintro (h | h | h | h)
    ·rcases this.2 (.inr (.inl h)) with h | h
     ·exact .inl h
     ·exact .inr (.inl h)
    ·rcases this.2 (.inr (.inr h)) with h | h
     ·exact .inl h
     ·exact .inr (.inl h)
    ·rcases this.2 (.inl h) with h | h
     ·exact .inl h
     ·exact .inr (.inl h)
    ·exact .inr (.inr h)
  have en:j+(n - j)=n:=by omega
  have hkb:=kTB hb hs hc (by omega)
  have HB:=kTB hl hs hc (by omega)
  have lb1:=Aa (L:=Lb) (m:=m)
  have ll1:=Aa (L:=Ll) (m:=m)
  have okb:=SC hb hc (by omega)
  have okl:=SC hl hc (by omega)
  by_cases J1:128<=d
  ·refine fin Lb (jY Ll m) hb okl (by omega) (by omega) (fun x => by rw [pS hl.s]; constructor <;> (rintro (h | h | h) <;> simp [h])) ?_
   have JF:(k:Int)<((v3.length:Nat):Int):=by
    by_cases h:(k:Int)<((v3.length:Nat):Int)
    ·exact h
    ·rw [if_neg h] at hd;omega
   rw [if_pos JF] at hd
   simp only [g3_3,aq,az,aY,aN,aO,aa,Int.toNat_natCast,aQ,<-hd,hj,Nat.zero_add,hmd,i0,i1,r0,r1,rd,ax,tj,ez,Bool.not_false,Int.toNat_zero,Nat.sub_zero,List.drop_zero,el,et,ed]
   rw [if_pos (by omega),if_pos JF,aI JF,aI (by omega),aI (by omega),aI (by omega),aI (by omega),aI (by omega),aI (by omega),aI (by omega),aI (by omega),aI (by omega),if_pos J1,aA HB]
   show rM (!((0:Int)==0)) _ _=_
   rw [bU,bE,if_pos rfl]
   simp only [List.take_zero,List.nil_append,List.take_take,Nat.min_self,en]
   rfl
  ·have hx : ∀ x, (x ∈ jY Lb m ∨ x ∈ Ll) ↔ (x = m ∨ x ∈ Lb ∨ x ∈ Ll) := fun x => by rw [pS hb.s, or_assoc]
   refine fin (jY Lb m) Ll okb hl (by omega) (by omega) hx ?_
   by_cases JF:(k:Int)<((v3.length:Nat):Int)
   ·rw [if_pos JF] at hd
    simp only [g3_3,aq,az,aY,aN,aO,aa,Int.toNat_natCast,aQ,<-hd,hj,Nat.zero_add,hmd,i0,i1,r0,r1,rd,ax,tj,ez,Bool.not_false,Int.toNat_zero,Nat.sub_zero,List.drop_zero,el,et,ed]
    rw [if_pos (by omega),if_pos JF,aI JF,aI (by omega),aI (by omega),aI (by omega),aI (by omega),aI (by omega),aI (by omega),aI (by omega),aI (by omega),aI (by omega),if_neg J1,aA hkb]
    show rM (!((0:Int)==0)) _ _=_
    rw [bU,bE,if_pos rfl]
    simp only [List.take_zero,List.nil_append,List.take_take,Nat.min_self,en]
    rfl
   ·rw [if_neg JF] at hd
    rw [hd] at hj
    simp only [g3_3,aq,az,aY,aN,aO,aa,Int.toNat_natCast,aQ,hj,Nat.zero_add,hmd,i1,r0,r1,ax,tj,ez,Bool.not_false,Int.toNat_zero,Nat.sub_zero,List.drop_zero,el,et,ed]
    rw [if_pos (by omega),if_neg JF,aI (by omega),aI (by omega),aI (by omega),aI (by omega),aI (by omega),aI (by omega),aI (by omega),aI (by omega),aI (by omega),if_neg (by decide),aA hkb]
    show rM (!((0:Int)==0)) _ _=_
    rw [bU,bE,if_pos rfl]
    simp only [List.take_zero,List.nil_append,List.take_take,Nat.min_self,en]
    rfl
end Go.Proofs.Tryz
end
section
namespace Go.Proofs.Tryz
open Go.AM Go.vn
set_option maxRecDepth 100000
def pL (a:Am):List Int:=[a.p0,a.p1,a.p2]
def qL (a:Am):List Int:=[a.q0,a.q1,a.q2]
def wL (a:Am) (c:Bool):List Int:=if c=true then pL a else qL a
theorem three {k:Nat} (h:k<3):k=0\/k=1\/k=2:=by omega
theorem Zm (a:Am) {k:Nat} (h:k<3):(pL a).getD k 0=a.p k:=by rcases three h with rfl|rfl|rfl<;>rfl
theorem Zn (a:Am) {k:Nat} (h:k<3):(qL a).getD k 0=a.q k:=by rcases three h with rfl|rfl|rfl<;>rfl
theorem ai0 (a:Am) (c:Bool) {k:Nat} (h:k<3):(wL a c).getD k 0=a.w c k:=by
 unfold wL Am.w
 cases c
 ·exact Zn a h
 ·exact Zm a h
theorem adq (a:Am) (c:Bool):(wL a c).length=3:=by cases c<;>rfl
theorem SQ {k:Nat} (h:k<3):jq.getD k (bs [])=nB k:=by rcases three h with rfl|rfl|rfl<;>rfl
section
variable {a:Am} (ha:a.Ok)
include ha
theorem r34 (v4:Bool) {lo hi:Int} {k:Nat} (hk:k<3) (hlo : -5000<=lo/\lo<=5000) (hhi : -5000<=hi/\hi<=5000) (eC:Int) (n4:Nat) (ws:List SN) (c:Bool) :
  ai (g3_4 (v4,3,pL a,qL a,lo,hi,3,(3:Int),(k:Int),jq,eC,(0:Int),(0:Int),3,n4,uh,ws,bk (XB a c 0),())) =
   some (.inl (v4,3,pL a,qL a,lo+min (a.p k) (a.q k),hi+max (a.p k) (a.q k),3,(3:Int),((k+1:Nat):Int),jq,eC,(0:Int),(0:Int),3,n4,uh,ws,bk (XB a c 0),())):=by
 have hp:=ha.p k
 have hq:=ha.q k
 have hX:=Cj ha c (k:=0) (by decide)
 have h8:=adi hX (Xz k hk).1
 rw [uf (ru a c 0 (by decide)),aiS a c hk] at h8
 have hn:jq.length=3:=rfl
 have hpl:(pL a).length=3:=rfl
 have hql:(qL a).length=3:=rfl
 have i1:eA (k:Int) ((3:Nat):Int)=true:=bH (by omega) (by omega)
 have r1:dV .i64 ((k:Int)+1)=true:=aK (by omega) (by omega)
 have r2:dV .i64 (lo+min (a.p k) (a.q k))=true:=aK (by omega) (by omega)
 have r3:dV .i64 (hi+max (a.p k) (a.q k))=true:=aK (by omega) (by omega)
 have d1:decide (k<3)=true:=decide_eq_true hk
 have m1:uo (a.p k) (a.q k)=min (a.p k) (a.q k):=by show (if a.q k<a.p k then a.q k else a.p k)=_;split<;>omega
 have m2:imax (a.p k) (a.q k)=max (a.p k) (a.q k):=by show (if a.q k > a.p k then a.q k else a.p k)=_;split<;>omega
 simp only [g3_4,aq,aY,aN,aO,az,aa,Int.toNat_natCast,Nat.zero_add,SQ hk,hn,hpl,hql,i1,d1,ax,aQ,Zm a hk,Zn a hk,m1,m2]
 rw [if_pos (by omega),aA h8]
 by_cases he:a.p k=a.q k
 ·have g0 : [a.p k].getD (Int.toNat 0) 0 = a.p k := rfl
  have g1:[a.p k].getD (((1:Nat):Int) - 1).toNat 0=a.p k:=rfl
  simp only [if_pos he,List.length_cons,List.length_nil,Nat.zero_add]
  rw [bU,bE,if_pos rfl,bE,if_neg (by decide),fI (by decide) (by decide),aI (by decide),g0,bU,bE,if_pos (show a.p k=min (a.p k) (a.q k) by omega),aP (by decide) (by decide),fI (by decide) (by decide),aI (by decide),g1,bU,bE,if_pos (show a.p k=max (a.p k) (a.q k) by omega),if_neg (by decide),bE,if_neg (by decide),cD r2,cD r3,cD r1]
  rfl
 ·have g0 : [min (a.p k) (a.q k), max (a.p k) (a.q k)].getD (Int.toNat 0) 0 = min (a.p k) (a.q k) := rfl
  have g1:[min (a.p k) (a.q k),max (a.p k) (a.q k)].getD (((2:Nat):Int) - 1).toNat 0=max (a.p k) (a.q k):=rfl
  simp only [if_neg he,List.length_cons,List.length_nil,Nat.zero_add,Nat.reduceAdd]
  rw [bU,bE,if_pos rfl,bE,if_neg (by decide),fI (by decide) (by decide),aI (by decide),g0,bU,bE,if_pos rfl,aP (by decide) (by decide),fI (by decide) (by decide),aI (by decide),g1,bU,bE,if_pos rfl,if_neg (by decide),bE,if_pos (by decide),bE,if_neg (show ¬min (a.p k) (a.q k)=max (a.p k) (a.q k) by omega),cD r2,cD r3,cD r1]
  rfl
theorem r35 (c:Bool) {k:Nat} (hk:k<3) (eC lo hi:Int) (n4:Nat) (ws:List SN) :
  ai (g3_5 (wL a c,(if c=true then bs [97] else bs [98]),3,(3:Int),(k:Int),eC,(0:Int),(0:Int),3,n4,lo,hi,jq,uh,ws,bk (XB a c k),())) =
   some (.inl (wL a c,(if c=true then bs [97] else bs [98]),3,(3:Int),((k+1:Nat):Int),eC,(0:Int),(0:Int),3,n4,lo,hi,jq,uh,ws,bk (XB a c (k+1)),())):=by
 have hX:=Cj ha c (k:=k) (by omega)
 have hX1:=Cj ha c (k:=k+1) (by omega)
 have hs:LN (mR c k):=by rcases three hk with rfl|rfl|rfl<;>cases c<;>(unfold LN Sh;decide +kernel)
 have h6:=kTB hX hs (L8 c k hk) (by have:=(ru a c k (by omega));simp only [XB,List.length_append,List.length_take,List.length_cons,List.length_nil];omega)
 rw [adm c hk] at h6
 have XM:=kH25 hX1 (Xz k hk).1
 rw [uf (ru a c (k+1) (by omega)),ado a c hk] at XM
 have hn:jq.length=3:=rfl
 have i1:eA (k:Int) ((3:Nat):Int)=true:=bH (by omega) (by omega)
 have r1:dV .i64 ((k:Int)+1)=true:=aK (by omega) (by omega)
 have r2:dV .i64 ((48:Int)+k)=true:=aK (by omega) (by omega)
 have r3:dV .u8 ((48:Int)+k)=true:=by rcases three hk with rfl|rfl|rfl<;>decide
 have d1:decide (k<3)=true:=decide_eq_true hk
 have e1:dM ((b8 (bs [114]))++(b8 (dM ((((116:Int)::((48:Int)+k)::[]).drop 0).take 2))))=rB k:=by rcases three hk with rfl|rfl|rfl<;>kernel_rfl
 have e2:dM ((b8 (if c=true then bs [97] else bs [98]))++(b8 (dM ((((116:Int)::((48:Int)+k)::[]).drop 0).take 2))))=(if c=true then aB k else bB k):=by cases c<;>rcases three hk with rfl|rfl|rfl<;>kernel_rfl
 have r4:dV .i64 ((((bs [114]).size:Nat):Int)+(((dM ((((116:Int)::((48:Int)+k)::[]).drop 0).take 2)).size:Nat):Int))=true:=by rcases three hk with rfl|rfl|rfl<;>kernel_rfl
 have r5:dV .i64 ((((if c=true then bs [97] else bs [98]).size:Nat):Int)+(((dM ((((116:Int)::((48:Int)+k)::[]).drop 0).take 2)).size:Nat):Int))=true:=by cases c<;>rcases three hk with rfl|rfl|rfl<;>kernel_rfl
 simp only [g3_5,aq,aY,aN,aO,az,aa,Int.toNat_natCast,Nat.zero_add,SQ hk,hn,i1,r1,r2,r3,r4,r5,e1,e2,d1,ax,aQ]
 rw [if_pos (by omega),aA (show ai (FH6 (rB k,3,(if c=true then aB k else bB k),bs [],0) (bk (XB a c k)))=_ from h6)]
 simp only [adq,ai0 a c hk,i1,ax]
 rw [aA XM]
 simp
end
end Go.Proofs.Tryz
end
section
namespace Go.Proofs.Tryz
open Go.AM Go.vn
set_option maxRecDepth 100000
section
variable {a:Am} (ha:a.Ok)
include ha
theorem it4 (v4:Bool) (eC:Int) (n4:Nat) (ws:List SN) (c:Bool) :
  iter (fun x=>ai (g3_4 x)) (v4,3,pL a,qL a,(0:Int),(0:Int),3,(3:Int),(0:Int),jq,eC,(0:Int),(0:Int),3,n4,uh,ws,bk (XB a c 0),()) =
   some (.inr (v4,3,pL a,qL a,min (a.p 0) (a.q 0)+min (a.p 1) (a.q 1)+min (a.p 2) (a.q 2),max (a.p 0) (a.q 0)+max (a.p 1) (a.q 1)+max (a.p 2) (a.q 2),jq,eC,0,0,3,n4,uh,ws,bk (XB a c 0),())):=by
 have p0:=ha.p 0;have p1:=ha.p 1;have p2:=ha.p 2
 have q0:=ha.q 0;have q1:=ha.q 1;have q2:=ha.q 2
 refine cI (r34 ha v4 (k:=0) (by decide) (by omega) (by omega) eC n4 ws c) ?_
 refine cI (r34 ha v4 (k:=1) (by decide) (by omega) (by omega) eC n4 ws c) ?_
 refine cI (r34 ha v4 (k:=2) (by decide) (by omega) (by omega) eC n4 ws c) ?_
 refine cA ?_
 simp only [g3_4,aq,aa,aQ]
 rw [if_neg (by omega)]
 simp only [Int.zero_add]
theorem it5 (c:Bool) (eC lo hi:Int) (n4:Nat) (ws:List SN) :
  iter (fun x=>ai (g3_5 x)) (wL a c,(if c=true then bs [97] else bs [98]),3,(3:Int),(0:Int),eC,(0:Int),(0:Int),3,n4,lo,hi,jq,uh,ws,bk (XB a c 0),()) =
   some (.inr (eC,0,0,3,n4,lo,hi,uh,ws,bk (XB a c 3),())):=by
 refine cI (r35 ha c (k:=0) (by decide) eC lo hi n4 ws) ?_
 refine cI (r35 ha c (k:=1) (by decide) eC lo hi n4 ws) ?_
 refine cI (r35 ha c (k:=2) (by decide) eC lo hi n4 ws) ?_
 refine cA ?_
 simp only [g3_5,aq,aa,aQ]
 rw [if_neg (by omega)]
theorem adr {Lb Ll:List Mg} (hb:pT Lb) (hl:pT Ll) (c:Bool) (hm:∀m,(m∈Lb\/m∈Ll)↔(m∈([]:List Mg)\/m∈([]:List Mg)\/m∈El a)):S5 Lb Ll=XB a c 0:=by
 refine (Zg hb.s).ext (Cj ha c (by decide)).s fun x=>?_
 rw [SD hb.s,hm,Eo];simp
theorem ads:∀m∈El a,um m=0/\LN m:=fun m hm=>by
 refine ⟨Jr ha m hm,?_⟩
 simp only [El,List.mem_cons,List.not_mem_nil,or_false] at hm
 have hn:∀i,i<3->Sh (nB i)/\Sh (tB i)/\Sh (aB i)/\Sh (bB i):=fun i hi=>by
  unfold Sh
  rcases three hi with rfl|rfl|rfl<;>decide +kernel
 have h0:=hn 0 (by decide);have h1:=hn 1 (by decide);have h2:=hn 2 (by decide)
 have he:Sh (bs []):=by unfold Sh;decide +kernel
 rcases hm with rfl|rfl|rfl|rfl|rfl|rfl|rfl|rfl|rfl
 ·exact ⟨h0.2.1,he,h0.1⟩
 ·exact ⟨h0.2.2.1,h0.2.1,h0.1⟩
 ·exact ⟨h0.2.2.2,h0.2.1,h0.1⟩
 ·exact ⟨h1.2.1,he,h1.1⟩
 ·exact ⟨h1.2.2.1,h1.2.1,h1.1⟩
 ·exact ⟨h1.2.2.2,h1.2.1,h1.1⟩
 ·exact ⟨h2.2.1,he,h2.1⟩
 ·exact ⟨h2.2.2.1,h2.2.1,h2.1⟩
 ·exact ⟨h2.2.2.2,h2.2.1,h2.1⟩
end
def S6:List SN:=[(0,10,0,10)]
theorem ai1 {a0:List (Int×Int×Int)} (h0:∀x∈a0,U3 x):SM (S6++(a0.take 6).map SO):=by
 refine ⟨?_,fun x hx=>?_,?_⟩
 ·rw [List.length_append, List.length_map, List.length_take]
  show 1+_<=50;omega
 ·rcases List.mem_append.1 hx with hx | hx
  ·simp only [S6, List.mem_singleton] at hx
   subst hx;simp
  ·obtain ⟨y, hy, rfl⟩ := List.mem_map.1 hx
   obtain ⟨⟨x1,x2⟩,⟨y1,y2⟩,z1,z2⟩:=h0 y (List.mem_of_mem_take hy)
   have t1:=Int.tmod_nonneg 3 x1
   have t2:=Int.tmod_lt_of_pos y.1 (show (0:Int)<3 by decide)
   exact ⟨t1,t2,rfl,y1,(show y.2.1<=100000 by omega),z1,(show y.2.2<=1000 by omega)⟩
 ·exact ⟨(0,10,0,10),by simp [S6],rfl,by decide,by decide⟩
theorem adt {w:List SN} (h:SM w) (hb:∀x∈w,x.2.1<=255\/x=(0,10,0,10)) (hp:w.head?=some (0,10,0,10)) {k:Nat} (hk:k<w.length) {z:Int} (hz:0<=z/\z<=256) :
  SM (w.set k ((w.getD k (0,0,0,0)).1,(w.getD k (0,0,0,0)).2.1+z,(w.getD k (0,0,0,0)).2.2)):=by
 have hg:w.getD k (0,0,0,0)∈w:=by rw [List.getD_eq_getElem?_getD,List.getElem?_eq_getElem hk];exact List.getElem_mem _
 have h1:=h.wag _ hg
 have h2:=hb _ hg
 have h3:(w.getD k (0,0,0,0)).2.1<=255:=by
  rcases h2 with h2|h2
  ·exact h2
  ·rw [h2];decide
 refine ⟨by rw [List.length_set];exact h.len,fun x hx=>?_,?_⟩
 ·rcases List.mem_or_eq_of_mem_set hx with hx | rfl
  ·exact h.wag x hx
  ·simp only;omega
 ·obtain ⟨y,r,rfl⟩:∃y r,w=y::r:=by
   cases w with
   |nil=>simp at hk
   |cons y r=>exact ⟨y,r,rfl⟩
  have hy:y=(0,10,0,10):=by simpa using hp
  subst hy
  cases k with
  |zero=>exact ⟨(0,10+z,0,10),by simp,rfl,by simp only;omega,by simp only;omega⟩
  |succ k=>exact ⟨(0,10,0,10),by simp,rfl,by decide,by decide⟩
theorem adu:IntKind.u8.min=0:=by decide
theorem adv:IntKind.u8.max=255:=by decide
theorem XE:IntKind.u16.min=0:=by decide
theorem XF:IntKind.u16.max=65535:=by decide
theorem law3 (a0:List (Int×Int×Int)) (a1:Int) (a2:Int×Int) (a3:List Int) (a4:Bool) (hW:FN [.list (.prod (.int .u8) (.prod (.int .u8) (.int .u8))),.int .u16,.prod (.int .u8) (.int .u8),.list (.int .u8),.bool] (a0,a1,a2,a3,a4,())):ai (F3 a0 a1 a2 a3 a4)=some (true,()):=by
 obtain ⟨h0,h1,h2,h3,-⟩:=hW
 simp only [Wf,adu,adv,XE,XF] at h0 h1 h2 h3
 have hU:∀x∈a0,U3 x:=fun x hx=>h0.2 x hx
 have hV:∀x∈a3,0<=x/\x<=255:=fun x hx=>h3.2 x hx
 have jP:=o9
 have h1:0<=a1/\a1<=65535:=h1
 have o1:0<=a2.1:=h2.1.1
 have o2:a2.1<=255:=h2.1.2
 have o3:0<=a2.2:=h2.2.1
 have o4:a2.2<=255:=h2.2.2
 have t1:0<=Int.tmod a1 1000:=Int.tmod_nonneg 1000 h1.1
 have t2:Int.tmod a1 1000<1000:=Int.tmod_lt_of_pos a1 (by decide)
 simp only [F3,az,aq,aO,aN,aY,bD,aa,bU,bE,aQ]
 rw [aP (z:=a1) (by omega) (by omega),cD (show (!((1000:Int)==0))=true from rfl)]
 refine bind_eq (it0 a0 a3 a4 [a2.1,a2.2] (Int.tmod a1 1000)) ?_
 simp only []
 generalize Int.tmod a1 1000=eC at t1 t2
 refine bind_eq (it1 hU a3 a4 [a2.1,a2.2] eC (w0:=S6) rfl) ?_
 have hws:=ai1 hU
 have XN:0<(S6++(a0.take 6).map SO).length:=by simp [S6]
 have hwh:(S6++(a0.take 6).map SO).head?=some (0,10,0,10):=rfl
 have hwb:∀x∈S6++(a0.take 6).map SO,x.2.1<=255\/x=(0,10,0,10):=fun x hx=>by
  rcases List.mem_append.1 hx with hx|hx
  ·right;simpa [S6] using hx
  ·obtain ⟨y, hy, rfl⟩ := List.mem_map.1 hx
   left;exact (hU y (List.mem_of_mem_take hy)).2.1.2
 generalize S6++(a0.take 6).map SO=W at hws XN hwh hwb
 have hw50:=hws.len
 -- which wagon
 have k1:0<=Int.tmod a2.1 (W.length:Int):=Int.tmod_nonneg _ o1
 have k2:Int.tmod a2.1 (W.length:Int)<W.length:=Int.tmod_lt_of_pos _ (by omega)
 obtain ⟨k,hk⟩:∃k:Nat,Int.tmod a2.1 (W.length:Int)=(k:Int):=⟨(Int.tmod a2.1 (W.length:Int)).toNat,by omega⟩
 have HB:k<W.length:=by omega
 obtain ⟨x,y,z,e1,x0,y0,z0,es⟩:=Zk hws t1 (by omega)
 obtain ⟨x',y',z',e2,x0',y0',z0',es'⟩:=Zk (adt hws hwb hwh HB (z:=1+a2.2) (by omega)) t1 (by omega)
 simp only [List.drop_zero,List.take_length,List.take_zero,List.nil_append,Nat.zero_add,List.length_cons,List.length_nil,List.getD_cons_zero,List.getD_cons_succ,hk,Int.toNat_natCast,List.length_set]
 have hb0:=hwb _ (show W.getD k (0,0,0,0)∈W by rw [List.getD_eq_getElem?_getD,List.getElem?_eq_getElem HB];exact List.getElem_mem _)
 have iL:=hws.wag _ (show W.getD k (0,0,0,0)∈W by rw [List.getD_eq_getElem?_getD,List.getElem?_eq_getElem HB];exact List.getElem_mem _)
 have hW0:(!((W.length:Int)==0))=true:=by rw [Bool.not_eq_true'];exact beq_false_of_ne (by omega)
 have eT:List.take W.length (W.set k ((W.getD k (0,0,0,0)).1,(W.getD k (0,0,0,0)).2.1+(1+a2.2),(W.getD k (0,0,0,0)).2.2))=W.set k ((W.getD k (0,0,0,0)).1,(W.getD k (0,0,0,0)).2.1+(1+a2.2),(W.getD k (0,0,0,0)).2.2):=List.take_of_length_le (by rw [List.length_set];exact Nat.le_refl _)
 rw [aI (by omega),aI (by decide),aP (by omega) (by omega),cD hW0,fI (by omega) (by omega),aI (by omega),aI (by decide),aP (by omega) (by omega),aP (by omega) (by omega),aP (by omega) (by omega),fI (by omega) (by omega),aI (by omega),eT]
 refine bind_eq (show ai (F4 (eC,0,0,List.take 3 uh,W))=_ from e1) ?_
 refine bind_eq (show ai (F4 (eC,0,0,List.take 3 uh,_))=_ from e2) ?_
 simp only []
 rw [if_pos trivial,if_pos trivial,if_pos (show (([x,y,z].length:Nat):Int)=3 from rfl),if_pos (show (([x',y',z'].length:Nat):Int)=3 from rfl)]
 obtain ⟨a,rfl,rfl,rfl,rfl,rfl,rfl⟩:∃a:Am,x=a.p0/\y=a.p1/\z=a.p2/\x'=a.q0/\y'=a.q1/\z'=a.q2:=⟨⟨x,y,z,x',y',z'⟩,rfl,rfl,rfl,rfl,rfl,rfl⟩
 have ha:a.Ok:=by
  constructor
  ·intro i;unfold Am.p;split<;>omega
  ·intro i;unfold Am.q;split<;>omega
 refine bind_eq (it2 a a3 a4 eC W.length W) ?_
 refine bind_eq (a:=([],())) rfl ?_
 refine bind_eq (a:=([],())) rfl ?_
 obtain ⟨Lb,Ll,e3,ob,ol,hm⟩:=it3 hV a4 (pL a) (qL a) eC W.length W 9 (El a) [] [] 0 rfl rfl pT.nil pT.nil (by simp) (by simp) (ads ha)
 refine bind_eq e3 ?_
 have hun:=adr ha ob ol a4 hm
 have hX:=Cj ha a4 (k:=0) (by decide)
 have e7:=kJ ob ol (by rw [hun];exact hX.len)
 rw [hun] at e7
 simp only [o7,az,aq,bD,aa,bU,bE,aQ]
 refine bind_eq e7 ?_
 simp only []
 rw [if_pos trivial]
 refine bind_eq (it4 ha a4 eC W.length W a4) ?_
 simp only [jA,az,aq,bD,aa,bU,bE,aQ]
 have e9:=kH37 hX
 rw [uf (ru a a4 0 (by decide)),aiT] at e9
 refine bind_eq e9 ?_
 simp only []
 have dJ:a.p 0+a.p 1+a.p 2=eC:=es
 have es1:a.q 0+a.q 1+a.q 2=eC:=es'
 have hX3:=Cj ha a4 (k:=3) (by decide)
 have e10:=kH37 hX3
 rw [uf (ru a a4 3 (by decide)),aiU] at e10
 have hw:a.w a4 0+a.w a4 1+a.w a4 2=eC:=by
  cases a4
  ·exact es1
  ·exact dJ
 rw [hw] at e10
 rw [if_pos trivial,if_pos trivial,if_pos trivial,if_neg (show ¬eC<min (a.p 0) (a.q 0)+min (a.p 1) (a.q 1)+min (a.p 2) (a.q 2) by omega),if_neg (show ¬max (a.p 0) (a.q 0)+max (a.p 1) (a.q 1)+max (a.p 2) (a.q 2)<eC by omega)]
 cases a4
 ·rw [pg]
  refine bind_eq (it5 ha false eC _ _ W.length W) ?_
  simp only [jA,az,aq,bD,aa,bU,bE,aQ]
  refine bind_eq e10 ?_
  simp only []
  rw [if_pos trivial,if_pos trivial,if_pos trivial]
  exact bind_eq k11 rfl
 ·rw [Kr]
  refine bind_eq (it5 ha true eC _ _ W.length W) ?_
  simp only [jA,az,aq,bD,aa,bU,bE,aQ]
  refine bind_eq e10 ?_
  simp only []
  rw [if_pos trivial,if_pos trivial,if_pos trivial]
  exact bind_eq k11 rfl
end Go.Proofs.Tryz
end
