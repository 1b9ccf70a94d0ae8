/- Maps that are kept in order: what stands in them. Plain Lean. Messages: names, what is wrong with them. Books: telling, all messages in order. DeleteFunc, Clone, the keys of maps. The messages that count, and what they say of each other. Striking: what is struck, and what corrects it. A book's desk. The versions of a ticket. The versions of a ticket: walked. States and versions. Sums. Spans, sums, accounts. The examples: what works() and Known come to. Messages by numbers. Books that were told good messages. Joins; books that answer the same. TicketOrder. TicketOrder: the row. TicketKept. Ways up to a ticket. Struck, the chain, versions: walked. Ways up: what they say. The messages that count: the first of each id. TicketStates. TicketExact. TicketExact: what the ways say. A book that was told one message more. TicketRuled. -/
import Derived.Test.YthemjfloiapaaaaGreatW131
set_option linter.unusedSectionVars false
set_option linter.unusedVariables false
set_option linter.unusedSimpArgs false
section
namespace Go.AM
theorem iX {α : Type} {r : α → α → Prop} (irr : ∀ a, ¬ r a a) (asy : ∀ a b, r a b → ¬ r b a) : ∀ {l l' : List α}, l.Pairwise r → l'.Pairwise r → (∀ x, x ∈ l ↔ x ∈ l') → l = l'
 |[],[],_,_,_=>rfl
 |[],b::s,_,_,h=>by have:=(h b).2 (List.mem_cons_self ..);cases this
 |a::r',[],_,_,h=>by have:=(h a).1 (List.mem_cons_self ..);cases this
 |a::l,b::s,h1,h2,h=>by
  rw [List.pairwise_cons] at h1 h2
  have e:a=b:=by
   rcases List.mem_cons.1 ((h a).1 (List.mem_cons_self ..)) with e|ha
   ·exact e
   rcases List.mem_cons.1 ((h b).2 (List.mem_cons_self ..)) with e|hb
   ·exact e.symm
   ·exact absurd (h2.1 a ha) (asy _ _ (h1.1 b hb))
  subst e
  rw [iX irr asy h1.2 h2.2 fun x=>?_]
  constructor
  ·intro hx
   rcases List.mem_cons.1 ((h x).1 (List.mem_cons_of_mem _ hx)) with e|hx'
   ·subst e;exact absurd (h1.1 x hx) (irr x)
   ·exact hx'
  ·intro hx
   rcases List.mem_cons.1 ((h x).2 (List.mem_cons_of_mem _ hx)) with e|hx'
   ·subst e;exact absurd (h2.1 x hx) (irr x)
   ·exact hx'
section
variable {t:Ty} {ks:List Kd} {β:Type}
theorem jU (hk:bL t=some ks) {x:t.den}:dQ t x x=true:=kK x hk
theorem CS (hk:bL t=some ks) {x y:t.den}:dQ t x y=true↔x=y:=⟨bQ,fun h=>by subst h;exact jU hk⟩
theorem eW (hk:bL t=some ks) (x:t.den):ff t x x=false:=by
 cases h:ff t x x with
 |false=>rfl
 |true=>exact (de hk h h).elim
theorem WM (hk:bL t=some ks) {x y:t.den} (h:ff t x y=true):dQ t x y=false:=by
 cases h':dQ t x y with
 |false=>rfl
 |true=>rw [bQ h',eW hk] at h;cases h
def gX (t:Ty) (es:List (t.den×β)):Prop:=es.Pairwise fun a b=>ff t a.1 b.1=true
theorem gX.kd (hk:bL t=some ks) {es:List (t.den×β)} (h:gX t es):KD t es:=List.Pairwise.imp (fun h=>WM hk h) h
theorem FI {es:List (t.den×β)} {x:t.den} {v:β} {e:t.den×β}:e∈qb t es x v↔e=(x,v)\/e∈es:=by
 rw [jY.mem_iff];simp
theorem gX.mins (hk : bL t = some ks) {x : t.den} {v : β} : ∀ {es : List (t.den × β)}, gX t es → aT t es x = false → gX t (qb t es x v)
 |[],_,_=>by unfold gX;simp [qb]
 |e::r,h,hn=>by
  unfold gX at h
  rw [List.pairwise_cons] at h
  have hne:=tD hn (List.mem_cons_self ..)
  have hnr:aT t r x=false:=by simpa [aT,hne] using hn
  unfold qb
  split
  ·rename_i hlt
   unfold gX
   rw [List.pairwise_cons]
   refine ⟨fun b hb=>?_,List.pairwise_cons.2 h⟩
   rcases List.mem_cons.1 hb with rfl|hb
   ·exact hlt
   ·exact gQ hk hlt (h.1 b hb)
  ·rename_i hlt
   unfold gX
   rw [List.pairwise_cons]
   refine ⟨fun b hb=>?_,gX.mins hk h.2 hnr⟩
   rcases FI.1 hb with rfl|hb
   ·cases hlt':ff t e.1 x with
    |true=>rfl
    |false =>
     have:=fO hk (by simpa using hlt) hlt'
     rw [this,jU hk] at hne;cases hne
   ·exact h.1 b hb
theorem gX.iE (hk:bL t=some ks) {x:t.den} {v:β} {es:List (t.den×β)} (h:gX t es):gX t (bn t es x v):=by
 unfold bn
 split
 ·unfold gX
  rw [List.pairwise_map]
  refine List.Pairwise.imp ?_ h
  intro a b hab
  split<;>split
  ·rename_i h1 h2
   rw [<-bQ h1,<-bQ h2,eW hk] at hab;cases hab
  ·rename_i h1 h2
   rw [<-bQ h1] at hab;exact hab
  ·rename_i h1 h2
   rw [<-bQ h2] at hab;exact hab
  ·exact hab
 ·rename_i hn
  exact h.mins hk (by simpa using hn)
theorem dG (hk:bL t=some ks) {es:List (t.den×β)} {x:t.den}:aT t es x=true↔∃v,(x,v)∈es:=by
 unfold aT
 rw [List.any_eq_true]
 constructor
 ·rintro ⟨e,he,hx⟩;rw [bQ hx];exact ⟨e.2,he⟩
 ·rintro ⟨v,hv⟩;exact ⟨_,hv,jU hk⟩
theorem gw (hk:bL t=some ks) {es:List (t.den×β)} {x:t.den} {v d:β} (h:gX t es) (hm:(x,v)∈es):aA t d es x=v:=mZ (h.kd hk) hm (jU hk)
theorem fH (hk:bL t=some ks) {es:List (t.den×β)} {x:t.den} {v:β} (h:gX t es) {e:t.den×β}:e∈bn t es x v↔e=(x,v)\/(e∈es/\e.1≠x):=by
 unfold bn
 split
 ·rename_i hh
  obtain ⟨u,hu⟩:=(dG hk).1 hh
  rw [List.mem_map]
  constructor
  ·rintro ⟨e', he', rfl⟩
   split
   ·exact .inl rfl
   ·rename_i hne;exact .inr ⟨he',fun e=>hne (by rw [e];exact jU hk)⟩
  ·rintro (rfl | ⟨he, hne⟩)
   ·exact ⟨(x,u),hu,by simp [jU hk]⟩
   ·exact ⟨e,he,by rw [if_neg];intro h;exact hne (bQ h).symm⟩
 ·rename_i hh
  rw [FI]
  constructor
  ·rintro (h | h)
   ·exact .inl h
   ·refine .inr ⟨h, fun e' => hh ?_⟩
    rw [<-e'];exact (dG hk).2 ⟨_,h⟩
  ·rintro (h | h)
   ·exact .inl h
   ·exact .inr h.1
theorem Ni (hk:bL t=some ks) {es:List (t.den×β)} {x y:t.den} {v d:β} (h:gX t es):aA t d (bn t es x v) y=if dQ t y x=true then v else aA t d es y:=by
 have hc:=h.iE (x:=x) (v:=v) hk
 split
 ·rename_i e; have e := bQ e; subst e
  exact gw hk hc ((fH hk h).2 (.inl rfl))
 ·rename_i e0
  have e:y≠x:=fun h=>e0 ((CS hk).2 h)
  cases hm:aT t es y with
  |true =>
   obtain ⟨u,hu⟩:=(dG hk).1 hm
   rw [gw hk h hu]
   exact gw hk hc ((fH hk h).2 (.inr ⟨hu,e⟩))
  |false =>
   rw [gK hm,gK]
   cases hm':aT t (bn t es x v) y with
   |false=>rfl
   |true =>
    obtain ⟨u,hu⟩:=(dG hk).1 hm'
    rcases (fH hk h).1 hu with e'|⟨h',_⟩
    ·cases e';exact absurd rfl e
    ·rw [(dG hk).2 ⟨u,h'⟩] at hm;cases hm
theorem pP (hk:bL t=some ks) {es:List (t.den×β)} {x y:t.den} {v:β} (h:gX t es):aT t (bn t es x v) y=(dQ t y x||aT t es y):=by
 rw [Bool.eq_iff_iff,dG hk,Bool.or_eq_true,CS hk,dG hk]
 constructor
 ·rintro ⟨u, hu⟩
  rcases (fH hk h).1 hu with e|⟨h',_⟩
  ·cases e;exact .inl rfl
  ·exact .inr ⟨u,h'⟩
 ·by_cases e : y = x
  ·subst e;exact fun _=>⟨v,(fH hk h).2 (.inl rfl)⟩
  ·rintro (h' | ⟨u, hu⟩)
   ·exact absurd h' e
   ·exact ⟨u,(fH hk h).2 (.inr ⟨hu,e⟩)⟩
theorem Kv (hk:bL t=some ks) {es es':List (t.den×β)} (h:gX t es) (h':gX t es') (hm:∀e,e∈es↔e∈es'):es=es' :=
 iX (r:=fun a b:t.den×β=>ff t a.1 b.1=true) (fun a h=>by rw [eW hk] at h;cases h) (fun a b h1 h2=>de hk h1 h2) h h' hm
theorem gX.keys (hk:bL t=some ks) {es:List (t.den×β)} (h:gX t es):A2 t (es.map (·.1)):=by
 unfold A2
 rw [List.pairwise_map]
 refine List.Pairwise.imp (fun {a b} hab=>?_) h
 cases hba:ff t b.1 a.1 with
 |false=>rfl
 |true=>exact (de hk hab hba).elim
theorem gX.nil:gX (β:=β) t []:=List.Pairwise.nil
theorem RW {es:List (t.den×Bool)} (hk:bL t=some ks) (h:gX t es) (ht:∀e∈es,e.2=true) {x:t.den}:∀e∈bn t es x true,e.2=true:=fun e he=>by
 rcases (fH hk h).1 he with rfl|⟨h',_⟩
 ·rfl
 ·exact ht e h'
theorem RX {es:List (t.den×Bool)} (hk:bL t=some ks) (h:gX t es) (ht:∀e∈es,e.2=true) {x:t.den}:aA t false es x=aT t es x:=by
 cases hm:aT t es x with
 |false=>exact gK hm
 |true =>
  obtain ⟨u,hu⟩:=(dG hk).1 hm
  rw [gw hk h hu];exact ht _ hu
theorem RY (hk:bL t=some ks) {es es':List (t.den×Bool)} (h:gX t es) (h':gX t es') (ht:∀e∈es,e.2=true) (ht':∀e∈es',e.2=true) (hm:∀x,aT t es x=aT t es' x):es=es':=by
 refine Kv hk h h' fun e=>?_
 have key:∀{es es':List (t.den×Bool)},(∀e∈es,e.2=true)->(∀e∈es',e.2=true)->(∀x,aT t es x=aT t es' x)->e∈es->e∈es':=fun {es es'} ht ht' hm he=>by
  have h1:aT t es' e.1=true:=by rw [<-hm];exact (dG hk).2 ⟨e.2,he⟩
  obtain ⟨u,hu⟩:=(dG hk).1 h1
  have e1:=ht e he
  have e2:=ht' _ hu
  obtain ⟨a,b⟩:=e
  simp only at e1 e2;subst e1;subst e2;exact hu
 exact ⟨key ht ht' hm,key ht' ht fun x=>(hm x).symm⟩
end
end Go.AM
end
section
namespace Go.Proofs.Tryz
open Go.AM
set_option maxRecDepth 100000
abbrev Mg:=ByteArray×Int×ByteArray×ByteArray×Int
abbrev tM:Ty:=.prod .str (.prod (.int .i64) (.prod .str (.prod .str (.int .i64))))
abbrev kM:bL tM=some [.s,.i,.s,.s,.i]:=rfl
abbrev kS:bL .str=some [.s]:=rfl
theorem seq_eq (a b:ByteArray):seq a b=decide (a=b):=by
 unfold seq
 rw [Go.ByteArray.toList_eq,Go.ByteArray.toList_eq]
 by_cases h:a=b
 ·subst h;simp
 ·rw [decide_eq_false h, beq_eq_false_iff_ne]
  intro e;apply h
  obtain ⟨x⟩:=a;obtain ⟨y⟩:=b
  simp at e;rw [e]
theorem sJ (a b:ByteArray):dQ .str a b=decide (a=b):=by
 rw [<-seq_eq];simp only [dQ,seq,Go.ByteArray.toList_eq]
def nI (i:Nat) (b:Int):Bool:=decide (97<=b/\b<=122)||decide (i≠0/\48<=b/\b<=57)
def Kw : Nat → List Int → Bool
 |_,[]=>true
 |i,b::r=>nI i b&&Kw (i+1) r
def jB (s:ByteArray):Bool:=Kw 0 (fu s)&&decide (0<s.size/\s.size<=10)
theorem k65 (s:ByteArray) (hs:s.size<1000000000):ai (F65 s)=some (jB s,()):=by
 have hl:(fu s).length=s.size:=uQ s
 unfold F65
 simp only [ay,bf]
 refine bind_eq (aO (fu s) (fun k (_:Nat)=>(s,fu s,((fu s).length:Int),(k:Int),())) (fun i r=>if Kw i r=true then .inr (s,()) else .inl ()) (fun pre i=>i=pre.length) ?_ ?_ (s:=0) rfl) ?_
 ·intro pre x post i hx hi
  subst hi
  have hlen:(fu s).length=pre.length+(post.length+1):=by rw [hx];simp
  have hd:(fu s).getD pre.length 0=x:=by rw [hx];exact aR rfl
  have key:run (fun _=>none) (g65_0 (s,fu s,((fu s).length:Int),(pre.length:Int),()))=if nI pre.length x=true then some (.inl (s,fu s,((fu s).length:Int),((pre.length+1:Nat):Int),())) else some (.inr (.inl ())):=by
   simp only [g65_0,ah,aH,aG,aS,aa,Int.toNat_natCast,hd,aI,aY]
   rw [if_pos (by omega),Er (by omega) (by omega)]
   unfold nI;simp only [Bool.or_eq_true,decide_eq_true_eq]
   by_cases h1:x<97
   ·rw [if_pos h1]
    by_cases h2:(pre.length:Int)=0
    ·rw [if_pos h2,if_neg (by omega)]
    ·rw [if_neg h2]
     by_cases h3:x<48
     ·rw [if_pos h3,if_neg (by omega)]
     ·rw [if_neg h3]
      by_cases h4:57<x
      ·rw [if_pos h4,if_neg (by omega)]
      ·rw [if_neg h4, if_pos, r8 (by omega) (by omega)]; · rfl
       omega
   ·rw [if_neg h1]
    by_cases h5:122<x
    ·rw [if_pos h5]
     by_cases h2:(pre.length:Int)=0
     ·rw [if_pos h2,if_neg (by omega)]
     ·rw [if_neg h2]
      by_cases h3:x<48
      ·omega
      ·rw [if_neg h3,if_pos (by omega),if_neg (by omega)]
    ·rw [if_neg h5, if_pos, r8 (by omega) (by omega)]; · rfl
     omega
  rw [key]
  by_cases hb:nI pre.length x=true
  ·left
   exact ⟨pre.length+1,by rw [if_pos hb],by simp,by simp [Kw,hb]⟩
  ·right
   rw [if_neg hb]
   have:Kw pre.length (x::post)=false:=by simp [Kw,hb]
   simp [this]
 ·intro i _
  simp only [g65_0,ah,aI]
  rw [if_neg (by omega)]
  simp [Kw,aa]
 ·unfold jB
  by_cases h:Kw 0 (fu s)=true
  ·rw [if_pos h, h]
   simp only [jA,ah,aa,aI]
   by_cases h0:(0:Int)<((s.size:Nat):Int)
   ·rw [if_pos h0, Bool.true_and]
    congr 2
    exact decide_eq_decide.2 (by omega)
   ·rw [if_neg h0]
    simp;omega
  ·rw [if_neg h]
   simp [h,lX,aa]
def FJ (l:List Int):Int:=(l.find? (· != 0)).getD 0
theorem k86 (l:List Int) (hl:l.length<1000000000):ai (F86 l)=some (FJ l,()):=by
 unfold F86
 simp only [ay,bf]
 refine bind_eq (aO l (fun k (_:Nat)=>((0:Int),l,((l.length:Nat):Int),(k:Int),())) (fun i r=>if (r.find? (· != 0)).isSome then .inl (FJ r,()) else .inr (0,())) (fun pre i=>i=pre.length) ?_ ?_ (s:=0) rfl) ?_
 ·intro pre x post i hx hi
  subst hi
  have hlen:l.length=pre.length+(post.length+1):=by rw [hx];simp
  have hd:l.getD pre.length 0=x:=by rw [hx];exact aR rfl
  have hin:bR (pre.length:Int) (l.length:Int)=true:=aQ (by omega) (by omega)
  have hni:cN .i64 ((pre.length:Int)+1)=true:=aC (by omega) (by omega)
  by_cases h:x=0
  ·left
   refine ⟨pre.length+1,?_,by simp,by simp [h,FJ]⟩
   simp only [g86_0,ah,aH,aG,aa,Int.toNat_natCast,hd,aI,aY,bB,hin,hni,af]
   rw [if_pos (by omega),if_pos h];rfl
  ·right
   simp only [g86_0,ah,aH,aG,aa,Int.toNat_natCast,hd,aI,aY,bB,hin,hni,af]
   rw [if_pos (by omega),if_neg h]
   simp [h,FJ]
 ·intro i _
  simp only [g86_0,ah,aI]
  rw [if_neg (by omega)]
  simp [aa]
 ·cases h:(l.find? (· != 0)).isSome with
  |true=>rw [if_pos rfl];simp only [lX,aa]
  |false =>
   rw [if_neg (by simp)]
   have:FJ l=0:=by
    unfold FJ
    cases h':l.find? (· != 0) with
    |none=>rfl
    |some _=>rw [h'] at h;cases h
   rw [this];simp only [jA,aa]
def u7 (m:Mg):Int:=if m.2.1=1 then (if m.2.2.1=bs [] then 0 else 22) else if jB m.2.2.1=true then (if m.2.2.1=m.1 then 22 else 0) else 8
def qo (m:Mg):Int:=if m.2.1=3 then (if m.2.2.2.1=bs []/\m.2.2.2.2=0 then 0 else 22) else if jB m.2.2.2.1=true then (if -1000<=m.2.2.2.2/\m.2.2.2.2<=1000 then 0 else 2) else 8
def vD (m:Mg):Int:=if m.2.1<1\/3<m.2.1 then 18 else if jB m.1=true then FJ [u7 m,qo m] else 8
def Sh (s:ByteArray):Prop:=s.size<1000000000
def WN (m:Mg):Prop:=Sh m.1/\Sh m.2.2.1/\Sh m.2.2.2.1
theorem k87 (m:Mg) (h:WN m):ai (F87 m)=some (u7 m,()):=by
 unfold F87 u7
 simp only [ah,ay,aa,aY,k65 _ h.2.1,aF,bB,seq_eq,aI]
 split
 ·split<;>rfl
 ·rw [jM]
  split
  ·split<;>rfl
  ·rfl
theorem k88 (m:Mg) (h:WN m):ai (F88 m)=some (qo m,()):=by
 unfold F88 qo
 simp only [ah,ay,aa,aY,k65 _ h.2.2,aF,bB,seq_eq,aI]
 split
 ·by_cases h1 : m.2.2.2.1 = bs []
  ·by_cases h2:m.2.2.2.2=0<;>simp [h1,h2]
  ·simp [h1]
 ·rw [jM]
  split
  ·by_cases h1 : m.2.2.2.2 < -1000
   ·rw [if_pos h1,if_neg (by omega)]
   ·rw [if_neg h1]
    by_cases h2:1000<m.2.2.2.2
    ·rw [if_pos h2,if_neg (by omega)]
    ·rw [if_neg h2,if_pos (by omega)]
  ·rfl
theorem k55 (m:Mg) (h:WN m):ai (F55 m)=some (vD m,()):=by
 have h86:=k86 [u7 m,qo m] (by simp)
 unfold F55 vD
 simp only [ah,ay,aa,aI,k65 _ h.1,aF,bB,k87 m h,k88 m h]
 have hl:((u7 m::qo m::[]).drop 0).take 2=[u7 m,qo m]:=rfl
 simp only [hl,h86,aF]
 by_cases h1:m.2.1<1
 ·rw [if_pos h1,if_pos (.inl h1)]
 ·rw [if_neg h1]
  by_cases h2:3<m.2.1
  ·rw [if_pos h2,if_pos (.inr h2)]
  ·rw [if_neg h2, if_neg (by omega), jM]
   split<;>rfl
end Go.Proofs.Tryz
end
section
namespace Go.Proofs.Tryz
open Go.AM
set_option maxRecDepth 100000
def bk (L:List Mg):List (Mg×Bool):=L.map fun m=>(m,true)
def SL (L:List Mg):Prop:=L.Pairwise fun a b=>ff tM a b=true
theorem SL.can {L:List Mg} (h:SL L):gX tM (bk L):=by
 unfold gX bk;rw [List.pairwise_map];exact h
theorem bk_t {L:List Mg}:∀e∈bk L,e.2=true:=fun e he=>by
 obtain ⟨m,_,rfl⟩:=List.mem_map.1 he;rfl
theorem It {L:List Mg} {m:Mg} {b:Bool}:(m,b)∈bk L↔m∈L/\b=true:=by
 unfold bk;rw [List.mem_map]
 constructor
 ·rintro ⟨x,hx,h⟩;cases h;exact ⟨hx,rfl⟩
 ·rintro ⟨h,rfl⟩;exact ⟨m,h,rfl⟩
theorem Kx {L:List Mg}:(bk L).map (·.1)=L:=by simp [bk,List.map_map,Function.comp_def]
theorem CT {L:List Mg}:(bk L).length=L.length:=by simp [bk]
theorem aiu {es:List (Mg×Bool)} (h:∀e∈es,e.2=true):bk (es.map (·.1))=es:=by
 unfold bk;rw [List.map_map]
 conv=>rhs;rw [<-List.map_id es]
 refine List.map_congr_left fun e he=>?_
 obtain ⟨a,b⟩:=e
 have:=h _ he
 simp only at this;subst this;rfl
def iy (L:List Mg) (m:Mg):List Mg:=(bn tM (bk L) m true).map (·.1)
theorem ze {L:List Mg} (h:SL L) {m:Mg}:bk (iy L m)=bn tM (bk L) m true:=aiu (RW kM h.can bk_t)
theorem sK {L:List Mg} (h:SL L) {m x:Mg}:x∈iy L m↔x=m\/x∈L:=by
 have:x∈iy L m↔(x,true)∈bk (iy L m):=by rw [It];simp
 rw [this,ze h,fH kM h.can]
 constructor
 ·rintro (e | ⟨h1, h2⟩)
  ·cases e;exact .inl rfl
  ·exact .inr (It.1 h1).1
 ·by_cases e : x = m
  ·subst e;exact fun _=>.inl rfl
  ·rintro (e' | h')
   ·exact absurd e' e
   ·exact .inr ⟨It.2 ⟨h',rfl⟩,e⟩
theorem SL.ins {L:List Mg} (h:SL L) {m:Mg}:SL (iy L m):=by
 have:=h.can.iE (x:=m) (v:=true) kM
 rw [<-ze h] at this
 unfold gX bk at this;rw [List.pairwise_map] at this;exact this
theorem SL.ext {L L':List Mg} (h:SL L) (h':SL L') (hm:∀x,x∈L↔x∈L'):L=L' :=
 iX (fun a h=>by rw [eW kM] at h;cases h) (fun a b h1 h2=>de kM h1 h2) h h' hm
theorem FK {L:List Mg} {m:Mg}:(iy L m).length<=L.length+1:=by
 unfold iy bn
 rw [List.length_map]
 split
 ·simp [bk]
 ·rw [jY.length_eq];simp [bk]
theorem Ky {L:List Mg} (h:SL L) {m:Mg} (hm:m∈L):iy L m=L:=h.ins.ext h fun x=>by
 rw [sK h]
 constructor
 ·rintro (rfl | h')
  ·exact hm
  ·exact h'
 ·exact .inr
theorem CU (m:List (Mg×Bool)):ai (FH54 m)=some (false,m,()):=rfl
def gU (L:List Mg) (m:Mg):Int×List Mg:=if vD m=0 then (if 60<(iy L m).length then (15,L) else (0,iy L m)) else (vD m,L)
theorem g56 {mm m1:List (Mg×Bool)} {b3:List Mg} {n:Nat} {k:Nat} (hn:n=b3.length) (hb:n<1000000000) (hk:k<n) :
  ai (gH56_0 (n,((n:Nat):Int),(k:Int),mm,b3,m1,()))=some (.inl (n,((n:Nat):Int),((k+1:Nat):Int),bn tM mm (b3.getD k (bs [],(0:Int),bs [],bs [],(0:Int))) true,b3,m1,())):=by
 have hin:bR (k:Int) (n:Int)=true:=aQ (by omega) (by omega)
 have hni:cN .i64 ((k:Int)+1)=true:=aC (by omega) (by omega)
 simp only [gH56_0,ah,aH,aS,aG,aa,Int.toNat_natCast,Nat.zero_add,aI,hin,hni,af]
 rw [if_pos (by omega),b8 (by omega)]
 rfl
theorem g56e {mm m1:List (Mg×Bool)} {b3:List Mg} {n:Nat}:ai (gH56_0 (n,((n:Nat):Int),(n:Int),mm,b3,m1,()))=some (.inr (mm,m1,())):=by
 simp only [gH56_0,ah,aa,aI]
 rw [if_neg (by omega)]
theorem kH56 {L:List Mg} (h:SL L) (hl:L.length<=60) (m:Mg):ai (FH56 m.1 m.2.1 m.2.2.1 m.2.2.2.1 m.2.2.2.2 (bk L))=some (if 60<(iy L m).length then (15,bk L,()) else (0,bk (iy L m),())):=by
 have hit:iter (fun x=>ai (gH56_0 x)) ((1:Nat),((1:Nat):Int),(0:Int),bk L,[m],bk L,())=some (bk (iy L m),bk L,()):=by
  rw [ze h]
  exact oC (g56 (b3:=[m]) (n:=1) (k:=0) rfl (by omega) (by omega)) (jo g56e)
 unfold FH56
 simp only [ay,FH89,FH193,aa,aF,bf]
 refine bind_eq hit ?_
 simp only [ah,aa,aI,CT]
 by_cases hc:60<(iy L m).length
 ·rw [if_pos (by omega),if_pos hc]
 ·rw [if_neg (by omega),if_neg hc]
theorem kH20 {L:List Mg} (h:SL L) (hl:L.length<=60) {m:Mg} (hm:WN m):ai (FH20 m (bk L))=some ((gU L m).1,bk (gU L m).2,()):=by
 have h55:=k55 m hm
 unfold FH20
 simp only [ay,CU,aF,ah,aM]
 rw [ag (show ai (F55 (m.1,m.2.1,m.2.2.1,m.2.2.2.1,m.2.2.2.2))=_ from h55)]
 simp only [bB,aY]
 unfold gU
 by_cases hc:vD m=0
 ·rw [if_pos hc, if_pos hc]
  rw [ag (kH56 h hl m)]
  split<;>rfl
 ·rw [if_neg hc,if_neg hc];rfl
structure iH (L:List Mg):Prop where
 s:SL L
 len:L.length<=60
 vD:∀m∈L,vD m=0
theorem iH.nil:iH []:=⟨.nil,by simp,fun m h=>by cases h⟩
theorem iH.tell {L:List Mg} (h:iH L) (m:Mg):iH (gU L m).2:=by
 unfold gU
 split
 ·rename_i hc
  split
  ·exact h
  ·rename_i h60
   refine ⟨h.s.ins,by simp only;omega,fun x hx=>?_⟩
   rcases (sK h.s).1 hx with rfl|hx
   ·exact hc
   ·exact h.vD x hx
 ·exact h
def sL (l:List Mg):List Mg:=l.foldl (fun L m=>(gU L m).2) []
theorem iH.fold {L : List Mg} (h : iH L) : ∀ l : List Mg, iH (l.foldl (fun L m => (gU L m).2) L)
 |[]=>h
 |m::l=>iH.fold (h.tell m) l
theorem iH.told (l:List Mg):iH (sL l):=iH.nil.fold l
theorem RZ {l:List Mg} (hl:l.length<1000000000) (hs:∀m∈l,WN m):ai (FH29 l)=some (bk (sL l),()):=by
 unfold FH29
 simp only [ay,FH18,aa,aF,bf]
 refine bind_eq (aO l (fun k (L:List Mg)=>(l,(k:Int),bk L,())) (fun L r=>(bk (r.foldl (fun L m=>(gU L m).2) L),())) (fun _ L=>iH L) ?_ ?_ (s:=[]) iH.nil) rfl
 ·intro pre x post L hx hL
  have hlen:l.length=pre.length+(post.length+1):=by rw [hx];simp
  have hd:l.getD pre.length (bs [],(0:Int),bs [],bs [],(0:Int))=x:=by rw [hx];exact aR rfl
  have hin:bR (pre.length:Int) (l.length:Int)=true:=aQ (by omega) (by omega)
  have hni:cN .i64 ((pre.length:Int)+1)=true:=aC (by omega) (by omega)
  left
  refine ⟨(gU L x).2,?_,hL.tell x,rfl⟩
  simp only [gH29_0,ah,aH,aG,aa,ay,Int.toNat_natCast,aI,hin,hni,af]
  rw [if_pos (by omega)]
  have hk:=kH20 hL.s hL.len (hs x (by rw [hx];simp))
  rw [hd]
  rw [ag (show ai (FH20 (x.1,x.2.1,x.2.2.1,x.2.2.2.1,x.2.2.2.2) (bk L))=_ from hk)]
  rfl
 ·intro L _
  simp only [gH29_0,ah,aa,aI]
  rw [if_neg (by omega)]
  rfl
theorem FL {E A : Type} {step : E → A → Option A} (f : A → E → A) (I : A → Prop) : ∀ (l : List E) (x : A), I x → (∀ e ∈ l, ∀ x, I x → step e x = some (f x e) ∧ I (f x e)) → AF step l x = some (l.foldl f x) ∧ I (l.foldl f x)
 |[],x,hx,_=>⟨rfl,hx⟩
 |e::l,x,hx,h=>by
  obtain ⟨h1,h2⟩:=h e (List.mem_cons_self ..) x hx
  obtain ⟨h3,h4⟩:=FL f I l (f x e) h2 fun e he=>h e (List.mem_cons_of_mem _ he)
  exact ⟨by simp only [AF,h1];exact h3,h4⟩
theorem sM {K V M : Type} {step : K × V → M × Nat × List K × Unit → Option (M × Nat × List K × Unit)} {m : M} {l : List (K × V)} (hl : l.length < 1000000000)
  (h:∀e n b,n<1000000000->step e (m,n,b,())=some (m,n+1,(b.drop 0).take n++[e.1],())):AF step l (m,0,[],())=some (m,l.length,l.map (·.1),()):=by
 have key:∀(l:List (K×V)) (b:List K),b.length+l.length<1000000000->AF step l (m,b.length,b,())=some (m,b.length+l.length,b++l.map (·.1),()):=by
  intro l
  induction l with
  |nil=>intro b _;simp [AF]
  |cons e l ih =>
   intro b hb
   simp only [List.length_cons] at hb
   simp only [AF,h e b.length b (by omega)]
   have:=ih (b++[e.1]) (by simp;omega)
   simp only [List.drop_zero,List.take_length]
   rw [List.length_append,List.length_singleton] at this
   rw [this]
   simp only [List.length_cons,List.map_cons,List.append_assoc,List.singleton_append]
   congr 3
   omega
 have:=key l [] (by simpa using hl)
 simpa using this
theorem oW {t:Ty} {ks:List Kd} (hk:bL t=some ks) {l s:List t.den} (hp:s.Perm l) (hs:A2 t s) (hl:l.length<1000000000):vp t l l.length=some (s,()):=by
 unfold vp
 rw [if_pos ⟨Nat.le_refl _,by rw [cL];omega⟩,List.take_length,List.drop_length,List.append_nil,sj hk hp hs]
theorem SL.srt {L:List Mg} (h:SL L):A2 tM L:=by
 have:=h.can.keys kM
 rwa [Kx] at this
theorem kH83 {L:List Mg} (h:SL L) (hl:L.length<1000000000):ai (FH83 (bk L))=some (L.length,L,bk L,()):=by
 unfold FH83
 refine Eq.trans Co (gO fun l hp=>?_)
 have zy:l.length=L.length:=by rw [hp.length_eq,CT]
 simp only [ay,Cp]
 refine bind_eq (sM (m:=bk L) (l:=l) (by rw [zy];exact hl) fun e n b hn=>?_) ?_
 ·simp only [gH83f109f128_0i_0, aS, aa, dL, af]
  rw [b8 (show _<bp by rw [cL];simp;omega)]
  rfl
 ·simp only [FH110, yj]
  have hpk:L.Perm (l.map (·.1)):=by
   have:=(hp.map (·.1)).symm
   rwa [Kx] at this
  have:=oW kM hpk h.srt (by rw [List.length_map];omega)
  rw [List.length_map] at this
  rw [ag this,zy]
  rfl
theorem R1 {L:List Mg} (h:SL L) (hl:L.length<1000000000):ai (FH47 (bk L))=some (L.length,L,bk L,()):=by
 unfold FH47
 simp only [ay,CU,aF,ah,aM,FH84,aa]
 rw [ag (kH83 h hl)]
end Go.Proofs.Tryz
end
section
namespace Go.Proofs.Tryz
open Go.AM
set_option maxRecDepth 100000
abbrev Bf:=List (ByteArray×Mg)
abbrev Gi:=List (ByteArray×List ByteArray)
abbrev gh:=List (ByteArray×Bool)
theorem kH98 {l:List ByteArray} (hl:l.length<1000000000):ai (FH98 l)=some (l.length,l,()):=by
 simp only [FH98,ah,aag,aS,aa,aY]
 rw [EF (by omega)]
 split
 ·have : l = [] := List.length_eq_zero_iff.1 (by omega)
  subst this
  simp only [List.length_nil,List.drop_nil,List.take_nil,List.append_nil,Nat.add_zero]
  exact Ls
 ·simp
def eR (del : ByteArray → Bool) : Nat → List ByteArray → Option Nat
 |_,[]=>none
 |k,x::r=>if del x=true then some k else eR del (k+1) r
theorem lM (del : ByteArray → Bool) : ∀ (l : List ByteArray) (k : Nat), (∃ p x q, l = p ++ x :: q ∧ (∀ c ∈ p, del c = false) ∧ del x = true ∧ eR del k l = some (k + p.length)) ∨ ((∀ c ∈ l, del c = false) ∧ eR del k l = none)
 |[],k=>.inr ⟨by simp,rfl⟩
 |y::l,k=>by
  by_cases h:del y=true
  ·left
   exact ⟨[],y,l,rfl,by simp,h,by simp [eR,h]⟩
  ·rcases lM del l (k + 1) with ⟨p, x, q, h1, h2, h3, h4⟩ | ⟨h1, h2⟩
   ·left
    refine ⟨y::p,x,q,by rw [h1];rfl,fun c hc=>?_,h3,?_⟩
    ·rcases List.mem_cons.1 hc with rfl | hc
     ·simpa using h
     ·exact h2 c hc
    ·unfold eR;rw [if_neg h,h4,List.length_cons,show k+1+p.length=k+(p.length+1) by omega]
   ·right
    refine ⟨fun c hc=>?_,by unfold eR;rw [if_neg h,h2]⟩
    rcases List.mem_cons.1 hc with rfl|hc
    ·simpa using h
    ·exact h1 c hc
theorem sN {del:ByteArray->Bool} {l:List ByteArray} (h:∀c∈l,del c=false):l.filter (fun c => !del c)=l:=List.filter_eq_self.2 fun c hc=>by rw [h c hc];rfl
section
variable {m3:Bf} {m4:Gi} {m5 m6:gh}
theorem kH99 (v:ByteArray):ai (FH99 v m3 m4 m5 m6)=some (!(aA .str false m5 v),m3,m4,m5,m6,()):=rfl
theorem aiy {l:List ByteArray} (hl:l.length<1000000000):ai (FH119 l.length l m3 m4 m5 m6)=some ((match eR (fun v => !(aA .str false m5 v)) 0 l with|some k=>((k:Nat):Int)|none => -1),m3,m4,m5,m6,l,()):=by
 have hi := aO (f := fun a => run (fun _ => none) (gH119_0 a)) l (fun k (_ : Nat) => (l.length, ((l.length : Nat) : Int), (k : Int), l, m3, m4, m5, m6, ())) (fun k r => match eR (fun v => !(aA .str false m5 v)) k r with | some k => .inl (((k : Nat) : Int), m3, m4, m5, m6, l, ()) | none => .inr (m3, m4, m5, m6, l, ())) (fun pre k => k = pre.length) (by
  rintro pre x post k hx rfl
  have hlen:l.length=pre.length+(post.length+1):=by rw [hx];simp
  have hd:l.getD pre.length (bs [])=x:=by rw [hx];exact aR rfl
  have i1:bR (pre.length:Int) ((l.length:Nat):Int)=true:=aQ (by omega) (by omega)
  have r1:cN .i64 ((pre.length:Int)+1)=true:=aC (by omega) (by omega)
  have d1:decide (pre.length<l.length)=true:=decide_eq_true (by omega)
  simp only [gH119_0,ah,ay,aH,aS,aG,aa,Int.toNat_natCast,Nat.zero_add,hd,kH99,aF,i1,r1,d1,af,aI]
  rw [if_pos (by omega)]
  by_cases h:(!(aA .str false m5 x))=true
  ·right;rw [h,bt];simp only [eR,h,if_true]
  ·left
   refine ⟨pre.length+1,?_⟩
   rw [Hi (by simpa using h)]
   refine ⟨rfl,by simp,?_⟩
   simp only [eR,h,if_false];rfl) (by
  rintro k _
  simp only [gH119_0,ah,aI,aa]
  rw [if_neg (by omega)];rfl) (s:=0) rfl
 simp only [FH119,ay,bf]
 refine bind_eq hi ?_
 split<;>rfl
theorem kH97 {l:List ByteArray} (hl:l.length<1000000000):∃b,b.length=l.length/\b.take (l.filter fun v => !(!(aA .str false m5 v))).length=l.filter (fun v => !(!(aA .str false m5 v)))/\ai (FH97 l.length l m3 m4 m5 m6)=some (0,(l.filter fun v => !(!(aA .str false m5 v))).length,b,m3,m4,m5,m6,()):=by
 have acw:=aiy (m3:=m3) (m4:=m4) (m5:=m5) (m6:=m6) hl
 simp only [FH97,ay,bf,ah,aa,aG,aS,aY]
 rw [ag acw]
 rcases lM (fun v => !(aA .str false m5 v)) l 0 with ⟨p,x,q,h1,h2,h3,h4⟩|⟨h1,h2⟩
 case inr =>
  rw [h2]
  simp only [if_true]
  rw [sN h1]
  exact ⟨l,rfl,List.take_length ..,rfl⟩
 rw [h4]
 simp only [Nat.zero_add]
 have hlen:l.length=p.length+(q.length+1):=by rw [h1];simp
 rw [if_neg (by omega),r8 (by omega) (by omega)]
 have hk:l.filter (fun v => !(!(aA .str false m5 v)))=p++q.filter fun v => !(!(aA .str false m5 v)):=by
  have e1:=sN h2
  have e2:(x::q).filter (fun v => !(!(aA .str false m5 v)))=q.filter fun v => !(!(aA .str false m5 v)):=by rw [List.filter_cons_of_neg];simpa using h3
  rw [h1,List.filter_append,e2]
  rw [show p.filter (fun v => !(!(aA .str false m5 v)))=p from e1]
 obtain ⟨res, hres, m, b, rfl, hb, hm, ht⟩ := dF (step := fun a => run (fun _ => none) (gH97_0 a)) q.length
  (fun k x=>∃(i:Nat) (b:List ByteArray),x=(l.length,(i:Int),((p.length+1+k:Nat):Int),b,m3,m4,m5,m6,())/\b.length=l.length/\i<=p.length+k/\b.take i=p++(q.take k).filter (fun v => !(!(aA .str false m5 v)))/\b.drop (p.length+1+k)=q.drop k)
  (fun r => ∃ (m : Nat) (b : List ByteArray), r = (l.length, (m : Int), b, m3, m4, m5, m6, ()) ∧ b.length = l.length ∧ m ≤ l.length ∧ b.take m = p ++ q.filter fun v => !(!(aA .str false m5 v))) (by
   rintro k _ hk ⟨i,b,rfl,hb,hi,ht,hd⟩
   have hx:b.getD (p.length+1+k) (bs [])=q.getD k (bs []):=by
    have:=congrArg (fun l=>l.getD 0 (bs [])) hd
    simpa [List.getD_eq_getElem?_getD] using this
   have hqk:q.take (k+1)=q.take k++[q.getD k (bs [])]:=by
    rw [List.take_succ_eq_append_getElem hk];simp [List.getD_eq_getElem?_getD,List.getElem?_eq_getElem hk]
   generalize q.getD k (bs [])=y at hx hqk
   have i1:bR ((p.length+1+k:Nat):Int) ((l.length:Nat):Int)=true:=aQ (by omega) (by omega)
   have i2:bR (i:Int) ((l.length:Nat):Int)=true:=aQ (by omega) (by omega)
   have d1:decide (p.length+1+k<b.length)=true:=decide_eq_true (by omega)
   have d2:decide (i<b.length)=true:=decide_eq_true (by omega)
   have r1:cN .i64 ((i:Int)+1)=true:=aC (by omega) (by omega)
   have r2:cN .i64 (((p.length+1+k:Nat):Int)+1)=true:=aC (by omega) (by omega)
   simp only [gH97_0,ah,ay,aH,aS,aG,aa,Int.toNat_natCast,Nat.zero_add,hx,kH99,aF,i1,i2,d1,d2,r1,r2,af,aI]
   rw [if_pos (by omega)]
   by_cases hy:(!(aA .str false m5 y))=true
   ·refine ⟨_, by rw [Hi (by rw [hy]; rfl)], i, b, by rw [show ((p.length + 1 + (k + 1) : Nat) : Int) = ((p.length + 1 + k : Nat) : Int) + 1 by omega], hb, by omega, ?_, ?_⟩
    ·rw [ht,hqk,List.filter_append,List.filter_cons_of_neg (by rw [hy];simp)];simp
    ·have := congrArg (List.drop 1) hd
     simpa [List.drop_drop,Nat.add_assoc] using this
   ·refine ⟨_, by rw [Pz (by rw [Bool.eq_false_iff.2 hy]; rfl)], i + 1, b.set i y, by rw [show ((p.length + 1 + (k + 1) : Nat) : Int) = ((p.length + 1 + k : Nat) : Int) + 1 by omega, show ((i + 1 : Nat) : Int) = (i : Int) + 1 by omega], by simp [hb], by omega, ?_, ?_⟩
    ·have e:(b.set i y).take (i+1)=b.take i++[y]:=by
      rw [List.take_succ_eq_append_getElem (by simp;omega)]
      simp [List.take_set_of_le]
     rw [e,ht,hqk,List.filter_append,List.filter_cons_of_pos (by simpa using hy)];simp
    ·have := congrArg (List.drop 1) hd
     rw [List.drop_set_of_lt (by omega)]
     simpa [List.drop_drop,Nat.add_assoc] using this) (by
   rintro _ ⟨i,b,rfl,hb,hi,ht,hd⟩
   simp only [gH97_0,ah,aa,aI]
   rw [if_neg (by omega)]
   exact ⟨_,rfl,i,b,rfl,hb,by omega,by rw [ht,List.take_length]⟩) (x:=(l.length,(p.length:Int),(p.length:Int)+1,l,m3,m4,m5,m6,())) ⟨p.length,l,by simp,rfl,by omega,by rw [h1];simp,by rw [h1];simp⟩
 rw [ag hres]
 have hml:m=(l.filter fun v => !(!(aA .str false m5 v))).length:=by rw [hk,<-ht,List.length_take];omega
 simp only [Int.toNat_natCast,Nat.zero_add,Bs,Int.toNat_zero,Nat.sub_zero]
 rw [b8 (by omega),b8 (by omega),b8 (by omega),b8 (by omega),b8 (by omega),b8 (by omega)]
 refine ⟨b.take m++List.replicate (l.length - m) (bs [])++b.drop (m+(l.length - m)),?_,?_,by rw [<-hml]⟩
 ·simp only [List.length_append,List.length_take,List.length_replicate,List.length_drop];omega
 ·rw [<-hml,List.take_append_of_le_length (by simp;omega),List.take_append_of_le_length (by simp;omega),List.take_take,Nat.min_self,ht,hk]
theorem Y5 (v:ByteArray):ai (FH123 v m3 m4 m5 m6)=some (aA .str false m6 v,m3,m4,m5,m6,()):=rfl
theorem R2 {l:List ByteArray} (hl:l.length<1000000000):ai (FH119_v1 l.length l m3 m4 m5 m6)=some ((match eR (fun v=>aA .str false m6 v) 0 l with|some k=>((k:Nat):Int)|none => -1),m3,m4,m5,m6,l,()):=by
 have hi := aO (f := fun a => run (fun _ => none) (gH119_v1_0 a)) l (fun k (_ : Nat) => (l.length, ((l.length : Nat) : Int), (k : Int), l, m3, m4, m5, m6, ())) (fun k r => match eR (fun v => aA .str false m6 v) k r with | some k => .inl (((k : Nat) : Int), m3, m4, m5, m6, l, ()) | none => .inr (m3, m4, m5, m6, l, ())) (fun pre k => k = pre.length) (by
  rintro pre x post k hx rfl
  have hlen:l.length=pre.length+(post.length+1):=by rw [hx];simp
  have hd:l.getD pre.length (bs [])=x:=by rw [hx];exact aR rfl
  have i1:bR (pre.length:Int) ((l.length:Nat):Int)=true:=aQ (by omega) (by omega)
  have r1:cN .i64 ((pre.length:Int)+1)=true:=aC (by omega) (by omega)
  have d1:decide (pre.length<l.length)=true:=decide_eq_true (by omega)
  simp only [gH119_v1_0,ah,ay,aH,aS,aG,aa,Int.toNat_natCast,Nat.zero_add,hd,Y5,aF,i1,r1,d1,af,aI]
  rw [if_pos (by omega)]
  by_cases h:(aA .str false m6 x)=true
  ·right;rw [h,bt];simp only [eR,h,if_true]
  ·left
   refine ⟨pre.length+1,?_⟩
   rw [Hi (by simpa using h)]
   refine ⟨rfl,by simp,?_⟩
   simp only [eR,h,if_false];rfl) (by
  rintro k _
  simp only [gH119_v1_0,ah,aI,aa]
  rw [if_neg (by omega)];rfl) (s:=0) rfl
 simp only [FH119_v1,ay,bf]
 refine bind_eq hi ?_
 split<;>rfl
theorem WO {l:List ByteArray} (hl:l.length<1000000000):∃b,b.length=l.length/\b.take (l.filter fun v => !(aA .str false m6 v)).length=l.filter (fun v => !(aA .str false m6 v))/\ai (FH97_v1 l.length l m3 m4 m5 m6)=some (0,(l.filter fun v => !(aA .str false m6 v)).length,b,m3,m4,m5,m6,()):=by
 have acw:=R2 (m3:=m3) (m4:=m4) (m5:=m5) (m6:=m6) hl
 simp only [FH97_v1,ay,bf,ah,aa,aG,aS,aY]
 rw [ag acw]
 rcases lM (fun v=>aA .str false m6 v) l 0 with ⟨p,x,q,h1,h2,h3,h4⟩|⟨h1,h2⟩
 case inr =>
  rw [h2]
  simp only [if_true]
  rw [sN h1]
  exact ⟨l,rfl,List.take_length ..,rfl⟩
 rw [h4]
 simp only [Nat.zero_add]
 have hlen:l.length=p.length+(q.length+1):=by rw [h1];simp
 rw [if_neg (by omega),r8 (by omega) (by omega)]
 have hk:l.filter (fun v => !(aA .str false m6 v))=p++q.filter fun v => !(aA .str false m6 v):=by
  have e1:=sN h2
  have e2:(x::q).filter (fun v => !(aA .str false m6 v))=q.filter fun v => !(aA .str false m6 v):=by rw [List.filter_cons_of_neg];simpa using h3
  rw [h1,List.filter_append,e2]
  rw [show p.filter (fun v => !(aA .str false m6 v))=p from e1]
 obtain ⟨res, hres, m, b, rfl, hb, hm, ht⟩ := dF (step := fun a => run (fun _ => none) (gH97_v1_0 a)) q.length
  (fun k x=>∃(i:Nat) (b:List ByteArray),x=(l.length,(i:Int),((p.length+1+k:Nat):Int),b,m3,m4,m5,m6,())/\b.length=l.length/\i<=p.length+k/\b.take i=p++(q.take k).filter (fun v => !(aA .str false m6 v))/\b.drop (p.length+1+k)=q.drop k)
  (fun r => ∃ (m : Nat) (b : List ByteArray), r = (l.length, (m : Int), b, m3, m4, m5, m6, ()) ∧ b.length = l.length ∧ m ≤ l.length ∧ b.take m = p ++ q.filter fun v => !(aA .str false m6 v)) (by
   rintro k _ hk ⟨i,b,rfl,hb,hi,ht,hd⟩
   have hx:b.getD (p.length+1+k) (bs [])=q.getD k (bs []):=by
    have:=congrArg (fun l=>l.getD 0 (bs [])) hd
    simpa [List.getD_eq_getElem?_getD] using this
   have hqk:q.take (k+1)=q.take k++[q.getD k (bs [])]:=by
    rw [List.take_succ_eq_append_getElem hk];simp [List.getD_eq_getElem?_getD,List.getElem?_eq_getElem hk]
   generalize q.getD k (bs [])=y at hx hqk
   have i1:bR ((p.length+1+k:Nat):Int) ((l.length:Nat):Int)=true:=aQ (by omega) (by omega)
   have i2:bR (i:Int) ((l.length:Nat):Int)=true:=aQ (by omega) (by omega)
   have d1:decide (p.length+1+k<b.length)=true:=decide_eq_true (by omega)
   have d2:decide (i<b.length)=true:=decide_eq_true (by omega)
   have r1:cN .i64 ((i:Int)+1)=true:=aC (by omega) (by omega)
   have r2:cN .i64 (((p.length+1+k:Nat):Int)+1)=true:=aC (by omega) (by omega)
   simp only [gH97_v1_0,ah,ay,aH,aS,aG,aa,Int.toNat_natCast,Nat.zero_add,hx,Y5,aF,i1,i2,d1,d2,r1,r2,af,aI]
   rw [if_pos (by omega)]
   by_cases hy:(aA .str false m6 y)=true
   ·refine ⟨_, by rw [Hi (by rw [hy]; rfl)], i, b, by rw [show ((p.length + 1 + (k + 1) : Nat) : Int) = ((p.length + 1 + k : Nat) : Int) + 1 by omega], hb, by omega, ?_, ?_⟩
    ·rw [ht,hqk,List.filter_append,List.filter_cons_of_neg (by rw [hy];simp)];simp
    ·have := congrArg (List.drop 1) hd
     simpa [List.drop_drop,Nat.add_assoc] using this
   ·refine ⟨_, by rw [Pz (by rw [Bool.eq_false_iff.2 hy]; rfl)], i + 1, b.set i y, by rw [show ((p.length + 1 + (k + 1) : Nat) : Int) = ((p.length + 1 + k : Nat) : Int) + 1 by omega, show ((i + 1 : Nat) : Int) = (i : Int) + 1 by omega], by simp [hb], by omega, ?_, ?_⟩
    ·have e:(b.set i y).take (i+1)=b.take i++[y]:=by
      rw [List.take_succ_eq_append_getElem (by simp;omega)]
      simp [List.take_set_of_le]
     rw [e,ht,hqk,List.filter_append,List.filter_cons_of_pos (by simpa using hy)];simp
    ·have := congrArg (List.drop 1) hd
     rw [List.drop_set_of_lt (by omega)]
     simpa [List.drop_drop,Nat.add_assoc] using this) (by
   rintro _ ⟨i,b,rfl,hb,hi,ht,hd⟩
   simp only [gH97_v1_0,ah,aa,aI]
   rw [if_neg (by omega)]
   exact ⟨_,rfl,i,b,rfl,hb,by omega,by rw [ht,List.take_length]⟩) (x:=(l.length,(p.length:Int),(p.length:Int)+1,l,m3,m4,m5,m6,())) ⟨p.length,l,by simp,rfl,by omega,by rw [h1];simp,by rw [h1];simp⟩
 rw [ag hres]
 have hml:m=(l.filter fun v => !(aA .str false m6 v)).length:=by rw [hk,<-ht,List.length_take];omega
 simp only [Int.toNat_natCast,Nat.zero_add,Bs,Int.toNat_zero,Nat.sub_zero]
 rw [b8 (by omega),b8 (by omega),b8 (by omega),b8 (by omega),b8 (by omega),b8 (by omega)]
 refine ⟨b.take m++List.replicate (l.length - m) (bs [])++b.drop (m+(l.length - m)),?_,?_,by rw [<-hml]⟩
 ·simp only [List.length_append,List.length_take,List.length_replicate,List.length_drop];omega
 ·rw [<-hml,List.take_append_of_le_length (by simp;omega),List.take_append_of_le_length (by simp;omega),List.take_take,Nat.min_self,ht,hk]
end
end Go.Proofs.Tryz
end
section
namespace Go.Proofs.Tryz
open Go.AM
set_option maxRecDepth 100000
abbrev zM:Mg:=(bs [],(0:Int),bs [],bs [],(0:Int))
def jC (es:Bf) (m:Mg):Bf:=if aT .str es m.1=true then es else bn .str es m.1 m
def qp (L:List Mg):Bf:=L.foldl jC []
def cnt (L:List Mg):List Mg:=(qp L).map (·.2)
theorem zf {es:Bf} (h:gX .str es) (m:Mg):gX .str (jC es m):=by
 unfold jC;split
 ·exact h
 ·exact h.iE kS
theorem zg : ∀ {L : List Mg} {es : Bf}, gX .str es → gX .str (L.foldl jC es)
 |[],_,h=>h
 |m::L,es,h=>zg (L:=L) (es:=jC es m) (zf h m)
theorem Nj (L:List Mg):gX .str (qp L):=zg .nil
theorem zi : ∀ {L : List Mg} {es : Bf} {e : ByteArray × Mg}, gX .str es → (e ∈ L.foldl jC es ↔ e ∈ es ∨ (aT .str es e.1 = false ∧ ∃ pre post, L = pre ++ e.2 :: post ∧ e.2.1 = e.1 ∧ ∀ x ∈ pre, x.1 ≠ e.1))
 |[],es,e,_=>by simp
 |m::L,es,e,h=>by
  rw [List.foldl_cons,zi (zf h m)]
  have hs:jC es m=es/\aT .str es m.1=true\/jC es m=bn .str es m.1 m/\aT .str es m.1=false:=by
   unfold jC
   cases hm:aT .str es m.1
   ·right;simp
   ·left;simp
  rcases hs with ⟨hs,hm⟩|⟨hs,hm⟩
  ·rw [hs]
   refine or_congr_right ?_
   constructor
   ·rintro ⟨h1, pre, post, rfl, h2, h3⟩
    refine ⟨h1,m::pre,post,rfl,h2,fun x hx=>?_⟩
    rcases List.mem_cons.1 hx with rfl|hx
    ·intro e';rw [e'] at hm;rw [hm] at h1;cases h1
    ·exact h3 x hx
   ·rintro ⟨h1, pre, post, h2, h3, h4⟩
    cases pre with
    |nil =>
     simp only [List.nil_append,List.cons.injEq] at h2
     rw [h2.1] at hm;rw [h3] at hm;rw [hm] at h1;cases h1
    |cons p pre =>
     simp only [List.cons_append,List.cons.injEq] at h2
     exact ⟨h1,pre,post,h2.2,h3,fun x hx=>h4 x (List.mem_cons_of_mem _ hx)⟩
  ·rw [hs, fH kS h, pP kS h]
   have hk:∀{v:Mg},(m.1,v)∉es:=fun {v} hv=>by rw [(dG kS).2 ⟨v,hv⟩] at hm;cases hm
   constructor
   ·rintro ((h1 | ⟨h1, _⟩) | ⟨h1, pre, post, rfl, h2, h3⟩)
    ·subst h1
     exact .inr ⟨hm,[],L,rfl,rfl,by simp⟩
    ·exact .inl h1
    ·simp only [Bool.or_eq_false_iff] at h1
     have hne:e.1≠m.1:=fun e'=>by have:=h1.1;rw [e',jU kS] at this;cases this
     refine .inr ⟨h1.2,m::pre,post,rfl,h2,fun x hx=>?_⟩
     rcases List.mem_cons.1 hx with rfl|hx
     ·exact Ne.symm hne
     ·exact h3 x hx
   ·rintro (h1 | ⟨h1, pre, post, h2, h3, h4⟩)
    ·refine .inl (.inr ⟨h1, fun e' => ?_⟩)
     obtain ⟨a,b⟩:=e
     simp only at e';subst e';exact hk h1
    ·cases pre with
     |nil =>
      simp only [List.nil_append,List.cons.injEq] at h2
      obtain ⟨a,b⟩:=e
      simp only at h2 h3
      exact .inl (.inl (by rw [<-h3,h2.1]))
     |cons p pre =>
      simp only [List.cons_append,List.cons.injEq] at h2
      have hne:e.1≠m.1:=fun e'=>by
       have:=h4 p (List.mem_cons_self ..)
       rw [<-h2.1,e'] at this;exact this rfl
      refine .inr ⟨?_,pre,post,h2.2,h3,fun x hx=>h4 x (List.mem_cons_of_mem _ hx)⟩
      rw [Bool.or_eq_false_iff]
      refine ⟨?_,h1⟩
      cases hd:dQ .str e.1 m.1 with
      |false=>rfl
      |true=>exact absurd (bQ hd) hne
theorem uq {L:List Mg} {e:ByteArray×Mg}:e∈qp L↔∃pre post,L=pre++e.2::post/\e.2.1=e.1/\∀x∈pre,x.1≠e.1:=by
 unfold qp
 rw [zi .nil]
 simp [aT]
theorem FM {L:List Mg} {e:ByteArray×Mg} (h:e∈qp L):e.2.1=e.1:=by
 obtain ⟨_,_,_,h,_⟩:=uq.1 h;exact h
theorem FN (L:List Mg):qp L=(cnt L).map fun m=>(m.1,m):=by
 unfold cnt
 rw [List.map_map]
 conv=>lhs;rw [<-List.map_id (qp L)]
 refine List.map_congr_left fun e he=>?_
 have:=FM he
 obtain ⟨a,b⟩:=e
 simp only at this;subst this;rfl
theorem KA {L:List Mg} {m:Mg}:m∈cnt L↔(m.1,m)∈qp L:=by
 unfold cnt
 rw [List.mem_map]
 constructor
 ·rintro ⟨e, he, rfl⟩
  have:=FM he
  obtain ⟨a,b⟩:=e
  simp only at this;subst this;exact he
 ·intro h;exact ⟨_,h,rfl⟩
def SI (c:List Mg):Prop:=c.Pairwise fun a b=>slt a.1 b.1=true
theorem eS (L:List Mg):SI (cnt L):=by
 have h:=Nj L
 rw [FN] at h
 unfold gX at h;rw [List.pairwise_map] at h;exact h
theorem SI.cam {c:List Mg} (h:SI c):gX .str (c.map fun m=>(m.1,m)):=by
 unfold gX;rw [List.pairwise_map];exact h
theorem SI.inj {c:List Mg} (h:SI c) {m m':Mg} (hm:m∈c) (hm':m'∈c) (e:m.1=m'.1):m=m':=by
 have h1:=gw (d:=zM) kS h.cam (List.mem_map.2 ⟨m,hm,rfl⟩)
 have h2:=gw (d:=zM) kS h.cam (List.mem_map.2 ⟨m',hm',rfl⟩)
 rw [<-h1,<-h2,e]
theorem CV {L:List Mg} {m:Mg} (h:m∈cnt L):m∈L:=by
 obtain ⟨pre,post,h,_⟩:=uq.1 (KA.1 h)
 rw [h];simp
theorem WQ {L:List Mg} (hL:SL L) {m:Mg}:m∈cnt L↔m∈L/\∀x∈L,x.1=m.1->x=m\/ff tM m x=true:=by
 rw [KA,uq]
 constructor
 ·rintro ⟨pre, post, h, _, h2⟩
  simp only at h h2
  subst h
  refine ⟨by simp,fun x hx e=>?_⟩
  rcases List.mem_append.1 hx with hx|hx
  ·exact absurd e (h2 x hx)
  ·rcases List.mem_cons.1 hx with rfl | hx
   ·exact .inl rfl
   ·unfold SL at hL
    rw [List.pairwise_append,List.pairwise_cons] at hL
    exact .inr (hL.2.1.1 x hx)
 ·rintro ⟨h1, h2⟩
  obtain ⟨pre,post,h⟩:=List.append_of_mem h1
  refine ⟨pre,post,h,rfl,fun x hx e=>?_⟩
  subst h
  unfold SL at hL
  rw [List.pairwise_append] at hL
  have h3:=hL.2.2 x hx m (List.mem_cons_self ..)
  rcases h2 x (by simp [hx]) e with rfl|h4
  ·rw [eW kM] at h3;cases h3
  ·exact de kM h3 h4
theorem aiA {L:List Mg} {m1:List (Mg×Bool)} (hl:L.length<1000000000):iter (fun x=>ai (gH66_0 x)) (L.length,((L.length:Nat):Int),(0:Int),L,m1,[],[],[],[],())=some (m1,qp L,[],[],[],()):=by
 refine aO L (fun k (es:Bf)=>(L.length,((L.length:Nat):Int),(k:Int),L,m1,es,[],[],[],())) (fun es r=>(m1,r.foldl jC es,[],[],[],())) (fun _ _=>True) ?_ ?_ (s:=[]) trivial
 ·intro pre x post es hx _
  have hlen:L.length=pre.length+(post.length+1):=by rw [hx];simp
  have hd:L.getD pre.length zM=x:=by rw [hx];exact aR rfl
  have i1:bR (pre.length:Int) ((L.length:Nat):Int)=true:=aQ (by omega) (by omega)
  have r1:cN .i64 ((pre.length:Int)+1)=true:=aC (by omega) (by omega)
  have d1:decide (pre.length<L.length)=true:=decide_eq_true (by omega)
  left
  refine ⟨jC es x,?_,trivial,rfl⟩
  simp only [gH66_0,ah,aH,aS,aG,aa,Int.toNat_natCast,Nat.zero_add,hd,i1,r1,d1,af,aI]
  rw [if_pos (by omega)]
  unfold jC
  cases hm:aT .str es x.1
  ·rw [Pz (by rfl)];rfl
  ·rw [Hi (by rfl)];rfl
 ·intro es _
  simp only [gH66_0,ah,aa,aI]
  rw [if_neg (by omega)]
  rfl
theorem WR {c:List Mg} (h:SI c) (hl:c.length<1000000000):ai (FH81 (c.map fun m=>(m.1,m)))=some (c.length,c.map (·.1),c.map (fun m=>(m.1,m)),()):=by
 unfold FH81
 refine Eq.trans Co (gO fun l hp=>?_)
 have zy:l.length=c.length:=by rw [hp.length_eq,List.length_map]
 simp only [ay,Cp]
 refine bind_eq (sM (m:=c.map fun m=>(m.1,m)) (l:=l) (by rw [zy];exact hl) fun e n b hn=>?_) ?_
 ·simp only [gH81f107f126_0i_0, aS, aa, dL, af]
  rw [b8 (show _<bp by rw [cL];simp;omega)]
  rfl
 ·simp only [FH105, yj]
  have hpk:(c.map (·.1)).Perm (l.map (·.1)):=by
   have:=(hp.map (·.1)).symm
   rwa [List.map_map] at this
  have hs:A2 .str (c.map (·.1)):=by
   have:=h.cam.keys kS
   rwa [List.map_map] at this
  have:=oW kS hpk hs (by rw [List.length_map];omega)
  rw [List.length_map] at this
  rw [ag this,zy]
  rfl
def kids (c:List Mg) (x:ByteArray):List ByteArray:=(c.filter fun m=>decide (m.2.1=2/\m.2.2.1=x)).map (·.1)
def fc (c:List Mg) (x:ByteArray):Bool:=c.any fun m=>decide (m.2.1=3/\m.2.2.1=x)
def jD (t:Gi) (m:Mg):Gi:=if m.2.1=2 then bn .str t m.2.2.1 (aA .str [] t m.2.2.1++[m.1]) else t
def jE (t:gh) (m:Mg):gh:=if m.2.1=3 then bn .str t m.2.2.1 true else t
def bU (c:List Mg):Gi:=c.foldl jD []
def cI (c:List Mg):gh:=c.foldl jE []
theorem Iu {t:Gi} (h:gX .str t) (m:Mg):gX .str (jD t m):=by
 unfold jD;split
 ·exact h.iE kS
 ·exact h
theorem Iv {t:gh} (h:gX .str t) (m:Mg):gX .str (jE t m):=by
 unfold jE;split
 ·exact h.iE kS
 ·exact h
theorem zj : ∀ {c : List Mg} {t : Gi}, gX .str t → gX .str (c.foldl jD t) ∧ (∀ x, aA .str [] (c.foldl jD t) x = aA .str [] t x ++ kids c x) ∧ ∀ x, aT .str (c.foldl jD t) x = (aT .str t x || !(kids c x).isEmpty)
 |[],t,h=>⟨h,fun x=>by simp [kids],fun x=>by simp [kids]⟩
 |m::c,t,h=>by
  obtain ⟨h1,h2,h3⟩:=zj (c:=c) (Iu h m)
  refine ⟨h1,fun x=>?_,fun x=>?_⟩
  ·rw [List.foldl_cons, h2]
   unfold jD kids
   by_cases hk:m.2.1=2
   ·rw [if_pos hk, Ni kS h]
    by_cases hx:m.2.2.1=x
    ·subst hx
     rw [if_pos (jU kS),List.filter_cons_of_pos (by simp [hk])]
     simp
    ·rw [if_neg (fun h=>hx (bQ h).symm),List.filter_cons_of_neg (by simp [hx])]
   ·rw [if_neg hk,List.filter_cons_of_neg (by simp [hk])]
  ·rw [List.foldl_cons, h3]
   unfold jD kids
   by_cases hk:m.2.1=2
   ·rw [if_pos hk, pP kS h]
    by_cases hx:m.2.2.1=x
    ·subst hx
     rw [jU kS,List.filter_cons_of_pos (by simp [hk])]
     simp
    ·have:dQ .str x m.2.2.1=false:=by
      cases hd:dQ .str x m.2.2.1 with
      |false=>rfl
      |true=>exact absurd (bQ hd).symm hx
     rw [this,List.filter_cons_of_neg (by simp [hx]),Bool.false_or]
   ·rw [if_neg hk,List.filter_cons_of_neg (by simp [hk])]
theorem KB (c:List Mg):gX .str (bU c):=(zj .nil).1
theorem wv (c:List Mg) (x:ByteArray):aA .str [] (bU c) x=kids c x:=by
 exact ((zj (c:=c) (t:=[]) .nil).2.1 x).trans (by simp [aA])
theorem KC (c:List Mg) (x:ByteArray):aT .str (bU c) x = !(kids c x).isEmpty:=by
 exact ((zj (c:=c) (t:=[]) .nil).2.2 x).trans (by simp [aT])
theorem wA {c:List Mg} {e:ByteArray×List ByteArray}:e∈bU c↔e.2=kids c e.1/\kids c e.1≠[]:=by
 constructor
 ·intro h
  have h1:=gw (d:=[]) kS (KB c) (show (e.1,e.2)∈bU c from h)
  rw [wv] at h1
  refine ⟨h1.symm,fun h2=>?_⟩
  have h3:=(dG kS).2 ⟨e.2,(show (e.1,e.2)∈bU c from h)⟩
  rw [KC,h2] at h3;cases h3
 ·rintro ⟨h1, h2⟩
  have h3:aT .str (bU c) e.1=true:=by
   rw [KC]
   cases hk:kids c e.1 with
   |nil=>exact absurd hk h2
   |cons _ _=>rfl
  obtain ⟨v,hv⟩:=(dG kS).1 h3
  have h4:=gw (d:=[]) kS (KB c) hv
  rw [wv] at h4
  obtain ⟨a,b⟩:=e
  simp only at h1 h4 hv
  rw [h1,h4];exact hv
theorem R3 : ∀ {c : List Mg} {t : gh}, gX .str t → (∀ e ∈ t, e.2 = true) → gX .str (c.foldl jE t) ∧ (∀ e ∈ c.foldl jE t, e.2 = true) ∧ ∀ x, aT .str (c.foldl jE t) x = (aT .str t x || fc c x)
 |[],t,h,ht=>⟨h,ht,fun x=>by simp [fc]⟩
 |m::c,t,h,ht=>by
  obtain ⟨h1, h0, h2⟩ := R3 (c := c) (Iv h m) (by
   unfold jE;split
   ·exact RW kS h ht
   ·exact ht)
  refine ⟨h1,h0,fun x=>?_⟩
  rw [List.foldl_cons,h2]
  unfold jE fc
  by_cases hk:m.2.1=3
  ·rw [if_pos hk, pP kS h, List.any_cons]
   have:dQ .str x m.2.2.1=decide (m.2.1=3/\m.2.2.1=x):=by
    rw [sJ];exact decide_eq_decide.2 ⟨fun e=>⟨hk,e.symm⟩,fun e=>e.2.symm⟩
   rw [this,Bool.or_comm (decide _) (aT .str t x),Bool.or_assoc]
  ·rw [if_neg hk, List.any_cons]
   simp [hk]
theorem WS (c:List Mg) (x:ByteArray):aA .str false (cI c) x=fc c x:=by
 have h:=R3 (c:=c) (t:=[]) .nil (fun e h=>by cases h)
 rw [show cI c=c.foldl jE [] from rfl,RX kS h.1 h.2.1,h.2.2]
 simp [aT]
theorem oZ (c:List Mg) (x:ByteArray):(kids c x).length<=c.length:=by
 unfold kids;rw [List.length_map];exact List.length_filter_le ..
theorem aiB {c:List Mg} {m1:List (Mg×Bool)} (h:SI c) (hl:c.length<1000000):iter (fun x=>ai (gH66_1 x)) (c.length,((c.length:Nat):Int),(0:Int),c.map (·.1),m1,c.map (fun m=>(m.1,m)),[],[],[],()) =
  some (m1,c.map (fun m=>(m.1,m)),bU c,cI c,[],()):=by
 have zy:(c.map (·.1)).length=c.length:=List.length_map ..
 refine aO c (fun k (s : Gi × gh) => (c.length, ((c.length : Nat) : Int), (k : Int), c.map (·.1), m1, c.map (fun m => (m.1, m)), s.1, s.2, [], ())) (fun s r => (m1, c.map (fun m => (m.1, m)), r.foldl jD s.1, r.foldl jE s.2, [], ()))
  (fun pre s=>s.1=pre.foldl jD []) ?_ ?_ (s:=([],[])) rfl
 ·rintro pre x post ⟨t, r⟩ hx ht
  simp only at ht
  have hlen:c.length=pre.length+(post.length+1):=by rw [hx];simp
  have hd:(c.map (·.1)).getD pre.length (bs [])=x.1:=by rw [hx,List.map_append,List.map_cons];exact aR (by simp)
  have hg:aA .str zM (c.map fun m=>(m.1,m)) x.1=x:=gw kS h.cam (List.mem_map.2 ⟨x,by rw [hx];simp,rfl⟩)
  have i1:bR (pre.length:Int) ((c.length:Nat):Int)=true:=aQ (by omega) (by omega)
  have r1:cN .i64 ((pre.length:Int)+1)=true:=aC (by omega) (by omega)
  have d1:decide (pre.length<(c.map (·.1)).length)=true:=decide_eq_true (by omega)
  left
  refine ⟨(jD t x,jE r x),?_,by simp only;rw [ht,List.foldl_append];rfl,rfl⟩
  simp only [gH66_1,ah,aH,aS,aG,aa,Int.toNat_natCast,Nat.zero_add,hd,hg,i1,r1,d1,af,aI,aY]
  rw [if_pos (by omega)]
  unfold jD jE
  by_cases h3:x.2.1=3
  ·rw [if_pos h3,if_pos h3,if_neg (by omega)];rfl
  ·rw [if_neg h3, if_neg h3]
   by_cases h2:x.2.1=2
   ·rw [if_pos h2, if_pos h2]
    have hlt:(aA .str [] t x.2.2.1).length<=c.length:=by
     have:=(zj (c:=pre) (t:=[]) .nil).2.1 x.2.2.1
     rw [<-ht] at this
     rw [this]
     have:=oZ pre x.2.2.1
     simp only [aA,List.nil_append];omega
    rw [b8 (show _<bp by rw [cL];omega)]
    rfl
   ·rw [if_neg h2,if_neg h2];rfl
 ·rintro ⟨t, r⟩ _
  simp only [gH66_1,ah,aa,aI]
  rw [if_neg (by omega)]
  rfl
end Go.Proofs.Tryz
end
section
namespace Go.Proofs.Tryz
open Go.AM
set_option maxRecDepth 100000
theorem WT {A B : Type} {F : (A → Option B) → A → Option B} (R : A → B → Prop) (m : A → Nat)
  (h:∀rec x y,R x y->(∀x' y',R x' y'->m x'<m x->rec x'=some y')->F rec x=some y):∀x y,R x y->tY F x=some y:=by
 have key:∀n x y,R x y->m x<n->Ue F n x=some y:=by
  intro n
  induction n with
  |zero=>intro x y _ hm;omega
  |succ n ih=>intro x y hx hm;exact h _ x y hx fun x' y' hx' hm'=>ih x' y' hx' (by omega)
 intro x y hx
 exact Jv (N:=m x+1) fun n hn=>key n x y hx (by omega)
structure o9 (S:gh):Prop where
 c:gX .str S
 t:∀e∈S,e.2=true
theorem o9.nil:o9 []:=⟨.nil,fun e h=>by cases h⟩
theorem o9.put {S:gh} (h:o9 S) (x:ByteArray):o9 (bn .str S x true):=⟨h.c.iE kS,RW kS h.c h.t⟩
abbrev has (S:gh) (x:ByteArray):Bool:=aT .str S x
def Sub (S S':gh):Prop:=∀x,has S x=true->has S' x=true
theorem Sub.rfl {S:gh}:Sub S S:=fun _ h=>h
theorem Sub.trans {S S' Ci:gh} (h:Sub S S') (h':Sub S' Ci):Sub S Ci:=fun x hx=>h' x (h x hx)
theorem pQ {S:gh} (h:o9 S) {x y:ByteArray}:has (bn .str S x true) y=true↔y=x\/has S y=true:=by
 unfold has
 rw [pP kS h.c,Bool.or_eq_true,CS kS]
theorem Sub.put {S:gh} (h:o9 S) (x:ByteArray):Sub S (bn .str S x true):=fun y hy=>(pQ h).2 (.inr hy)
theorem o9.ext {S S':gh} (h:o9 S) (h':o9 S') (hx:∀x,has S x=true↔has S' x=true):S=S' :=
 RY kS h.c h'.c h.t h'.t fun x=>by rw [Bool.eq_iff_iff];exact hx x
section
variable {c:List Mg}
inductive k5 (c : List Mg) : ByteArray → ByteArray → Prop
 |refl (x):k5 c x x
 |step {x y z} (h:k5 c x y) (hz:z∈kids c y):k5 c x z
theorem k5.trans {x y z:ByteArray} (h:k5 c x y) (h':k5 c y z):k5 c x z:=by
 induction h' with
 |refl=>exact h
 |step _ hz ih=>exact .step ih hz
theorem k5.cons {x y z:ByteArray} (hy:y∈kids c x) (h:k5 c y z):k5 c x z:=(k5.step (.refl x) hy).trans h
def ids (c:List Mg):List ByteArray:=c.map (·.1)
theorem iz {x z:ByteArray} (h:z∈kids c x):z∈ids c:=by
 unfold kids at h
 obtain ⟨m,hm,rfl⟩:=List.mem_map.1 h
 exact List.mem_map.2 ⟨m,(List.mem_filter.1 hm).1,rfl⟩
def Dj (c:List Mg) (S:gh):Nat:=((ids c).filter fun x => !has S x).length
theorem R4 (S:gh):Dj c S<=c.length:=by
 unfold Dj ids;exact Nat.le_trans (List.length_filter_le ..) (by simp)
theorem nJ {α : Type} {p q : α → Bool} : ∀ {l : List α}, (∀ x ∈ l, p x = true → q x = true) → (l.filter p).length ≤ (l.filter q).length
 |[],_=>by simp
 |a::l,h=>by
  have ih:=nJ (l:=l) fun x hx=>h x (List.mem_cons_of_mem _ hx)
  by_cases hp:p a=true
  ·rw [List.filter_cons_of_pos hp, List.filter_cons_of_pos (h a (List.mem_cons_self ..) hp)]
   simp only [List.length_cons];omega
  ·rw [List.filter_cons_of_neg hp]
   by_cases hq:q a=true
   ·rw [List.filter_cons_of_pos hq];simp only [List.length_cons];omega
   ·rw [List.filter_cons_of_neg hq];exact ih
theorem sP {α : Type} {p q : α → Bool} : ∀ {l : List α}, (∀ x ∈ l, p x = true → q x = true) → ∀ {y : α}, y ∈ l → q y = true → p y = false → (l.filter p).length < (l.filter q).length
 |[],_,y,h,_,_=>by cases h
 |a::l,h,y,hy,hq,hp=>by
  have hl:∀x∈l,p x=true->q x=true:=fun x hx=>h x (List.mem_cons_of_mem _ hx)
  rcases List.mem_cons.1 hy with rfl|hy
  ·rw [List.filter_cons_of_neg (by rw [hp]; simp), List.filter_cons_of_pos hq]
   have:=nJ hl
   simp only [List.length_cons];omega
  ·have ih := sP hl hy hq hp
   by_cases hpa:p a=true
   ·rw [List.filter_cons_of_pos hpa, List.filter_cons_of_pos (h a (List.mem_cons_self ..) hpa)]
    simp only [List.length_cons];omega
   ·rw [List.filter_cons_of_neg hpa]
    by_cases hqa:q a=true
    ·rw [List.filter_cons_of_pos hqa];simp only [List.length_cons];omega
    ·rw [List.filter_cons_of_neg hqa];exact ih
theorem zk {S S':gh} (h:Sub S S'):Dj c S'<=Dj c S:=nJ fun x _ hx=>by
 cases hs:has S x with
 |false=>rfl
 |true=>rw [h x hs] at hx;cases hx
theorem Iw {S:gh} (h:o9 S) {x:ByteArray} (hx:x∈ids c) (hn:has S x=false):Dj c (bn .str S x true)<Dj c S:=by
 refine sP (fun y _ hy=>?_) hx (by rw [hn];rfl) (by rw [(pQ h).2 (.inl rfl)];rfl)
 cases hs:has S y with
 |false=>rfl
 |true=>rw [(pQ h).2 (.inr hs)] at hy;cases hy
def dg (c : List Mg) : Nat → ByteArray → gh → gh
 |0,_,S=>S
 |n+1,x,S=>if has S x=true then S else (kids c x).foldl (fun S k=>dg c n k S) (bn .str S x true)
theorem jc : ∀ {n : Nat} {x : ByteArray} {S : gh}, o9 S → o9 (dg c n x S) ∧ Sub S (dg c n x S)
 |0,_,_,h=>⟨h,.rfl⟩
 |n+1,x,S,h=>by
  unfold dg
  split
  ·exact ⟨h,.rfl⟩
  ·have key:∀(l:List ByteArray) (S:gh),o9 S->o9 (l.foldl (fun S k=>dg c n k S) S)/\Sub S (l.foldl (fun S k=>dg c n k S) S):=by
    intro l
    induction l with
    |nil=>intro S h;exact ⟨h,.rfl⟩
    |cons k l ih =>
     intro S h
     obtain ⟨h1,h2⟩:=jc (n:=n) (x:=k) h
     obtain ⟨h3,h4⟩:=ih _ h1
     exact ⟨h3,h2.trans h4⟩
   obtain ⟨h1,h2⟩:=key (kids c x) _ (h.put x)
   exact ⟨h1,(Sub.put h x).trans h2⟩
theorem sQ {n : Nat} : ∀ {l : List ByteArray} {S : gh}, o9 S → o9 (l.foldl (fun S k => dg c n k S) S) ∧ Sub S (l.foldl (fun S k => dg c n k S) S)
 |[],_,h=>⟨h,.rfl⟩
 |k::l,S,h=>by
  obtain ⟨h1,h2⟩:=jc (c:=c) (n:=n) (x:=k) h
  obtain ⟨h3,h4⟩:=sQ (l:=l) h1
  exact ⟨h3,h2.trans h4⟩
theorem u9 : ∀ {n n' : Nat} {x : ByteArray} {S : gh}, o9 S → x ∈ ids c → Dj c S < n → Dj c S < n' → dg c n x S = dg c n' x S
 |0,_,_,_,_,_,h,_=>by omega
 |_+1,0,_,_,_,_,_,h=>by omega
 |n+1,n'+1,x,S,hS,hx,h,h'=>by
  unfold dg
  split
  ·rfl
  ·rename_i hn
   have hn:has S x=false:=by simpa using hn
   have hlt:=Iw hS hx hn
   have key:∀(l:List ByteArray) (S1:gh),(∀k∈l,k∈ids c)->o9 S1->Dj c S1<n->Dj c S1<n'->l.foldl (fun S k=>dg c n k S) S1=l.foldl (fun S k=>dg c n' k S) S1:=by
    intro l
    induction l with
    |nil=>intro _ _ _ _ _;rfl
    |cons k l ih =>
     intro S1 hk h1 h2 h3
     simp only [List.foldl_cons]
     rw [u9 (n:=n) (n':=n') h1 (hk k (List.mem_cons_self ..)) h2 h3]
     obtain ⟨h4,h5⟩:=jc (c:=c) (n:=n') (x:=k) h1
     have:=zk (c:=c) h5
     exact ih _ (fun k hk'=>hk k (List.mem_cons_of_mem _ hk')) h4 (by omega) (by omega)
   exact key _ _ (fun k hk=>iz hk) (hS.put x) (by omega) (by omega)
theorem FO {n:Nat} {x:ByteArray} {S:gh} (h:o9 S) (hn:Dj c S<n):has (dg c n x S) x=true:=by
 cases n with
 |zero=>omega
 |succ n =>
  unfold dg
  split
  ·assumption
  ·exact (sQ (h.put x)).2 x ((pQ h).2 (.inl rfl))
theorem Bg : ∀ {n : Nat} {x : ByteArray} {S : gh}, o9 S → ∀ y, has (dg c n x S) y = true → has S y = true ∨ k5 c x y
 |0,_,_,_,y,hy=>.inl hy
 |n+1,x,S,h,y,hy=>by
  unfold dg at hy
  split at hy
  ·exact .inl hy
  ·have key:∀(l:List ByteArray) (S1:gh),(∀k∈l,k∈kids c x)->o9 S1->has (l.foldl (fun S k=>dg c n k S) S1) y=true->has S1 y=true\/k5 c x y:=by
    intro l
    induction l with
    |nil=>intro S1 _ _ h;exact .inl h
    |cons k l ih =>
     intro S1 hk h1 h2
     simp only [List.foldl_cons] at h2
     rcases ih _ (fun k hk'=>hk k (List.mem_cons_of_mem _ hk')) (jc h1).1 h2 with h3|h3
     ·rcases Bg h1 y h3 with h4 | h4
      ·exact .inl h4
      ·exact .inr (.cons (hk k (List.mem_cons_self ..)) h4)
     ·exact .inr h3
   rcases key _ _ (fun k hk=>hk) (h.put x) hy with h1|h1
   ·rcases (pQ h).1 h1 with rfl | h2
    ·exact .inr (.refl _)
    ·exact .inl h2
   ·exact .inr h1
theorem Bh : ∀ {n : Nat} {x : ByteArray} {S : gh}, o9 S → x ∈ ids c → Dj c S < n → ∀ y, has (dg c n x S) y = true → has S y = false → ∀ z ∈ kids c y, has (dg c n x S) z = true
 |0,_,_,_,_,h,_,_,_=>by omega
 |n+1,x,S,hS,hx,hlt,y,hy,hyn=>by
  intro z hz
  unfold dg at hy ⊢
  split at hy
  ·rw [hyn] at hy;cases hy
  ·rename_i hn
   rw [if_neg hn]
   have hn:has S x=false:=by simpa using hn
   have hl:=Iw hS hx hn
   have key:∀(l:List ByteArray) (S1:gh),(∀k∈l,k∈kids c x)->o9 S1->Dj c S1<n->(∀k∈l,has (l.foldl (fun S k=>dg c n k S) S1) k=true) /\
     (has (l.foldl (fun S k=>dg c n k S) S1) y=true->has S1 y=false->has (l.foldl (fun S k=>dg c n k S) S1) z=true):=by
    intro l
    induction l with
    |nil=>intro S1 _ _ _;exact ⟨(fun k hk=>by cases hk),(fun h h'=>by rw [List.foldl_nil,h'] at h;cases h)⟩
    |cons k l ih =>
     intro S1 hk h1 h2
     simp only [List.foldl_cons]
     obtain ⟨h3,h4⟩:=jc (c:=c) (n:=n) (x:=k) h1
     have h5:=zk (c:=c) h4
     obtain ⟨h6,h7⟩:=ih _ (fun k hk'=>hk k (List.mem_cons_of_mem _ hk')) h3 (by omega)
     have h8:=(sQ (c:=c) (n:=n) (l:=l) h3).2
     refine ⟨fun k' hk'=>?_,fun h9 h10=>?_⟩
     ·rcases List.mem_cons.1 hk' with rfl | hk'
      ·exact h8 _ (FO h1 (by omega))
      ·exact h6 k' hk'
     ·cases h11:has (dg c n k S1) y with
      |false=>exact h7 h9 h11
      |true=>exact h8 _ (Bh h1 (iz (hk k (List.mem_cons_self ..))) h2 y h11 h10 z hz)
   obtain ⟨h1,h2⟩:=key _ _ (fun k hk=>hk) (hS.put x) (by omega)
   by_cases he:y=x
   ·subst he;exact h1 z hz
   ·refine h2 hy ?_
    cases h3:has (bn .str S x true) y with
    |false=>rfl
    |true =>
     rcases (pQ hS).1 h3 with h4|h4
     ·exact absurd h4 he
     ·rw [hyn] at h4;cases h4
def Y6 (c:List Mg) (S:gh):Prop:=∀y,has S y=true->∀z∈kids c y,has S z=true
theorem Y6.desc {S:gh} (h:Y6 c S) {x y:ByteArray} (hx:has S x=true) (hd:k5 c x y):has S y=true:=by
 induction hd with
 |refl=>exact hx
 |step _ hz ih=>exact h _ ih _ hz
theorem R5 {n:Nat} {x:ByteArray} {S:gh} (hS:o9 S) (hC:Y6 c S) (hx:x∈ids c) (hn:Dj c S<n):Y6 c (dg c n x S)/\∀y,has (dg c n x S) y=true↔has S y=true\/k5 c x y:=by
 have hc:Y6 c (dg c n x S):=fun y hy z hz=>by
  cases h:has S y with
  |true=>exact (jc hS).2 z (hC y h z hz)
  |false=>exact Bh hS hx hn y hy h z hz
 refine ⟨hc,fun y=>⟨Bg hS y,?_⟩⟩
 rintro (h|h)
 ·exact (jc hS).2 y h
 ·exact hc.desc (FO hS hn) h
theorem kH96 {m3:Bf} {m5:gh} {x:ByteArray} {S:gh} (hc:c.length<1000000) (hS:o9 S) (hx:x∈ids c):ai (FH96fix x m3 (bU c) m5 S)=some (m3,bU c,m5,dg c (c.length+1) x S,()):=by
 have h0:ai (FH96fix x m3 (bU c) m5 S)=tY (A:=kP.T) (B:=kQ.T) (fun r y=>run r (FH96 y.1 y.2.1 y.2.2.1 y.2.2.2.1 y.2.2.2.2.1)) (x,m3,bU c,m5,S,()):=rfl
 refine h0.trans ?_
 refine WT (A:=kP.T) (B:=kQ.T) (fun a b=>∃x S,a=(x,m3,bU c,m5,S,())/\o9 S/\x∈ids c/\b=(m3,bU c,m5,dg c (c.length+1) x S,())) (fun a=>Dj c a.2.2.2.2.1) ?_ _ _ ⟨x,S,rfl,hS,hx,rfl⟩
 rintro rec _ _ ⟨x,S,rfl,hS,hx,rfl⟩ ih
 have e:(run rec (FH96 x m3 (bU c) m5 S):Option (Bf×Gi×gh×gh×Unit))=k9 (aA .str false S x) (some (m3,bU c,m5,S,())) (cE (iter (fun a=>run rec (gH96_0 a)) (aA .str [] (bU c) x,(((aA .str [] (bU c) x).length:Nat):Int),(0:Int),m3,bU c,m5,bn .str S x true,())) fun z=>some (z.1,z.2.1,z.2.2.1,z.2.2.2.1,())):=rfl
 refine Eq.trans (α:=Option (Bf×Gi×gh×gh×Unit)) e ?_
 rw [RX kS hS.c hS.t,wv]
 by_cases hh:has S x=true
 ·rw [Pz hh]
  have:dg c (c.length+1) x S=S:=by unfold dg;rw [if_pos hh]
  rw [this];rfl
 ·rw [Hi (by simpa using hh)]
  have hn:has S x=false:=by simpa using hh
  have hlt:=Iw hS hx hn
  have hle:=R4 (c:=c) S
  have SS:=oZ c x
  have he:dg c (c.length+1) x S=(kids c x).foldl (fun S k=>dg c (c.length+1) k S) (bn .str S x true):=by
   have:dg c (c.length+1) x S=dg c (c.length+2) x S:=u9 hS hx (by omega) (by omega)
   rw [this]
   conv=>lhs;unfold dg
   rw [if_neg hh]
  rw [he]
  refine bind_eq (aO (kids c x) (fun k (S:gh)=>(kids c x,(((kids c x).length:Nat):Int),(k:Int),m3,bU c,m5,S,())) (fun S r=>(m3,bU c,m5,r.foldl (fun S k=>dg c (c.length+1) k S) S,())) (fun _ S1=>o9 S1/\Dj c S1<Dj c S) ?_ ?_ (s:=bn .str S x true) ⟨hS.put x,hlt⟩) rfl
  ·rintro pre k post S1 hk ⟨h1, h2⟩
   have hlen:(kids c x).length=pre.length+(post.length+1):=by rw [hk];simp
   have hd:(kids c x).getD pre.length (bs [])=k:=by rw [hk];exact aR rfl
   have i1:bR (pre.length:Int) (((kids c x).length:Nat):Int)=true:=aQ (by omega) (by omega)
   have r1:cN .i64 ((pre.length:Int)+1)=true:=aC (by omega) (by omega)
   have hki:k∈ids c:=iz (x:=x) (by rw [hk];simp)
   obtain ⟨h3,h4⟩:=jc (c:=c) (n:=c.length+1) (x:=k) h1
   have h5:=zk (c:=c) h4
   left
   refine ⟨dg c (c.length+1) k S1,?_,⟨h3,by omega⟩,rfl⟩
   simp only [gH96_0,ah,aH,aG,aa,ay,aah,Int.toNat_natCast,hd,i1,r1,af,aI]
   rw [if_pos (by omega)]
   have hq:(run rec (Tr.rc (k,m3,bU c,m5,S1,())):Option (Bf×Gi×gh×gh×Unit))=some (m3,bU c,m5,dg c (c.length+1) k S1,()):=ih (k,m3,bU c,m5,S1,()) _ ⟨k,S1,rfl,h1,hki,rfl⟩ h2
   exact bind_eq (A:=Bf×Gi×gh×gh×Unit) hq rfl
  ·rintro S1 _
   simp only [gH96_0,ah,aa,aI]
   rw [if_neg (by omega)]
   rfl
end
end Go.Proofs.Tryz
end
section
namespace Go.Proofs.Tryz
open Go.AM
set_option maxRecDepth 100000
def WU (c:List Mg) (x:ByteArray):Bool:=aT .str (c.map fun m=>(m.1,m)) x && !((aA .str zM (c.map fun m=>(m.1,m)) x).2.1==3)
def dir (c:List Mg) (e:ByteArray×List ByteArray):List ByteArray:=if WU c e.1=true then (match e.2.filter (fc c) with|[o]=>e.2.filter (fun k => !decide (k=o))|_=>[]) else []
def pe (c:List Mg) (S:gh) (e:ByteArray×List ByteArray):gh:=(dir c e).foldl (fun S k=>dg c (c.length+1) k S) S
def dw (c:List Mg):gh:=(bU c).foldl (pe c) []
abbrev bY (c:List Mg):Bf:=c.map fun m=>(m.1,m)
section
variable {c:List Mg}
theorem pR {e:ByteArray×List ByteArray} {y:ByteArray} (h:y∈dir c e):y∈e.2:=by
 unfold dir at h
 split at h
 ·split at h
  ·exact (List.mem_filter.1 h).1
  ·cases h
 ·cases h
structure nW (c:List Mg) (l:List (ByteArray×List ByteArray)) (S:gh):Prop where
 ok:o9 S
 clo:Y6 c S
 iff:∀x,has S x=true↔∃e∈l,∃y∈dir c e,k5 c y x
theorem aiC {l:List ByteArray}:∀{S:gh},o9 S->Y6 c S->(∀k∈l,k∈ids c)->o9 (l.foldl (fun S k=>dg c (c.length+1) k S) S)/\Y6 c (l.foldl (fun S k=>dg c (c.length+1) k S) S) /\
  ∀x,has (l.foldl (fun S k=>dg c (c.length+1) k S) S) x=true↔has S x=true\/∃y∈l,k5 c y x:=by
 induction l with
 |nil=>intro S h1 h2 _;exact ⟨h1,h2,fun x=>by simp⟩
 |cons k l ih =>
  intro S h1 h2 h3
  have hn:Dj c S<c.length+1:=by have:=R4 (c:=c) S;omega
  have hk:=h3 k (List.mem_cons_self ..)
  obtain ⟨h4,h5⟩:=R5 h1 h2 hk hn
  obtain ⟨h6,h7,h8⟩:=ih (jc h1).1 h4 fun k hk=>h3 k (List.mem_cons_of_mem _ hk)
  refine ⟨h6,h7,fun x=>?_⟩
  rw [List.foldl_cons,h8,h5]
  simp only [List.mem_cons,exists_eq_or_imp,or_assoc]
theorem nW.step {l:List (ByteArray×List ByteArray)} {S:gh} (h:nW c l S) {e:ByteArray×List ByteArray} (he:∀k∈e.2,k∈ids c):nW c (l++[e]) (pe c S e):=by
 obtain ⟨h1,h2,h3⟩:=aiC (l:=dir c e) h.ok h.clo fun k hk=>he k (pR hk)
 refine ⟨h1,h2,fun x=>?_⟩
 unfold pe
 rw [h3,h.iff]
 constructor
 ·rintro (⟨e', he', h⟩ | h)
  ·exact ⟨e',by simp [he'],h⟩
  ·exact ⟨e,by simp,h⟩
 ·rintro ⟨e', he', h⟩
  rcases List.mem_append.1 he' with he'|he'
  ·exact .inl ⟨e',he',h⟩
  ·rw [List.mem_singleton] at he';subst he';exact .inr h
theorem nW.all : ∀ {r l : List (ByteArray × List ByteArray)} {S : gh}, nW c l S → (∀ e ∈ r, ∀ k ∈ e.2, k ∈ ids c) → nW c (l ++ r) (r.foldl (pe c) S)
 |[],l,S,h,_=>by simpa using h
 |e::r,l,S,h,hr=>by
  have:=nW.all (h.step (hr e (List.mem_cons_self ..))) fun e he=>hr e (List.mem_cons_of_mem _ he)
  simpa using this
theorem nW.nil:nW c [] []:=⟨.nil,fun y hy=>by simp [has,aT] at hy,fun x=>by simp [has,aT]⟩
theorem KE:∀e∈bU c,∀k∈e.2,k∈ids c:=fun e he k hk=>by
 rw [(wA.1 he).1] at hk;exact iz hk
theorem zm {l:List (ByteArray×List ByteArray)} (hp:l.Perm (bU c)):nW c l (l.foldl (pe c) []):=by
 have:=nW.all (c:=c) (r:=l) (l:=[]) .nil fun e he=>KE e (hp.mem_iff.1 he)
 simpa using this
theorem ur (c:List Mg):nW c (bU c) (dw c):=zm (.refl _)
theorem acz {l:List (ByteArray×List ByteArray)} (hp:l.Perm (bU c)):l.foldl (pe c) []=dw c :=
 (zm hp).ok.ext (ur c).ok fun x=>by
  rw [(zm hp).iff,(ur c).iff]
  exact ⟨fun ⟨e,he,h⟩=>⟨e,hp.mem_iff.1 he,h⟩,fun ⟨e,he,h⟩=>⟨e,hp.mem_iff.2 he,h⟩⟩
def cZ (c:List Mg) (x:ByteArray):Bool:=has (dw c) x
theorem CW (x:ByteArray):aA .str false (dw c) x=cZ c x:=RX kS (ur c).ok.c (ur c).ok.t
theorem zn {x:ByteArray}:cZ c x=true↔∃p y,y∈dir c (p,kids c p)/\k5 c y x:=by
 unfold cZ
 rw [(ur c).iff]
 constructor
 ·rintro ⟨⟨p, l⟩, he, y, hy, hd⟩
  have:=(wA.1 he).1
  simp only at this;subst this
  exact ⟨p,y,hy,hd⟩
 ·rintro ⟨p, y, hy, hd⟩
  refine ⟨(p,kids c p),wA.2 ⟨rfl,fun h=>?_⟩,y,hy,hd⟩
  have:=pR hy
  simp only at this h
  rw [h] at this;cases this
theorem CX {x z:ByteArray} (h:cZ c x=true) (hz:z∈kids c x):cZ c z=true:=(ur c).clo x h z hz
theorem acA {m1:List (Mg×Bool)} {m6:Bf} {EM:Int} {EN:Bool} {l SU:List ByteArray} {o:ByteArray} {m:Mg} {S:gh} (hc:c.length<1000000) (hl:l.length<=c.length) (TD:∀k∈l,k∈ids c) (hb:SU.getD 0 (bs [])=o) (qW:0<SU.length) (hS:o9 S) :
  iter (fun x=>ai (gH66_2b_3 x)) (0,1,EM,EN,l,((l.length:Nat):Int),(0:Int),SU,bU c,m.1,m.2.1,m.2.2.1,m.2.2.2.1,m.2.2.2.2,m6,cI c,S,m1,()) =
   some (EM,EN,bU c,m.1,m.2.1,m.2.2.1,m.2.2.2.1,m.2.2.2.2,m6,cI c,(l.filter fun k => !decide (k=o)).foldl (fun S k=>dg c (c.length+1) k S) S,m1,()):=by
 refine aO l (fun k (S : gh) => (0, 1, EM, EN, l, ((l.length : Nat) : Int), (k : Int), SU, bU c, m.1, m.2.1, m.2.2.1, m.2.2.2.1, m.2.2.2.2, m6, cI c, S, m1, ()))
  (fun S r=>(EM,EN,bU c,m.1,m.2.1,m.2.2.1,m.2.2.2.1,m.2.2.2.2,m6,cI c,(r.filter fun k => !decide (k=o)).foldl (fun S k=>dg c (c.length+1) k S) S,m1,())) (fun _ S=>o9 S) ?_ ?_ (s:=S) hS
 ·intro pre x post S hx hS
  have hlen:l.length=pre.length+(post.length+1):=by rw [hx];simp
  have hd:l.getD pre.length (bs [])=x:=by rw [hx];exact aR rfl
  have i1:bR (pre.length:Int) ((l.length:Nat):Int)=true:=aQ (by omega) (by omega)
  have i2:bR (0:Int) ((1:Nat):Int)=true:=aQ (by omega) (by omega)
  have r1:cN .i64 ((pre.length:Int)+1)=true:=aC (by omega) (by omega)
  have d1:decide (0<SU.length)=true:=decide_eq_true qW
  left
  by_cases Ny:x=o
  ·refine ⟨S, ?_, hS, by rw [List.filter_cons_of_neg (by simp [Ny])]⟩
   simp only [gH66_2b_3,ah,aH,aS,aG,aa,ay,Int.toNat_natCast,Int.toNat_zero,Nat.zero_add,Nat.add_zero,hd,hb,i1,i2,r1,d1,af,aI,seq_eq,Ny]
   rw [if_pos (by omega),Hi (by simp)]
   rfl
  ·refine ⟨dg c (c.length + 1) x S, ?_, (jc hS).1, by rw [List.filter_cons_of_pos (by simp [Ny])]; rfl⟩
   simp only [gH66_2b_3,ah,aH,aS,aG,aa,ay,Int.toNat_natCast,Int.toNat_zero,Nat.zero_add,Nat.add_zero,hd,hb,i1,i2,r1,d1,af,aI,seq_eq]
   rw [if_pos (by omega),Pz (by simp [Ny])]
   rw [ag (kH96 hc hS (TD x (by rw [hx];simp)))]
   rfl
 ·intro S _
  simp only [gH66_2b_3,ah,aa,aI]
  rw [if_neg (by omega)]
  rfl
theorem aiD {m1:List (Mg×Bool)} {e:ByteArray×List ByteArray} {S:gh} (hc:c.length<1000000) (he:e∈bU c) (hS:o9 S):ai (gH66_2 e (bU c,m1,bY c,cI c,S,()))=some (bU c,m1,bY c,cI c,pe c S e,()):=by
 have SG:=(wA.1 he).1
 have hl:e.2.length<=c.length:=by rw [SG];exact oZ c e.1
 simp only [gH66_2,ah,aS,aa,ay,bf,dL,af,bB]
 unfold pe dir WU
 cases hh:aT .str (bY c) e.1 with
 |false=>rw [aM];simp
 |true =>
  rw [bt]
  by_cases h3:(aA .str zM (bY c) e.1).2.1=3
  ·rw [aY, if_pos h3, if_neg (by simp [h3])]
   rfl
  ·rw [aY, if_neg h3, if_pos (by simp [h3])]
   rw [ag (kH98 (by omega))]
   obtain ⟨b,iO,fh,Aj⟩:=kH97 (m3:=bY c) (m4:=bU c) (m5:=cI c) (m6:=S) (l:=e.2) (by omega)
   rw [ag Aj]
   have hf:(e.2.filter fun v => !(!aA .str false (cI c) v))=e.2.filter (fc c):=List.filter_congr fun v _=>by rw [WS];simp
   rw [hf] at fh ⊢
   simp only [dL,af,aY]
   by_cases h1:(e.2.filter (fc c)).length=1
   ·rw [if_pos (by omega)]
    obtain ⟨o,ho⟩:=List.length_eq_one_iff.1 h1
    rw [ho] at fh h1 ⊢
    simp only [List.length_singleton] at fh ⊢
    have qW:0<b.length:=by
     cases b with
     |nil=>simp at fh
     |cons _ _=>simp
    have hbo:b.getD 0 (bs [])=o:=by
     cases b with
     |nil=>simp at fh
     |cons x r=>simp at fh;simp [fh]
    rw [ag (acA (m:=aA .str zM (bY c) e.1) (o:=o) hc hl (KE e he) hbo qW hS)]
    simp only [dL,af]
   ·rw [if_neg (by omega)]
    have:(match e.2.filter (fc c) with|[o]=>e.2.filter (fun k => !decide (k=o))|_=>[])=([]:List ByteArray):=by
     split
     ·rename_i o ho;rw [ho] at h1;simp at h1
     ·rfl
    rw [this]
    rfl
theorem R6 {L:List Mg} (h:iH L):ai (FH66 (bk L))=some (bk L,bY (cnt L),bU (cnt L),cI (cnt L),dw (cnt L),()):=by
 have hl:=h.len
 have zz:(cnt L).length<=60:=by
  have:(cnt L).length<=L.length:=by
   have hn:(cnt L).Nodup:=List.Pairwise.imp (fun {a b} h e=>by subst e;rw [show slt a.1 a.1=false from eW (t:=.str) kS a.1] at h;cases h) (eS L)
   exact List.Nodup.length_le_of_subset hn fun m hm=>CV hm
  omega
 have hby:qp L=bY (cnt L):=FN L
 unfold FH66
 simp only [ay,bf,aS]
 rw [ag (R1 h.s (by omega))]
 simp only
 rw [ag (aiA (by omega))]
 simp only [FH95,aa,aF]
 rw [hby,ag (WR (eS L) (by omega))]
 simp only [List.isEmpty_nil,af]
 rw [ag (aiB (eS L) (by omega))]
 simp only
 have hmq:run (fun _=>none) (.mq gH66_2 (bU (cnt L)) (bU (cnt L),bk L,bY (cnt L),cI (cnt L),[],()))=some (bU (cnt L),bk L,bY (cnt L),cI (cnt L),dw (cnt L),()):=by
  refine Eq.trans Hl (gO fun l hp=>?_)
  have := (FL (step := fun e a => run (fun _ => none) (gH66_2 e a)) (fun (a : Gi × List (Mg × Bool) × Bf × gh × gh × Unit) e => (bU (cnt L), bk L, bY (cnt L), cI (cnt L), pe (cnt L) a.2.2.2.2.1 e, ())) (fun a => ∃ S, a = (bU (cnt L), bk L, bY (cnt L), cI (cnt L), S, ()) ∧ o9 S) l (bU (cnt L), bk L, bY (cnt L), cI (cnt L), [], ()) ⟨[], rfl, .nil⟩ (by
   rintro e he _ ⟨S,rfl,hS⟩
   refine ⟨aiD (by omega) (hp.mem_iff.1 he) hS,_,rfl,?_⟩
   exact (sQ hS).1)).1
  rw [this]
  have key:∀(l:List (ByteArray×List ByteArray)) (S:gh),l.foldl (fun (a:Gi×List (Mg×Bool)×Bf×gh×gh×Unit) e=>(bU (cnt L),bk L,bY (cnt L),cI (cnt L),pe (cnt L) a.2.2.2.2.1 e,())) (bU (cnt L),bk L,bY (cnt L),cI (cnt L),S,())=(bU (cnt L),bk L,bY (cnt L),cI (cnt L),l.foldl (pe (cnt L)) S,()):=by
   intro l
   induction l with
   |nil=>intro S;rfl
   |cons e l ih=>intro S;exact ih _
  rw [key,acz hp]
 rw [ag hmq]
end
end Go.Proofs.Tryz
end
section
namespace Go.Proofs.Tryz
open Go.AM
set_option maxRecDepth 100000
theorem CY {A B : Type} {F : (A → Option B) → A → Option B} (R : Nat → A → B → Prop)
  (h:∀rec n x y,R n x y->(∀n' x' y',n'<n->R n' x' y'->rec x'=some y')->F rec x=some y):∀n x y,R n x y->tY F x=some y:=by
 have key:∀k n x y,R n x y->n<k->Ue F k x=some y:=by
  intro k
  induction k with
  |zero=>intro n x y _ hm;omega
  |succ k ih=>intro n x y hx hm;exact h _ n x y hx fun n' x' y' hn' hx'=>ih n' x' y' hx' (by omega)
 intro n x y hx
 exact Jv (N:=n+1) fun k hk=>key k n x y hx (by omega)
section
variable {c:List Mg}
theorem k6 {x y:ByteArray}:y∈kids c x↔∃m∈c,m.1=y/\m.2.1=2/\m.2.2.1=x:=by
 unfold kids
 rw [List.mem_map]
 constructor
 ·rintro ⟨m, hm, rfl⟩
  obtain ⟨h1,h2⟩:=List.mem_filter.1 hm
  simp only [decide_eq_true_eq] at h2
  exact ⟨m,h1,rfl,h2⟩
 ·rintro ⟨m, hm, rfl, h⟩
  exact ⟨m,List.mem_filter.2 ⟨hm,by simpa using h⟩,rfl⟩
theorem KF (hs:SI c) {x x' y:ByteArray} (h:y∈kids c x) (h':y∈kids c x'):x=x':=by
 obtain ⟨m,h1,h2,_,h3⟩:=k6.1 h
 obtain ⟨m',h1',h2',_,h3'⟩:=k6.1 h'
 have:=hs.inj h1 h1' (h2.trans h2'.symm)
 subst this
 exact h3.symm.trans h3'
inductive jP (c : List Mg) (x : ByteArray) : Nat → ByteArray → Prop
 |zero:jP c x 0 x
 |step {n y z} (h:jP c x n y) (hz:z∈kids c y):jP c x (n+1) z
theorem jP.add {n m:Nat} {x y z:ByteArray} (h:jP c x n y) (h':jP c y m z):jP c x (n+m) z:=by
 induction h' with
 |zero=>exact h
 |step _ hz ih=>exact .step ih hz
theorem jP.up (hs:SI c) {n:Nat} {x y:ByteArray} (h:jP c x n y):∀{m:Nat} {x':ByteArray},jP c x' m y->n<=m->jP c x' (m - n) x:=by
 induction h with
 |zero=>intro m x' h' _;exact h'
 |step h hz ih =>
  intro m x' h' hle
  cases h' with
  |zero=>omega
  |step h2 sY =>
   have e:=KF hs hz sY
   subst e
   have:=ih h2 (by omega)
   rwa [Nat.add_sub_add_right]
theorem jP.desc {n:Nat} {x y:ByteArray} (h:jP c x n y):k5 c x y:=by
 induction h with
 |zero=>exact .refl _
 |step _ hz ih=>exact .step ih hz
theorem k5.pth {x y:ByteArray} (h:k5 c x y):∃n,jP c x n y:=by
 induction h with
 |refl=>exact ⟨0,.zero⟩
 |step _ hz ih=>obtain ⟨n,h⟩:=ih;exact ⟨n+1,.step h hz⟩
def WV (c:List Mg) (t:ByteArray):Prop:=∀x,t∉kids c x
theorem jP.deep (hs:SI c) {t:ByteArray} (ht:WV c t) {n m:Nat} {y:ByteArray} (h:jP c t n y) (h':jP c t m y):n=m:=by
 have key:∀{n m:Nat},jP c t n y->jP c t m y->n<=m->n=m:=fun {n m} h h' hle=>by
  have:=h.up hs h' hle
  generalize hk:m - n=k at this
  cases this with
  |zero=>omega
  |step _ hz=>exact absurd hz (ht _)
 rcases Nat.le_total n m with hle|hle
 ·exact key h h' hle
 ·exact (key h' h hle).symm
theorem jP.short (hs:SI c) {t:ByteArray} (ht:WV c t) (Dg:t∈ids c) {n:Nat} {y:ByteArray} (h:jP c t n y):n<c.length:=by
 have key:∃l:List ByteArray,l.length=n+1/\l.Nodup/\∀a∈l,a∈ids c/\∃i,i<=n/\jP c t i a:=by
  induction h with
  |zero=>exact ⟨[t],rfl,by simp,fun a ha=>by rw [List.mem_singleton] at ha;subst ha;exact ⟨Dg,0,Nat.le_refl _,.zero⟩⟩
  |step h hz ih =>
   rename_i n' y' z
   obtain ⟨l,h1,h2,h3⟩:=ih
   have hp:jP c t (n'+1) z:=.step h hz
   refine ⟨z::l,by simp [h1],List.nodup_cons.2 ⟨fun hzl=>?_,h2⟩,fun a ha=>?_⟩
   ·obtain ⟨_, i, hi, hpi⟩ := h3 z hzl
    have:=hpi.deep hs ht hp
    omega
   ·rcases List.mem_cons.1 ha with rfl | ha
    ·exact ⟨iz hz,n'+1,Nat.le_refl _,hp⟩
    ·obtain ⟨q1, i, hi, hpi⟩ := h3 a ha
     exact ⟨q1,i,by omega,hpi⟩
 obtain ⟨l,h1,h2,h3⟩:=key
 have:=List.Nodup.length_le_of_subset h2 (fun a ha=>(h3 a ha).1)
 have hl:(ids c).length=c.length:=by simp [ids]
 omega
def eu (c:List Mg) (x:ByteArray):List ByteArray:=(kids c x).filter fun k => !cZ c k
theorem wB {x y:ByteArray} (h:y∈eu c x):y∈kids c x:=(List.mem_filter.1 h).1
theorem WW (x:ByteArray):(eu c x).length<=c.length:=Nat.le_trans (List.length_filter_le ..) (oZ c x)
def cu (c : List Mg) : Nat → ByteArray → List ByteArray
 |0,_=>[]
 |n+1,x=>match eu c x with
  |[]=>[x]
  |k::l=>oI .str ((k::l).flatMap (cu c n))
def gY (c:List Mg) (t:ByteArray):List ByteArray:=cu c (c.length+1) t
theorem WX (hs:SI c) (x:ByteArray):(kids c x).Nodup:=by
 unfold kids List.Nodup
 rw [List.pairwise_map]
 refine List.Pairwise.imp (fun {a b} h e=>?_) (List.Pairwise.filter _ hs)
 rw [e,show slt b.1 b.1=false from eW (t:=.str) kS b.1] at h;cases h
theorem mK : ∀ {n : Nat} {x y : ByteArray}, y ∈ cu c n x → k5 c x y
 |0,_,_,h=>by cases h
 |n+1,x,y,h=>by
  unfold cu at h
  split at h
  ·rw [List.mem_singleton] at h;subst h;exact .refl _
  ·rename_i k l hl
   rw [(dN (t:=.str) _).mem_iff,List.mem_flatMap] at h
   obtain ⟨a,ha,h⟩:=h
   exact .cons (wB (by rw [hl];exact ha)) (mK h)
theorem C0 (hs : SI c) {t : ByteArray} (ht : WV c t) : ∀ {n d : Nat} {x : ByteArray}, jP c t d x → (cu c n x).Nodup
 |0,_,_,_=>.nil
 |n+1,d,x,hp=>by
  unfold cu
  split
  ·simp
  ·rename_i k l hl
   refine (dN (t:=.str) _).nodup_iff.2 ?_
   have hn:(k::l).Nodup:=by rw [<-hl];exact List.Pairwise.filter _ (WX hs x)
   have hk:∀a∈k::l,a∈kids c x:=fun a ha=>wB (by rw [hl];exact ha)
   refine List.pairwise_flatMap.2 ⟨fun a ha=>C0 hs ht (hp.step (hk a ha)),List.Pairwise.imp_of_mem (fun {a b} ha hb hab=>?_) hn⟩
   intro y hya y' hyb e
   subst e
   obtain ⟨i,hi⟩:=(mK hya).pth
   obtain ⟨j,hj⟩:=(mK hyb).pth
   have h1:=(hp.step (hk a ha)).add hi
   have h2:=(hp.step (hk b hb)).add hj
   have:=h1.deep hs ht h2
   have he:i=j:=by omega
   subst he
   have:=hi.up hs hj (Nat.le_refl _)
   rw [Nat.sub_self] at this
   cases this
   exact hab rfl
theorem gx (hs:SI c) {t:ByteArray} (ht:WV c t) (Dg:t∈ids c) {n d:Nat} {x:ByteArray} (hp:jP c t d x):(cu c n x).length<=c.length:=by
 have h:=List.Nodup.length_le_of_subset (C0 hs ht (n:=n) hp) (l₂:=ids c) fun y hy=>by
  have hd:k5 c t y:=hp.desc.trans (mK hy)
  cases hd with
  |refl=>exact Dg
  |step _ hz=>exact iz hz
 have hl:(ids c).length=c.length:=by simp [ids]
 omega
end
end Go.Proofs.Tryz
end
section
namespace Go.Proofs.Tryz
open Go.AM
set_option maxRecDepth 100000
section
variable {c:List Mg}
theorem aiE (hc:c.length<1000000) (x:ByteArray):∃b,b.take (eu c x).length=eu c x/\(eu c x).length<=b.length/\ai (FH104 x (bY c) (bU c) (cI c) (dw c))=some (0,(eu c x).length,b,bY c,bU c,cI c,dw c,()):=by
 have hk:=oZ c x
 obtain ⟨b,h1,h2,h3⟩:=WO (m3:=bY c) (m4:=bU c) (m5:=cI c) (m6:=dw c) (l:=kids c x) (by omega)
 have hf:(kids c x).filter (fun v => !(aA .str false (dw c) v))=eu c x:=List.filter_congr fun v _=>by rw [CW]
 rw [hf] at h2 h3
 refine ⟨b,h2,by rw [h1];exact List.length_filter_le ..,?_⟩
 unfold FH104
 simp only [ay,wv]
 rw [ag (kH98 (by omega))]
 simp only
 rw [ag h3]
 rfl
abbrev D76:=Nat×List ByteArray×Bf×Gi×gh×gh×Unit
theorem R7 (hs:SI c) (hc:c.length<1000000) {t:ByteArray} (ht:WV c t) (Dg:t∈ids c):ai (FH76fix t (bY c) (bU c) (cI c) (dw c))=some ((gY c t).length,gY c t,bY c,bU c,cI c,dw c,()):=by
 have h0:ai (FH76fix t (bY c) (bU c) (cI c) (dw c))=tY (A:=kR.T) (B:=kU.T) (fun r y=>run r (FH76 y.1 y.2.1 y.2.2.1 y.2.2.2.1 y.2.2.2.2.1)) (t,bY c,bU c,cI c,dw c,()):=rfl
 refine h0.trans ?_
 refine CY (A:=kR.T) (B:=kU.T) (fun n a b=>∃z d,a=(z,bY c,bU c,cI c,dw c,())/\jP c t d z/\d+n=c.length/\b=((cu c (n+1) z).length,cu c (n+1) z,bY c,bU c,cI c,dw c,())) ?_ c.length _ _ ⟨t,0,rfl,.zero,by omega,rfl⟩
 rintro rec n _ _ ⟨z,d,rfl,hp,hn,rfl⟩ ih
 have R8:=hp.short hs ht Dg
 obtain ⟨b,iO,fh,Aj⟩:=aiE hc z
 have zy:=WW (c:=c) z
 have hvl:=gx hs ht Dg (n:=n+1) hp
 have e : (run rec (FH76 z (bY c) (bU c) (cI c) (dw c)) : Option D76) = cE (ai (FH104 z (bY c) (bU c) (cI c) (dw c))) fun y0 => k9 (((y0.2.1 : Nat) : Int) == 0) (some (1, [z], y0.2.2.2.1, y0.2.2.2.2.1, y0.2.2.2.2.2.1, y0.2.2.2.2.2.2.1, ()))
   (cE (iter (fun a=>run rec (gH76_0 a)) (0,y0.1,y0.2.1,((y0.2.1:Nat):Int),(0:Int),[],y0.2.2.1,y0.2.2.2.1,y0.2.2.2.2.1,y0.2.2.2.2.2.1,y0.2.2.2.2.2.2.1,())) fun z2=>cE (ai (FH105 z2.1 z2.2.1)) fun y3=>some (z2.1,y3.1,z2.2.2.1,z2.2.2.2.1,z2.2.2.2.2.1,z2.2.2.2.2.2.1,())):=rfl
 refine Eq.trans (α:=Option D76) e ?_
 rw [ag Aj]
 simp only [aY]
 cases hl:eu c z with
 |nil =>
  have hv:cu c (n+1) z=[z]:=by unfold cu;rw [hl]
  rw [hv];rfl
 |cons k0 l0 =>
  have hlen:(eu c z).length=l0.length+1:=by rw [hl];rfl
  rw [<-hl,if_neg (by omega)]
  have hv:cu c (n+1) z=oI .str ((eu c z).flatMap (cu c n)):=by
   conv=>lhs;unfold cu
   rw [hl]
  have hfl:((eu c z).flatMap (cu c n)).length<=c.length:=by
   have:=(dN (t:=.str) ((eu c z).flatMap (cu c n))).length_eq
   rw [<-hv] at this
   omega
  have hit : iter (fun a => run rec (gH76_0 a)) (0, 0, (eu c z).length, (((eu c z).length : Nat) : Int), (0 : Int), [], b, bY c, bU c, cI c, dw c, ()) = some (((eu c z).flatMap (cu c n)).length, (eu c z).flatMap (cu c n), bY c, bU c, cI c, dw c, ()) := (aO (eu c z) (fun k (o : List ByteArray) => (o.length, 0, (eu c z).length, (((eu c z).length : Nat) : Int), (k : Int), o, b, bY c, bU c, cI c, dw c, ())) (fun o r => ((o ++ r.flatMap (cu c n)).length, o ++ r.flatMap (cu c n), bY c, bU c, cI c, dw c, ()))
   (fun pre o => o = pre.flatMap (cu c n)) (by
    rintro pre k post _ hx rfl
    have hlen:(eu c z).length=pre.length+(post.length+1):=by rw [hx];simp
    have hd:b.getD pre.length (bs [])=k:=by
     have:(b.take (eu c z).length).getD pre.length (bs [])=k:=by rw [iO,hx];exact aR rfl
     rw [getD_take (by omega)] at this;exact this
    have hkk:k∈kids c z:=wB (by rw [hx];simp)
    have i1:bR (pre.length:Int) (((eu c z).length:Nat):Int)=true:=aQ (by omega) (by omega)
    have r1:cN .i64 ((pre.length:Int)+1)=true:=aC (by omega) (by omega)
    have d1:decide (pre.length<b.length)=true:=decide_eq_true (by omega)
    have Oo:=hp.step hkk
    have hsh:=Oo.short hs ht Dg
    left
    refine ⟨pre.flatMap (cu c n)++cu c n k,?_,by simp,by simp [List.flatMap_cons]⟩
    have e2 : (run rec (gH76_0 ((pre.flatMap (cu c n)).length, 0, (eu c z).length, (((eu c z).length : Nat) : Int), (pre.length : Int), pre.flatMap (cu c n), b, bY c, bU c, cI c, dw c, ()))) = k9 (decide ((pre.length : Int) < (((eu c z).length : Nat) : Int))) (need (bR (pre.length : Int) (((eu c z).length : Nat) : Int)) (need (decide (0 + Int.toNat (pre.length : Int) < b.length))
      (cE (rec (b.getD (0 + Int.toNat (pre.length : Int)) (bs []), bY c, bU c, cI c, dw c, ()) : Option D76) fun y1 => need (decide ((pre.flatMap (cu c n)).length + ((y1.2.1.drop 0).take y1.1).length < bp)) (need (cN .i64 ((pre.length : Int) + 1))
       (some (.inl ((pre.flatMap (cu c n)).length+((y1.2.1.drop 0).take y1.1).length,0,(eu c z).length,(((eu c z).length:Nat):Int),(pre.length:Int)+1,(((pre.flatMap (cu c n)).drop 0).take (pre.flatMap (cu c n)).length)++((y1.2.1.drop 0).take y1.1),b,y1.2.2.1,y1.2.2.2.1,y1.2.2.2.2.1,y1.2.2.2.2.2.1,())))))))
      (some (.inr ((pre.flatMap (cu c n)).length,pre.flatMap (cu c n),bY c,bU c,cI c,dw c,()))):=rfl
    rw [e2,Int.toNat_natCast,Nat.zero_add,hd,i1,af,d1,af,aI,if_pos (by omega)]
    obtain ⟨n',rfl⟩:∃n',n=n'+1:=⟨n - 1,by omega⟩
    have hq:(rec (k,bY c,bU c,cI c,dw c,()):Option D76)=some ((cu c (n'+1) k).length,cu c (n'+1) k,bY c,bU c,cI c,dw c,()):=ih n' (k,bY c,bU c,cI c,dw c,()) _ (by omega) ⟨k,d+1,rfl,Oo,by omega,rfl⟩
    refine bind_eq (A:=D76) hq ?_
    simp only [List.drop_zero,List.take_length,r1,af]
    have hle:(pre.flatMap (cu c (n'+1))).length+(cu c (n'+1) k).length<=c.length:=by
     have:((eu c z).flatMap (cu c (n'+1))).length=(pre.flatMap (cu c (n'+1))).length+((cu c (n'+1) k).length+(post.flatMap (cu c (n'+1))).length):=by rw [hx];simp
     omega
    rw [b8 (show _<bp by rw [cL];omega)]
    simp only [List.length_append]
    rfl) (by
    rintro o _
    have e2 : (run rec (gH76_0 (o.length, 0, (eu c z).length, (((eu c z).length : Nat) : Int), (((eu c z).length : Nat) : Int), o, b, bY c, bU c, cI c, dw c, ()))) = k9 (decide ((((eu c z).length : Nat) : Int) < (((eu c z).length : Nat) : Int))) (need (bR (((eu c z).length : Nat) : Int) (((eu c z).length : Nat) : Int)) (need (decide (0 + Int.toNat (((eu c z).length : Nat) : Int) < b.length))
      (cE (rec (b.getD (0 + Int.toNat (((eu c z).length : Nat) : Int)) (bs []), bY c, bU c, cI c, dw c, ()) : Option D76) fun y1 => need (decide (o.length + ((y1.2.1.drop 0).take y1.1).length < bp)) (need (cN .i64 ((((eu c z).length : Nat) : Int) + 1))
       (some (.inl (o.length+((y1.2.1.drop 0).take y1.1).length,0,(eu c z).length,(((eu c z).length:Nat):Int),(((eu c z).length:Nat):Int)+1,((o.drop 0).take o.length)++((y1.2.1.drop 0).take y1.1),b,y1.2.2.1,y1.2.2.2.1,y1.2.2.2.2.1,y1.2.2.2.2.2.1,())))))))
      (some (.inr (o.length,o,bY c,bU c,cI c,dw c,()))):=rfl
    rw [e2,aI,if_neg (by omega)]
    simp) (s:=[]) rfl)
  refine bind_eq (A:=Nat×List ByteArray×Bf×Gi×gh×gh×Unit) hit ?_
  simp only [FH105,yj]
  have hsrt:vp .str ((eu c z).flatMap (cu c n)) ((eu c z).flatMap (cu c n)).length=some (oI .str ((eu c z).flatMap (cu c n)),()):=oW kS (dN _) (pO kS _) (by omega)
  refine bind_eq hsrt ?_
  rw [hv]
  have hpl:=(dN (t:=.str) ((eu c z).flatMap (cu c n))).length_eq
  rw [hpl]
  rfl
end
end Go.Proofs.Tryz
end
section
namespace Go.Proofs.Tryz
open Go.AM
set_option maxRecDepth 100000
def msg (c:List Mg) (x:ByteArray):Mg:=aA .str zM (bY c) x
def nX (c:List Mg) (x:ByteArray):Bool:=aT .str (bY c) x
section
variable {c:List Mg}
theorem bH {x:ByteArray}:nX c x=true↔x∈ids c:=by
 unfold nX ids
 rw [dG kS]
 constructor
 ·rintro ⟨v, hv⟩
  obtain ⟨m,hm,h⟩:=List.mem_map.1 hv
  exact List.mem_map.2 ⟨m,hm,congrArg Prod.fst h⟩
 ·intro h
  obtain ⟨m,hm,rfl⟩:=List.mem_map.1 h
  exact ⟨m,List.mem_map.2 ⟨m,hm,rfl⟩⟩
theorem dY (hs:SI c) {m:Mg} (hm:m∈c):msg c m.1=m:=gw kS hs.cam (List.mem_map.2 ⟨m,hm,rfl⟩)
theorem C1 (hs:SI c) {x:ByteArray} (h:nX c x=true):msg c x∈c/\(msg c x).1=x:=by
 obtain ⟨m,hm,rfl⟩:=List.mem_map.1 (bH.1 h)
 rw [dY hs hm];exact ⟨hm,rfl⟩
theorem k7 (hs:SI c) {x:ByteArray} (h:nX c x=true) (hk:(msg c x).2.1=1):WV c x:=by
 intro y hy
 obtain ⟨m,hm,h1,h2,_⟩:=k6.1 hy
 subst h1
 rw [dY hs hm] at hk
 omega
def zX (c : List Mg) : Nat → ByteArray → Option ByteArray
 |0,_=>none
 |n+1,x=>if nX c x=true then (if (msg c x).2.1=3 then none else if cZ c x=true then none else if (msg c x).2.1=1 then some x else zX c n (msg c x).2.2.1) else none
theorem FP (hs : SI c) : ∀ {n : Nat} {x t : ByteArray}, zX c n x = some t → nX c t = true ∧ (msg c t).2.1 = 1 ∧ cZ c t = false
 |0,_,_,h=>by cases h
 |n+1,x,t,h=>by
  unfold zX at h
  split at h<;>try (cases h;done)
  rename_i h1
  split at h<;>try (cases h;done)
  split at h<;>try (cases h;done)
  rename_i h3
  split at h
  ·rename_i h4;cases h;exact ⟨h1,h4,by simpa using h3⟩
  ·exact FP hs h
abbrev mL (c:List Mg) (x:ByteArray):Option ByteArray:=zX c c.length x
theorem kH74 (hs:SI c) (hc:c.length<1000000) (x:ByteArray):ai (FH74 x (bY c) (bU c) (cI c) (dw c)) =
  some (match mL c x with|some t=>((gY c t).length,true,gY c t,bY c,bU c,cI c,dw c,())|none=>(0,false,[],bY c,bU c,cI c,dw c,())):=by
 have key:∀(l:List (ByteArray×Mg)) (x:ByteArray),∃x',zL (fun e a=>run (fun _=>none) (gH74_0 e a)) l (x,bY c,bU c,cI c,dw c,()) =
   some (match zX c l.length x with|some t=>.inr ((gY c t).length,true,gY c t,bY c,bU c,cI c,dw c,())|none=>x') /\
   (zX c l.length x=none->x' = .inr (0,false,[],bY c,bU c,cI c,dw c,())\/∃y,x' = .inl (y,bY c,bU c,cI c,dw c,())):=by
  intro l
  induction l with
  |nil=>intro x;exact ⟨.inl (x,bY c,bU c,cI c,dw c,()),rfl,fun _=>.inr ⟨x,rfl⟩⟩
  |cons e l ih =>
   intro x
   have hg:run (fun _=>none) (gH74_0 e (x,bY c,bU c,cI c,dw c,()))=if nX c x=true then (if (msg c x).2.1=3 then some (.inr (0,false,[],bY c,bU c,cI c,dw c,())) else if cZ c x=true then some (.inr (0,false,[],bY c,bU c,cI c,dw c,())) else if (msg c x).2.1=1 then some (.inr ((gY c x).length,true,gY c x,bY c,bU c,cI c,dw c,())) else some (.inl ((msg c x).2.2.1,bY c,bU c,cI c,dw c,()))) else some (.inr (0,false,[],bY c,bU c,cI c,dw c,())):=by
    simp only [gH74_0,ah,ay,aS,aa,dL,af,bB,aY,CW]
    rw [show aT .str (bY c) x=nX c x from rfl,show aA .str zM (bY c) x=msg c x from rfl,jM]
    split
    ·rename_i h1
     split
     ·rfl
     ·rw [jM]
      split
      ·rfl
      ·split
       ·rename_i h4
        rw [ag (R7 hs hc (k7 hs h1 h4) (bH.1 h1))]
       ·rfl
    ·rfl
   simp only [zL,hg,List.length_cons,zX]
   by_cases h1:nX c x=true
   ·rw [if_pos h1, if_pos h1]
    by_cases h2:(msg c x).2.1=3
    ·rw [if_pos h2,if_pos h2];exact ⟨_,rfl,fun _=>.inl rfl⟩
    ·rw [if_neg h2, if_neg h2]
     by_cases h3:cZ c x=true
     ·rw [if_pos h3,if_pos h3];exact ⟨_,rfl,fun _=>.inl rfl⟩
     ·rw [if_neg h3, if_neg h3]
      by_cases h4:(msg c x).2.1=1
      ·rw [if_pos h4,if_pos h4];exact ⟨.inr (0,false,[],bY c,bU c,cI c,dw c,()),rfl,fun h=>by cases h⟩
      ·rw [if_neg h4,if_neg h4];exact ih _
   ·rw [if_neg h1,if_neg h1];exact ⟨_,rfl,fun _=>.inl rfl⟩
 unfold FH74
 simp only [ay]
 have hmp:∃x',run (fun _=>none) (.mp gH74_0 (bY c) (x,bY c,bU c,cI c,dw c,()))=some (match mL c x with|some t=>.inr ((gY c t).length,true,gY c t,bY c,bU c,cI c,dw c,())|none=>x') /\
   (mL c x=none->x' = .inr (0,false,[],bY c,bU c,cI c,dw c,())\/∃y,x' = .inl (y,bY c,bU c,cI c,dw c,())):=by
  obtain ⟨x',h1,h2⟩:=key (bY c) x
  have hlen:(bY c).length=c.length:=List.length_map ..
  rw [hlen] at h1 h2
  refine ⟨x',Eq.trans aai (gO fun l hp=>?_),h2⟩
  have zy:l.length=(bY c).length:=hp.length_eq
  have hany:∀(l l':List (ByteArray×Mg)) (a:ByteArray×Bf×Gi×gh×gh×Unit),l.length=l'.length->zL (fun e a=>run (fun _=>none) (gH74_0 e a)) l a=zL (fun e a=>run (fun _=>none) (gH74_0 e a)) l' a:=by
   intro l
   induction l with
   |nil =>
    intro l' a h
    cases l' with
    |nil=>rfl
    |cons _ _=>simp at h
   |cons e l ih =>
    intro l' a h
    cases l' with
    |nil=>simp at h
    |cons e' l' =>
     have hs:run (fun _=>none) (gH74_0 e a)=run (fun _=>none) (gH74_0 e' a):=rfl
     simp only [zL,hs]
     split
     ·rfl
     ·exact ih l' _ (by simpa using h)
     ·rfl
  rw [hany l (bY c) _ zy]
  exact h1
 obtain ⟨x',h1,h2⟩:=hmp
 rw [ag h1]
 cases hst:mL c x with
 |some t=>simp only [jA,aa]
 |none =>
  rcases h2 hst with rfl|⟨y,rfl⟩
  ·simp only [jA,aa]
  ·simp only [lX,aa]
def R9 (x:ByteArray) (l:List ByteArray):Bool:=l.any fun y=>decide (y=x)
theorem sR {x:ByteArray} {l:List ByteArray}:R9 x l=true↔x∈l:=by
 unfold R9;rw [List.any_eq_true]
 constructor
 ·rintro ⟨y,hy,h⟩;have:=of_decide_eq_true h;subst this;exact hy
 ·intro h;exact ⟨x,h,decide_eq_true rfl⟩
theorem k75 {l:List ByteArray} (hl:l.length<1000000000) (x:ByteArray):ai (F75 l x)=some (R9 x l,()):=by
 have hi:iter (fun a=>run (fun _=>none) (g103_0 a)) (l,x,((l.length:Nat):Int),(0:Int),())=some (match eR (fun y=>decide (y=x)) 0 l with|some k=>Sum.inl (((k:Nat):Int),())|none=>Sum.inr ()):=by
  refine aO l (fun k (_:Nat)=>(l,x,((l.length:Nat):Int),(k:Int),())) (fun k r=>match eR (fun y=>decide (y=x)) k r with|some k=>Sum.inl (((k:Nat):Int),())|none=>Sum.inr ()) (fun pre k=>k=pre.length) ?_ ?_ (s:=0) rfl
  ·rintro pre y post k hx rfl
   have hlen:l.length=pre.length+(post.length+1):=by rw [hx];simp
   have hd:l.getD pre.length (bs [])=y:=by rw [hx];exact aR rfl
   have i1:bR (pre.length:Int) ((l.length:Nat):Int)=true:=aQ (by omega) (by omega)
   have r1:cN .i64 ((pre.length:Int)+1)=true:=aC (by omega) (by omega)
   simp only [g103_0,ah,aH,aG,aa,Int.toNat_natCast,hd,i1,r1,af,aI,seq_eq]
   rw [if_pos (by omega)]
   by_cases h:y=x
   ·right
    rw [if_pos h.symm]
    simp [eR,h]
   ·left
    refine ⟨pre.length+1,?_,by simp,?_⟩
    ·rw [if_neg (fun e=>h e.symm)];rfl
    ·simp [eR,h]
  ·rintro k _
   simp only [g103_0,ah,aI,aa]
   rw [if_neg (by omega)];rfl
 unfold F75 F103
 simp only [ay,bf]
 rcases lM (fun y=>decide (y=x)) l 0 with ⟨p,y,q,h1,h2,h3,h4⟩|⟨h1,h2⟩
 ·rw [h4] at hi
  rw [ag hi]
  have hy:y=x:=by simpa using h3
  simp only [lX,aa,aF]
  congr 2
  rw [Bool.eq_iff_iff,decide_eq_true_eq,sR]
  exact ⟨fun _=>by rw [h1,hy];simp,fun _=>by omega⟩
 ·rw [h2] at hi
  rw [ag hi]
  simp only [jA,aa,aF]
  congr 2
  rw [Bool.eq_iff_iff,decide_eq_true_eq,sR]
  refine ⟨fun h=>by omega,fun h=>?_⟩
  have:=h1 x h
  simp at this
def dP (c:List Mg) (x:ByteArray):Int×Int :=
 if nX c x=true then (if (msg c x).2.1=3 then (0,18) else if cZ c x=true then (2,0) else match mL c x with
  |none=>(1,0)
  |some t=>if R9 x (gY c t)=true then (if 1<(gY c t).length then (5,0) else (4,0)) else (3,0)) else (0,5)
def mM (c:List Mg) (x:ByteArray):List ByteArray×Int:=if nX c x=true then (if (msg c x).2.1=1 then (gY c x,0) else ([],18)) else ([],5)
theorem fP {L:List Mg} (h:iH L):(cnt L).length<=60:=by
 have hn:(cnt L).Nodup:=List.Pairwise.imp (fun {a b} h e=>by subst e;rw [show slt a.1 a.1=false from eW (t:=.str) kS a.1] at h;cases h) (eS L)
 have:=List.Nodup.length_le_of_subset hn (fun m hm=>CV hm)
 have:=h.len
 omega
theorem kH32 {L:List Mg} (h:iH L) (x:ByteArray):ai (FH32 x (bk L))=some ((dP (cnt L) x).1,(dP (cnt L) x).2,bk L,()):=by
 have hs:=eS L
 have hc:=fP h
 unfold FH32
 simp only [ay,CU,aF,ah,aM]
 rw [ag (R6 h)]
 simp only [aa,bB,aY,CW]
 rw [show aT .str (bY (cnt L)) x=nX (cnt L) x from rfl,show aA .str zM (bY (cnt L)) x=msg (cnt L) x from rfl,jM]
 unfold dP
 by_cases h1:nX (cnt L) x=true
 ·rw [if_pos h1, if_pos h1, if_pos trivial]
  by_cases h2:(msg (cnt L) x).2.1=3
  ·rw [if_pos h2,if_pos h2]
  ·rw [if_neg h2, if_neg h2, jM]
   by_cases h3:cZ (cnt L) x=true
   ·rw [if_pos h3,if_pos h3]
   ·rw [if_neg h3, if_neg h3]
    rw [ag (kH74 hs (by omega) x)]
    cases hst:mL (cnt L) x with
    |none=>simp
    |some t =>
     obtain ⟨ht1,ht2,_⟩:=FP hs hst
     have hvl:(gY (cnt L) t).length<=(cnt L).length:=gx hs (k7 hs ht1 ht2) (bH.1 ht1) .zero
     simp only [bt,List.drop_zero,List.take_length]
     rw [ag (k75 (by omega) x)]
     rw [jM]
     simp only [aI]
     by_cases h4:R9 x (gY (cnt L) t)=true
     ·rw [if_pos h4, if_pos h4]
      by_cases h5:1<(gY (cnt L) t).length
      ·rw [if_pos (by omega),if_pos h5]
      ·rw [if_neg (by omega),if_neg h5]
     ·rw [if_neg h4,if_neg h4]
 ·rw [if_neg h1,if_neg h1,if_neg (by omega)]
theorem kH33 {L:List Mg} (h:iH L) (x:ByteArray):ai (FH33 x (bk L))=some ((mM (cnt L) x).1.length,(mM (cnt L) x).2,(mM (cnt L) x).1,bk L,()):=by
 have hs:=eS L
 have hc:=fP h
 unfold FH33
 simp only [ay,CU,aF,ah,aM]
 rw [ag (R6 h)]
 simp only [aa,bB,aY]
 rw [show aT .str (bY (cnt L)) x=nX (cnt L) x from rfl,show aA .str zM (bY (cnt L)) x=msg (cnt L) x from rfl,jM]
 unfold mM
 by_cases h1:nX (cnt L) x=true
 ·rw [if_pos h1, if_pos h1, if_pos trivial]
  by_cases h2:(msg (cnt L) x).2.1=1
  ·rw [if_pos h2,if_pos h2,ag (R7 hs (by omega) (k7 hs h1 h2) (bH.1 h1))]
  ·rw [if_neg h2,if_neg h2];rfl
 ·rw [if_neg h1,if_neg h1,if_neg (by omega)];rfl
theorem Iy {L:List Mg} (h:iH L) (x:ByteArray) (n:Int):ai (FH40 x n (bk L))=some (decide (dP (cnt L) x=(n,0)),bk L,()):=by
 unfold FH40
 simp only [ay]
 rw [ag (kH32 h x)]
 simp only [ah,aa,aY]
 by_cases h1:(dP (cnt L) x).2=0
 ·rw [if_pos h1]
  congr 2
  rw [Bool.eq_iff_iff,beq_iff_eq,decide_eq_true_eq]
  exact ⟨fun h=>Prod.ext h h1,fun h=>by rw [h]⟩
 ·rw [if_neg h1]
  congr 2
  exact (decide_eq_false fun h=>h1 (by rw [h])).symm
end
end Go.Proofs.Tryz
end
section
namespace Go.Proofs.Tryz
open Go.AM
set_option maxRecDepth 100000
abbrev Zs:=List (Int×Unit)
abbrev kI:bL (.int .i64)=some [.i]:=rfl
def mN (l:Zs) (n:Int) (nx:Zs):Zs:=l.foldl (fun nx e=>bn (.int .i64) nx (e.1+n) ()) nx
def CZ (z:Zs):Prop:=gX (.int .i64) z
def sZ (Z:Zs) (z:Int):Prop:=(z,())∈Z
theorem CZ.put {Z:Zs} (h:CZ Z) (z:Int):CZ (bn (.int .i64) Z z ()):=gX.iE kI h
theorem KG {Z:Zs} (h:CZ Z) {z y:Int}:sZ (bn (.int .i64) Z z ()) y↔y=z\/sZ Z y:=by
 unfold sZ
 rw [fH kI h]
 constructor
 ·rintro (e | ⟨h, _⟩)
  ·cases e;exact .inl rfl
  ·exact .inr h
 ·by_cases e : y = z
  ·subst e;exact fun _=>.inl rfl
  ·rintro (e' | h)
   ·exact absurd e' e
   ·exact .inr ⟨h,e⟩
theorem lN {n : Int} : ∀ {l nx : Zs}, CZ nx → CZ (mN l n nx) ∧ ∀ z, sZ (mN l n nx) z ↔ sZ nx z ∨ ∃ x, sZ l x ∧ z = x + n
 |[],nx,h=>⟨h,fun z=>by simp [mN,sZ]⟩
 |e::l,nx,h=>by
  obtain ⟨h1,h2⟩:=lN (n:=n) (l:=l) (h.put (e.1+n))
  refine ⟨h1,fun z=>?_⟩
  have h3:mN (e::l) n nx=mN l n (bn (.int .i64) nx (e.1+n) ()):=rfl
  rw [h3,h2,KG h]
  constructor
  ·rintro ((h | h) | ⟨x, hx, h⟩)
   ·exact .inr ⟨e.1,List.mem_cons_self ..,h⟩
   ·exact .inl h
   ·exact .inr ⟨x,List.mem_cons_of_mem _ hx,h⟩
  ·rintro (h | ⟨x, hx, h⟩)
   ·exact .inl (.inr h)
   ·rcases List.mem_cons.1 hx with e' | hx
    ·exact .inl (.inl (by rw [h,<-e']))
    ·exact .inr ⟨x,hx,h⟩
theorem CZ.ext {Z Z':Zs} (h:CZ Z) (h':CZ Z') (hz:∀z,sZ Z z↔sZ Z' z):Z=Z':=Kv kI h h' fun e=>hz e.1
theorem Bi {l l' nx:Zs} {n:Int} (h:CZ nx) (hp:l.Perm l'):mN l n nx=mN l' n nx :=
 (lN h).1.ext (lN h).1 fun z=>by
  rw [(lN h).2,(lN h).2]
  exact or_congr_right ⟨fun ⟨x,hx,e⟩=>⟨x,hp.mem_iff.1 hx,e⟩,fun ⟨x,hx,e⟩=>⟨x,hp.mem_iff.2 hx,e⟩⟩
def mP (f:ByteArray->Int) (can:Zs) (vs:List ByteArray):Zs:=vs.foldl (fun nx v=>mN can (f v) nx) []
theorem FQ {f : ByteArray → Int} {can : Zs} : ∀ {vs : List ByteArray} {nx : Zs}, CZ nx → CZ (vs.foldl (fun nx v => mN can (f v) nx) nx) ∧ ∀ z, sZ (vs.foldl (fun nx v => mN can (f v) nx) nx) z ↔ sZ nx z ∨ ∃ v ∈ vs, ∃ x, sZ can x ∧ z = x + f v
 |[],nx,h=>⟨h,fun z=>by simp⟩
 |v::vs,nx,h=>by
  obtain ⟨h1,h2⟩:=lN (n:=f v) (l:=can) h
  obtain ⟨h3,h4⟩:=FQ (f:=f) (can:=can) (vs:=vs) h1
  refine ⟨h3,fun z=>?_⟩
  rw [List.foldl_cons,h4,h2]
  simp only [List.mem_cons,exists_eq_or_imp,or_assoc]
theorem mQ {f:ByteArray->Int} {can:Zs} {vs:List ByteArray}:CZ (mP f can vs)/\∀z,sZ (mP f can vs) z↔∃v∈vs,∃x,sZ can x/\z=x+f v:=by
 obtain ⟨h1,h2⟩:=FQ (f:=f) (can:=can) (vs:=vs) (nx:=[]) .nil
 exact ⟨h1,fun z=>(h2 z).trans (by simp [sZ])⟩
def pY (c:List Mg):List ByteArray:=(c.filter fun m=>decide (m.2.1=1)).map (·.1)
def iA (c:List Mg) (f:ByteArray->Int) (ts:List ByteArray) (can:Zs):Zs:=ts.foldl (fun can t=>mP f can (gY c t)) can
def cw:Zs:=bn (.int .i64) [] 0 ()
def iC (c:List Mg) (f:ByteArray->Int):List Int:=(iA c f (pY c) cw).map (·.1)
theorem cM:CZ cw/\∀z,sZ cw z↔z=0:=⟨CZ.put .nil 0,fun z=>(KG .nil).trans (by simp [sZ])⟩
theorem sS {c : List Mg} {f : ByteArray → Int} : ∀ {ts : List ByteArray} {can : Zs}, CZ can → CZ (iA c f ts can)
 |[],_,h=>h
 |t::ts,can,_=>sS (ts:=ts) mQ.1
def BZ (B:Int) (Z:Zs):Prop:=∀z,sZ Z z -> -B<=z/\z<=B
theorem pS {f:ByteArray->Int} {can:Zs} {vs:List ByteArray} {B:Int} (h:BZ B can) (hf:∀v∈vs,-1000<=f v/\f v<=1000):BZ (B+1000) (mP f can vs):=fun z hz=>by
 obtain ⟨v,hv,x,hx,rfl⟩:=(mQ.2 z).1 hz
 have:=h x hx;have:=hf v hv;omega
section
variable {c:List Mg}
theorem WY (hs:SI c) {t v:ByteArray} (ht:nX c t=true) (hk:(msg c t).2.1=1) (hv:v∈gY c t):nX c v=true/\((msg c v).2.1=1\/(msg c v).2.1=2):=by
 have hd:=mK hv
 cases hd with
 |refl=>exact ⟨ht,.inl hk⟩
 |step _ hz =>
  obtain ⟨m,hm,h1,h2,_⟩:=k6.1 hz
  subst h1
  exact ⟨bH.2 (List.mem_map.2 ⟨m,hm,rfl⟩),.inr (by rw [dY hs hm];exact h2)⟩
theorem WZ {m:Mg} (h:vD m=0) (hk:m.2.1=1\/m.2.1=2) : -1000<=m.2.2.2.2/\m.2.2.2.2<=1000:=by
 unfold vD at h
 split at h
 ·cases h
 split at h
 ·unfold FJ at h
  have h3:qo m=0:=by
   by_cases h1:u7 m=0
   ·by_cases h2 : qo m = 0
    ·exact h2
    ·simp [h1,h2] at h
   ·simp [h1] at h
  unfold qo at h3
  rw [if_neg (by omega)] at h3
  split at h3
  ·split at h3
   ·assumption
   ·cases h3
  ·cases h3
 ·cases h
def fA (c:List Mg) (a v:ByteArray):Int:=if (msg c v).2.2.2.1=a then (msg c v).2.2.2.2 else 0
def fT (c:List Mg) (v:ByteArray):Int:=(msg c v).2.2.2.2
def SY (c:List Mg) (f:ByteArray->Int):Prop:=∀t v,nX c t=true->(msg c t).2.1=1->v∈gY c t -> -1000<=f v/\f v<=1000
theorem W0 (hs:SI c) (hc:∀m∈c,vD m=0):SY c (fT c):=fun t v h1 h2 h3=>by
 obtain ⟨h4,h5⟩:=WY hs h1 h2 h3
 exact WZ (hc _ (C1 hs h4).1) h5
theorem acB (hs:SI c) (hc:∀m∈c,vD m=0) (a:ByteArray):SY c (fA c a):=fun t v h1 h2 h3=>by
 have:=W0 hs hc t v h1 h2 h3
 unfold fA;unfold fT at this
 split<;>omega
theorem k68 (m:Mg) (a:ByteArray):ai (F68 m a)=some (if m.2.2.2.1=a then m.2.2.2.2 else 0,()):=by
 simp only [F68,ah,aa,bB,seq_eq,aI]
 split<;>rfl
theorem k78 (m:Mg):ai (F78 m)=some (m.2.2.2.2,()):=rfl
theorem KH (z:Int) (m:Zs):ai (FH100 z m)=some (bn (.int .i64) m z (),()):=rfl
theorem Y7 {Z:Zs} (h:CZ Z) (hl:Z.length<1000000000):ai (FH102 Z)=some (Z.length,Z.map (·.1),Z,()):=by
 unfold FH102
 refine Eq.trans Co (gO fun l hp=>?_)
 have zy:l.length=Z.length:=hp.length_eq
 simp only [ay,Cp]
 refine bind_eq (sM (m:=Z) (l:=l) (by rw [zy];exact hl) fun e n b hn=>?_) ?_
 ·simp only [gH102f121f133_0i_0, aS, aa, dL, af]
  rw [b8 (show _<bp by rw [cL];simp;omega)]
  rfl
 ·simp only [FH122, yj]
  have hpk:(Z.map (·.1)).Perm (l.map (·.1)):=(hp.map (·.1)).symm
  have:=oW kI hpk (gX.keys kI h) (by rw [List.length_map];omega)
  rw [List.length_map] at this
  rw [ag this,zy]
  rfl
theorem Iz {Z:Zs} {B:Nat} (h:CZ Z) (hb:BZ (B:Int) Z):Z.length<=2 * B+1:=by
 have hn:(Z.map (·.1)).Nodup:=by
  unfold List.Nodup
  rw [List.pairwise_map]
  exact List.Pairwise.imp (fun {a b} h e=>by rw [e,eW kI] at h;cases h) h
 have h2:((Z.map (·.1)).map fun z:Int=>(z+(B:Int)).toNat).Nodup:=by
  unfold List.Nodup
  rw [List.pairwise_map]
  refine List.Pairwise.imp_of_mem (fun {a b} ha hb' hab e=>hab ?_) hn
  obtain ⟨p,hp,rfl⟩:=List.mem_map.1 ha
  obtain ⟨q,hq,rfl⟩:=List.mem_map.1 hb'
  have h3:=hb p.1 hp
  have h4:=hb q.1 hq
  omega
 have:=List.Nodup.length_le_of_subset h2 (l₂:=List.range (2 * B+1)) fun z hz=>by
  obtain ⟨y,hy,rfl⟩:=List.mem_map.1 hz
  obtain ⟨p,hp,rfl⟩:=List.mem_map.1 hy
  have h3:=hb p.1 hp
  rw [List.mem_range];omega
 simpa using this
theorem kA67 {a:ByteArray} {nv:Nat} {w1 w2 n:Int} {pX js:List ByteArray} {can nx:Zs} (hx:CZ nx) (hb:BZ 1000000 can) (hn : -1000<=n/\n<=1000):ai (gH67_0b_2 (nv,w1,w2,n,pX,bY c,bU c,cI c,dw c,a,js,can,nx,()))=some (nv,w1,w2,pX,bY c,bU c,cI c,dw c,a,js,can,mN can n nx,()):=by
 unfold gH67_0b_2
 simp only [ay]
 refine bind_eq (Eq.trans Hl (gO (b:=(nv,w1,w2,can,bY c,bU c,cI c,dw c,a,n,pX,js,mN can n nx,())) fun l hp=>?_)) rfl
 have key:∀(l:Zs) (nx:Zs),(∀e∈l,e∈can)->AF (fun e a=>run (fun _=>none) (gH67_0b_2i_0 e a)) l (nv,w1,w2,can,bY c,bU c,cI c,dw c,a,n,pX,js,nx,())=some (nv,w1,w2,can,bY c,bU c,cI c,dw c,a,n,pX,js,mN l n nx,()):=by
  intro l
  induction l with
  |nil=>intro nx _;rfl
  |cons e l ih =>
   intro nx hm
   have hz:=hb e.1 (hm e (List.mem_cons_self ..))
   have hs:run (fun _=>none) (gH67_0b_2i_0 e (nv,w1,w2,can,bY c,bU c,cI c,dw c,a,n,pX,js,nx,()))=some (nv,w1,w2,can,bY c,bU c,cI c,dw c,a,n,pX,js,bn (.int .i64) nx (e.1+n) (),()):=by
    simp only [gH67_0b_2i_0,aG,ay,aS,aa,KH,aF,dL,af]
    rw [iS (aC (by omega) (by omega))]
   simp only [AF,hs]
   exact ih _ fun e he=>hm e (List.mem_cons_of_mem _ he)
 rw [key l nx fun e he=>hp.mem_iff.1 he,Bi hx hp]
theorem kB67 {a:ByteArray} {js:List ByteArray} {can:Zs} {vs:List ByteArray} (hvl:vs.length<1000000) (hb:BZ 1000000 can) (hf:∀v∈vs,-1000<=fA c a v/\fA c a v<=1000) :
  iter (fun x=>ai (gH67_0b_1 x)) (vs.length,((vs.length:Nat):Int),(0:Int),vs,bY c,bU c,cI c,dw c,a,js,can,[],())=some (bY c,bU c,cI c,dw c,a,js,vs,can,mP (fA c a) can vs,()):=by
 refine aO vs (fun k (nx:Zs)=>(vs.length,((vs.length:Nat):Int),(k:Int),vs,bY c,bU c,cI c,dw c,a,js,can,nx,())) (fun nx r=>(bY c,bU c,cI c,dw c,a,js,vs,can,r.foldl (fun nx v=>mN can (fA c a v) nx) nx,())) (fun _ nx=>CZ nx) ?_ ?_ (s:=[]) .nil
 ·intro pre v post nx hx Gb
  have hlen:vs.length=pre.length+(post.length+1):=by rw [hx];simp
  have hd:vs.getD pre.length (bs [])=v:=by rw [hx];exact aR rfl
  have i1:bR (pre.length:Int) ((vs.length:Nat):Int)=true:=aQ (by omega) (by omega)
  have r1:cN .i64 ((pre.length:Int)+1)=true:=aC (by omega) (by omega)
  have d1:decide (pre.length<vs.length)=true:=decide_eq_true (by omega)
  left
  refine ⟨mN can (fA c a v) nx,?_,(lN Gb).1,rfl⟩
  simp only [gH67_0b_1,ah,aH,aS,aG,ay,aa,Int.toNat_natCast,Nat.zero_add,hd,i1,d1,af,aI,FH101,FH120,aF]
  rw [if_pos (by omega)]
  rw [ag (show ai (F68 ((aA .str zM (bY c) v).1,(aA .str zM (bY c) v).2.1,(aA .str zM (bY c) v).2.2.1,(aA .str zM (bY c) v).2.2.2.1,(aA .str zM (bY c) v).2.2.2.2) a)=some (fA c a v,()) from k68 _ _)]
  rw [ag (kA67 Gb hb (hf v (by rw [hx];simp)))]
  simp only [r1,af]
  rfl
 ·intro nx _
  simp only [gH67_0b_1,ah,aa,aI]
  rw [if_neg (by omega)]
  rfl
theorem kC67 {a:ByteArray} (hs:SI c) (hl:c.length<=60) (hB:SY c (fA c a)):iter (fun x=>ai (gH67_0i_0 x)) (c.length,((c.length:Nat):Int),(0:Int),c.map (·.1),bY c,bU c,cI c,dw c,a,cw,()) =
  some (bY c,bU c,cI c,dw c,a,iA c (fA c a) (pY c) cw,()):=by
 have zy:(c.map (·.1)).length=c.length:=List.length_map ..
 refine aO c (fun k (can:Zs)=>(c.length,((c.length:Nat):Int),(k:Int),c.map (·.1),bY c,bU c,cI c,dw c,a,can,())) (fun can r=>(bY c,bU c,cI c,dw c,a,iA c (fA c a) ((r.filter fun m=>decide (m.2.1=1)).map (·.1)) can,())) (fun pre can=>CZ can/\BZ (1000 * (pre.length:Int)) can) ?_ ?_ (s:=cw) ⟨cM.1,fun z hz=>by rw [(cM.2 z).1 hz];simp⟩
 ·rintro pre m post can hx ⟨vE, hbz⟩
  have hlen:c.length=pre.length+(post.length+1):=by rw [hx];simp
  have hm:m∈c:=by rw [hx];simp
  have hd:(c.map (·.1)).getD pre.length (bs [])=m.1:=by rw [hx,List.map_append,List.map_cons];exact aR (by simp)
  have hg:aA .str zM (bY c) m.1=m:=dY hs hm
  have i1:bR (pre.length:Int) ((c.length:Nat):Int)=true:=aQ (by omega) (by omega)
  have r1:cN .i64 ((pre.length:Int)+1)=true:=aC (by omega) (by omega)
  have d1:decide (pre.length<(c.map (·.1)).length)=true:=decide_eq_true (by omega)
  have hpl:((pre++[m]).length:Int)=(pre.length:Int)+1:=by simp
  left
  by_cases hk:m.2.1=1
  ·have him : nX c m.1 = true := bH.2 (List.mem_map.2 ⟨m, hm, rfl⟩)
   have hkm:(msg c m.1).2.1=1:=by rw [dY hs hm];exact hk
   have hvl:(gY c m.1).length<=c.length:=gx hs (k7 hs him hkm) (bH.1 him) .zero
   refine ⟨mP (fA c a) can (gY c m.1),?_,⟨mQ.1,?_⟩,?_⟩
   ·simp only [gH67_0i_0, ah, aH, aS, aG, ay, bf, aa, Int.toNat_natCast, Nat.zero_add, hd, hg, i1, d1, af, aI, aY]
    rw [if_pos (by omega),if_pos hk,ag (R7 hs (by omega) (k7 hs him hkm) (bH.1 him))]
    rw [ag (kB67 (vs:=gY c m.1) (by omega) (fun z hz=>by have:=hbz z hz;omega) (fun v hv=>hB m.1 v him hkm hv))]
    simp only [r1,af]
    rfl
   ·have := pS (f := (fA c a)) (vs := gY c m.1) hbz fun v hv => hB m.1 v him hkm hv
    intro z hz
    have:=this z hz
    omega
   ·rw [List.filter_cons_of_pos (by simpa using hk)]
    rfl
  ·refine ⟨can, ?_, ⟨vE, fun z hz => by have := hbz z hz; omega⟩, ?_⟩
   ·simp only [gH67_0i_0, ah, aH, aS, aG, ay, bf, aa, Int.toNat_natCast, Nat.zero_add, hd, hg, i1, d1, r1, af, aI, aY]
    rw [if_pos (by omega),if_neg hk]
    rfl
   ·rw [List.filter_cons_of_neg (by simpa using hk)]
 ·rintro can _
  simp only [gH67_0i_0,ah,aa,aI]
  rw [if_neg (by omega)]
  rfl
theorem kH67 {a:ByteArray} (hs:SI c) (hl:c.length<=60) (hB:SY c (fA c a)):ai (FH67 a (bY c) (bU c) (cI c) (dw c))=some ((iC c (fA c a)).length,iC c (fA c a),bY c,bU c,cI c,dw c,a,()):=by
 have vE:CZ (iA c (fA c a) (pY c) cw):=sS cM.1
 have hbz:BZ 1000000 (iA c (fA c a) (pY c) cw):=by
  have key:∀(ts:List ByteArray) (can:Zs) (B:Int),(∀t∈ts,nX c t=true/\(msg c t).2.1=1)->BZ B can->BZ (B+1000 * ts.length) (iA c (fA c a) ts can):=by
   intro ts
   induction ts with
   |nil=>intro can B _ h;simpa [iA] using h
   |cons t ts ih =>
    intro can B ht h
    have h1:=ht t (List.mem_cons_self ..)
    have:=ih (mP (fA c a) can (gY c t)) (B+1000) (fun t h=>ht t (List.mem_cons_of_mem _ h)) (pS h fun v hv=>hB t v h1.1 h1.2 hv)
    intro z hz
    have:=this z hz
    simp only [List.length_cons]
    omega
  have h1:=key (pY c) cw 0 (fun t ht=>by
   obtain ⟨m,hm,rfl⟩:=List.mem_map.1 ht
   obtain ⟨h1,h2⟩:=List.mem_filter.1 hm
   exact ⟨bH.2 (List.mem_map.2 ⟨m,h1,rfl⟩),by rw [dY hs h1];simpa using h2⟩) (fun z hz=>by rw [(cM.2 z).1 hz];simp)
  have hle:(pY c).length<=c.length:=by unfold pY;rw [List.length_map];exact List.length_filter_le ..
  intro z hz
  have:=h1 z hz
  omega
 have hlen:=Iz (B:=1000000) vE (by simpa using hbz)
 unfold FH67 gH67_0
 simp only [ay,KH,aF,FH79,FH95,aa,bf]
 rw [ag (WR hs (by omega))]
 refine bind_eq (bind_eq (kC67 hs hl hB) rfl) ?_
 simp only [aF,FH101,FH120,ay,aa]
 rw [ag (Y7 vE (by omega))]
 unfold iC
 rw [List.length_map]
theorem W1 {nv:Nat} {w1 w2 n:Int} {pX js:List ByteArray} {can nx:Zs} (hx:CZ nx) (hb:BZ 1000000 can) (hn : -1000<=n/\n<=1000):ai (gH67_v1_0b_2 (nv,w1,w2,n,pX,bY c,bU c,cI c,dw c,js,can,nx,()))=some (nv,w1,w2,pX,bY c,bU c,cI c,dw c,js,can,mN can n nx,()):=by
 unfold gH67_v1_0b_2
 simp only [ay]
 refine bind_eq (Eq.trans Hl (gO (b:=(nv,w1,w2,can,bY c,bU c,cI c,dw c,n,pX,js,mN can n nx,())) fun l hp=>?_)) rfl
 have key:∀(l:Zs) (nx:Zs),(∀e∈l,e∈can)->AF (fun e a=>run (fun _=>none) (gH67_v1_0b_2i_0 e a)) l (nv,w1,w2,can,bY c,bU c,cI c,dw c,n,pX,js,nx,())=some (nv,w1,w2,can,bY c,bU c,cI c,dw c,n,pX,js,mN l n nx,()):=by
  intro l
  induction l with
  |nil=>intro nx _;rfl
  |cons e l ih =>
   intro nx hm
   have hz:=hb e.1 (hm e (List.mem_cons_self ..))
   have hs:run (fun _=>none) (gH67_v1_0b_2i_0 e (nv,w1,w2,can,bY c,bU c,cI c,dw c,n,pX,js,nx,()))=some (nv,w1,w2,can,bY c,bU c,cI c,dw c,n,pX,js,bn (.int .i64) nx (e.1+n) (),()):=by
    simp only [gH67_v1_0b_2i_0,aG,ay,aS,aa,KH,aF,dL,af]
    rw [iS (aC (by omega) (by omega))]
   simp only [AF,hs]
   exact ih _ fun e he=>hm e (List.mem_cons_of_mem _ he)
 rw [key l nx fun e he=>hp.mem_iff.1 he,Bi hx hp]
theorem W2 {js:List ByteArray} {can:Zs} {vs:List ByteArray} (hvl:vs.length<1000000) (hb:BZ 1000000 can) (hf:∀v∈vs,-1000<=fT c v/\fT c v<=1000) :
  iter (fun x=>ai (gH67_v1_0b_1 x)) (vs.length,((vs.length:Nat):Int),(0:Int),vs,bY c,bU c,cI c,dw c,js,can,[],())=some (bY c,bU c,cI c,dw c,js,vs,can,mP (fT c) can vs,()):=by
 refine aO vs (fun k (nx:Zs)=>(vs.length,((vs.length:Nat):Int),(k:Int),vs,bY c,bU c,cI c,dw c,js,can,nx,())) (fun nx r=>(bY c,bU c,cI c,dw c,js,vs,can,r.foldl (fun nx v=>mN can (fT c v) nx) nx,())) (fun _ nx=>CZ nx) ?_ ?_ (s:=[]) .nil
 ·intro pre v post nx hx Gb
  have hlen:vs.length=pre.length+(post.length+1):=by rw [hx];simp
  have hd:vs.getD pre.length (bs [])=v:=by rw [hx];exact aR rfl
  have i1:bR (pre.length:Int) ((vs.length:Nat):Int)=true:=aQ (by omega) (by omega)
  have r1:cN .i64 ((pre.length:Int)+1)=true:=aC (by omega) (by omega)
  have d1:decide (pre.length<vs.length)=true:=decide_eq_true (by omega)
  left
  refine ⟨mN can (fT c v) nx,?_,(lN Gb).1,rfl⟩
  simp only [gH67_v1_0b_1,ah,aH,aS,aG,ay,aa,Int.toNat_natCast,Nat.zero_add,hd,i1,d1,af,aI,FH101,FH120,aF]
  rw [if_pos (by omega)]
  rw [ag (show ai (F78 ((aA .str zM (bY c) v).1,(aA .str zM (bY c) v).2.1,(aA .str zM (bY c) v).2.2.1,(aA .str zM (bY c) v).2.2.2.1,(aA .str zM (bY c) v).2.2.2.2))=some (fT c v,()) from k78 _)]
  rw [ag (W1 Gb hb (hf v (by rw [hx];simp)))]
  simp only [r1,af]
  rfl
 ·intro nx _
  simp only [gH67_v1_0b_1,ah,aa,aI]
  rw [if_neg (by omega)]
  rfl
theorem W3 (hs:SI c) (hl:c.length<=60) (hB:SY c (fT c)):iter (fun x=>ai (gH67_v1_0i_0 x)) (c.length,((c.length:Nat):Int),(0:Int),c.map (·.1),bY c,bU c,cI c,dw c,cw,()) =
  some (bY c,bU c,cI c,dw c,iA c (fT c) (pY c) cw,()):=by
 have zy:(c.map (·.1)).length=c.length:=List.length_map ..
 refine aO c (fun k (can:Zs)=>(c.length,((c.length:Nat):Int),(k:Int),c.map (·.1),bY c,bU c,cI c,dw c,can,())) (fun can r=>(bY c,bU c,cI c,dw c,iA c (fT c) ((r.filter fun m=>decide (m.2.1=1)).map (·.1)) can,())) (fun pre can=>CZ can/\BZ (1000 * (pre.length:Int)) can) ?_ ?_ (s:=cw) ⟨cM.1,fun z hz=>by rw [(cM.2 z).1 hz];simp⟩
 ·rintro pre m post can hx ⟨vE, hbz⟩
  have hlen:c.length=pre.length+(post.length+1):=by rw [hx];simp
  have hm:m∈c:=by rw [hx];simp
  have hd:(c.map (·.1)).getD pre.length (bs [])=m.1:=by rw [hx,List.map_append,List.map_cons];exact aR (by simp)
  have hg:aA .str zM (bY c) m.1=m:=dY hs hm
  have i1:bR (pre.length:Int) ((c.length:Nat):Int)=true:=aQ (by omega) (by omega)
  have r1:cN .i64 ((pre.length:Int)+1)=true:=aC (by omega) (by omega)
  have d1:decide (pre.length<(c.map (·.1)).length)=true:=decide_eq_true (by omega)
  have hpl:((pre++[m]).length:Int)=(pre.length:Int)+1:=by simp
  left
  by_cases hk:m.2.1=1
  ·have him : nX c m.1 = true := bH.2 (List.mem_map.2 ⟨m, hm, rfl⟩)
   have hkm:(msg c m.1).2.1=1:=by rw [dY hs hm];exact hk
   have hvl:(gY c m.1).length<=c.length:=gx hs (k7 hs him hkm) (bH.1 him) .zero
   refine ⟨mP (fT c) can (gY c m.1),?_,⟨mQ.1,?_⟩,?_⟩
   ·simp only [gH67_v1_0i_0, ah, aH, aS, aG, ay, bf, aa, Int.toNat_natCast, Nat.zero_add, hd, hg, i1, d1, af, aI, aY]
    rw [if_pos (by omega),if_pos hk,ag (R7 hs (by omega) (k7 hs him hkm) (bH.1 him))]
    rw [ag (W2 (vs:=gY c m.1) (by omega) (fun z hz=>by have:=hbz z hz;omega) (fun v hv=>hB m.1 v him hkm hv))]
    simp only [r1,af]
    rfl
   ·have := pS (f := (fT c)) (vs := gY c m.1) hbz fun v hv => hB m.1 v him hkm hv
    intro z hz
    have:=this z hz
    omega
   ·rw [List.filter_cons_of_pos (by simpa using hk)]
    rfl
  ·refine ⟨can, ?_, ⟨vE, fun z hz => by have := hbz z hz; omega⟩, ?_⟩
   ·simp only [gH67_v1_0i_0, ah, aH, aS, aG, ay, bf, aa, Int.toNat_natCast, Nat.zero_add, hd, hg, i1, d1, r1, af, aI, aY]
    rw [if_pos (by omega),if_neg hk]
    rfl
   ·rw [List.filter_cons_of_neg (by simpa using hk)]
 ·rintro can _
  simp only [gH67_v1_0i_0,ah,aa,aI]
  rw [if_neg (by omega)]
  rfl
theorem W4 (hs:SI c) (hl:c.length<=60) (hB:SY c (fT c)):ai (FH67_v1 (bY c) (bU c) (cI c) (dw c))=some ((iC c (fT c)).length,iC c (fT c),bY c,bU c,cI c,dw c,()):=by
 have vE:CZ (iA c (fT c) (pY c) cw):=sS cM.1
 have hbz:BZ 1000000 (iA c (fT c) (pY c) cw):=by
  have key:∀(ts:List ByteArray) (can:Zs) (B:Int),(∀t∈ts,nX c t=true/\(msg c t).2.1=1)->BZ B can->BZ (B+1000 * ts.length) (iA c (fT c) ts can):=by
   intro ts
   induction ts with
   |nil=>intro can B _ h;simpa [iA] using h
   |cons t ts ih =>
    intro can B ht h
    have h1:=ht t (List.mem_cons_self ..)
    have:=ih (mP (fT c) can (gY c t)) (B+1000) (fun t h=>ht t (List.mem_cons_of_mem _ h)) (pS h fun v hv=>hB t v h1.1 h1.2 hv)
    intro z hz
    have:=this z hz
    simp only [List.length_cons]
    omega
  have h1:=key (pY c) cw 0 (fun t ht=>by
   obtain ⟨m,hm,rfl⟩:=List.mem_map.1 ht
   obtain ⟨h1,h2⟩:=List.mem_filter.1 hm
   exact ⟨bH.2 (List.mem_map.2 ⟨m,h1,rfl⟩),by rw [dY hs h1];simpa using h2⟩) (fun z hz=>by rw [(cM.2 z).1 hz];simp)
  have hle:(pY c).length<=c.length:=by unfold pY;rw [List.length_map];exact List.length_filter_le ..
  intro z hz
  have:=h1 z hz
  omega
 have hlen:=Iz (B:=1000000) vE (by simpa using hbz)
 unfold FH67_v1 gH67_v1_0
 simp only [ay,KH,aF,FH79,FH95,aa,bf]
 rw [ag (WR hs (by omega))]
 refine bind_eq (bind_eq (W3 hs hl hB) rfl) ?_
 simp only [aF,FH101,FH120,ay,aa]
 rw [ag (Y7 vE (by omega))]
 unfold iC
 rw [List.length_map]
def vF (c:List Mg) (a:ByteArray):List Int×Int:=if jB a=true then (iC c (fA c a),0) else ([],8)
theorem pT {L:List Mg} (h:iH L):∀m∈cnt L,vD m=0:=fun m hm=>h.vD m (CV hm)
theorem acC {L:List Mg} (h:iH L) {a:ByteArray} (ha:Sh a):ai (FH23 a (bk L))=some ((vF (cnt L) a).1.length,(vF (cnt L) a).2,(vF (cnt L) a).1,bk L,()):=by
 unfold FH23
 simp only [ay,CU,aF,ah,aM,k65 a ha,bB]
 rw [jM]
 unfold vF
 split
 ·rw [ag (R6 h)]
  simp only
  rw [ag (kH67 (eS L) (fP h) (acB (eS L) (pT h) a))]
  rfl
 ·rfl
end
end Go.Proofs.Tryz
end
section
namespace Go.Proofs.Tryz
open Go.AM
set_option maxRecDepth 100000
def KI (l:List Int):Int×Int:=(l.getD 0 0,l.getD (l.length - 1) 0)
theorem k72 {l:List Int} (h0:0<l.length) (hl:l.length<1000000000):ai (F72 l)=some (KI l,()):=by
 unfold F72
 simp only [aH,aG,aa]
 rw [aQ (by omega) (by omega),af,iS (aC (by omega) (by omega)),aQ (by omega) (by omega),af]
 rw [show ((l.length:Int) - 1).toNat=l.length - 1 by omega]
 rfl
section
variable {c:List Mg}
theorem Sa {f:ByteArray->Int} {can:Zs} {vs:List ByteArray} (hc:∃z,sZ can z) (hv:vs≠[]):∃z,sZ (mP f can vs) z:=by
 obtain ⟨z,hz⟩:=hc
 cases vs with
 |nil=>exact absurd rfl hv
 |cons v vs=>exact ⟨z+f v,(mQ.2 _).2 ⟨v,List.mem_cons_self ..,z,hz,rfl⟩⟩
def KJ (c:List Mg) (a:ByteArray):(Int×Int)×Int:=if (vF c a).2=0 then (KI (vF c a).1,0) else ((0,0),(vF c a).2)
def W5 (c:List Mg):Int×Int:=KI (iC c (fT c))
abbrev Ss:=List (ByteArray×Unit)
def zY (c:List Mg) (vs:List ByteArray) (m:Ss):Ss:=vs.foldl (fun m v=>bn .str m (msg c v).2.2.2.1 ()) m
def vG (c:List Mg) (ts:List ByteArray) (m:Ss):Ss:=ts.foldl (fun m t=>zY c (gY c t) m) m
def sU (c:List Mg):List ByteArray:=(vG c (pY c) []).map (·.1)
theorem FR {vs:List ByteArray}:∀{m:Ss},gX .str m->gX .str (zY c vs m):=by
 induction vs with
 |nil=>exact fun h=>h
 |cons v vs ih=>exact fun h=>ih (h.iE kS)
theorem FT {ts:List ByteArray}:∀{m:Ss},gX .str m->gX .str (vG c ts m):=by
 induction ts with
 |nil=>exact fun h=>h
 |cons t ts ih=>exact fun h=>ih (FR h)
theorem FU : ∀ {m : Ss} {k : ByteArray}, (qb .str m k ()).length = m.length + 1
 |[],_=>rfl
 |e::m,k=>by
  unfold qb
  split
  ·simp
  ·rw [List.length_cons,FU];rfl
theorem Sb {m:Ss} {k:ByteArray}:(bn .str m k ()).length<=m.length+1:=by
 unfold bn
 split
 ·rw [List.length_map];omega
 ·rw [FU];exact Nat.le_refl _
theorem W6 {Z:Ss} (h:gX .str Z) (hl:Z.length<1000000000):ai (FH81_v1 Z)=some (Z.length,Z.map (·.1),Z,()):=by
 unfold FH81_v1
 refine Eq.trans Co (gO fun l hp=>?_)
 have zy:l.length=Z.length:=hp.length_eq
 simp only [ay,Cp]
 refine bind_eq (sM (m:=Z) (l:=l) (by rw [zy];exact hl) fun e n b hn=>?_) ?_
 ·simp only [gH81_v1f107f126_0i_0, aS, aa, dL, af]
  rw [b8 (show _<bp by rw [cL];simp;omega)]
  rfl
 ·simp only [FH105, yj]
  have hpk:(Z.map (·.1)).Perm (l.map (·.1)):=(hp.map (·.1)).symm
  have:=oW kS hpk (gX.keys kS h) (by rw [List.length_map];omega)
  rw [List.length_map] at this
  rw [ag this,zy]
  rfl
theorem kB45 {m1:List (Mg×Bool)} {js vs:List ByteArray} (hvl:vs.length<1000000) {m:Ss} :
  iter (fun x=>ai (gH45_0b_1 x)) (vs.length,((vs.length:Nat):Int),(0:Int),vs,bY c,bU c,cI c,dw c,m1,js,m,())=some (m1,bY c,bU c,cI c,dw c,js,vs,zY c vs m,()):=by
 refine aO vs (fun k (m:Ss)=>(vs.length,((vs.length:Nat):Int),(k:Int),vs,bY c,bU c,cI c,dw c,m1,js,m,())) (fun m r=>(m1,bY c,bU c,cI c,dw c,js,vs,zY c r m,())) (fun _ _=>True) ?_ ?_ (s:=m) trivial
 ·intro pre v post nx hx _
  have hlen:vs.length=pre.length+(post.length+1):=by rw [hx];simp
  have hd:vs.getD pre.length (bs [])=v:=by rw [hx];exact aR rfl
  have i1:bR (pre.length:Int) ((vs.length:Nat):Int)=true:=aQ (by omega) (by omega)
  have r1:cN .i64 ((pre.length:Int)+1)=true:=aC (by omega) (by omega)
  have d1:decide (pre.length<vs.length)=true:=decide_eq_true (by omega)
  left
  refine ⟨bn .str nx (msg c v).2.2.2.1 (),?_,trivial,rfl⟩
  simp only [gH45_0b_1,ah,aH,aS,aG,ay,aa,Int.toNat_natCast,Nat.zero_add,hd,i1,d1,r1,af,aI,FH80,aF]
  rw [if_pos (by omega)]
  rfl
 ·intro nx _
  simp only [gH45_0b_1,ah,aa,aI]
  rw [if_neg (by omega)]
  rfl
theorem kC45 {m1:List (Mg×Bool)} (hs:SI c) (hl:c.length<=60):iter (fun x=>ai (gH45_0i_0 x)) (c.length,((c.length:Nat):Int),(0:Int),c.map (·.1),bY c,bU c,cI c,dw c,m1,[],()) =
  some (m1,bY c,bU c,cI c,dw c,vG c (pY c) [],()):=by
 have zy:(c.map (·.1)).length=c.length:=List.length_map ..
 refine aO c (fun k (m:Ss)=>(c.length,((c.length:Nat):Int),(k:Int),c.map (·.1),bY c,bU c,cI c,dw c,m1,m,())) (fun m r=>(m1,bY c,bU c,cI c,dw c,vG c ((r.filter fun m=>decide (m.2.1=1)).map (·.1)) m,())) (fun _ _=>True) ?_ ?_ (s:=[]) trivial
 ·rintro pre m post can hx _
  have hlen:c.length=pre.length+(post.length+1):=by rw [hx];simp
  have hm:m∈c:=by rw [hx];simp
  have hd:(c.map (·.1)).getD pre.length (bs [])=m.1:=by rw [hx,List.map_append,List.map_cons];exact aR (by simp)
  have hg:aA .str zM (bY c) m.1=m:=dY hs hm
  have i1:bR (pre.length:Int) ((c.length:Nat):Int)=true:=aQ (by omega) (by omega)
  have r1:cN .i64 ((pre.length:Int)+1)=true:=aC (by omega) (by omega)
  have d1:decide (pre.length<(c.map (·.1)).length)=true:=decide_eq_true (by omega)
  left
  by_cases hk:m.2.1=1
  ·have him : nX c m.1 = true := bH.2 (List.mem_map.2 ⟨m, hm, rfl⟩)
   have hkm:(msg c m.1).2.1=1:=by rw [dY hs hm];exact hk
   have hvl:(gY c m.1).length<=c.length:=gx hs (k7 hs him hkm) (bH.1 him) .zero
   refine ⟨zY c (gY c m.1) can,?_,trivial,?_⟩
   ·simp only [gH45_0i_0, ah, aH, aS, aG, ay, bf, aa, Int.toNat_natCast, Nat.zero_add, hd, hg, i1, d1, af, aI, aY]
    rw [if_pos (by omega),if_pos hk,ag (R7 hs (by omega) (k7 hs him hkm) (bH.1 him))]
    rw [ag (kB45 (vs:=gY c m.1) (by omega))]
    simp only [r1,af]
    rfl
   ·rw [List.filter_cons_of_pos (by simpa using hk)]
    rfl
  ·refine ⟨can, ?_, trivial, ?_⟩
   ·simp only [gH45_0i_0, ah, aH, aS, aG, ay, bf, aa, Int.toNat_natCast, Nat.zero_add, hd, hg, i1, d1, r1, af, aI, aY]
    rw [if_pos (by omega),if_neg hk]
    rfl
   ·rw [List.filter_cons_of_neg (by simpa using hk)]
 ·rintro can _
  simp only [gH45_0i_0,ah,aa,aI]
  rw [if_neg (by omega)]
  rfl
theorem Sc {vs:List ByteArray}:∀{m:Ss},(zY c vs m).length<=m.length+vs.length:=by
 induction vs with
 |nil=>exact Nat.le_refl _
 |cons v vs ih =>
  intro m
  have h1:=ih (m:=bn .str m (msg c v).2.2.2.1 ())
  have h2:=Sb (m:=m) (k:=(msg c v).2.2.2.1)
  simp only [List.length_cons]
  exact Nat.le_trans h1 (by omega)
theorem C2 (hs:SI c) {t:ByteArray} (ht:t∈pY c):nX c t=true/\(msg c t).2.1=1:=by
 obtain ⟨m,hm,rfl⟩:=List.mem_map.1 ht
 obtain ⟨h1,h2⟩:=List.mem_filter.1 hm
 exact ⟨bH.2 (List.mem_map.2 ⟨m,h1,rfl⟩),by rw [dY hs h1];simpa using h2⟩
theorem C3:(pY c).length<=c.length:=by unfold pY;rw [List.length_map];exact List.length_filter_le ..
theorem KK (hs:SI c) {t:ByteArray} (ht:nX c t=true) (hk:(msg c t).2.1=1):(gY c t).length<=c.length:=gx hs (k7 hs ht hk) (bH.1 ht) .zero
theorem zo (hs : SI c) : ∀ {ts : List ByteArray} {m : Ss}, (∀ t ∈ ts, nX c t = true ∧ (msg c t).2.1 = 1) → (vG c ts m).length ≤ m.length + ts.length * c.length
 |[],m,_=>by simp [vG]
 |t::ts,m,h=>by
  have h1:=zo hs (ts:=ts) (m:=zY c (gY c t) m) fun t h'=>h t (List.mem_cons_of_mem _ h')
  have h2:=Sc (c:=c) (vs:=gY c t) (m:=m)
  have h3:=KK hs (h t (List.mem_cons_self ..)).1 (h t (List.mem_cons_self ..)).2
  have h4:(ts.length+1) * c.length=ts.length * c.length+c.length:=Nat.succ_mul ..
  simp only [List.length_cons,h4]
  exact Nat.le_trans h1 (by omega)
theorem kH45 {L:List Mg} (h:iH L):ai (FH45 (bk L))=some ((sU (cnt L)).length,sU (cnt L),bk L,()):=by
 have hs:=eS L
 have hc:=fP h
 have hz:=zo hs (ts:=pY (cnt L)) (m:=[]) fun t ht=>C2 hs ht
 have hq:(pY (cnt L)).length * (cnt L).length<=60 * 60:=Nat.mul_le_mul (Nat.le_trans C3 hc) hc
 have hzl:(vG (cnt L) (pY (cnt L)) []).length<1000000000:=by simp only [List.length_nil] at hz;omega
 unfold FH45 gH45_0
 simp only [ay,CU,aF,ah,aM]
 rw [ag (R6 h)]
 simp only [FH79,FH95,aa,aF,bf]
 rw [ag (WR hs (by omega))]
 refine bind_eq (bind_eq (kC45 hs hc) rfl) ?_
 simp only [FH82,FH108,ay,aa,aF]
 rw [ag (W6 (FT .nil) hzl)]
 unfold sU
 rw [List.length_map]
theorem acD {Z:Zs} (h:∃z,sZ Z z):0<Z.length:=by
 obtain ⟨z,hz⟩:=h
 exact List.length_pos_of_mem hz
theorem KL (hs : SI c) {t : ByteArray} (ht : WV c t) (Dg : t ∈ ids c) : ∀ {n d : Nat} {x : ByteArray}, jP c t d x → d + n = c.length → cu c (n + 1) x ≠ []
 |0,d,x,hp,hd=>by have:=hp.short hs ht Dg;omega
 |n+1,d,x,hp,hd=>by
  unfold cu
  split
  ·simp
  ·rename_i k l hl
   intro h
   have h1:=(dN (t:=.str) ((k::l).flatMap (cu c (n+1)))).length_eq
   rw [show oI .str ((k::l).flatMap (cu c (n+1)))=[] from h] at h1
   have h2:=KL hs ht Dg (n:=n) (hp.step (wB (by rw [hl];exact List.mem_cons_self ..))) (by omega)
   have h3:0<(cu c (n+1) k).length:=List.length_pos_iff.2 h2
   rw [List.flatMap_cons,List.length_append] at h1
   simp only [List.length_nil] at h1
   omega
theorem acE (hs:SI c) {t:ByteArray} (ht:nX c t=true/\(msg c t).2.1=1):gY c t≠[]:=KL hs (k7 hs ht.1 ht.2) (bH.1 ht.1) .zero (by omega)
theorem KM (hs : SI c) {f : ByteArray → Int} : ∀ {ts : List ByteArray} {can : Zs}, (∀ t ∈ ts, nX c t = true ∧ (msg c t).2.1 = 1) → (∃ z, sZ can z) → ∃ z, sZ (iA c f ts can) z
 |[],_,_,h=>h
 |t::ts,can,ht,h=>KM hs (ts:=ts) (fun t h=>ht t (List.mem_cons_of_mem _ h)) (Sa h (acE hs (ht t (List.mem_cons_self ..))))
theorem C4 (hs:SI c) {f:ByteArray->Int}:0<(iC c f).length:=by
 unfold iC
 rw [List.length_map]
 exact acD (KM hs (fun t ht=>C2 hs ht) ⟨0,(cM.2 0).2 rfl⟩)
theorem KN (hs:SI c) (hl:c.length<=60) {f:ByteArray->Int} (hB:SY c f):BZ 60000 (iA c f (pY c) cw):=by
 have key:∀(ts:List ByteArray) (can:Zs) (B:Int),(∀t∈ts,nX c t=true/\(msg c t).2.1=1)->BZ B can->BZ (B+1000 * ts.length) (iA c f ts can):=by
  intro ts
  induction ts with
  |nil=>intro can B _ h;simpa [iA] using h
  |cons t ts ih =>
   intro can B ht h
   have h1:=ht t (List.mem_cons_self ..)
   have:=ih (mP f can (gY c t)) (B+1000) (fun t h=>ht t (List.mem_cons_of_mem _ h)) (pS h fun v hv=>hB t v h1.1 h1.2 hv)
   intro z hz
   have:=this z hz
   simp only [List.length_cons]
   omega
 have h1:=key (pY c) cw 0 (fun t ht=>C2 hs ht) (fun z hz=>by rw [(cM.2 z).1 hz];simp)
 have hle:=C3 (c:=c)
 intro z hz
 have:=h1 z hz
 omega
theorem zq (hs:SI c) (hl:c.length<=60) {f:ByteArray->Int} (hB:SY c f):(iC c f).length<1000000:=by
 have:=Iz (B:=60000) (sS cM.1) (by simpa using KN hs hl hB)
 unfold iC
 rw [List.length_map]
 omega
theorem kH37 {L:List Mg} (h:iH L):ai (FH37 (bk L))=some (W5 (cnt L),0,bk L,()):=by
 have hs:=eS L
 have hc:=fP h
 have hB:=W0 hs (pT h)
 unfold FH37
 simp only [ay,CU,aF,ah,aM]
 rw [ag (R6 h)]
 simp only
 rw [ag (W4 hs hc hB)]
 simp only [List.drop_zero,List.take_length]
 rw [ag (k72 (C4 hs) (by have:=zq hs hc hB;omega))]
 rfl
theorem kH25 {L:List Mg} (h:iH L) {a:ByteArray} (ha:Sh a):ai (FH25 a (bk L))=some ((KJ (cnt L) a).1,(KJ (cnt L) a).2,bk L,()):=by
 have hs:=eS L
 have hc:=fP h
 have hB:=acB hs (pT h) a
 unfold FH25
 simp only [ay]
 rw [ag (acC h ha)]
 simp only [ah,bB,aY,aa,List.drop_zero,List.take_length]
 unfold KJ
 by_cases h0:(vF (cnt L) a).2=0
 ·rw [if_pos h0, if_pos h0]
  have h1:(vF (cnt L) a).1=iC (cnt L) (fA (cnt L) a):=by
   revert h0
   unfold vF
   split
   ·intro _;rfl
   ·intro h;cases h
  rw [h1,ay,ag (k72 (C4 hs) (by have:=zq hs hc hB;omega))]
  rfl
 ·rw [if_neg h0,if_neg h0]
theorem k36 {l l':List ByteArray} (hl:l.length<1000000000):ai (F36 l l')=some (decide (l=l'),()):=by
 by_cases hn:l.length=l'.length
 ·have hi:iter (fun a=>run (fun _=>none) (g36_0 a)) (l,l',(0:Int),())=some (if l=l'.drop 0 then Sum.inr () else Sum.inl ()):=by
   refine aO l (fun k (_:Nat)=>(l,l',(k:Int),())) (fun k r=>if r=l'.drop k then Sum.inr () else Sum.inl ()) (fun pre k=>k=pre.length) ?_ ?_ (s:=0) rfl
   ·rintro pre x post k hx rfl
    have hlen:l.length=pre.length+(post.length+1):=by rw [hx];simp
    have hlt:pre.length<l'.length:=by omega
    have hd:l.getD pre.length (bs [])=x:=by rw [hx];exact aR rfl
    have hd':l'.getD pre.length (bs [])=l'[pre.length]:=by rw [List.getD_eq_getElem?_getD,List.getElem?_eq_getElem hlt];rfl
    have i1:bR (pre.length:Int) ((l.length:Nat):Int)=true:=aQ (by omega) (by omega)
    have i2:bR (pre.length:Int) ((l'.length:Nat):Int)=true:=aQ (by omega) (by omega)
    have r1:cN .i64 ((pre.length:Int)+1)=true:=aC (by omega) (by omega)
    simp only [g36_0,ah,aH,aG,aa,Int.toNat_natCast,hd,hd',i1,i2,r1,af,aI,seq_eq,bB]
    rw [if_pos (by omega),List.drop_eq_getElem_cons hlt]
    by_cases h:x=l'[pre.length]
    ·left
     refine ⟨pre.length+1,?_,by simp,?_⟩
     ·rw [if_pos h];rfl
     ·rw [h];simp only [List.cons.injEq,true_and]
    ·right
     rw [if_neg h,if_neg (fun e=>h (List.cons.inj e).1)]
   ·rintro k rfl
    simp only [g36_0,ah,aI,aa]
    rw [if_neg (by omega),if_pos (by rw [hn,List.drop_length])]
  unfold F36
  simp only [ah,ay,bf,bB,aY]
  rw [if_pos (by omega),ag hi,List.drop_zero]
  by_cases h:l=l'
  ·rw [if_pos h];simp only [jA,aa,h,decide_true]
  ·rw [if_neg h];simp only [lX,aa,h,decide_false]
 ·unfold F36
  simp only [ah,bB,aY,aa]
  rw [if_neg (by omega),decide_eq_false fun e=>hn (by rw [e])]
theorem k27 {l l':List Int} (hl:l.length<1000000000):ai (F27 l l')=some (decide (l=l'),()):=by
 by_cases hn:l.length=l'.length
 ·have hi:iter (fun a=>run (fun _=>none) (g27_0 a)) (l,l',(0:Int),())=some (if l=l'.drop 0 then Sum.inr () else Sum.inl ()):=by
   refine aO l (fun k (_:Nat)=>(l,l',(k:Int),())) (fun k r=>if r=l'.drop k then Sum.inr () else Sum.inl ()) (fun pre k=>k=pre.length) ?_ ?_ (s:=0) rfl
   ·rintro pre x post k hx rfl
    have hlen:l.length=pre.length+(post.length+1):=by rw [hx];simp
    have hlt:pre.length<l'.length:=by omega
    have hd:l.getD pre.length (0:Int)=x:=by rw [hx];exact aR rfl
    have hd':l'.getD pre.length (0:Int)=l'[pre.length]:=by rw [List.getD_eq_getElem?_getD,List.getElem?_eq_getElem hlt];rfl
    have i1:bR (pre.length:Int) ((l.length:Nat):Int)=true:=aQ (by omega) (by omega)
    have i2:bR (pre.length:Int) ((l'.length:Nat):Int)=true:=aQ (by omega) (by omega)
    have r1:cN .i64 ((pre.length:Int)+1)=true:=aC (by omega) (by omega)
    simp only [g27_0,ah,aH,aG,aa,Int.toNat_natCast,hd,hd',i1,i2,r1,af,aI,bB,aY]
    rw [if_pos (by omega),List.drop_eq_getElem_cons hlt]
    by_cases h:x=l'[pre.length]
    ·left
     refine ⟨pre.length+1,?_,by simp,?_⟩
     ·rw [if_pos h];rfl
     ·rw [h];simp only [List.cons.injEq,true_and]
    ·right
     rw [if_neg h,if_neg (fun e=>h (List.cons.inj e).1)]
   ·rintro k rfl
    simp only [g27_0,ah,aI,aa]
    rw [if_neg (by omega),if_pos (by rw [hn,List.drop_length])]
  unfold F27
  simp only [ah,ay,bf,bB,aY]
  rw [if_pos (by omega),ag hi,List.drop_zero]
  by_cases h:l=l'
  ·rw [if_pos h];simp only [jA,aa,h,decide_true]
  ·rw [if_neg h];simp only [lX,aa,h,decide_false]
 ·unfold F27
  simp only [ah,bB,aY,aa]
  rw [if_neg (by omega),decide_eq_false fun e=>hn (by rw [e])]
end
end Go.Proofs.Tryz
end
section
namespace Go.Proofs.Tryz
open Go.AM
set_option maxRecDepth 100000
def XL:List Mg:=[(bs [116,49],1,bs [],bs [97,110,97],40),(bs [116,50],1,bs [],bs [98,101,110],25),(bs [99,49],2,bs [116,49],bs [97,110,97],42),(bs [99,50],2,bs [116,49],bs [99,121],40),(bs [99,51],2,bs [99,49],bs [97,110,97],41),(bs [119,49],2,bs [120,57],bs [98,101,110],5),(bs [114,49],3,bs [99,49],bs [],0),(bs [114,50],3,bs [99,50],bs [],0)]
theorem k46:ai F46=some (XL,()):=by
 unfold F46
 simp only [ay,F50,F42,F39,aa,aF]
 rfl
def L6:List Mg:=sL ((XL.drop (Int.toNat 0)).take (Int.toNat 6 - Int.toNat 0))
def L7:List Mg:=sL ((XL.drop (Int.toNat 0)).take (Int.toNat 7 - Int.toNat 0))
def L8:List Mg:=sL XL
theorem x1:mM (cnt L6) (bs [116,49])=([bs [99,50],bs [99,51]],0):=by kernel_rfl
theorem x2:vF (cnt L6) (bs [97,110,97])=([0,41],0):=by kernel_rfl
theorem x3:vF (cnt L7) (bs [97,110,97])=([41],0):=by kernel_rfl
theorem x4:W5 (cnt L6)=(65,66):=by kernel_rfl
theorem x5:KJ (cnt L8) (bs [99,121])=((0,40),0):=by kernel_rfl
theorem x6:sU (cnt L6)=[bs [97,110,97],bs [98,101,110],bs [99,121]]:=by kernel_rfl
theorem x7:dP (cnt L6) (bs [116,49])=(3,0):=by kernel_rfl
theorem x8:dP (cnt L6) (bs [116,50])=(4,0):=by kernel_rfl
theorem x9:dP (cnt L6) (bs [99,51])=(5,0):=by kernel_rfl
theorem x10:dP (cnt L6) (bs [119,49])=(1,0):=by kernel_rfl
theorem x11:dP (cnt L7) (bs [99,50])=(2,0):=by kernel_rfl
theorem x12:dP (cnt L7) (bs [99,51])=(4,0):=by kernel_rfl
theorem x13:dP (cnt L8) (bs [99,50])=(5,0):=by kernel_rfl
theorem x14:L8.length=8:=by kernel_rfl
instance (m:Mg):Decidable (WN m):=by unfold WN Sh;infer_instance
theorem aiJ:ai (FH29 ((XL.drop (Int.toNat 0)).take (Int.toNat 6 - Int.toNat 0)))=some (bk L6,()):=RZ (by decide) (by decide +kernel)
theorem aiK:ai (FH29 ((XL.drop (Int.toNat 0)).take (Int.toNat 7 - Int.toNat 0)))=some (bk L7,()):=RZ (by decide) (by decide +kernel)
theorem aiL:ai (FH29 XL)=some (bk L8,()):=RZ (by decide) (by decide +kernel)
theorem o6:iH L6:=iH.told _
theorem o7:iH L7:=iH.told _
theorem o8:iH L8:=iH.told _
theorem xl:XL.length=8:=rfl
theorem Sd:Sh (bs [97,110,97]):=by unfold Sh;decide +kernel
theorem aiM:Sh (bs [99,121]):=by unfold Sh;decide +kernel
theorem e1:ai (FH33 (bs [116,49]) (bk L6))=some (2,0,[bs [99,50],bs [99,51]],bk L6,()):=by rw [kH33 o6,x1];rfl
theorem e2:ai (FH23 (bs [97,110,97]) (bk L6))=some (2,0,[0,41],bk L6,()):=by rw [acC o6 Sd,x2];rfl
theorem e3:ai (FH23 (bs [97,110,97]) (bk L7))=some (1,0,[41],bk L7,()):=by rw [acC o7 Sd,x3];rfl
theorem e4:ai (FH37 (bk L6))=some ((65,66),0,bk L6,()):=by rw [kH37 o6,x4]
theorem e5:ai (FH25 (bs [99,121]) (bk L8))=some ((0,40),0,bk L8,()):=by rw [kH25 o8 aiM,x5]
theorem e6:ai (FH45 (bk L6))=some (3,[bs [97,110,97],bs [98,101,110],bs [99,121]],bk L6,()):=by rw [kH45 o6,x6];rfl
theorem e7:ai (F36 (([bs [99,50],bs [99,51]].drop 0).take 2) (([bs [99,50],bs [99,51]].drop 0).take 2))=some (true,()):=by rw [k36 (by decide)];rfl
theorem e8:ai (F27 ((([0,41]:List Int).drop 0).take 2) ((([0,41]:List Int).drop 0).take 2))=some (true,()):=by rw [k27 (by decide)];rfl
theorem e9:ai (F27 ((([41]:List Int).drop 0).take 1) ((([41]:List Int).drop 0).take 1))=some (true,()):=by rw [k27 (by decide)];rfl
theorem e10:ai (F36 (([bs [97,110,97],bs [98,101,110],bs [99,121]].drop 0).take 3) (([bs [97,110,97],bs [98,101,110],bs [99,121]].drop 0).take 3))=some (true,()):=by rw [k36 (by decide)];rfl
theorem e11:ai (FH40 (bs [116,49]) 3 (bk L6))=some (true,bk L6,()):=by rw [Iy o6,x7];rfl
theorem e12:ai (FH40 (bs [116,50]) 4 (bk L6))=some (true,bk L6,()):=by rw [Iy o6,x8];rfl
theorem e13:ai (FH40 (bs [99,51]) 5 (bk L6))=some (true,bk L6,()):=by rw [Iy o6,x9];rfl
theorem e14:ai (FH40 (bs [119,49]) 1 (bk L6))=some (true,bk L6,()):=by rw [Iy o6,x10];rfl
theorem e15:ai (FH40 (bs [99,50]) 2 (bk L7))=some (true,bk L7,()):=by rw [Iy o7,x11];rfl
theorem e16:ai (FH40 (bs [99,51]) 4 (bk L7))=some (true,bk L7,()):=by rw [Iy o7,x12];rfl
theorem e17:ai (FH40 (bs [99,50]) 5 (bk L8))=some (true,bk L8,()):=by rw [Iy o8,x13];rfl
theorem e18:ai (FH47 (bk L8))=some (8,L8,bk L8,()):=by rw [R1 o8.s (by rw [x14];decide),x14]
theorem Y8:ai F17=some (true,()):=by
 unfold F17
 simp only [ay,aS,ah,aa,k46,aF,aiJ,aiK,aiL,xl,e1,e2,e3,e4,e5,e6,e11,e12,e13,e14,e15,e16,e17,e18,aY]
 rw [b8 (by decide),b8 (by decide),b8 (by decide),b8 (by decide)]
 rw [if_pos trivial,if_pos trivial,if_pos trivial,if_pos trivial,if_pos trivial,ag e7]
 simp only [bt]
 rw [ag e8]
 simp only [bt]
 rw [ag e9]
 simp only [bt]
 rw [show (((65,66):Int×Int).1==65&&(((65,66):Int×Int).2==66&&true))=true from by decide,show (((0,40):Int×Int).1==0&&(((0,40):Int×Int).2==40&&true))=true from by decide]
 simp only [bt]
 rw [ag e10]
 simp only [bt]
 refine (b8 (by decide)).trans ?_
 refine (b8 (by decide)).trans ?_
 rfl
def mC:Mg:=(bs [99,49],2,bs [116,49],bs [97,110,97],43)
def L9:List Mg:=(gU L8 mC).2
theorem y1:(gU L8 mC).1=0:=by kernel_rfl
theorem y2:dP (cnt L9) (bs [114,49])=(0,18):=by kernel_rfl
theorem y3:mM (cnt L9) (bs [99,49])=([],18):=by kernel_rfl
theorem y4:dP (cnt L9) (bs [122,122])=(0,5):=by kernel_rfl
theorem y5:L9.length=9:=by kernel_rfl
theorem y6:dP (cnt L9) (bs [99,49])=(3,0):=by kernel_rfl
end Go.Proofs.Tryz
end
section
namespace Go.Proofs.Tryz
open Go.AM
set_option maxRecDepth 100000
end Go.Proofs.Tryz
end
section
namespace Go.Proofs.Tryz
open Go.AM
set_option maxRecDepth 100000
theorem W7 {L:List Mg} {m:Mg} (hc:vD m=0) (hl:L.length+1<=60):gU L m=(0,iy L m):=by
 unfold gU
 have:=FK (L:=L) (m:=m)
 rw [if_pos hc,if_neg (by omega)]
theorem kT {L:List Mg} (h:iH L) {m:Mg} (hm:WN m) (hc:vD m=0) (hl:L.length+1<=60):ai (FH20 (m.1,m.2.1,m.2.2.1,m.2.2.2.1,m.2.2.2.2) (bk L))=some (0,bk (iy L m),()):=by
 have:=kH20 h.s h.len hm
 rw [W7 hc hl] at this
 exact this
end Go.Proofs.Tryz
end
section
namespace Go.Proofs.Tryz
open Go.AM
set_option maxRecDepth 100000
def Dk (L L':List Mg):List Mg:=L'.foldl iy L
theorem Y9 : ∀ {L' L : List Mg}, SL L → SL (Dk L L')
 |[],_,h=>h
 |m::L',_,h=>Y9 (L':=L') h.ins
theorem Se : ∀ {L' L : List Mg}, SL L → ∀ x, x ∈ Dk L L' ↔ x ∈ L ∨ x ∈ L'
 |[],L,_,x=>by simp [Dk]
 |m::L',L,h,x=>by
  have:=Se (L':=L') (h.ins (m:=m)) x
  rw [show Dk L (m::L')=Dk (iy L m) L' from rfl,this,sK h,List.mem_cons]
  constructor
  ·rintro ((h | h) | h)
   ·exact .inr (.inl h)
   ·exact .inl h
   ·exact .inr (.inr h)
  ·rintro (h | h | h)
   ·exact .inl (.inr h)
   ·exact .inl (.inl h)
   ·exact .inr h
theorem kH48 {L L':List Mg} (h:iH L) (h':iH L') (hl:(Dk L L').length<=60):ai (FH48 (bk L) (bk L'))=some (0,bk (Dk L L'),bk L',()):=by
 have hl':=h'.len
 have hit:iter (fun x=>ai (gH56_v1_0 x)) (L'.length,((L'.length:Nat):Int),(0:Int),bk L,L',bk L,bk L',())=some (bk (Dk L L'),bk L,bk L',()):=by
  refine aO L' (fun k (A:List Mg)=>(L'.length,((L'.length:Nat):Int),(k:Int),bk A,L',bk L,bk L',())) (fun A r=>(bk (r.foldl iy A),bk L,bk L',())) (fun _ A=>SL A) ?_ ?_ (s:=L) h.s
  ·intro pre x post A hx hA
   have hlen:L'.length=pre.length+(post.length+1):=by rw [hx];simp
   have hd:L'.getD pre.length (bs [],(0:Int),bs [],bs [],(0:Int))=x:=by rw [hx];exact aR rfl
   have i1:bR (pre.length:Int) ((L'.length:Nat):Int)=true:=aQ (by omega) (by omega)
   have r1:cN .i64 ((pre.length:Int)+1)=true:=aC (by omega) (by omega)
   have d1:decide (pre.length<L'.length)=true:=decide_eq_true (by omega)
   left
   refine ⟨iy A x,?_,hA.ins,rfl⟩
   simp only [gH56_v1_0,ah,aH,aS,aG,aa,Int.toNat_natCast,Nat.zero_add,hd,i1,d1,r1,af,aI]
   rw [if_pos (by omega),ze hA]
   rfl
  ·intro A _
   simp only [gH56_v1_0,ah,aa,aI]
   rw [if_neg (by omega)]
   rfl
 unfold FH48 FH56_v1 FH192
 simp only [ay,CU,aF,ah,aM,FH89,FH193,aa,bf]
 rw [ag (R1 h'.s (by omega))]
 simp only [aF]
 refine bind_eq (a:=(0,bk (Dk L L'),bk L',())) (bind_eq hit ?_) rfl
 simp only [aI,CT]
 rw [if_neg (by omega)]
def acc3:List ByteArray:=[bs [120],bs [121],bs [122]]
def id8:List ByteArray:=[bs [97],bs [98],bs [99],bs [100],bs [101],bs [102],bs [103],bs [104]]
abbrev B2:=List (Mg×Bool)×List (Mg×Bool)×Unit
theorem Nk {L:List Mg} (h:iH L) (x:ByteArray):(mM (cnt L) x).1.length<1000000000:=by
 have hs:=eS L
 have hc:=fP h
 unfold mM
 split
 ·rename_i h1
  split
  ·rename_i h2
   have:=KK hs h1 h2
   simp only;omega
  ·simp
 ·simp
theorem Sf {L:List Mg} (h:iH L):(sU (cnt L)).length<1000000000:=by
 have hs:=eS L
 have hc:=fP h
 have hz:=zo hs (ts:=pY (cnt L)) (m:=[]) fun t ht=>C2 hs ht
 have hq:(pY (cnt L)).length * (cnt L).length<=60 * 60:=Nat.mul_le_mul (Nat.le_trans C3 hc) hc
 unfold sU
 rw [List.length_map]
 simp only [List.length_nil] at hz;omega
end Go.Proofs.Tryz
end
section
namespace Go.Proofs.Tryz
open Go.AM
set_option maxRecDepth 100000
end Go.Proofs.Tryz
end
section
namespace Go.Proofs.Tryz
open Go.AM
set_option maxRecDepth 100000
end Go.Proofs.Tryz
end
section
namespace Go.Proofs.Tryz
open Go.AM
set_option maxRecDepth 100000
def sev (m:Mg):Mg:=if m.2.1=3 then m else (m.1,m.2.1,m.2.2.1,m.2.2.2.1,7)
structure KS where
 met:List (ByteArray×Bool)
 out:List Mg
 s:Int
def Po (z:KS) (m:Mg):KS:=if aA .str false z.met m.1=true then z else ⟨bn .str z.met m.1 true,z.out++[sev m],if m.2.1=1 then z.s+7 else z.s⟩
def only (Z:Zs) (y:Int):Prop:=CZ Z/\∀z,sZ Z z↔z=y
end Go.Proofs.Tryz
end
section
namespace Go.Proofs.Tryz
open Go.AM
set_option maxRecDepth 100000
section
variable {c:List Mg}
def NG (c:List Mg) (x:ByteArray):Bool:=c.any fun m=>decide (m.1=x/\m.2.1≠3)
def qS (c:List Mg) (x:Mg):Bool:=NG c x.2.2.1 && !fc c x.1&&decide ((c.filter fun m=>decide (m.2.1=2/\m.2.2.1=x.2.2.1/\m.1≠x.1/\fc c m.1=true)).length=1)
theorem W8 (hs:SI c) {x:ByteArray}:NG c x=true↔nX c x=true/\(msg c x).2.1≠3:=by
 unfold NG
 rw [List.any_eq_true]
 constructor
 ·rintro ⟨m, hm, h⟩
  obtain ⟨rfl,h3⟩:=of_decide_eq_true h
  exact ⟨bH.2 (List.mem_map.2 ⟨m,hm,rfl⟩),by rw [dY hs hm];exact h3⟩
 ·rintro ⟨h1, h3⟩
  obtain ⟨h4,h5⟩:=C1 hs h1
  exact ⟨msg c x,h4,decide_eq_true ⟨h5,h3⟩⟩
theorem W9 (hs:SI c) (x:ByteArray):WU c x=NG c x:=by
 rw [Bool.eq_iff_iff,W8 hs]
 unfold WU
 rw [Bool.and_eq_true,Bool.not_eq_true',beq_eq_false_iff_ne]
 exact Iff.rfl
theorem uu {m:Mg} (hm:m∈c) (h:m.2.1=2):m.1∈kids c m.2.2.1:=k6.2 ⟨m,hm,rfl,h,rfl⟩
theorem FV (hs:SI c) {x:Mg} (hx:x∈c) (hk:x.2.1=2):qS c x=true↔x.1∈dir c (x.2.2.1,kids c x.2.2.1):=by
 have hxk:=uu hx hk
 have hlen:fc c x.1=false->(c.filter fun m=>decide (m.2.1=2/\m.2.2.1=x.2.2.1/\m.1≠x.1/\fc c m.1=true)).map (·.1)=(kids c x.2.2.1).filter (fc c):=by
  intro hr
  unfold kids
  rw [List.filter_map,List.filter_filter]
  refine congrArg (List.map _) (List.filter_congr fun m hm=>?_)
  rw [Bool.eq_iff_iff]
  simp only [Function.comp_apply,Bool.and_eq_true,decide_eq_true_eq]
  constructor
  ·rintro ⟨h1,h2,_,h4⟩;exact ⟨h4,h1,h2⟩
  ·rintro ⟨h4, h1, h2⟩
   exact ⟨h1,h2,(fun e=>by rw [e,hr] at h4;cases h4),h4⟩
 unfold qS dir
 rw [<-W9 hs]
 simp only [Bool.and_eq_true,Bool.not_eq_true',decide_eq_true_eq]
 constructor
 ·rintro ⟨⟨h1, h2⟩, h3⟩
  rw [if_pos h1]
  have h4:=hlen h2
  have h5:((kids c x.2.2.1).filter (fc c)).length=1:=by rw [<-h4,List.length_map];exact h3
  obtain ⟨o,ho⟩:=List.length_eq_one_iff.1 h5
  rw [ho]
  refine List.mem_filter.2 ⟨hxk,?_⟩
  have h6:fc c o=true:=(List.mem_filter.1 (show o∈(kids c x.2.2.1).filter (fc c) by rw [ho];exact List.mem_singleton.2 rfl)).2
  simp only [Bool.not_eq_true',decide_eq_false_iff_not]
  intro e;rw [e,h6] at h2;cases h2
 ·intro h
  split at h
  ·rename_i h1
   split at h
   ·rename_i o ho
    obtain ⟨_,h2⟩:=List.mem_filter.1 h
    simp only [Bool.not_eq_true',decide_eq_false_iff_not] at h2
    have hr:fc c x.1=false:=by
     cases hr:fc c x.1 with
     |false=>rfl
     |true =>
      have:x.1∈(kids c x.2.2.1).filter (fc c):=List.mem_filter.2 ⟨hxk,hr⟩
      rw [ho,List.mem_singleton] at this
      exact absurd this h2
    have h4:=congrArg List.length (hlen hr)
    rw [List.length_map,ho] at h4
    exact ⟨⟨h1,hr⟩,h4⟩
   ·cases h
  ·cases h
def par (c:List Mg) (m:Mg):Option Mg:=c.find? fun x=>decide (x.1=m.2.2.1/\x.2.1≠3)
def way (c : List Mg) : Nat → Mg → List Mg
 |0,_=>[]
 |n+1,m=>m::(if m.2.1=1 then [] else match par c m with|some x=>way c n x|none=>[])
end
end Go.Proofs.Tryz
end
section
namespace Go.Proofs.Tryz
open Go.AM
set_option maxRecDepth 100000
set_option maxHeartbeats 1000000
end Go.Proofs.Tryz
end
section
namespace Go.Proofs.Tryz
open Go.AM
set_option maxRecDepth 100000
section
variable {c:List Mg}
def wC (c:List Mg):Prop:=∀m∈c,m.2.1=1\/m.2.1=2\/m.2.1=3
def Tk (c:List Mg) (t:ByteArray):Prop:=∃m∈c,m.1=t/\m.2.1=1
def NR (c:List Mg) (t:ByteArray):Prop:=∃m∈c,m.1=t/\m.2.1≠3
theorem KO (hs:SI c) {m:Mg} (hm:m∈c) {y:ByteArray} (h:m.1∈kids c y):m.2.1=2/\m.2.2.1=y:=by
  obtain ⟨m',hm',e,h2,h3⟩:=k6.1 h
  rw [hs.inj hm' hm e] at h2 h3;exact ⟨h2,h3⟩
theorem Tk.top (hs:SI c) {t:ByteArray} (h:Tk c t):WV c t:=by
  obtain ⟨m,hm,rfl,h1⟩:=h
  intro x hx
  have:=(KO hs hm hx).1
  omega
theorem Tk.ids {t:ByteArray} (h:Tk c t):t∈ids c:=by obtain ⟨m,hm,rfl,_⟩:=h;exact List.mem_map.2 ⟨m,hm,rfl⟩
theorem Tk.nr {t:ByteArray} (h:Tk c t):NR c t:=by obtain ⟨m,hm,rfl,h1⟩:=h;exact ⟨m,hm,rfl,by omega⟩
theorem KP {x y:ByteArray} (h:y∈kids c x):NR c y:=by
  obtain ⟨m,hm,rfl,h2,_⟩:=k6.1 h;exact ⟨m,hm,rfl,by omega⟩
theorem eM {x z:ByteArray} {n:Nat} (h:jP c x n z):(n=0/\z=x)\/∃k y,n=k+1/\jP c x k y/\z∈kids c y:=by
  cases h with
  |zero=>exact .inl ⟨rfl,rfl⟩
  |step h hz=>exact .inr ⟨_,_,rfl,h,hz⟩
theorem wD {n:Nat} {x y:ByteArray} (h:jP c x n y) (hx:x∈ids c):y∈ids c:=by
  rcases eM h with ⟨_,rfl⟩|⟨_,_,_,_,hz⟩
  · exact hx
  · exact iz hz
theorem C5 {n:Nat} {x y:ByteArray} (h:jP c x n y) (hx:NR c x):NR c y:=by
  rcases eM h with ⟨_,rfl⟩|⟨_,_,_,_,hz⟩
  · exact hx
  · exact KP hz
theorem wE {x : ByteArray} : ∀ {b a : Nat} {z : ByteArray}, jP c x (a + b) z → ∃ y, jP c x a y ∧ jP c y b z
  |0,_,z,h=>⟨z,h,.zero⟩
  |b+1,a,z,h=>by
    rcases eM h with ⟨h0,_⟩|⟨k,y,hk,h1,hz⟩
    · omega
    · obtain rfl : k = a + b := by omega
      obtain ⟨w,h2,h3⟩:=wE h1
      exact ⟨w,h2,.step h3 hz⟩
theorem Nl {y x:ByteArray} (hy:y∈ids c) (d:Nat):jP c y d x->∃d',d'<c.length/\jP c y d' x:=by
  induction d using Nat.strongRecOn with
  |_ d ih =>
    intro h
    by_cases hd:d<c.length
    · exact ⟨d,hd,h⟩
    · have hex : ∀ i, i ≤ d → ∃ z, jP c y (d - i) z ∧ jP c z i x := fun i hi => wE (b := i) (a := d - i) (by rw [Nat.sub_add_cancel hi]; exact h)
      have hex2:∀i,∃z,i<=d->jP c y (d - i) z/\jP c z i x:=fun i=>by
        by_cases hi:i<=d
        · obtain ⟨z,hz⟩:=hex i hi;exact ⟨z,fun _=>hz⟩
        · exact ⟨y,fun h=>absurd h hi⟩
      obtain ⟨f,hf⟩:=Classical.axiomOfChoice hex2
      by_cases lU:∃i j,i<j/\j<=d/\f i=f j
      · obtain ⟨i, j, hij, hj, e⟩ := lU
        have h1:=(hf j hj).1
        have h2:=(hf i (by omega)).2
        rw [e] at h2
        exact ih (d - j+i) (by omega) (h1.add h2)
      · have hnd:((List.range (d+1)).map f).Nodup:=by
          unfold List.Nodup
          rw [List.pairwise_map]
          refine List.Pairwise.imp_of_mem ?_ List.pairwise_lt_range
          intro a b ha hb hab e
          exact lU ⟨a,b,hab,by have:=List.mem_range.1 hb;omega,e⟩
        have := List.Nodup.length_le_of_subset hnd (l₂ := ids c) (by
          intro z hz
          obtain ⟨i,hi,rfl⟩:=List.mem_map.1 hz
          exact wD (hf i (by have:=List.mem_range.1 hi;omega)).1 hy)
        have hl:(ids c).length=c.length:=by simp [ids]
        simp at this
        omega
theorem C6 {t:ByteArray} (ht:WV c t):cZ c t=false:=by
  cases h:cZ c t with
  |false=>rfl
  |true =>
    obtain ⟨p,y,hy,hd⟩:=zn.1 h
    obtain ⟨n,hp⟩:=hd.pth
    rcases eM hp with ⟨_,e⟩|⟨_,_,_,_,hz⟩
    · rw [<-e] at hy;exact absurd (pR hy) (ht _)
    · exact absurd hz (ht _)
theorem Sg {x z:ByteArray} (h:cZ c z=false) (hz:z∈kids c x):cZ c x=false:=by
  cases h':cZ c x with
  |false=>rfl
  |true=>rw [CX h' hz] at h;cases h
theorem KQ {n:Nat} {x z:ByteArray} (hp:jP c x n z) (h:cZ c z=false):cZ c x=false:=by
  induction hp with
  |zero=>exact h
  |step _ hz ih=>exact ih (Sg h hz)
theorem KR (hs : SI c) (hk : wC c) : ∀ {n : Nat} {x t : ByteArray}, zX c n x = some t ↔ Tk c t ∧ cZ c x = false ∧ ∃ d, d < n ∧ jP c t d x
  |0,x,t=>by simp [zX]
  |n+1,x,t=>by
    unfold zX
    by_cases hm:nX c x=true
    · rw [if_pos hm]
      obtain ⟨gp,hm2⟩:=C1 hs hm
      by_cases h3:(msg c x).2.1=3
      · rw [if_pos h3]
        simp only [reduceCtorEq,false_iff]
        rintro ⟨ht,_,d,_,hp⟩
        obtain ⟨m,hm',e,h3'⟩:=C5 hp ht.nr
        have:=hs.inj hm' gp (by rw [e,hm2])
        rw [this] at h3'
        exact h3' h3
      · rw [if_neg h3]
        by_cases hst:cZ c x=true
        · rw [if_pos hst]
          simp only [reduceCtorEq,false_iff]
          rintro ⟨_,h,_⟩
          rw [h] at hst;cases hst
        · rw [if_neg hst]
          have hst:cZ c x=false:=by simpa using hst
          by_cases h1:(msg c x).2.1=1
          · rw [if_pos h1]
            have ht:Tk c x:=⟨_,gp,hm2,h1⟩
            constructor
            · intro e
              obtain rfl:=Option.some.inj e
              exact ⟨ht,hst,0,by omega,.zero⟩
            · rintro ⟨_, _, d, _, hp⟩
              rcases eM hp with ⟨_,e⟩|⟨_,_,_,_,hz⟩
              · rw [e]
              · exact absurd hz (ht.top hs _)
          · rw [if_neg h1, KR hs hk]
            have h2:(msg c x).2.1=2:=by rcases hk _ gp with h|h|h<;>omega
            have pZ:x∈kids c (msg c x).2.2.1:=by have:=uu gp h2;rwa [hm2] at this
            constructor
            · rintro ⟨ht, _, d, hd, hp⟩
              exact ⟨ht,hst,d+1,by omega,.step hp pZ⟩
            · rintro ⟨ht, _, d, hd, hp⟩
              rcases eM hp with ⟨_,e⟩|⟨k,z,hk',h4,hz⟩
              · exact absurd (by rw [<-e];exact pZ) (ht.top hs _)
              · rw [KF hs hz pZ] at h4
                exact ⟨ht,Sg hst pZ,k,by omega,h4⟩
    · rw [if_neg hm]
      simp only [reduceCtorEq,false_iff]
      rintro ⟨ht,_,d,_,hp⟩
      exact hm (bH.2 (wD hp ht.ids))
theorem dh (hs:SI c) (hk:wC c) {x t:ByteArray}:mL c x=some t↔Tk c t/\cZ c x=false/\∃d,jP c t d x:=by
  rw [KR hs hk]
  exact and_congr_right fun ht=>and_congr_right fun _=>⟨fun ⟨d,_,h⟩=>⟨d,h⟩,fun ⟨d,h⟩=>⟨d,h.short hs (ht.top hs) ht.ids,h⟩⟩
def fI (c:List Mg) (x:ByteArray):Option ByteArray:=if eu c x=[] then mL c x else none
theorem eO {x t:ByteArray}:fI c x=some t↔eu c x=[]/\mL c x=some t:=by
  unfold fI;split<;>simp [*]
theorem sV {x y:ByteArray}:y∈eu c x↔y∈kids c x/\cZ c y=false:=by
  unfold eu;rw [List.mem_filter];simp
theorem C7 (hs:SI c) (hk:wC c) {x y t:ByteArray} (hx:mL c x=some t) (hy:y∈kids c x):(mL c y).isSome = !cZ c y:=by
  rw [Bool.eq_iff_iff,Option.isSome_iff_exists,Bool.not_eq_true']
  simp only [dh hs hk]
  obtain ⟨h1,_,d,h2⟩:=(dh hs hk).1 hx
  exact ⟨fun ⟨_,_,h,_⟩=>h,fun h=>⟨t,h1,h,d+1,.step h2 hy⟩⟩
theorem zu {y : ByteArray} : ∀ {n : Nat} {x : ByteArray}, cZ c x = false → (y ∈ cu c n x ↔ eu c y = [] ∧ cZ c y = false ∧ ∃ d, d < n ∧ jP c x d y)
  |0,x,_=>by simp [cu]
  |n+1,x,hx=>by
    unfold cu
    split
    · rename_i hl
      rw [List.mem_singleton]
      constructor
      · rintro rfl;exact ⟨hl,hx,0,by omega,.zero⟩
      · rintro ⟨_, h2, d, _, hp⟩
        cases d with
        | zero => rcases eM hp with ⟨_, e⟩ | ⟨_, _, h, _, _⟩
                  · exact e
                  · omega
        |succ d =>
          rw [Nat.add_comm] at hp
          obtain ⟨z,hz1,hz2⟩:=wE hp
          rcases eM hz1 with ⟨h,_⟩|⟨k,w,hk,hw,hzk⟩
          · omega
          · obtain rfl : k = 0 := by omega
            rcases eM hw with ⟨_,rfl⟩|⟨_,_,h,_,_⟩
            · have := sV.2 ⟨hzk, KQ hz2 h2⟩
              rw [hl] at this;cases this
            · omega
    · rename_i k l hl
      rw [(dN (t:=.str) _).mem_iff,List.mem_flatMap,<-hl]
      constructor
      · rintro ⟨z, hz, h⟩
        obtain ⟨h1,h2⟩:=sV.1 hz
        obtain ⟨h3,h4,d,hd,hp⟩:=(zu h2).1 h
        exact ⟨h3,h4,1+d,by omega,jP.add (.step .zero h1) hp⟩
      · rintro ⟨h3, h4, d, hd, hp⟩
        cases d with
        |zero =>
          rcases eM hp with ⟨_,e⟩|⟨_,_,h,_,_⟩
          · subst e;rw [hl] at h3;cases h3
          · omega
        |succ d =>
          rw [Nat.add_comm] at hp
          obtain ⟨z,hz1,hz2⟩:=wE hp
          rcases eM hz1 with ⟨h,_⟩|⟨k,w,hk,hw,hzk⟩
          · omega
          · obtain rfl : k = 0 := by omega
            rcases eM hw with ⟨_,rfl⟩|⟨_,_,h,_,_⟩
            · have hsz := KQ hz2 h4
              exact ⟨z,sV.2 ⟨hzk,hsz⟩,(zu hsz).2 ⟨h3,h4,d,by omega,hz2⟩⟩
            · omega
theorem jd (hs:SI c) (hk:wC c) {t y:ByteArray} (ht:Tk c t):y∈gY c t↔fI c y=some t:=by
  unfold gY
  rw [zu (C6 (ht.top hs)),eO,dh hs hk]
  refine and_congr_right fun _=>?_
  constructor
  · rintro ⟨h,d,_,hp⟩;exact ⟨ht,h,d,hp⟩
  · rintro ⟨_,h,d,hp⟩;exact ⟨h,d,by have:=hp.short hs (ht.top hs) ht.ids;omega,hp⟩
theorem nK (x:ByteArray):slt x x=false:=eW (t:=.str) kS x
theorem C8 {x y:ByteArray} (h:slt x y=true) (h':slt y x=true):False:=de (t:=.str) kS h h'
theorem KT {l l':List ByteArray} (h:l.Pairwise fun a b=>slt a b=true) (h':l'.Pairwise fun a b=>slt a b=true) (hm:∀x,x∈l↔x∈l'):l=l' :=
  iX (r:=fun a b=>slt a b=true) (fun a h=>by rw [nK] at h;cases h) (fun a b h1 h2=>C8 h1 h2) h h' hm
theorem IA {l:List ByteArray} (h:A2 .str l) (hn:l.Nodup):l.Pairwise fun a b=>slt a b=true:=by
  refine List.Pairwise.imp₂ (fun a b h1 h2=>?_) h hn
  cases hlt:slt a b with
  |true=>rfl
  |false=>exact absurd (fO (t:=.str) kS hlt h1) h2
theorem Si : ∀ {n : Nat} {x : ByteArray}, A2 .str (cu c n x)
  |0,_=>.nil
  |n+1,x=>by
    unfold cu
    split
    · exact List.pairwise_singleton _ _
    · exact pO (t:=.str) kS _
theorem acF (hs:SI c) (hk:wC c) {t:ByteArray} (ht:Tk c t):gY c t=(c.filter fun m=>decide (fI c m.1=some t)).map (·.1):=by
  refine KT (IA Si (C0 hs (ht.top hs) .zero)) ?_ fun y=>?_
  · rw [List.pairwise_map];exact List.Pairwise.filter _ hs
  · rw [jd hs hk ht, List.mem_map]
    constructor
    · intro h
      obtain ⟨_,_,d,hp⟩:=(dh hs hk).1 (eO.1 h).2
      obtain ⟨m,hm,rfl⟩:=List.mem_map.1 (wD hp ht.ids)
      exact ⟨m,List.mem_filter.2 ⟨hm,by simpa using h⟩,rfl⟩
    · rintro ⟨m, hm, rfl⟩
      simpa using (List.mem_filter.1 hm).2
end
end Go.Proofs.Tryz
end
section
namespace Go.Proofs.Tryz
open Go.AM
set_option maxRecDepth 100000
set_option maxHeartbeats 1000000
theorem Sj {m:Mg} (h:vD m=0):m.2.1=1\/m.2.1=2\/m.2.1=3:=by
 unfold vD at h
 split at h
 ·cases h
 ·omega
theorem acG {c c':List Mg} (h:SI c) (h':SI c') (hm:∀m,m∈c↔m∈c'):c=c' :=
 iX (r:=fun a b:Mg=>slt a.1 b.1=true) (fun a h=>by rw [nK] at h;cases h) (fun a b h1 h2=>C8 h1 h2) h h' hm
theorem KU {l:List ByteArray} {k:Nat} (h:k<l.length):l.getD k (bs [])∈l:=by
 rw [List.getD_eq_getElem?_getD,List.getElem?_eq_getElem h];exact List.getElem_mem h
end Go.Proofs.Tryz
end
section
namespace Go.Proofs.Tryz
open Go.AM
set_option maxRecDepth 100000
set_option maxHeartbeats 2000000
section
variable {c:List Mg}
end
end Go.Proofs.Tryz
end
section
namespace Go.Proofs.Tryz
open Go.AM
set_option maxRecDepth 100000
set_option maxHeartbeats 2000000
section
variable {c:List Mg}
theorem Nn (hs:SI c) (hk:wC c) {m:Mg} (hm:m∈c) (h:(fI c m.1).isSome=true):m.2.1≠3:=by
 obtain ⟨t,ht⟩:=Option.isSome_iff_exists.1 h
 obtain ⟨h1,_,d,h2⟩:=(dh hs hk).1 (eO.1 ht).2
 obtain ⟨m',hm',e,h3⟩:=C5 h2 h1.nr
 rw [hs.inj hm' hm e] at h3
 exact h3
theorem Sk {f:ByteArray->Int}:(iC c f).Pairwise (· < ·):=by
 unfold iC
 rw [List.pairwise_map]
 refine List.Pairwise.imp (fun {a b} h=>?_) (sS (c:=c) (f:=f) (ts:=pY c) cM.1)
 exact of_decide_eq_true h
end
end Go.Proofs.Tryz
end
section
namespace Go.Proofs.Tryz
open Go.AM
set_option maxRecDepth 100000
set_option maxHeartbeats 2000000
section
variable {c:List Mg}
theorem Xa {l l':List Int} (h:l.Pairwise (· < ·)) (h':l'.Pairwise (· < ·)) (hm:∀x,x∈l↔x∈l'):l=l' :=
 iX (r:=fun a b:Int=>a<b) (fun a h=>by omega) (fun a b h1 h2=>by omega) h h' hm
end
end Go.Proofs.Tryz
end
section
namespace Go.Proofs.Tryz
open Go.AM
set_option maxRecDepth 100000
section
variable {c c':List Mg} {n:Mg}
abbrev D (c:List Mg) (p:ByteArray):List ByteArray:=dir c (p,kids c p)
theorem Np {t:ByteArray} {ts:List ByteArray} {m:Ss}:vG c (t::ts) m=vG c ts (zY c (gY c t) m):=by
 unfold vG;rw [List.foldl_cons]
theorem sW (hs:SI c) (hk:wC c) {t v:ByteArray} (ht:Tk c t) (hv:v∈gY c t):nX c v=true:=by
 obtain ⟨_,_,d,hp⟩:=(dh hs hk).1 (eO.1 ((jd hs hk ht).1 hv)).2
 exact bH.2 (wD hp ht.ids)
end
end Go.Proofs.Tryz
end
section
namespace Go.Proofs.Tryz
open Go.AM
set_option maxRecDepth 100000
set_option maxHeartbeats 2000000
section
variable {c:List Mg} {n m:Mg} {t:ByteArray}
end
end Go.Proofs.Tryz
end
