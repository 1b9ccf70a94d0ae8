/- Maps that are kept in order: what stands in them. Plain Lean. Messages: names, what is wrong with them. Books: telling, all messages in order. DeleteFunc, Clone, the keys of maps. The messages that count, and what they say of each other. Striking: what is struck, and what corrects it. A book's desk. The versions of a ticket. The versions of a ticket: walked. States and versions. Sums. Spans, sums, accounts. The examples: what works() and Known come to. Messages by numbers. Books that were told good messages. Joins; books that answer the same. TicketOrder. TicketOrder: the row. TicketKept. Ways up to a ticket. Struck, the chain, versions: walked. Ways up: what they say. The messages that count: the first of each id. TicketStates. TicketExact. A book that was told one message more. TicketRuled. A correction more; TicketCorrected. TicketCorrected: the row. TicketWaiting: what waits changes nothing. -/
import Derived.Test.YthemjfloiapaaaaGreatW101
set_option linter.unusedSectionVars false
set_option linter.unusedVariables false
set_option linter.unusedSimpArgs false
section
namespace Go.AM
theorem kV {α : Type} {r : α → α → Prop} (irr : ∀ a, ¬ r a a) (asy : ∀ a b, r a b → ¬ r b a) : ∀ {l l' : List α}, l.Pairwise r → l'.Pairwise r → (∀ x, x ∈ l ↔ x ∈ l') → l = l'
 |[],[],_,_,_=>rfl
 |[],b::s,_,_,h=>by have:=(h b).2 (List.mem_cons_self ..);cases this
 |a::r',[],_,_,h=>by have:=(h a).1 (List.mem_cons_self ..);cases this
 |a::l,b::s,h1,h2,h=>by
  rw [List.pairwise_cons] at h1 h2
  have e:a=b:=by
   rcases List.mem_cons.1 ((h a).1 (List.mem_cons_self ..)) with e|ha
   ·exact e
   rcases List.mem_cons.1 ((h b).2 (List.mem_cons_self ..)) with e|hb
   ·exact e.symm
   ·exact absurd (h2.1 a ha) (asy _ _ (h1.1 b hb))
  subst e
  rw [kV irr asy h1.2 h2.2 fun x=>?_]
  constructor
  ·intro hx
   rcases List.mem_cons.1 ((h x).1 (List.mem_cons_of_mem _ hx)) with e|hx'
   ·subst e;exact absurd (h1.1 x hx) (irr x)
   ·exact hx'
  ·intro hx
   rcases List.mem_cons.1 ((h x).2 (List.mem_cons_of_mem _ hx)) with e|hx'
   ·subst e;exact absurd (h2.1 x hx) (irr x)
   ·exact hx'
section
variable {t:Ty} {ks:List Kd} {β:Type}
theorem jO (hk:bD t=some ks) {x:t.den}:dJ t x x=true:=kC x hk
theorem Co (hk:bD t=some ks) {x y:t.den}:dJ t x y=true↔x=y:=⟨bI,fun h=>by subst h;exact jO hk⟩
theorem gW (hk:bD t=some ks) (x:t.den):fW t x x=false:=by
 cases h:fW t x x with
 |false=>rfl
 |true=>exact (dx hk h h).elim
theorem T9 (hk:bD t=some ks) {x y:t.den} (h:fW t x y=true):dJ t x y=false:=by
 cases h':dJ t x y with
 |false=>rfl
 |true=>rw [bI h',gW hk] at h;cases h
def gJ (t:Ty) (es:List (t.den×β)):Prop:=es.Pairwise fun a b=>fW t a.1 b.1=true
theorem gJ.kd (hk:bD t=some ks) {es:List (t.den×β)} (h:gJ t es):KD t es:=List.Pairwise.imp (fun h=>T9 hk h) h
theorem EP {es:List (t.den×β)} {x:t.den} {v:β} {e:t.den×β}:e∈pN t es x v↔e=(x,v)∨e∈es:=by
 rw [jU.mem_iff];simp
theorem gJ.mins (hk : bD t = some ks) {x : t.den} {v : β} : ∀ {es : List (t.den × β)}, gJ t es → aM t es x = false → gJ t (pN t es x v)
 |[],_,_=>by unfold gJ;simp [pN]
 |e::r,h,hn=>by
  unfold gJ at h
  rw [List.pairwise_cons] at h
  have hne:=sP hn (List.mem_cons_self ..)
  have hnr:aM t r x=false:=by simpa [aM,hne] using hn
  unfold pN
  split
  ·rename_i hlt
   unfold gJ
   rw [List.pairwise_cons]
   refine ⟨fun b hb=>?_,List.pairwise_cons.2 h⟩
   rcases List.mem_cons.1 hb with rfl|hb
   ·exact hlt
   ·exact iH hk hlt (h.1 b hb)
  ·rename_i hlt
   unfold gJ
   rw [List.pairwise_cons]
   refine ⟨fun b hb=>?_,gJ.mins hk h.2 hnr⟩
   rcases EP.1 hb with rfl|hb
   ·cases hlt':fW t e.1 x with
    |true=>rfl
    |false =>
     have:=gB hk (by simpa using hlt) hlt'
     rw [this,jO hk] at hne;cases hne
   ·exact h.1 b hb
theorem gJ.iy (hk:bD t=some ks) {x:t.den} {v:β} {es:List (t.den×β)} (h:gJ t es):gJ t (aU t es x v):=by
 unfold aU
 split
 ·unfold gJ
  rw [List.pairwise_map]
  refine List.Pairwise.imp ?_ h
  intro a b hab
  split<;>split
  ·rename_i h1 h2
   rw [←bI h1,←bI h2,gW hk] at hab;cases hab
  ·rename_i h1 h2
   rw [←bI h1] at hab;exact hab
  ·rename_i h1 h2
   rw [←bI h2] at hab;exact hab
  ·exact hab
 ·rename_i hn
  exact h.mins hk (by simpa using hn)
theorem dy (hk:bD t=some ks) {es:List (t.den×β)} {x:t.den}:aM t es x=true↔∃v,(x,v)∈es:=by
 unfold aM
 rw [List.any_eq_true]
 constructor
 ·rintro ⟨e,he,hx⟩;rw [bI hx];exact ⟨e.2,he⟩
 ·rintro ⟨v,hv⟩;exact ⟨_,hv,jO hk⟩
theorem fR (hk:bD t=some ks) {es:List (t.den×β)} {x:t.den} {v d:β} (h:gJ t es) (hm:(x,v)∈es):ax t d es x=v:=mS (h.kd hk) hm (jO hk)
theorem fS (hk:bD t=some ks) {es:List (t.den×β)} {x:t.den} {v:β} (h:gJ t es) {e:t.den×β}:e∈aU t es x v↔e=(x,v)∨(e∈es∧e.1≠x):=by
 unfold aU
 split
 ·rename_i hh
  obtain ⟨u,hu⟩:=(dy hk).1 hh
  rw [List.mem_map]
  constructor
  ·rintro ⟨e', he', rfl⟩
   split
   ·exact .inl rfl
   ·rename_i hne;exact .inr ⟨he',fun e=>hne (by rw [e];exact jO hk)⟩
  ·rintro (rfl | ⟨he, hne⟩)
   ·exact ⟨(x,u),hu,by simp [jO hk]⟩
   ·exact ⟨e,he,by rw [if_neg];intro h;exact hne (bI h).symm⟩
 ·rename_i hh
  rw [EP]
  constructor
  ·rintro (h | h)
   ·exact .inl h
   ·refine .inr ⟨h, fun e' => hh ?_⟩
    rw [←e'];exact (dy hk).2 ⟨_,h⟩
  ·rintro (h | h)
   ·exact .inl h
   ·exact .inr h.1
theorem Ll (hk:bD t=some ks) {es:List (t.den×β)} {x y:t.den} {v d:β} (h:gJ t es):ax t d (aU t es x v) y=if dJ t y x=true then v else ax t d es y:=by
 have hc:=h.iy (x:=x) (v:=v) hk
 split
 ·rename_i e; have e := bI e; subst e
  exact fR hk hc ((fS hk h).2 (.inl rfl))
 ·rename_i e0
  have e:y≠x:=fun h=>e0 ((Co hk).2 h)
  cases hm:aM t es y with
  |true =>
   obtain ⟨u,hu⟩:=(dy hk).1 hm
   rw [fR hk h hu]
   exact fR hk hc ((fS hk h).2 (.inr ⟨hu,e⟩))
  |false =>
   rw [gw hm,gw]
   cases hm':aM t (aU t es x v) y with
   |false=>rfl
   |true =>
    obtain ⟨u,hu⟩:=(dy hk).1 hm'
    rcases (fS hk h).1 hu with e'|⟨h',_⟩
    ·cases e';exact absurd rfl e
    ·rw [(dy hk).2 ⟨u,h'⟩] at hm;cases hm
theorem pE (hk:bD t=some ks) {es:List (t.den×β)} {x y:t.den} {v:β} (h:gJ t es):aM t (aU t es x v) y=(dJ t y x||aM t es y):=by
 rw [Bool.eq_iff_iff,dy hk,Bool.or_eq_true,Co hk,dy hk]
 constructor
 ·rintro ⟨u, hu⟩
  rcases (fS hk h).1 hu with e|⟨h',_⟩
  ·cases e;exact .inl rfl
  ·exact .inr ⟨u,h'⟩
 ·by_cases e : y = x
  ·subst e;exact fun _=>⟨v,(fS hk h).2 (.inl rfl)⟩
  ·rintro (h' | ⟨u, hu⟩)
   ·exact absurd h' e
   ·exact ⟨u,(fS hk h).2 (.inr ⟨hu,e⟩)⟩
theorem Jk (hk:bD t=some ks) {es es':List (t.den×β)} (h:gJ t es) (h':gJ t es') (hm:∀e,e∈es↔e∈es'):es=es' :=
 kV (r:=fun a b:t.den×β=>fW t a.1 b.1=true) (fun a h=>by rw [gW hk] at h;cases h) (fun a b h1 h2=>dx hk h1 h2) h h' hm
theorem gJ.keys (hk:bD t=some ks) {es:List (t.den×β)} (h:gJ t es):Au t (es.map (·.1)):=by
 unfold Au
 rw [List.pairwise_map]
 refine List.Pairwise.imp (fun {a b} hab=>?_) h
 cases hba:fW t b.1 a.1 with
 |false=>rfl
 |true=>exact (dx hk hab hba).elim
theorem gJ.nil:gJ (β:=β) t []:=List.Pairwise.nil
theorem PB {es:List (t.den×Bool)} (hk:bD t=some ks) (h:gJ t es) (ht:∀e∈es,e.2=true) {x:t.den}:∀e∈aU t es x true,e.2=true:=fun e he=>by
 rcases (fS hk h).1 he with rfl|⟨h',_⟩
 ·rfl
 ·exact ht e h'
theorem PC {es:List (t.den×Bool)} (hk:bD t=some ks) (h:gJ t es) (ht:∀e∈es,e.2=true) {x:t.den}:ax t false es x=aM t es x:=by
 cases hm:aM t es x with
 |false=>exact gw hm
 |true =>
  obtain ⟨u,hu⟩:=(dy hk).1 hm
  rw [fR hk h hu];exact ht _ hu
theorem PD (hk:bD t=some ks) {es es':List (t.den×Bool)} (h:gJ t es) (h':gJ t es') (ht:∀e∈es,e.2=true) (ht':∀e∈es',e.2=true) (hm:∀x,aM t es x=aM t es' x):es=es':=by
 refine Jk hk h h' fun e=>?_
 have key:∀{es es':List (t.den×Bool)},(∀e∈es,e.2=true)→(∀e∈es',e.2=true)→(∀x,aM t es x=aM t es' x)→e∈es→e∈es':=fun {es es'} ht ht' hm he=>by
  have h1:aM t es' e.1=true:=by rw [←hm];exact (dy hk).2 ⟨e.2,he⟩
  obtain ⟨u,hu⟩:=(dy hk).1 h1
  have e1:=ht e he
  have e2:=ht' _ hu
  obtain ⟨a,b⟩:=e
  simp only at e1 e2;subst e1;subst e2;exact hu
 exact ⟨key ht ht' hm,key ht' ht fun x=>(hm x).symm⟩
end
end Go.AM
end
section
namespace Go.Proofs.Tryz
open Go.AM
set_option maxRecDepth 100000
abbrev Mg:=ByteArray×Int×ByteArray×ByteArray×Int
abbrev tM:Ty:=.prod .str (.prod (.int .i64) (.prod .str (.prod .str (.int .i64))))
abbrev kM:bD tM=some [.s,.i,.s,.s,.i]:=rfl
abbrev kS:bD .str=some [.s]:=rfl
theorem seq_eq (a b:ByteArray):seq a b=decide (a=b):=by
 unfold seq
 rw [Go.ByteArray.toList_eq,Go.ByteArray.toList_eq]
 by_cases h:a=b
 ·subst h;simp
 ·rw [decide_eq_false h, beq_eq_false_iff_ne]
  intro e;apply h
  obtain ⟨x⟩:=a;obtain ⟨y⟩:=b
  simp at e;rw [e]
theorem vw (a b:ByteArray):dJ .str a b=decide (a=b):=by
 rw [←seq_eq];simp only [dJ,seq,Go.ByteArray.toList_eq]
def ym (i:Nat) (b:Int):Bool:=decide (97≤b∧b≤122)||decide (i≠0∧48≤b∧b≤57)
def Ua : Nat → List Int → Bool
 |_,[]=>true
 |i,b::r=>ym i b&&Ua (i+1) r
def ek (s:ByteArray):Bool:=Ua 0 (eY s)&&decide (0<s.size∧s.size≤10)
theorem k65 (s:ByteArray) (hs:s.size<1000000000):ak (F65 s)=some (ek s,()):=by
 have hl:(eY s).length=s.size:=DY s
 unfold F65
 simp only [aA,bM]
 refine bind_eq (aQ (eY s) (fun k (_:Nat)=>(s,eY s,((eY s).length:Int),(k:Int),())) (fun i r=>if Ua i r=true then .inr (s,()) else .inl ()) (fun pre i=>i=pre.length) ?_ ?_ (s:=0) rfl) ?_
 ·intro pre x post i hx hi
  subst hi
  have hlen:(eY s).length=pre.length+(post.length+1):=by rw [hx];simp
  have hd:(eY s).getD pre.length 0=x:=by rw [hx];exact bt rfl
  have key:run (fun _=>none) (g65_0 (s,eY s,((eY s).length:Int),(pre.length:Int),()))=if ym pre.length x=true then some (.inl (s,eY s,((eY s).length:Int),((pre.length+1:Nat):Int),())) else some (.inr (.inl ())):=by
   simp only [g65_0,ay,bB,aS,aZ,aa,Int.toNat_natCast,hd,bx,bV]
   rw [if_pos (by omega),NH (by omega) (by omega)]
   unfold ym;simp only [Bool.or_eq_true,decide_eq_true_eq]
   by_cases h1:x<97
   ·rw [if_pos h1]
    by_cases h2:(pre.length:Int)=0
    ·rw [if_pos h2,if_neg (by omega)]
    ·rw [if_neg h2]
     by_cases h3:x<48
     ·rw [if_pos h3,if_neg (by omega)]
     ·rw [if_neg h3]
      by_cases h4:57<x
      ·rw [if_pos h4,if_neg (by omega)]
      ·rw [if_neg h4, if_pos, rM (by omega) (by omega)]; · rfl
       omega
   ·rw [if_neg h1]
    by_cases h5:122<x
    ·rw [if_pos h5]
     by_cases h2:(pre.length:Int)=0
     ·rw [if_pos h2,if_neg (by omega)]
     ·rw [if_neg h2]
      by_cases h3:x<48
      ·omega
      ·rw [if_neg h3,if_pos (by omega),if_neg (by omega)]
    ·rw [if_neg h5, if_pos, rM (by omega) (by omega)]; · rfl
     omega
  rw [key]
  by_cases hb:ym pre.length x=true
  ·left
   exact ⟨pre.length+1,by rw [if_pos hb],by simp,by simp [Ua,hb]⟩
  ·right
   rw [if_neg hb]
   have:Ua pre.length (x::post)=false:=by simp [Ua,hb]
   simp [this]
 ·intro i _
  simp only [g65_0,ay,bx]
  rw [if_neg (by omega)]
  simp [Ua,aa]
 ·unfold ek
  by_cases h:Ua 0 (eY s)=true
  ·rw [if_pos h, h]
   simp only [lZ,ay,aa,bx]
   by_cases h0:(0:Int)<((s.size:Nat):Int)
   ·rw [if_pos h0, Bool.true_and]
    congr 2
    exact decide_eq_decide.2 (by omega)
   ·rw [if_neg h0]
    simp;omega
  ·rw [if_neg h]
   simp [h,qw,aa]
def Cp (l:List Int):Int:=(l.find? (· != 0)).getD 0
theorem k86 (l:List Int) (hl:l.length<1000000000):ak (F86 l)=some (Cp l,()):=by
 unfold F86
 simp only [aA,bM]
 refine bind_eq (aQ l (fun k (_:Nat)=>((0:Int),l,((l.length:Nat):Int),(k:Int),())) (fun i r=>if (r.find? (· != 0)).isSome then .inl (Cp r,()) else .inr (0,())) (fun pre i=>i=pre.length) ?_ ?_ (s:=0) rfl) ?_
 ·intro pre x post i hx hi
  subst hi
  have hlen:l.length=pre.length+(post.length+1):=by rw [hx];simp
  have hd:l.getD pre.length 0=x:=by rw [hx];exact bt rfl
  have hin:fu (pre.length:Int) (l.length:Int)=true:=bY (by omega) (by omega)
  have hni:gG .i64 ((pre.length:Int)+1)=true:=aL (by omega) (by omega)
  by_cases h:x=0
  ·left
   refine ⟨pre.length+1,?_,by simp,by simp [h,Cp]⟩
   simp only [g86_0,ay,bB,aS,aa,Int.toNat_natCast,hd,bx,bV,cA,hin,hni,au]
   rw [if_pos (by omega),if_pos h];rfl
  ·right
   simp only [g86_0,ay,bB,aS,aa,Int.toNat_natCast,hd,bx,bV,cA,hin,hni,au]
   rw [if_pos (by omega),if_neg h]
   simp [h,Cp]
 ·intro i _
  simp only [g86_0,ay,bx]
  rw [if_neg (by omega)]
  simp [aa]
 ·cases h:(l.find? (· != 0)).isSome with
  |true=>rw [if_pos rfl];simp only [qw,aa]
  |false =>
   rw [if_neg (by simp)]
   have:Cp l=0:=by
    unfold Cp
    cases h':l.find? (· != 0) with
    |none=>rfl
    |some _=>rw [h'] at h;cases h
   rw [this];simp only [lZ,aa]
def nN (m:Mg):Int:=if m.2.1=1 then (if m.2.2.1=bs [] then 0 else 22) else if ek m.2.2.1=true then (if m.2.2.1=m.1 then 22 else 0) else 8
def lM (m:Mg):Int:=if m.2.1=3 then (if m.2.2.2.1=bs []∧m.2.2.2.2=0 then 0 else 22) else if ek m.2.2.2.1=true then (if -1000≤m.2.2.2.2∧m.2.2.2.2≤1000 then 0 else 2) else 8
def qa (m:Mg):Int:=if m.2.1<1∨3<m.2.1 then 18 else if ek m.1=true then Cp [nN m,lM m] else 8
def Sh (s:ByteArray):Prop:=s.size<1000000000
def Jl (m:Mg):Prop:=Sh m.1∧Sh m.2.2.1∧Sh m.2.2.2.1
theorem k87 (m:Mg) (h:Jl m):ak (F87 m)=some (nN m,()):=by
 unfold F87 nN
 simp only [ay,aA,aa,bV,k65 _ h.2.1,aJ,cA,seq_eq,bx]
 split
 ·split<;>rfl
 ·rw [kG]
  split
  ·split<;>rfl
  ·rfl
theorem k88 (m:Mg) (h:Jl m):ak (F88 m)=some (lM m,()):=by
 unfold F88 lM
 simp only [ay,aA,aa,bV,k65 _ h.2.2,aJ,cA,seq_eq,bx]
 split
 ·by_cases h1 : m.2.2.2.1 = bs []
  ·by_cases h2:m.2.2.2.2=0<;>simp [h1,h2]
  ·simp [h1]
 ·rw [kG]
  split
  ·by_cases h1 : m.2.2.2.2 < -1000
   ·rw [if_pos h1,if_neg (by omega)]
   ·rw [if_neg h1]
    by_cases h2:1000<m.2.2.2.2
    ·rw [if_pos h2,if_neg (by omega)]
    ·rw [if_neg h2,if_pos (by omega)]
  ·rfl
theorem k55 (m:Mg) (h:Jl m):ak (F55 m)=some (qa m,()):=by
 have h86:=k86 [nN m,lM m] (by simp)
 unfold F55 qa
 simp only [ay,aA,aa,bx,k65 _ h.1,aJ,cA,k87 m h,k88 m h]
 have hl:((nN m::lM m::[]).drop 0).take 2=[nN m,lM m]:=rfl
 simp only [hl,h86,aJ]
 by_cases h1:m.2.1<1
 ·rw [if_pos h1,if_pos (.inl h1)]
 ·rw [if_neg h1]
  by_cases h2:3<m.2.1
  ·rw [if_pos h2,if_pos (.inr h2)]
  ·rw [if_neg h2, if_neg (by omega), kG]
   split<;>rfl
end Go.Proofs.Tryz
end
section
namespace Go.Proofs.Tryz
open Go.AM
set_option maxRecDepth 100000
def bk (L:List Mg):List (Mg×Bool):=L.map fun m=>(m,true)
def SL (L:List Mg):Prop:=L.Pairwise fun a b=>fW tM a b=true
theorem SL.can {L:List Mg} (h:SL L):gJ tM (bk L):=by
 unfold gJ bk;rw [List.pairwise_map];exact h
theorem bk_t {L:List Mg}:∀e∈bk L,e.2=true:=fun e he=>by
 obtain ⟨m,_,rfl⟩:=List.mem_map.1 he;rfl
theorem GZ {L:List Mg} {m:Mg} {b:Bool}:(m,b)∈bk L↔m∈L∧b=true:=by
 unfold bk;rw [List.mem_map]
 constructor
 ·rintro ⟨x,hx,h⟩;cases h;exact ⟨hx,rfl⟩
 ·rintro ⟨h,rfl⟩;exact ⟨m,h,rfl⟩
theorem Jm {L:List Mg}:(bk L).map (·.1)=L:=by simp [bk,List.map_map,Function.comp_def]
theorem PE {L:List Mg}:(bk L).length=L.length:=by simp [bk]
theorem aeE {es:List (Mg×Bool)} (h:∀e∈es,e.2=true):bk (es.map (·.1))=es:=by
 unfold bk;rw [List.map_map]
 conv=>rhs;rw [←List.map_id es]
 refine List.map_congr_left fun e he=>?_
 obtain ⟨a,b⟩:=e
 have:=h _ he
 simp only at this;subst this;rfl
def oL (L:List Mg) (m:Mg):List Mg:=(aU tM (bk L) m true).map (·.1)
theorem He {L:List Mg} (h:SL L) {m:Mg}:bk (oL L m)=aU tM (bk L) m true:=aeE (PB kM h.can bk_t)
theorem mF {L:List Mg} (h:SL L) {m x:Mg}:x∈oL L m↔x=m∨x∈L:=by
 have:x∈oL L m↔(x,true)∈bk (oL L m):=by rw [GZ];simp
 rw [this,He h,fS kM h.can]
 constructor
 ·rintro (e | ⟨h1, h2⟩)
  ·cases e;exact .inl rfl
  ·exact .inr (GZ.1 h1).1
 ·by_cases e : x = m
  ·subst e;exact fun _=>.inl rfl
  ·rintro (e' | h')
   ·exact absurd e' e
   ·exact .inr ⟨GZ.2 ⟨h',rfl⟩,e⟩
theorem SL.ins {L:List Mg} (h:SL L) {m:Mg}:SL (oL L m):=by
 have:=h.can.iy (x:=m) (v:=true) kM
 rw [←He h] at this
 unfold gJ bk at this;rw [List.pairwise_map] at this;exact this
theorem SL.ext {L L':List Mg} (h:SL L) (h':SL L') (hm:∀x,x∈L↔x∈L'):L=L' :=
 kV (fun a h=>by rw [gW kM] at h;cases h) (fun a b h1 h2=>dx kM h1 h2) h h' hm
theorem yp {L:List Mg} {m:Mg}:(oL L m).length≤L.length+1:=by
 unfold oL aU
 rw [List.length_map]
 split
 ·simp [bk]
 ·rw [jU.length_eq];simp [bk]
theorem Hf (m:List (Mg×Bool)):ak (FH54 m)=some (false,m,()):=rfl
def iu (L:List Mg) (m:Mg):Int×List Mg:=if qa m=0 then (if 60<(oL L m).length then (15,L) else (0,oL L m)) else (qa m,L)
theorem g56 {mm m1:List (Mg×Bool)} {b3:List Mg} {n:Nat} {k:Nat} (hn:n=b3.length) (hb:n<1000000000) (hk:k<n) :
  ak (gH56_0 (n,((n:Nat):Int),(k:Int),mm,b3,m1,()))=some (.inl (n,((n:Nat):Int),((k+1:Nat):Int),aU tM mm (b3.getD k (bs [],(0:Int),bs [],bs [],(0:Int))) true,b3,m1,())):=by
 have hin:fu (k:Int) (n:Int)=true:=bY (by omega) (by omega)
 have hni:gG .i64 ((k:Int)+1)=true:=aL (by omega) (by omega)
 simp only [gH56_0,ay,bB,aZ,aS,aa,Int.toNat_natCast,Nat.zero_add,bx,hin,hni,au]
 rw [if_pos (by omega),cg (by omega)]
 rfl
theorem g56e {mm m1:List (Mg×Bool)} {b3:List Mg} {n:Nat}:ak (gH56_0 (n,((n:Nat):Int),(n:Int),mm,b3,m1,()))=some (.inr (mm,m1,())):=by
 simp only [gH56_0,ay,aa,bx]
 rw [if_neg (by omega)]
theorem kH56 {L:List Mg} (h:SL L) (hl:L.length≤60) (m:Mg):ak (FH56 m.1 m.2.1 m.2.2.1 m.2.2.2.1 m.2.2.2.2 (bk L))=some (if 60<(oL L m).length then (15,bk L,()) else (0,bk (oL L m),())):=by
 have hit:iter (fun x=>ak (gH56_0 x)) ((1:Nat),((1:Nat):Int),(0:Int),bk L,[m],bk L,())=some (bk (oL L m),bk L,()):=by
  rw [He h]
  exact ku (g56 (b3:=[m]) (n:=1) (k:=0) rfl (by omega) (by omega)) (fM g56e)
 unfold FH56
 simp only [aA,FH89,FH193,aa,aJ,bM]
 refine bind_eq hit ?_
 simp only [ay,aa,bx,PE]
 by_cases hc:60<(oL L m).length
 ·rw [if_pos (by omega),if_pos hc]
 ·rw [if_neg (by omega),if_neg hc]
theorem kH20 {L:List Mg} (h:SL L) (hl:L.length≤60) {m:Mg} (hm:Jl m):ak (FH20 m (bk L))=some ((iu L m).1,bk (iu L m).2,()):=by
 have h55:=k55 m hm
 unfold FH20
 simp only [aA,Hf,aJ,ay,bq]
 rw [ah (show ak (F55 (m.1,m.2.1,m.2.2.1,m.2.2.2.1,m.2.2.2.2))=_ from h55)]
 simp only [cA,bV]
 unfold iu
 by_cases hc:qa m=0
 ·rw [if_pos hc, if_pos hc]
  rw [ah (kH56 h hl m)]
  split<;>rfl
 ·rw [if_neg hc,if_neg hc];rfl
structure lp (L:List Mg):Prop where
 s:SL L
 len:L.length≤60
 qa:∀m∈L,qa m=0
theorem lp.nil:lp []:=⟨.nil,by simp,fun m h=>by cases h⟩
theorem lp.tell {L:List Mg} (h:lp L) (m:Mg):lp (iu L m).2:=by
 unfold iu
 split
 ·rename_i hc
  split
  ·exact h
  ·rename_i h60
   refine ⟨h.s.ins,by simp only;omega,fun x hx=>?_⟩
   rcases (mF h.s).1 hx with rfl|hx
   ·exact hc
   ·exact h.qa x hx
 ·exact h
def bE (l:List Mg):List Mg:=l.foldl (fun L m=>(iu L m).2) []
theorem lp.fold {L : List Mg} (h : lp L) : ∀ l : List Mg, lp (l.foldl (fun L m => (iu L m).2) L)
 |[]=>h
 |m::l=>lp.fold (h.tell m) l
theorem lp.told (l:List Mg):lp (bE l):=lp.nil.fold l
theorem PF {l:List Mg} (hl:l.length<1000000000) (hs:∀m∈l,Jl m):ak (FH29 l)=some (bk (bE l),()):=by
 unfold FH29
 simp only [aA,FH18,aa,aJ,bM]
 refine bind_eq (aQ l (fun k (L:List Mg)=>(l,(k:Int),bk L,())) (fun L r=>(bk (r.foldl (fun L m=>(iu L m).2) L),())) (fun _ L=>lp L) ?_ ?_ (s:=[]) lp.nil) rfl
 ·intro pre x post L hx hL
  have hlen:l.length=pre.length+(post.length+1):=by rw [hx];simp
  have hd:l.getD pre.length (bs [],(0:Int),bs [],bs [],(0:Int))=x:=by rw [hx];exact bt rfl
  have hin:fu (pre.length:Int) (l.length:Int)=true:=bY (by omega) (by omega)
  have hni:gG .i64 ((pre.length:Int)+1)=true:=aL (by omega) (by omega)
  left
  refine ⟨(iu L x).2,?_,hL.tell x,rfl⟩
  simp only [gH29_0,ay,bB,aS,aa,aA,Int.toNat_natCast,bx,hin,hni,au]
  rw [if_pos (by omega)]
  have hk:=kH20 hL.s hL.len (hs x (by rw [hx];simp))
  rw [hd]
  rw [ah (show ak (FH20 (x.1,x.2.1,x.2.2.1,x.2.2.2.1,x.2.2.2.2) (bk L))=_ from hk)]
  rfl
 ·intro L _
  simp only [gH29_0,ay,aa,bx]
  rw [if_neg (by omega)]
  rfl
theorem ER {E A : Type} {step : E → A → Option A} (f : A → E → A) (I : A → Prop) : ∀ (l : List E) (x : A), I x → (∀ e ∈ l, ∀ x, I x → step e x = some (f x e) ∧ I (f x e)) → zY step l x = some (l.foldl f x) ∧ I (l.foldl f x)
 |[],x,hx,_=>⟨rfl,hx⟩
 |e::l,x,hx,h=>by
  obtain ⟨h1,h2⟩:=h e (List.mem_cons_self ..) x hx
  obtain ⟨h3,h4⟩:=ER f I l (f x e) h2 fun e he=>h e (List.mem_cons_of_mem _ he)
  exact ⟨by simp only [zY,h1];exact h3,h4⟩
theorem sr {K V M : Type} {step : K × V → M × Nat × List K × Unit → Option (M × Nat × List K × Unit)} {m : M} {l : List (K × V)} (hl : l.length < 1000000000)
  (h:∀e n b,n<1000000000→step e (m,n,b,())=some (m,n+1,(b.drop 0).take n++[e.1],())):zY step l (m,0,[],())=some (m,l.length,l.map (·.1),()):=by
 have key:∀(l:List (K×V)) (b:List K),b.length+l.length<1000000000→zY step l (m,b.length,b,())=some (m,b.length+l.length,b++l.map (·.1),()):=by
  intro l
  induction l with
  |nil=>intro b _;simp [zY]
  |cons e l ih =>
   intro b hb
   simp only [List.length_cons] at hb
   simp only [zY,h e b.length b (by omega)]
   have:=ih (b++[e.1]) (by simp;omega)
   simp only [List.drop_zero,List.take_length]
   rw [List.length_append,List.length_singleton] at this
   rw [this]
   simp only [List.length_cons,List.map_cons,List.append_assoc,List.singleton_append]
   congr 3
   omega
 have:=key l [] (by simpa using hl)
 simpa using this
theorem oM {t:Ty} {ks:List Kd} (hk:bD t=some ks) {l s:List t.den} (hp:s.Perm l) (hs:Au t s) (hl:l.length<1000000000):uJ t l l.length=some (s,()):=by
 unfold uJ
 rw [if_pos ⟨Nat.le_refl _,by rw [gT];omega⟩,List.take_length,List.drop_length,List.append_nil,rP hk hp hs]
theorem SL.srt {L:List Mg} (h:SL L):Au tM L:=by
 have:=h.can.keys kM
 rwa [Jm] at this
theorem kH83 {L:List Mg} (h:SL L) (hl:L.length<1000000000):ak (FH83 (bk L))=some (L.length,L,bk L,()):=by
 unfold FH83
 refine Eq.trans BR (gz fun l hp=>?_)
 have yL:l.length=L.length:=by rw [hp.length_eq,PE]
 simp only [aA,BT]
 refine bind_eq (sr (m:=bk L) (l:=l) (by rw [yL];exact hl) fun e n b hn=>?_) ?_
 ·simp only [gH83f109f128_0i_0, aZ, aa, dG, au]
  rw [cg (show _<cu by rw [gT];simp;omega)]
  rfl
 ·simp only [FH110, xB]
  have hpk:L.Perm (l.map (·.1)):=by
   have:=(hp.map (·.1)).symm
   rwa [Jm] at this
  have:=oM kM hpk h.srt (by rw [List.length_map];omega)
  rw [List.length_map] at this
  rw [ah this,yL]
  rfl
theorem kH47 {L:List Mg} (h:SL L) (hl:L.length<1000000000):ak (FH47 (bk L))=some (L.length,L,bk L,()):=by
 unfold FH47
 simp only [aA,Hf,aJ,ay,bq,FH84,aa]
 rw [ah (kH83 h hl)]
end Go.Proofs.Tryz
end
section
namespace Go.Proofs.Tryz
open Go.AM
set_option maxRecDepth 100000
abbrev AF:=List (ByteArray×Mg)
abbrev Fk:=List (ByteArray×List ByteArray)
abbrev fG:=List (ByteArray×Bool)
theorem kH98 {l:List ByteArray} (hl:l.length<1000000000):ak (FH98 l)=some (l.length,l,()):=by
 simp only [FH98,ay,Xs,aZ,aa,bV]
 rw [D9 (by omega)]
 split
 ·have : l = [] := List.length_eq_zero_iff.1 (by omega)
  subst this
  simp only [List.length_nil,List.drop_nil,List.take_nil,List.append_nil,Nat.add_zero]
  exact Aa
 ·simp
def eE (del : ByteArray → Bool) : Nat → List ByteArray → Option Nat
 |_,[]=>none
 |k,x::r=>if del x=true then some k else eE del (k+1) r
theorem lN (del : ByteArray → Bool) : ∀ (l : List ByteArray) (k : Nat), (∃ p x q, l = p ++ x :: q ∧ (∀ c ∈ p, del c = false) ∧ del x = true ∧ eE del k l = some (k + p.length)) ∨ ((∀ c ∈ l, del c = false) ∧ eE del k l = none)
 |[],k=>.inr ⟨by simp,rfl⟩
 |y::l,k=>by
  by_cases h:del y=true
  ·left
   exact ⟨[],y,l,rfl,by simp,h,by simp [eE,h]⟩
  ·rcases lN del l (k + 1) with ⟨p, x, q, h1, h2, h3, h4⟩ | ⟨h1, h2⟩
   ·left
    refine ⟨y::p,x,q,by rw [h1];rfl,fun c hc=>?_,h3,?_⟩
    ·rcases List.mem_cons.1 hc with rfl | hc
     ·simpa using h
     ·exact h2 c hc
    ·unfold eE;rw [if_neg h,h4,List.length_cons,show k+1+p.length=k+(p.length+1) by omega]
   ·right
    refine ⟨fun c hc=>?_,by unfold eE;rw [if_neg h,h2]⟩
    rcases List.mem_cons.1 hc with rfl|hc
    ·simpa using h
    ·exact h1 c hc
theorem su {del:ByteArray→Bool} {l:List ByteArray} (h:∀c∈l,del c=false):l.filter (fun c => !del c)=l:=List.filter_eq_self.2 fun c hc=>by rw [h c hc];rfl
section
variable {m3:AF} {m4:Fk} {m5 m6:fG}
theorem kH99 (v:ByteArray):ak (FH99 v m3 m4 m5 m6)=some (!(ax .str false m5 v),m3,m4,m5,m6,()):=rfl
theorem aeJ {l:List ByteArray} (hl:l.length<1000000000):ak (FH119 l.length l m3 m4 m5 m6)=some ((match eE (fun v => !(ax .str false m5 v)) 0 l with|some k=>((k:Nat):Int)|none => -1),m3,m4,m5,m6,l,()):=by
 have hi := aQ (f := fun a => run (fun _ => none) (gH119_0 a)) l (fun k (_ : Nat) => (l.length, ((l.length : Nat) : Int), (k : Int), l, m3, m4, m5, m6, ())) (fun k r => match eE (fun v => !(ax .str false m5 v)) k r with | some k => .inl (((k : Nat) : Int), m3, m4, m5, m6, l, ()) | none => .inr (m3, m4, m5, m6, l, ())) (fun pre k => k = pre.length) (by
  rintro pre x post k hx rfl
  have hlen:l.length=pre.length+(post.length+1):=by rw [hx];simp
  have hd:l.getD pre.length (bs [])=x:=by rw [hx];exact bt rfl
  have i1:fu (pre.length:Int) ((l.length:Nat):Int)=true:=bY (by omega) (by omega)
  have r1:gG .i64 ((pre.length:Int)+1)=true:=aL (by omega) (by omega)
  have d1:decide (pre.length<l.length)=true:=decide_eq_true (by omega)
  simp only [gH119_0,ay,aA,bB,aZ,aS,aa,Int.toNat_natCast,Nat.zero_add,hd,kH99,aJ,i1,r1,d1,au,bx]
  rw [if_pos (by omega)]
  by_cases h:(!(ax .str false m5 x))=true
  ·right;rw [h,bK];simp only [eE,h,if_true]
  ·left
   refine ⟨pre.length+1,?_⟩
   rw [Gj (by simpa using h)]
   refine ⟨rfl,by simp,?_⟩
   simp only [eE,h,if_false];rfl) (by
  rintro k _
  simp only [gH119_0,ay,bx,aa]
  rw [if_neg (by omega)];rfl) (s:=0) rfl
 simp only [FH119,aA,bM]
 refine bind_eq hi ?_
 split<;>rfl
theorem kH97 {l:List ByteArray} (hl:l.length<1000000000):∃b,b.length=l.length∧b.take (l.filter fun v => !(!(ax .str false m5 v))).length=l.filter (fun v => !(!(ax .str false m5 v)))∧ak (FH97 l.length l m3 m4 m5 m6)=some (0,(l.filter fun v => !(!(ax .str false m5 v))).length,b,m3,m4,m5,m6,()):=by
 have ZR:=aeJ (m3:=m3) (m4:=m4) (m5:=m5) (m6:=m6) hl
 simp only [FH97,aA,bM,ay,aa,aS,aZ,bV]
 rw [ah ZR]
 rcases lN (fun v => !(ax .str false m5 v)) l 0 with ⟨p,x,q,h1,h2,h3,h4⟩|⟨h1,h2⟩
 case inr =>
  rw [h2]
  simp only [if_true]
  rw [su h1]
  exact ⟨l,rfl,List.take_length ..,rfl⟩
 rw [h4]
 simp only [Nat.zero_add]
 have hlen:l.length=p.length+(q.length+1):=by rw [h1];simp
 rw [if_neg (by omega),rM (by omega) (by omega)]
 have hk:l.filter (fun v => !(!(ax .str false m5 v)))=p++q.filter fun v => !(!(ax .str false m5 v)):=by
  have e1:=su h2
  have e2:(x::q).filter (fun v => !(!(ax .str false m5 v)))=q.filter fun v => !(!(ax .str false m5 v)):=by rw [List.filter_cons_of_neg];simpa using h3
  rw [h1,List.filter_append,e2]
  rw [show p.filter (fun v => !(!(ax .str false m5 v)))=p from e1]
 obtain ⟨res, hres, m, b, rfl, hb, hm, ht⟩ := Iu (step := fun a => run (fun _ => none) (gH97_0 a)) q.length
  (fun k x=>∃(i:Nat) (b:List ByteArray),x=(l.length,(i:Int),((p.length+1+k:Nat):Int),b,m3,m4,m5,m6,())∧b.length=l.length∧i≤p.length+k∧b.take i=p++(q.take k).filter (fun v => !(!(ax .str false m5 v)))∧b.drop (p.length+1+k)=q.drop k)
  (fun r => ∃ (m : Nat) (b : List ByteArray), r = (l.length, (m : Int), b, m3, m4, m5, m6, ()) ∧ b.length = l.length ∧ m ≤ l.length ∧ b.take m = p ++ q.filter fun v => !(!(ax .str false m5 v))) (by
   rintro k _ hk ⟨i,b,rfl,hb,hi,ht,hd⟩
   have hx:b.getD (p.length+1+k) (bs [])=q.getD k (bs []):=by
    have:=congrArg (fun l=>l.getD 0 (bs [])) hd
    simpa [List.getD_eq_getElem?_getD] using this
   have ZS:q.take (k+1)=q.take k++[q.getD k (bs [])]:=by
    rw [List.take_succ_eq_append_getElem hk];simp [List.getD_eq_getElem?_getD,List.getElem?_eq_getElem hk]
   generalize q.getD k (bs [])=y at hx ZS
   have i1:fu ((p.length+1+k:Nat):Int) ((l.length:Nat):Int)=true:=bY (by omega) (by omega)
   have i2:fu (i:Int) ((l.length:Nat):Int)=true:=bY (by omega) (by omega)
   have d1:decide (p.length+1+k<b.length)=true:=decide_eq_true (by omega)
   have d2:decide (i<b.length)=true:=decide_eq_true (by omega)
   have r1:gG .i64 ((i:Int)+1)=true:=aL (by omega) (by omega)
   have r2:gG .i64 (((p.length+1+k:Nat):Int)+1)=true:=aL (by omega) (by omega)
   simp only [gH97_0,ay,aA,bB,aZ,aS,aa,Int.toNat_natCast,Nat.zero_add,hx,kH99,aJ,i1,i2,d1,d2,r1,r2,au,bx]
   rw [if_pos (by omega)]
   by_cases hy:(!(ax .str false m5 y))=true
   ·refine ⟨_, by rw [Gj (by rw [hy]; rfl)], i, b, by rw [show ((p.length + 1 + (k + 1) : Nat) : Int) = ((p.length + 1 + k : Nat) : Int) + 1 by omega], hb, by omega, ?_, ?_⟩
    ·rw [ht,ZS,List.filter_append,List.filter_cons_of_neg (by rw [hy];simp)];simp
    ·have := congrArg (List.drop 1) hd
     simpa [List.drop_drop,Nat.add_assoc] using this
   ·refine ⟨_, by rw [NI (by rw [Bool.eq_false_iff.2 hy]; rfl)], i + 1, b.set i y, by rw [show ((p.length + 1 + (k + 1) : Nat) : Int) = ((p.length + 1 + k : Nat) : Int) + 1 by omega, show ((i + 1 : Nat) : Int) = (i : Int) + 1 by omega], by simp [hb], by omega, ?_, ?_⟩
    ·have e:(b.set i y).take (i+1)=b.take i++[y]:=by
      rw [List.take_succ_eq_append_getElem (by simp;omega)]
      simp [List.take_set_of_le]
     rw [e,ht,ZS,List.filter_append,List.filter_cons_of_pos (by simpa using hy)];simp
    ·have := congrArg (List.drop 1) hd
     rw [List.drop_set_of_lt (by omega)]
     simpa [List.drop_drop,Nat.add_assoc] using this) (by
   rintro _ ⟨i,b,rfl,hb,hi,ht,hd⟩
   simp only [gH97_0,ay,aa,bx]
   rw [if_neg (by omega)]
   exact ⟨_,rfl,i,b,rfl,hb,by omega,by rw [ht,List.take_length]⟩) (x:=(l.length,(p.length:Int),(p.length:Int)+1,l,m3,m4,m5,m6,())) ⟨p.length,l,by simp,rfl,by omega,by rw [h1];simp,by rw [h1];simp⟩
 rw [ah hres]
 have hml:m=(l.filter fun v => !(!(ax .str false m5 v))).length:=by rw [hk,←ht,List.length_take];omega
 simp only [Int.toNat_natCast,Nat.zero_add,AU,Int.toNat_zero,Nat.sub_zero]
 rw [cg (by omega),cg (by omega),cg (by omega),cg (by omega),cg (by omega),cg (by omega)]
 refine ⟨b.take m++List.replicate (l.length - m) (bs [])++b.drop (m+(l.length - m)),?_,?_,by rw [←hml]⟩
 ·simp only [List.length_append,List.length_take,List.length_replicate,List.length_drop];omega
 ·rw [←hml,List.take_append_of_le_length (by simp;omega),List.take_append_of_le_length (by simp;omega),List.take_take,Nat.min_self,ht,hk]
theorem Wa (v:ByteArray):ak (FH123 v m3 m4 m5 m6)=some (ax .str false m6 v,m3,m4,m5,m6,()):=rfl
theorem PG {l:List ByteArray} (hl:l.length<1000000000):ak (FH119_v1 l.length l m3 m4 m5 m6)=some ((match eE (fun v=>ax .str false m6 v) 0 l with|some k=>((k:Nat):Int)|none => -1),m3,m4,m5,m6,l,()):=by
 have hi := aQ (f := fun a => run (fun _ => none) (gH119_v1_0 a)) l (fun k (_ : Nat) => (l.length, ((l.length : Nat) : Int), (k : Int), l, m3, m4, m5, m6, ())) (fun k r => match eE (fun v => ax .str false m6 v) k r with | some k => .inl (((k : Nat) : Int), m3, m4, m5, m6, l, ()) | none => .inr (m3, m4, m5, m6, l, ())) (fun pre k => k = pre.length) (by
  rintro pre x post k hx rfl
  have hlen:l.length=pre.length+(post.length+1):=by rw [hx];simp
  have hd:l.getD pre.length (bs [])=x:=by rw [hx];exact bt rfl
  have i1:fu (pre.length:Int) ((l.length:Nat):Int)=true:=bY (by omega) (by omega)
  have r1:gG .i64 ((pre.length:Int)+1)=true:=aL (by omega) (by omega)
  have d1:decide (pre.length<l.length)=true:=decide_eq_true (by omega)
  simp only [gH119_v1_0,ay,aA,bB,aZ,aS,aa,Int.toNat_natCast,Nat.zero_add,hd,Wa,aJ,i1,r1,d1,au,bx]
  rw [if_pos (by omega)]
  by_cases h:(ax .str false m6 x)=true
  ·right;rw [h,bK];simp only [eE,h,if_true]
  ·left
   refine ⟨pre.length+1,?_⟩
   rw [Gj (by simpa using h)]
   refine ⟨rfl,by simp,?_⟩
   simp only [eE,h,if_false];rfl) (by
  rintro k _
  simp only [gH119_v1_0,ay,bx,aa]
  rw [if_neg (by omega)];rfl) (s:=0) rfl
 simp only [FH119_v1,aA,bM]
 refine bind_eq hi ?_
 split<;>rfl
theorem Ub {l:List ByteArray} (hl:l.length<1000000000):∃b,b.length=l.length∧b.take (l.filter fun v => !(ax .str false m6 v)).length=l.filter (fun v => !(ax .str false m6 v))∧ak (FH97_v1 l.length l m3 m4 m5 m6)=some (0,(l.filter fun v => !(ax .str false m6 v)).length,b,m3,m4,m5,m6,()):=by
 have ZR:=PG (m3:=m3) (m4:=m4) (m5:=m5) (m6:=m6) hl
 simp only [FH97_v1,aA,bM,ay,aa,aS,aZ,bV]
 rw [ah ZR]
 rcases lN (fun v=>ax .str false m6 v) l 0 with ⟨p,x,q,h1,h2,h3,h4⟩|⟨h1,h2⟩
 case inr =>
  rw [h2]
  simp only [if_true]
  rw [su h1]
  exact ⟨l,rfl,List.take_length ..,rfl⟩
 rw [h4]
 simp only [Nat.zero_add]
 have hlen:l.length=p.length+(q.length+1):=by rw [h1];simp
 rw [if_neg (by omega),rM (by omega) (by omega)]
 have hk:l.filter (fun v => !(ax .str false m6 v))=p++q.filter fun v => !(ax .str false m6 v):=by
  have e1:=su h2
  have e2:(x::q).filter (fun v => !(ax .str false m6 v))=q.filter fun v => !(ax .str false m6 v):=by rw [List.filter_cons_of_neg];simpa using h3
  rw [h1,List.filter_append,e2]
  rw [show p.filter (fun v => !(ax .str false m6 v))=p from e1]
 obtain ⟨res, hres, m, b, rfl, hb, hm, ht⟩ := Iu (step := fun a => run (fun _ => none) (gH97_v1_0 a)) q.length
  (fun k x=>∃(i:Nat) (b:List ByteArray),x=(l.length,(i:Int),((p.length+1+k:Nat):Int),b,m3,m4,m5,m6,())∧b.length=l.length∧i≤p.length+k∧b.take i=p++(q.take k).filter (fun v => !(ax .str false m6 v))∧b.drop (p.length+1+k)=q.drop k)
  (fun r => ∃ (m : Nat) (b : List ByteArray), r = (l.length, (m : Int), b, m3, m4, m5, m6, ()) ∧ b.length = l.length ∧ m ≤ l.length ∧ b.take m = p ++ q.filter fun v => !(ax .str false m6 v)) (by
   rintro k _ hk ⟨i,b,rfl,hb,hi,ht,hd⟩
   have hx:b.getD (p.length+1+k) (bs [])=q.getD k (bs []):=by
    have:=congrArg (fun l=>l.getD 0 (bs [])) hd
    simpa [List.getD_eq_getElem?_getD] using this
   have ZS:q.take (k+1)=q.take k++[q.getD k (bs [])]:=by
    rw [List.take_succ_eq_append_getElem hk];simp [List.getD_eq_getElem?_getD,List.getElem?_eq_getElem hk]
   generalize q.getD k (bs [])=y at hx ZS
   have i1:fu ((p.length+1+k:Nat):Int) ((l.length:Nat):Int)=true:=bY (by omega) (by omega)
   have i2:fu (i:Int) ((l.length:Nat):Int)=true:=bY (by omega) (by omega)
   have d1:decide (p.length+1+k<b.length)=true:=decide_eq_true (by omega)
   have d2:decide (i<b.length)=true:=decide_eq_true (by omega)
   have r1:gG .i64 ((i:Int)+1)=true:=aL (by omega) (by omega)
   have r2:gG .i64 (((p.length+1+k:Nat):Int)+1)=true:=aL (by omega) (by omega)
   simp only [gH97_v1_0,ay,aA,bB,aZ,aS,aa,Int.toNat_natCast,Nat.zero_add,hx,Wa,aJ,i1,i2,d1,d2,r1,r2,au,bx]
   rw [if_pos (by omega)]
   by_cases hy:(ax .str false m6 y)=true
   ·refine ⟨_, by rw [Gj (by rw [hy]; rfl)], i, b, by rw [show ((p.length + 1 + (k + 1) : Nat) : Int) = ((p.length + 1 + k : Nat) : Int) + 1 by omega], hb, by omega, ?_, ?_⟩
    ·rw [ht,ZS,List.filter_append,List.filter_cons_of_neg (by rw [hy];simp)];simp
    ·have := congrArg (List.drop 1) hd
     simpa [List.drop_drop,Nat.add_assoc] using this
   ·refine ⟨_, by rw [NI (by rw [Bool.eq_false_iff.2 hy]; rfl)], i + 1, b.set i y, by rw [show ((p.length + 1 + (k + 1) : Nat) : Int) = ((p.length + 1 + k : Nat) : Int) + 1 by omega, show ((i + 1 : Nat) : Int) = (i : Int) + 1 by omega], by simp [hb], by omega, ?_, ?_⟩
    ·have e:(b.set i y).take (i+1)=b.take i++[y]:=by
      rw [List.take_succ_eq_append_getElem (by simp;omega)]
      simp [List.take_set_of_le]
     rw [e,ht,ZS,List.filter_append,List.filter_cons_of_pos (by simpa using hy)];simp
    ·have := congrArg (List.drop 1) hd
     rw [List.drop_set_of_lt (by omega)]
     simpa [List.drop_drop,Nat.add_assoc] using this) (by
   rintro _ ⟨i,b,rfl,hb,hi,ht,hd⟩
   simp only [gH97_v1_0,ay,aa,bx]
   rw [if_neg (by omega)]
   exact ⟨_,rfl,i,b,rfl,hb,by omega,by rw [ht,List.take_length]⟩) (x:=(l.length,(p.length:Int),(p.length:Int)+1,l,m3,m4,m5,m6,())) ⟨p.length,l,by simp,rfl,by omega,by rw [h1];simp,by rw [h1];simp⟩
 rw [ah hres]
 have hml:m=(l.filter fun v => !(ax .str false m6 v)).length:=by rw [hk,←ht,List.length_take];omega
 simp only [Int.toNat_natCast,Nat.zero_add,AU,Int.toNat_zero,Nat.sub_zero]
 rw [cg (by omega),cg (by omega),cg (by omega),cg (by omega),cg (by omega),cg (by omega)]
 refine ⟨b.take m++List.replicate (l.length - m) (bs [])++b.drop (m+(l.length - m)),?_,?_,by rw [←hml]⟩
 ·simp only [List.length_append,List.length_take,List.length_replicate,List.length_drop];omega
 ·rw [←hml,List.take_append_of_le_length (by simp;omega),List.take_append_of_le_length (by simp;omega),List.take_take,Nat.min_self,ht,hk]
end
end Go.Proofs.Tryz
end
section
namespace Go.Proofs.Tryz
open Go.AM
set_option maxRecDepth 100000
abbrev zM:Mg:=(bs [],(0:Int),bs [],bs [],(0:Int))
def jq (es:AF) (m:Mg):AF:=if aM .str es m.1=true then es else aU .str es m.1 m
def qb (L:List Mg):AF:=L.foldl jq []
def cnt (L:List Mg):List Mg:=(qb L).map (·.2)
theorem yq {es:AF} (h:gJ .str es) (m:Mg):gJ .str (jq es m):=by
 unfold jq;split
 ·exact h
 ·exact h.iy kS
theorem yu : ∀ {L : List Mg} {es : AF}, gJ .str es → gJ .str (L.foldl jq es)
 |[],_,h=>h
 |m::L,es,h=>yu (L:=L) (es:=jq es m) (yq h m)
theorem Lm (L:List Mg):gJ .str (qb L):=yu .nil
theorem yw : ∀ {L : List Mg} {es : AF} {e : ByteArray × Mg}, gJ .str es → (e ∈ L.foldl jq es ↔ e ∈ es ∨ (aM .str es e.1 = false ∧ ∃ pre post, L = pre ++ e.2 :: post ∧ e.2.1 = e.1 ∧ ∀ x ∈ pre, x.1 ≠ e.1))
 |[],es,e,_=>by simp
 |m::L,es,e,h=>by
  rw [List.foldl_cons,yw (yq h m)]
  have hs:jq es m=es∧aM .str es m.1=true∨jq es m=aU .str es m.1 m∧aM .str es m.1=false:=by
   unfold jq
   cases hm:aM .str es m.1
   ·right;simp
   ·left;simp
  rcases hs with ⟨hs,hm⟩|⟨hs,hm⟩
  ·rw [hs]
   refine or_congr_right ?_
   constructor
   ·rintro ⟨h1, pre, post, rfl, h2, h3⟩
    refine ⟨h1,m::pre,post,rfl,h2,fun x hx=>?_⟩
    rcases List.mem_cons.1 hx with rfl|hx
    ·intro e';rw [e'] at hm;rw [hm] at h1;cases h1
    ·exact h3 x hx
   ·rintro ⟨h1, pre, post, h2, h3, h4⟩
    cases pre with
    |nil =>
     simp only [List.nil_append,List.cons.injEq] at h2
     rw [h2.1] at hm;rw [h3] at hm;rw [hm] at h1;cases h1
    |cons p pre =>
     simp only [List.cons_append,List.cons.injEq] at h2
     exact ⟨h1,pre,post,h2.2,h3,fun x hx=>h4 x (List.mem_cons_of_mem _ hx)⟩
  ·rw [hs, fS kS h, pE kS h]
   have hk:∀{v:Mg},(m.1,v)∉es:=fun {v} hv=>by rw [(dy kS).2 ⟨v,hv⟩] at hm;cases hm
   constructor
   ·rintro ((h1 | ⟨h1, _⟩) | ⟨h1, pre, post, rfl, h2, h3⟩)
    ·subst h1
     exact .inr ⟨hm,[],L,rfl,rfl,by simp⟩
    ·exact .inl h1
    ·simp only [Bool.or_eq_false_iff] at h1
     have hne:e.1≠m.1:=fun e'=>by have:=h1.1;rw [e',jO kS] at this;cases this
     refine .inr ⟨h1.2,m::pre,post,rfl,h2,fun x hx=>?_⟩
     rcases List.mem_cons.1 hx with rfl|hx
     ·exact Ne.symm hne
     ·exact h3 x hx
   ·rintro (h1 | ⟨h1, pre, post, h2, h3, h4⟩)
    ·refine .inl (.inr ⟨h1, fun e' => ?_⟩)
     obtain ⟨a,b⟩:=e
     simp only at e';subst e';exact hk h1
    ·cases pre with
     |nil =>
      simp only [List.nil_append,List.cons.injEq] at h2
      obtain ⟨a,b⟩:=e
      simp only at h2 h3
      exact .inl (.inl (by rw [←h3,h2.1]))
     |cons p pre =>
      simp only [List.cons_append,List.cons.injEq] at h2
      have hne:e.1≠m.1:=fun e'=>by
       have:=h4 p (List.mem_cons_self ..)
       rw [←h2.1,e'] at this;exact this rfl
      refine .inr ⟨?_,pre,post,h2.2,h3,fun x hx=>h4 x (List.mem_cons_of_mem _ hx)⟩
      rw [Bool.or_eq_false_iff]
      refine ⟨?_,h1⟩
      cases hd:dJ .str e.1 m.1 with
      |false=>rfl
      |true=>exact absurd (bI hd) hne
theorem tH {L:List Mg} {e:ByteArray×Mg}:e∈qb L↔∃pre post,L=pre++e.2::post∧e.2.1=e.1∧∀x∈pre,x.1≠e.1:=by
 unfold qb
 rw [yw .nil]
 simp [aM]
theorem ET {L:List Mg} {e:ByteArray×Mg} (h:e∈qb L):e.2.1=e.1:=by
 obtain ⟨_,_,_,h,_⟩:=tH.1 h;exact h
theorem EU (L:List Mg):qb L=(cnt L).map fun m=>(m.1,m):=by
 unfold cnt
 rw [List.map_map]
 conv=>lhs;rw [←List.map_id (qb L)]
 refine List.map_congr_left fun e he=>?_
 have:=ET he
 obtain ⟨a,b⟩:=e
 simp only at this;subst this;rfl
theorem Jn {L:List Mg} {m:Mg}:m∈cnt L↔(m.1,m)∈qb L:=by
 unfold cnt
 rw [List.mem_map]
 constructor
 ·rintro ⟨e, he, rfl⟩
  have:=ET he
  obtain ⟨a,b⟩:=e
  simp only at this;subst this;exact he
 ·intro h;exact ⟨_,h,rfl⟩
def SI (c:List Mg):Prop:=c.Pairwise fun a b=>slt a.1 b.1=true
theorem eo (L:List Mg):SI (cnt L):=by
 have h:=Lm L
 rw [EU] at h
 unfold gJ at h;rw [List.pairwise_map] at h;exact h
theorem SI.cam {c:List Mg} (h:SI c):gJ .str (c.map fun m=>(m.1,m)):=by
 unfold gJ;rw [List.pairwise_map];exact h
theorem SI.inj {c:List Mg} (h:SI c) {m m':Mg} (hm:m∈c) (hm':m'∈c) (e:m.1=m'.1):m=m':=by
 have h1:=fR (d:=zM) kS h.cam (List.mem_map.2 ⟨m,hm,rfl⟩)
 have h2:=fR (d:=zM) kS h.cam (List.mem_map.2 ⟨m',hm',rfl⟩)
 rw [←h1,←h2,e]
theorem sv {L:List Mg} {m:Mg} (h:m∈cnt L):m∈L:=by
 obtain ⟨pre,post,h,_⟩:=tH.1 (Jn.1 h)
 rw [h];simp
theorem Cq {L:List Mg} (hL:SL L) {m:Mg}:m∈cnt L↔m∈L∧∀x∈L,x.1=m.1→x=m∨fW tM m x=true:=by
 rw [Jn,tH]
 constructor
 ·rintro ⟨pre, post, h, _, h2⟩
  simp only at h h2
  subst h
  refine ⟨by simp,fun x hx e=>?_⟩
  rcases List.mem_append.1 hx with hx|hx
  ·exact absurd e (h2 x hx)
  ·rcases List.mem_cons.1 hx with rfl | hx
   ·exact .inl rfl
   ·unfold SL at hL
    rw [List.pairwise_append,List.pairwise_cons] at hL
    exact .inr (hL.2.1.1 x hx)
 ·rintro ⟨h1, h2⟩
  obtain ⟨pre,post,h⟩:=List.append_of_mem h1
  refine ⟨pre,post,h,rfl,fun x hx e=>?_⟩
  subst h
  unfold SL at hL
  rw [List.pairwise_append] at hL
  have h3:=hL.2.2 x hx m (List.mem_cons_self ..)
  rcases h2 x (by simp [hx]) e with rfl|h4
  ·rw [gW kM] at h3;cases h3
  ·exact dx kM h3 h4
theorem aeK {L:List Mg} {m1:List (Mg×Bool)} (hl:L.length<1000000000):iter (fun x=>ak (gH66_0 x)) (L.length,((L.length:Nat):Int),(0:Int),L,m1,[],[],[],[],())=some (m1,qb L,[],[],[],()):=by
 refine aQ L (fun k (es:AF)=>(L.length,((L.length:Nat):Int),(k:Int),L,m1,es,[],[],[],())) (fun es r=>(m1,r.foldl jq es,[],[],[],())) (fun _ _=>True) ?_ ?_ (s:=[]) trivial
 ·intro pre x post es hx _
  have hlen:L.length=pre.length+(post.length+1):=by rw [hx];simp
  have hd:L.getD pre.length zM=x:=by rw [hx];exact bt rfl
  have i1:fu (pre.length:Int) ((L.length:Nat):Int)=true:=bY (by omega) (by omega)
  have r1:gG .i64 ((pre.length:Int)+1)=true:=aL (by omega) (by omega)
  have d1:decide (pre.length<L.length)=true:=decide_eq_true (by omega)
  left
  refine ⟨jq es x,?_,trivial,rfl⟩
  simp only [gH66_0,ay,bB,aZ,aS,aa,Int.toNat_natCast,Nat.zero_add,hd,i1,r1,d1,au,bx]
  rw [if_pos (by omega)]
  unfold jq
  cases hm:aM .str es x.1
  ·rw [NI (by rfl)];rfl
  ·rw [Gj (by rfl)];rfl
 ·intro es _
  simp only [gH66_0,ay,aa,bx]
  rw [if_neg (by omega)]
  rfl
theorem Uc {c:List Mg} (h:SI c) (hl:c.length<1000000000):ak (FH81 (c.map fun m=>(m.1,m)))=some (c.length,c.map (·.1),c.map (fun m=>(m.1,m)),()):=by
 unfold FH81
 refine Eq.trans BR (gz fun l hp=>?_)
 have yL:l.length=c.length:=by rw [hp.length_eq,List.length_map]
 simp only [aA,BT]
 refine bind_eq (sr (m:=c.map fun m=>(m.1,m)) (l:=l) (by rw [yL];exact hl) fun e n b hn=>?_) ?_
 ·simp only [gH81f107f126_0i_0, aZ, aa, dG, au]
  rw [cg (show _<cu by rw [gT];simp;omega)]
  rfl
 ·simp only [FH105, xB]
  have hpk:(c.map (·.1)).Perm (l.map (·.1)):=by
   have:=(hp.map (·.1)).symm
   rwa [List.map_map] at this
  have hs:Au .str (c.map (·.1)):=by
   have:=h.cam.keys kS
   rwa [List.map_map] at this
  have:=oM kS hpk hs (by rw [List.length_map];omega)
  rw [List.length_map] at this
  rw [ah this,yL]
  rfl
def kids (c:List Mg) (x:ByteArray):List ByteArray:=(c.filter fun m=>decide (m.2.1=2∧m.2.2.1=x)).map (·.1)
def dg (c:List Mg) (x:ByteArray):Bool:=c.any fun m=>decide (m.2.1=3∧m.2.2.1=x)
def jr (t:Fk) (m:Mg):Fk:=if m.2.1=2 then aU .str t m.2.2.1 (ax .str [] t m.2.2.1++[m.1]) else t
def js (t:fG) (m:Mg):fG:=if m.2.1=3 then aU .str t m.2.2.1 true else t
def bO (c:List Mg):Fk:=c.foldl jr []
def cE (c:List Mg):fG:=c.foldl js []
theorem Hg {t:Fk} (h:gJ .str t) (m:Mg):gJ .str (jr t m):=by
 unfold jr;split
 ·exact h.iy kS
 ·exact h
theorem Hi {t:fG} (h:gJ .str t) (m:Mg):gJ .str (js t m):=by
 unfold js;split
 ·exact h.iy kS
 ·exact h
theorem yx : ∀ {c : List Mg} {t : Fk}, gJ .str t → gJ .str (c.foldl jr t) ∧ (∀ x, ax .str [] (c.foldl jr t) x = ax .str [] t x ++ kids c x) ∧ ∀ x, aM .str (c.foldl jr t) x = (aM .str t x || !(kids c x).isEmpty)
 |[],t,h=>⟨h,fun x=>by simp [kids],fun x=>by simp [kids]⟩
 |m::c,t,h=>by
  obtain ⟨h1,h2,h3⟩:=yx (c:=c) (Hg h m)
  refine ⟨h1,fun x=>?_,fun x=>?_⟩
  ·rw [List.foldl_cons, h2]
   unfold jr kids
   by_cases hk:m.2.1=2
   ·rw [if_pos hk, Ll kS h]
    by_cases hx:m.2.2.1=x
    ·subst hx
     rw [if_pos (jO kS),List.filter_cons_of_pos (by simp [hk])]
     simp
    ·rw [if_neg (fun h=>hx (bI h).symm),List.filter_cons_of_neg (by simp [hx])]
   ·rw [if_neg hk,List.filter_cons_of_neg (by simp [hk])]
  ·rw [List.foldl_cons, h3]
   unfold jr kids
   by_cases hk:m.2.1=2
   ·rw [if_pos hk, pE kS h]
    by_cases hx:m.2.2.1=x
    ·subst hx
     rw [jO kS,List.filter_cons_of_pos (by simp [hk])]
     simp
    ·have:dJ .str x m.2.2.1=false:=by
      cases hd:dJ .str x m.2.2.1 with
      |false=>rfl
      |true=>exact absurd (bI hd).symm hx
     rw [this,List.filter_cons_of_neg (by simp [hx]),Bool.false_or]
   ·rw [if_neg hk,List.filter_cons_of_neg (by simp [hk])]
theorem Jo (c:List Mg):gJ .str (bO c):=(yx .nil).1
theorem vz (c:List Mg) (x:ByteArray):ax .str [] (bO c) x=kids c x:=by
 exact ((yx (c:=c) (t:=[]) .nil).2.1 x).trans (by simp [ax])
theorem Jp (c:List Mg) (x:ByteArray):aM .str (bO c) x = !(kids c x).isEmpty:=by
 exact ((yx (c:=c) (t:=[]) .nil).2.2 x).trans (by simp [aM])
theorem vA {c:List Mg} {e:ByteArray×List ByteArray}:e∈bO c↔e.2=kids c e.1∧kids c e.1≠[]:=by
 constructor
 ·intro h
  have h1:=fR (d:=[]) kS (Jo c) (show (e.1,e.2)∈bO c from h)
  rw [vz] at h1
  refine ⟨h1.symm,fun h2=>?_⟩
  have h3:=(dy kS).2 ⟨e.2,(show (e.1,e.2)∈bO c from h)⟩
  rw [Jp,h2] at h3;cases h3
 ·rintro ⟨h1, h2⟩
  have h3:aM .str (bO c) e.1=true:=by
   rw [Jp]
   cases hk:kids c e.1 with
   |nil=>exact absurd hk h2
   |cons _ _=>rfl
  obtain ⟨v,hv⟩:=(dy kS).1 h3
  have h4:=fR (d:=[]) kS (Jo c) hv
  rw [vz] at h4
  obtain ⟨a,b⟩:=e
  simp only at h1 h4 hv
  rw [h1,h4];exact hv
theorem PI : ∀ {c : List Mg} {t : fG}, gJ .str t → (∀ e ∈ t, e.2 = true) → gJ .str (c.foldl js t) ∧ (∀ e ∈ c.foldl js t, e.2 = true) ∧ ∀ x, aM .str (c.foldl js t) x = (aM .str t x || dg c x)
 |[],t,h,ht=>⟨h,ht,fun x=>by simp [dg]⟩
 |m::c,t,h,ht=>by
  obtain ⟨h1, h0, h2⟩ := PI (c := c) (Hi h m) (by
   unfold js;split
   ·exact PB kS h ht
   ·exact ht)
  refine ⟨h1,h0,fun x=>?_⟩
  rw [List.foldl_cons,h2]
  unfold js dg
  by_cases hk:m.2.1=3
  ·rw [if_pos hk, pE kS h, List.any_cons]
   have:dJ .str x m.2.2.1=decide (m.2.1=3∧m.2.2.1=x):=by
    rw [vw];exact decide_eq_decide.2 ⟨fun e=>⟨hk,e.symm⟩,fun e=>e.2.symm⟩
   rw [this,Bool.or_comm (decide _) (aM .str t x),Bool.or_assoc]
  ·rw [if_neg hk, List.any_cons]
   simp [hk]
theorem Ud (c:List Mg) (x:ByteArray):ax .str false (cE c) x=dg c x:=by
 have h:=PI (c:=c) (t:=[]) .nil (fun e h=>by cases h)
 rw [show cE c=c.foldl js [] from rfl,PC kS h.1 h.2.1,h.2.2]
 simp [aM]
theorem oN (c:List Mg) (x:ByteArray):(kids c x).length≤c.length:=by
 unfold kids;rw [List.length_map];exact List.length_filter_le ..
theorem aeL {c:List Mg} {m1:List (Mg×Bool)} (h:SI c) (hl:c.length<1000000):iter (fun x=>ak (gH66_1 x)) (c.length,((c.length:Nat):Int),(0:Int),c.map (·.1),m1,c.map (fun m=>(m.1,m)),[],[],[],()) =
  some (m1,c.map (fun m=>(m.1,m)),bO c,cE c,[],()):=by
 have yL:(c.map (·.1)).length=c.length:=List.length_map ..
 refine aQ c (fun k (s : Fk × fG) => (c.length, ((c.length : Nat) : Int), (k : Int), c.map (·.1), m1, c.map (fun m => (m.1, m)), s.1, s.2, [], ())) (fun s r => (m1, c.map (fun m => (m.1, m)), r.foldl jr s.1, r.foldl js s.2, [], ()))
  (fun pre s=>s.1=pre.foldl jr []) ?_ ?_ (s:=([],[])) rfl
 ·rintro pre x post ⟨t, r⟩ hx ht
  simp only at ht
  have hlen:c.length=pre.length+(post.length+1):=by rw [hx];simp
  have hd:(c.map (·.1)).getD pre.length (bs [])=x.1:=by rw [hx,List.map_append,List.map_cons];exact bt (by simp)
  have hg:ax .str zM (c.map fun m=>(m.1,m)) x.1=x:=fR kS h.cam (List.mem_map.2 ⟨x,by rw [hx];simp,rfl⟩)
  have i1:fu (pre.length:Int) ((c.length:Nat):Int)=true:=bY (by omega) (by omega)
  have r1:gG .i64 ((pre.length:Int)+1)=true:=aL (by omega) (by omega)
  have d1:decide (pre.length<(c.map (·.1)).length)=true:=decide_eq_true (by omega)
  left
  refine ⟨(jr t x,js r x),?_,by simp only;rw [ht,List.foldl_append];rfl,rfl⟩
  simp only [gH66_1,ay,bB,aZ,aS,aa,Int.toNat_natCast,Nat.zero_add,hd,hg,i1,r1,d1,au,bx,bV]
  rw [if_pos (by omega)]
  unfold jr js
  by_cases h3:x.2.1=3
  ·rw [if_pos h3,if_pos h3,if_neg (by omega)];rfl
  ·rw [if_neg h3, if_neg h3]
   by_cases h2:x.2.1=2
   ·rw [if_pos h2, if_pos h2]
    have hlt:(ax .str [] t x.2.2.1).length≤c.length:=by
     have:=(yx (c:=pre) (t:=[]) .nil).2.1 x.2.2.1
     rw [←ht] at this
     rw [this]
     have:=oN pre x.2.2.1
     simp only [ax,List.nil_append];omega
    rw [cg (show _<cu by rw [gT];omega)]
    rfl
   ·rw [if_neg h2,if_neg h2];rfl
 ·rintro ⟨t, r⟩ _
  simp only [gH66_1,ay,aa,bx]
  rw [if_neg (by omega)]
  rfl
end Go.Proofs.Tryz
end
section
namespace Go.Proofs.Tryz
open Go.AM
set_option maxRecDepth 100000
theorem Ue {A B : Type} {F : (A → Option B) → A → Option B} (R : A → B → Prop) (m : A → Nat)
  (h:∀rec x y,R x y→(∀x' y',R x' y'→m x'<m x→rec x'=some y')→F rec x=some y):∀x y,R x y→xz F x=some y:=by
 have key:∀n x y,R x y→m x<n→LH F n x=some y:=by
  intro n
  induction n with
  |zero=>intro x y _ hm;omega
  |succ n ih=>intro x y hx hm;exact h _ x y hx fun x' y' hx' hm'=>ih x' y' hx' (by omega)
 intro x y hx
 exact Im (N:=m x+1) fun n hn=>key n x y hx (by omega)
structure oO (S:fG):Prop where
 c:gJ .str S
 t:∀e∈S,e.2=true
theorem oO.nil:oO []:=⟨.nil,fun e h=>by cases h⟩
theorem oO.put {S:fG} (h:oO S) (x:ByteArray):oO (aU .str S x true):=⟨h.c.iy kS,PB kS h.c h.t⟩
abbrev has (S:fG) (x:ByteArray):Bool:=aM .str S x
def Sub (S S':fG):Prop:=∀x,has S x=true→has S' x=true
theorem Sub.rfl {S:fG}:Sub S S:=fun _ h=>h
theorem Sub.trans {S S' BL:fG} (h:Sub S S') (h':Sub S' BL):Sub S BL:=fun x hx=>h' x (h x hx)
theorem pF {S:fG} (h:oO S) {x y:ByteArray}:has (aU .str S x true) y=true↔y=x∨has S y=true:=by
 unfold has
 rw [pE kS h.c,Bool.or_eq_true,Co kS]
theorem Sub.put {S:fG} (h:oO S) (x:ByteArray):Sub S (aU .str S x true):=fun y hy=>(pF h).2 (.inr hy)
theorem oO.ext {S S':fG} (h:oO S) (h':oO S') (hx:∀x,has S x=true↔has S' x=true):S=S' :=
 PD kS h.c h'.c h.t h'.t fun x=>by rw [Bool.eq_iff_iff];exact hx x
section
variable {c:List Mg}
inductive jt (c : List Mg) : ByteArray → ByteArray → Prop
 |refl (x):jt c x x
 |step {x y z} (h:jt c x y) (hz:z∈kids c y):jt c x z
theorem jt.trans {x y z:ByteArray} (h:jt c x y) (h':jt c y z):jt c x z:=by
 induction h' with
 |refl=>exact h
 |step _ hz ih=>exact .step ih hz
theorem jt.cons {x y z:ByteArray} (hy:y∈kids c x) (h:jt c y z):jt c x z:=(jt.step (.refl x) hy).trans h
def ids (c:List Mg):List ByteArray:=c.map (·.1)
theorem fU {x z:ByteArray} (h:z∈kids c x):z∈ids c:=by
 unfold kids at h
 obtain ⟨m,hm,rfl⟩:=List.mem_map.1 h
 exact List.mem_map.2 ⟨m,(List.mem_filter.1 hm).1,rfl⟩
def CM (c:List Mg) (S:fG):Nat:=((ids c).filter fun x => !has S x).length
theorem PJ (S:fG):CM c S≤c.length:=by
 unfold CM ids;exact Nat.le_trans (List.length_filter_le ..) (by simp)
theorem nC {α : Type} {p q : α → Bool} : ∀ {l : List α}, (∀ x ∈ l, p x = true → q x = true) → (l.filter p).length ≤ (l.filter q).length
 |[],_=>by simp
 |a::l,h=>by
  have ih:=nC (l:=l) fun x hx=>h x (List.mem_cons_of_mem _ hx)
  by_cases hp:p a=true
  ·rw [List.filter_cons_of_pos hp, List.filter_cons_of_pos (h a (List.mem_cons_self ..) hp)]
   simp only [List.length_cons];omega
  ·rw [List.filter_cons_of_neg hp]
   by_cases hq:q a=true
   ·rw [List.filter_cons_of_pos hq];simp only [List.length_cons];omega
   ·rw [List.filter_cons_of_neg hq];exact ih
theorem sw {α : Type} {p q : α → Bool} : ∀ {l : List α}, (∀ x ∈ l, p x = true → q x = true) → ∀ {y : α}, y ∈ l → q y = true → p y = false → (l.filter p).length < (l.filter q).length
 |[],_,y,h,_,_=>by cases h
 |a::l,h,y,hy,hq,hp=>by
  have hl:∀x∈l,p x=true→q x=true:=fun x hx=>h x (List.mem_cons_of_mem _ hx)
  rcases List.mem_cons.1 hy with rfl|hy
  ·rw [List.filter_cons_of_neg (by rw [hp]; simp), List.filter_cons_of_pos hq]
   have:=nC hl
   simp only [List.length_cons];omega
  ·have ih := sw hl hy hq hp
   by_cases hpa:p a=true
   ·rw [List.filter_cons_of_pos hpa, List.filter_cons_of_pos (h a (List.mem_cons_self ..) hpa)]
    simp only [List.length_cons];omega
   ·rw [List.filter_cons_of_neg hpa]
    by_cases hqa:q a=true
    ·rw [List.filter_cons_of_pos hqa];simp only [List.length_cons];omega
    ·rw [List.filter_cons_of_neg hqa];exact ih
theorem yy {S S':fG} (h:Sub S S'):CM c S'≤CM c S:=nC fun x _ hx=>by
 cases hs:has S x with
 |false=>rfl
 |true=>rw [h x hs] at hx;cases hx
theorem Hj {S:fG} (h:oO S) {x:ByteArray} (hx:x∈ids c) (hn:has S x=false):CM c (aU .str S x true)<CM c S:=by
 refine sw (fun y _ hy=>?_) hx (by rw [hn];rfl) (by rw [(pF h).2 (.inl rfl)];rfl)
 cases hs:has S y with
 |false=>rfl
 |true=>rw [(pF h).2 (.inr hs)] at hy;cases hy
def cU (c : List Mg) : Nat → ByteArray → fG → fG
 |0,_,S=>S
 |n+1,x,S=>if has S x=true then S else (kids c x).foldl (fun S k=>cU c n k S) (aU .str S x true)
theorem iP : ∀ {n : Nat} {x : ByteArray} {S : fG}, oO S → oO (cU c n x S) ∧ Sub S (cU c n x S)
 |0,_,_,h=>⟨h,.rfl⟩
 |n+1,x,S,h=>by
  unfold cU
  split
  ·exact ⟨h,.rfl⟩
  ·have key:∀(l:List ByteArray) (S:fG),oO S→oO (l.foldl (fun S k=>cU c n k S) S)∧Sub S (l.foldl (fun S k=>cU c n k S) S):=by
    intro l
    induction l with
    |nil=>intro S h;exact ⟨h,.rfl⟩
    |cons k l ih =>
     intro S h
     obtain ⟨h1,h2⟩:=iP (n:=n) (x:=k) h
     obtain ⟨h3,h4⟩:=ih _ h1
     exact ⟨h3,h2.trans h4⟩
   obtain ⟨h1,h2⟩:=key (kids c x) _ (h.put x)
   exact ⟨h1,(Sub.put h x).trans h2⟩
theorem sx {n : Nat} : ∀ {l : List ByteArray} {S : fG}, oO S → oO (l.foldl (fun S k => cU c n k S) S) ∧ Sub S (l.foldl (fun S k => cU c n k S) S)
 |[],_,h=>⟨h,.rfl⟩
 |k::l,S,h=>by
  obtain ⟨h1,h2⟩:=iP (c:=c) (n:=n) (x:=k) h
  obtain ⟨h3,h4⟩:=sx (l:=l) h1
  exact ⟨h3,h2.trans h4⟩
theorem uy : ∀ {n n' : Nat} {x : ByteArray} {S : fG}, oO S → x ∈ ids c → CM c S < n → CM c S < n' → cU c n x S = cU c n' x S
 |0,_,_,_,_,_,h,_=>by omega
 |_+1,0,_,_,_,_,_,h=>by omega
 |n+1,n'+1,x,S,hS,hx,h,h'=>by
  unfold cU
  split
  ·rfl
  ·rename_i hn
   have hn:has S x=false:=by simpa using hn
   have hlt:=Hj hS hx hn
   have key:∀(l:List ByteArray) (S1:fG),(∀k∈l,k∈ids c)→oO S1→CM c S1<n→CM c S1<n'→l.foldl (fun S k=>cU c n k S) S1=l.foldl (fun S k=>cU c n' k S) S1:=by
    intro l
    induction l with
    |nil=>intro _ _ _ _ _;rfl
    |cons k l ih =>
     intro S1 hk h1 h2 h3
     simp only [List.foldl_cons]
     rw [uy (n:=n) (n':=n') h1 (hk k (List.mem_cons_self ..)) h2 h3]
     obtain ⟨h4,h5⟩:=iP (c:=c) (n:=n') (x:=k) h1
     have:=yy (c:=c) h5
     exact ih _ (fun k hk'=>hk k (List.mem_cons_of_mem _ hk')) h4 (by omega) (by omega)
   exact key _ _ (fun k hk=>fU hk) (hS.put x) (by omega) (by omega)
theorem EW {n:Nat} {x:ByteArray} {S:fG} (h:oO S) (hn:CM c S<n):has (cU c n x S) x=true:=by
 cases n with
 |zero=>omega
 |succ n =>
  unfold cU
  split
  ·assumption
  ·exact (sx (h.put x)).2 x ((pF h).2 (.inl rfl))
theorem AG : ∀ {n : Nat} {x : ByteArray} {S : fG}, oO S → ∀ y, has (cU c n x S) y = true → has S y = true ∨ jt c x y
 |0,_,_,_,y,hy=>.inl hy
 |n+1,x,S,h,y,hy=>by
  unfold cU at hy
  split at hy
  ·exact .inl hy
  ·have key:∀(l:List ByteArray) (S1:fG),(∀k∈l,k∈kids c x)→oO S1→has (l.foldl (fun S k=>cU c n k S) S1) y=true→has S1 y=true∨jt c x y:=by
    intro l
    induction l with
    |nil=>intro S1 _ _ h;exact .inl h
    |cons k l ih =>
     intro S1 hk h1 h2
     simp only [List.foldl_cons] at h2
     rcases ih _ (fun k hk'=>hk k (List.mem_cons_of_mem _ hk')) (iP h1).1 h2 with h3|h3
     ·rcases AG h1 y h3 with h4 | h4
      ·exact .inl h4
      ·exact .inr (.cons (hk k (List.mem_cons_self ..)) h4)
     ·exact .inr h3
   rcases key _ _ (fun k hk=>hk) (h.put x) hy with h1|h1
   ·rcases (pF h).1 h1 with rfl | h2
    ·exact .inr (.refl _)
    ·exact .inl h2
   ·exact .inr h1
theorem AH : ∀ {n : Nat} {x : ByteArray} {S : fG}, oO S → x ∈ ids c → CM c S < n → ∀ y, has (cU c n x S) y = true → has S y = false → ∀ z ∈ kids c y, has (cU c n x S) z = true
 |0,_,_,_,_,h,_,_,_=>by omega
 |n+1,x,S,hS,hx,hlt,y,hy,hyn=>by
  intro z hz
  unfold cU at hy ⊢
  split at hy
  ·rw [hyn] at hy;cases hy
  ·rename_i hn
   rw [if_neg hn]
   have hn:has S x=false:=by simpa using hn
   have hl:=Hj hS hx hn
   have key:∀(l:List ByteArray) (S1:fG),(∀k∈l,k∈kids c x)→oO S1→CM c S1<n→(∀k∈l,has (l.foldl (fun S k=>cU c n k S) S1) k=true) ∧
     (has (l.foldl (fun S k=>cU c n k S) S1) y=true→has S1 y=false→has (l.foldl (fun S k=>cU c n k S) S1) z=true):=by
    intro l
    induction l with
    |nil=>intro S1 _ _ _;exact ⟨(fun k hk=>by cases hk),(fun h h'=>by rw [List.foldl_nil,h'] at h;cases h)⟩
    |cons k l ih =>
     intro S1 hk h1 h2
     simp only [List.foldl_cons]
     obtain ⟨h3,h4⟩:=iP (c:=c) (n:=n) (x:=k) h1
     have h5:=yy (c:=c) h4
     obtain ⟨h6,h7⟩:=ih _ (fun k hk'=>hk k (List.mem_cons_of_mem _ hk')) h3 (by omega)
     have h8:=(sx (c:=c) (n:=n) (l:=l) h3).2
     refine ⟨fun k' hk'=>?_,fun h9 h10=>?_⟩
     ·rcases List.mem_cons.1 hk' with rfl | hk'
      ·exact h8 _ (EW h1 (by omega))
      ·exact h6 k' hk'
     ·cases h11:has (cU c n k S1) y with
      |false=>exact h7 h9 h11
      |true=>exact h8 _ (AH h1 (fU (hk k (List.mem_cons_self ..))) h2 y h11 h10 z hz)
   obtain ⟨h1,h2⟩:=key _ _ (fun k hk=>hk) (hS.put x) (by omega)
   by_cases he:y=x
   ·subst he;exact h1 z hz
   ·refine h2 hy ?_
    cases h3:has (aU .str S x true) y with
    |false=>rfl
    |true =>
     rcases (pF hS).1 h3 with h4|h4
     ·exact absurd h4 he
     ·rw [hyn] at h4;cases h4
def Wb (c:List Mg) (S:fG):Prop:=∀y,has S y=true→∀z∈kids c y,has S z=true
theorem Wb.desc {S:fG} (h:Wb c S) {x y:ByteArray} (hx:has S x=true) (hd:jt c x y):has S y=true:=by
 induction hd with
 |refl=>exact hx
 |step _ hz ih=>exact h _ ih _ hz
theorem PK {n:Nat} {x:ByteArray} {S:fG} (hS:oO S) (hC:Wb c S) (hx:x∈ids c) (hn:CM c S<n):Wb c (cU c n x S)∧∀y,has (cU c n x S) y=true↔has S y=true∨jt c x y:=by
 have hc:Wb c (cU c n x S):=fun y hy z hz=>by
  cases h:has S y with
  |true=>exact (iP hS).2 z (hC y h z hz)
  |false=>exact AH hS hx hn y hy h z hz
 refine ⟨hc,fun y=>⟨AG hS y,?_⟩⟩
 rintro (h|h)
 ·exact (iP hS).2 y h
 ·exact hc.desc (EW hS hn) h
theorem kH96 {m3:AF} {m5:fG} {x:ByteArray} {S:fG} (hc:c.length<1000000) (hS:oO S) (hx:x∈ids c):ak (FH96fix x m3 (bO c) m5 S)=some (m3,bO c,m5,cU c (c.length+1) x S,()):=by
 have h0:ak (FH96fix x m3 (bO c) m5 S)=xz (A:=kJ.T) (B:=kK.T) (fun r y=>run r (FH96 y.1 y.2.1 y.2.2.1 y.2.2.2.1 y.2.2.2.2.1)) (x,m3,bO c,m5,S,()):=rfl
 refine h0.trans ?_
 refine Ue (A:=kJ.T) (B:=kK.T) (fun a b=>∃x S,a=(x,m3,bO c,m5,S,())∧oO S∧x∈ids c∧b=(m3,bO c,m5,cU c (c.length+1) x S,())) (fun a=>CM c a.2.2.2.2.1) ?_ _ _ ⟨x,S,rfl,hS,hx,rfl⟩
 rintro rec _ _ ⟨x,S,rfl,hS,hx,rfl⟩ ih
 have e:(run rec (FH96 x m3 (bO c) m5 S):Option (AF×Fk×fG×fG×Unit))=um (ax .str false S x) (some (m3,bO c,m5,S,())) (cZ (iter (fun a=>run rec (gH96_0 a)) (ax .str [] (bO c) x,(((ax .str [] (bO c) x).length:Nat):Int),(0:Int),m3,bO c,m5,aU .str S x true,())) fun z=>some (z.1,z.2.1,z.2.2.1,z.2.2.2.1,())):=rfl
 refine Eq.trans (α:=Option (AF×Fk×fG×fG×Unit)) e ?_
 rw [PC kS hS.c hS.t,vz]
 by_cases hh:has S x=true
 ·rw [NI hh]
  have:cU c (c.length+1) x S=S:=by unfold cU;rw [if_pos hh]
  rw [this];rfl
 ·rw [Gj (by simpa using hh)]
  have hn:has S x=false:=by simpa using hh
  have hlt:=Hj hS hx hn
  have hle:=PJ (c:=c) S
  have Qw:=oN c x
  have he:cU c (c.length+1) x S=(kids c x).foldl (fun S k=>cU c (c.length+1) k S) (aU .str S x true):=by
   have:cU c (c.length+1) x S=cU c (c.length+2) x S:=uy hS hx (by omega) (by omega)
   rw [this]
   conv=>lhs;unfold cU
   rw [if_neg hh]
  rw [he]
  refine bind_eq (aQ (kids c x) (fun k (S:fG)=>(kids c x,(((kids c x).length:Nat):Int),(k:Int),m3,bO c,m5,S,())) (fun S r=>(m3,bO c,m5,r.foldl (fun S k=>cU c (c.length+1) k S) S,())) (fun _ S1=>oO S1∧CM c S1<CM c S) ?_ ?_ (s:=aU .str S x true) ⟨hS.put x,hlt⟩) rfl
  ·rintro pre k post S1 hk ⟨h1, h2⟩
   have hlen:(kids c x).length=pre.length+(post.length+1):=by rw [hk];simp
   have hd:(kids c x).getD pre.length (bs [])=k:=by rw [hk];exact bt rfl
   have i1:fu (pre.length:Int) (((kids c x).length:Nat):Int)=true:=bY (by omega) (by omega)
   have r1:gG .i64 ((pre.length:Int)+1)=true:=aL (by omega) (by omega)
   have hki:k∈ids c:=fU (x:=x) (by rw [hk];simp)
   obtain ⟨h3,h4⟩:=iP (c:=c) (n:=c.length+1) (x:=k) h1
   have h5:=yy (c:=c) h4
   left
   refine ⟨cU c (c.length+1) k S1,?_,⟨h3,by omega⟩,rfl⟩
   simp only [gH96_0,ay,bB,aS,aa,aA,Xu,Int.toNat_natCast,hd,i1,r1,au,bx]
   rw [if_pos (by omega)]
   have hq:(run rec (Tr.rc (k,m3,bO c,m5,S1,())):Option (AF×Fk×fG×fG×Unit))=some (m3,bO c,m5,cU c (c.length+1) k S1,()):=ih (k,m3,bO c,m5,S1,()) _ ⟨k,S1,rfl,h1,hki,rfl⟩ h2
   exact bind_eq (A:=AF×Fk×fG×fG×Unit) hq rfl
  ·rintro S1 _
   simp only [gH96_0,ay,aa,bx]
   rw [if_neg (by omega)]
   rfl
end
end Go.Proofs.Tryz
end
section
namespace Go.Proofs.Tryz
open Go.AM
set_option maxRecDepth 100000
def Uf (c:List Mg) (x:ByteArray):Bool:=aM .str (c.map fun m=>(m.1,m)) x && !((ax .str zM (c.map fun m=>(m.1,m)) x).2.1==3)
def dir (c:List Mg) (e:ByteArray×List ByteArray):List ByteArray:=if Uf c e.1=true then (match e.2.filter (dg c) with|[o]=>e.2.filter (fun k => !decide (k=o))|_=>[]) else []
def oP (c:List Mg) (S:fG) (e:ByteArray×List ByteArray):fG:=(dir c e).foldl (fun S k=>cU c (c.length+1) k S) S
def c8 (c:List Mg):fG:=(bO c).foldl (oP c) []
abbrev bS (c:List Mg):AF:=c.map fun m=>(m.1,m)
section
variable {c:List Mg}
theorem lP {e:ByteArray×List ByteArray} {y:ByteArray} (h:y∈dir c e):y∈e.2:=by
 unfold dir at h
 split at h
 ·split at h
  ·exact (List.mem_filter.1 h).1
  ·cases h
 ·cases h
structure nO (c:List Mg) (l:List (ByteArray×List ByteArray)) (S:fG):Prop where
 ok:oO S
 clo:Wb c S
 iff:∀x,has S x=true↔∃e∈l,∃y∈dir c e,jt c y x
theorem aeM {l:List ByteArray}:∀{S:fG},oO S→Wb c S→(∀k∈l,k∈ids c)→oO (l.foldl (fun S k=>cU c (c.length+1) k S) S)∧Wb c (l.foldl (fun S k=>cU c (c.length+1) k S) S) ∧
  ∀x,has (l.foldl (fun S k=>cU c (c.length+1) k S) S) x=true↔has S x=true∨∃y∈l,jt c y x:=by
 induction l with
 |nil=>intro S h1 h2 _;exact ⟨h1,h2,fun x=>by simp⟩
 |cons k l ih =>
  intro S h1 h2 h3
  have hn:CM c S<c.length+1:=by have:=PJ (c:=c) S;omega
  have hk:=h3 k (List.mem_cons_self ..)
  obtain ⟨h4,h5⟩:=PK h1 h2 hk hn
  obtain ⟨h6,h7,h8⟩:=ih (iP h1).1 h4 fun k hk=>h3 k (List.mem_cons_of_mem _ hk)
  refine ⟨h6,h7,fun x=>?_⟩
  rw [List.foldl_cons,h8,h5]
  simp only [List.mem_cons,exists_eq_or_imp,or_assoc]
theorem nO.step {l:List (ByteArray×List ByteArray)} {S:fG} (h:nO c l S) {e:ByteArray×List ByteArray} (he:∀k∈e.2,k∈ids c):nO c (l++[e]) (oP c S e):=by
 obtain ⟨h1,h2,h3⟩:=aeM (l:=dir c e) h.ok h.clo fun k hk=>he k (lP hk)
 refine ⟨h1,h2,fun x=>?_⟩
 unfold oP
 rw [h3,h.iff]
 constructor
 ·rintro (⟨e', he', h⟩ | h)
  ·exact ⟨e',by simp [he'],h⟩
  ·exact ⟨e,by simp,h⟩
 ·rintro ⟨e', he', h⟩
  rcases List.mem_append.1 he' with he'|he'
  ·exact .inl ⟨e',he',h⟩
  ·rw [List.mem_singleton] at he';subst he';exact .inr h
theorem nO.all : ∀ {r l : List (ByteArray × List ByteArray)} {S : fG}, nO c l S → (∀ e ∈ r, ∀ k ∈ e.2, k ∈ ids c) → nO c (l ++ r) (r.foldl (oP c) S)
 |[],l,S,h,_=>by simpa using h
 |e::r,l,S,h,hr=>by
  have:=nO.all (h.step (hr e (List.mem_cons_self ..))) fun e he=>hr e (List.mem_cons_of_mem _ he)
  simpa using this
theorem nO.nil:nO c [] []:=⟨.nil,fun y hy=>by simp [has,aM] at hy,fun x=>by simp [has,aM]⟩
theorem Jq:∀e∈bO c,∀k∈e.2,k∈ids c:=fun e he k hk=>by
 rw [(vA.1 he).1] at hk;exact fU hk
theorem yz {l:List (ByteArray×List ByteArray)} (hp:l.Perm (bO c)):nO c l (l.foldl (oP c) []):=by
 have:=nO.all (c:=c) (r:=l) (l:=[]) .nil fun e he=>Jq e (hp.mem_iff.1 he)
 simpa using this
theorem tJ (c:List Mg):nO c (bO c) (c8 c):=yz (.refl _)
theorem ZT {l:List (ByteArray×List ByteArray)} (hp:l.Perm (bO c)):l.foldl (oP c) []=c8 c :=
 (yz hp).ok.ext (tJ c).ok fun x=>by
  rw [(yz hp).iff,(tJ c).iff]
  exact ⟨fun ⟨e,he,h⟩=>⟨e,hp.mem_iff.1 he,h⟩,fun ⟨e,he,h⟩=>⟨e,hp.mem_iff.2 he,h⟩⟩
def dQ (c:List Mg) (x:ByteArray):Bool:=has (c8 c) x
theorem Cr (x:ByteArray):ax .str false (c8 c) x=dQ c x:=PC kS (tJ c).ok.c (tJ c).ok.t
theorem gX {x:ByteArray}:dQ c x=true↔∃p y,y∈dir c (p,kids c p)∧jt c y x:=by
 unfold dQ
 rw [(tJ c).iff]
 constructor
 ·rintro ⟨⟨p, l⟩, he, y, hy, hd⟩
  have:=(vA.1 he).1
  simp only at this;subst this
  exact ⟨p,y,hy,hd⟩
 ·rintro ⟨p, y, hy, hd⟩
  refine ⟨(p,kids c p),vA.2 ⟨rfl,fun h=>?_⟩,y,hy,hd⟩
  have:=lP hy
  simp only at this h
  rw [h] at this;cases this
theorem Ug {x z:ByteArray} (h:dQ c x=true) (hz:z∈kids c x):dQ c z=true:=(tJ c).clo x h z hz
theorem ZU {m1:List (Mg×Bool)} {m6:AF} {Eg:Int} {Eh:Bool} {l Qx:List ByteArray} {o:ByteArray} {m:Mg} {S:fG} (hc:c.length<1000000) (hl:l.length≤c.length) (Rf:∀k∈l,k∈ids c) (hb:Qx.getD 0 (bs [])=o) (qH:0<Qx.length) (hS:oO S) :
  iter (fun x=>ak (gH66_2b_3 x)) (0,1,Eg,Eh,l,((l.length:Nat):Int),(0:Int),Qx,bO c,m.1,m.2.1,m.2.2.1,m.2.2.2.1,m.2.2.2.2,m6,cE c,S,m1,()) =
   some (Eg,Eh,bO c,m.1,m.2.1,m.2.2.1,m.2.2.2.1,m.2.2.2.2,m6,cE c,(l.filter fun k => !decide (k=o)).foldl (fun S k=>cU c (c.length+1) k S) S,m1,()):=by
 refine aQ l (fun k (S : fG) => (0, 1, Eg, Eh, l, ((l.length : Nat) : Int), (k : Int), Qx, bO c, m.1, m.2.1, m.2.2.1, m.2.2.2.1, m.2.2.2.2, m6, cE c, S, m1, ()))
  (fun S r=>(Eg,Eh,bO c,m.1,m.2.1,m.2.2.1,m.2.2.2.1,m.2.2.2.2,m6,cE c,(r.filter fun k => !decide (k=o)).foldl (fun S k=>cU c (c.length+1) k S) S,m1,())) (fun _ S=>oO S) ?_ ?_ (s:=S) hS
 ·intro pre x post S hx hS
  have hlen:l.length=pre.length+(post.length+1):=by rw [hx];simp
  have hd:l.getD pre.length (bs [])=x:=by rw [hx];exact bt rfl
  have i1:fu (pre.length:Int) ((l.length:Nat):Int)=true:=bY (by omega) (by omega)
  have i2:fu (0:Int) ((1:Nat):Int)=true:=bY (by omega) (by omega)
  have r1:gG .i64 ((pre.length:Int)+1)=true:=aL (by omega) (by omega)
  have d1:decide (0<Qx.length)=true:=decide_eq_true qH
  left
  by_cases LF:x=o
  ·refine ⟨S, ?_, hS, by rw [List.filter_cons_of_neg (by simp [LF])]⟩
   simp only [gH66_2b_3,ay,bB,aZ,aS,aa,aA,Int.toNat_natCast,Int.toNat_zero,Nat.zero_add,Nat.add_zero,hd,hb,i1,i2,r1,d1,au,bx,seq_eq,LF]
   rw [if_pos (by omega),Gj (by simp)]
   rfl
  ·refine ⟨cU c (c.length + 1) x S, ?_, (iP hS).1, by rw [List.filter_cons_of_pos (by simp [LF])]; rfl⟩
   simp only [gH66_2b_3,ay,bB,aZ,aS,aa,aA,Int.toNat_natCast,Int.toNat_zero,Nat.zero_add,Nat.add_zero,hd,hb,i1,i2,r1,d1,au,bx,seq_eq]
   rw [if_pos (by omega),NI (by simp [LF])]
   rw [ah (kH96 hc hS (Rf x (by rw [hx];simp)))]
   rfl
 ·intro S _
  simp only [gH66_2b_3,ay,aa,bx]
  rw [if_neg (by omega)]
  rfl
theorem aeN {m1:List (Mg×Bool)} {e:ByteArray×List ByteArray} {S:fG} (hc:c.length<1000000) (he:e∈bO c) (hS:oO S):ak (gH66_2 e (bO c,m1,bS c,cE c,S,()))=some (bO c,m1,bS c,cE c,oP c S e,()):=by
 have Qm:=(vA.1 he).1
 have hl:e.2.length≤c.length:=by rw [Qm];exact oN c e.1
 simp only [gH66_2,ay,aZ,aa,aA,bM,dG,au,cA]
 unfold oP dir Uf
 cases hh:aM .str (bS c) e.1 with
 |false=>rw [bq];simp
 |true =>
  rw [bK]
  by_cases h3:(ax .str zM (bS c) e.1).2.1=3
  ·rw [bV, if_pos h3, if_neg (by simp [h3])]
   rfl
  ·rw [bV, if_neg h3, if_pos (by simp [h3])]
   rw [ah (kH98 (by omega))]
   obtain ⟨b,iX,eM,CG⟩:=kH97 (m3:=bS c) (m4:=bO c) (m5:=cE c) (m6:=S) (l:=e.2) (by omega)
   rw [ah CG]
   have hf:(e.2.filter fun v => !(!ax .str false (cE c) v))=e.2.filter (dg c):=List.filter_congr fun v _=>by rw [Ud];simp
   rw [hf] at eM ⊢
   simp only [dG,au,bV]
   by_cases h1:(e.2.filter (dg c)).length=1
   ·rw [if_pos (by omega)]
    obtain ⟨o,ho⟩:=List.length_eq_one_iff.1 h1
    rw [ho] at eM h1 ⊢
    simp only [List.length_singleton] at eM ⊢
    have qH:0<b.length:=by
     cases b with
     |nil=>simp at eM
     |cons _ _=>simp
    have hbo:b.getD 0 (bs [])=o:=by
     cases b with
     |nil=>simp at eM
     |cons x r=>simp at eM;simp [eM]
    rw [ah (ZU (m:=ax .str zM (bS c) e.1) (o:=o) hc hl (Jq e he) hbo qH hS)]
    simp only [dG,au]
   ·rw [if_neg (by omega)]
    have:(match e.2.filter (dg c) with|[o]=>e.2.filter (fun k => !decide (k=o))|_=>[])=([]:List ByteArray):=by
     split
     ·rename_i o ho;rw [ho] at h1;simp at h1
     ·rfl
    rw [this]
    rfl
theorem PL {L:List Mg} (h:lp L):ak (FH66 (bk L))=some (bk L,bS (cnt L),bO (cnt L),cE (cnt L),c8 (cnt L),()):=by
 have hl:=h.len
 have yM:(cnt L).length≤60:=by
  have:(cnt L).length≤L.length:=by
   have hn:(cnt L).Nodup:=List.Pairwise.imp (fun {a b} h e=>by subst e;rw [show slt a.1 a.1=false from gW (t:=.str) kS a.1] at h;cases h) (eo L)
   exact List.Nodup.length_le_of_subset hn fun m hm=>sv hm
  omega
 have hby:qb L=bS (cnt L):=EU L
 unfold FH66
 simp only [aA,bM,aZ]
 rw [ah (kH47 h.s (by omega))]
 simp only
 rw [ah (aeK (by omega))]
 simp only [FH95,aa,aJ]
 rw [hby,ah (Uc (eo L) (by omega))]
 simp only [List.isEmpty_nil,au]
 rw [ah (aeL (eo L) (by omega))]
 simp only
 have hmq:run (fun _=>none) (.mq gH66_2 (bO (cnt L)) (bO (cnt L),bk L,bS (cnt L),cE (cnt L),[],()))=some (bO (cnt L),bk L,bS (cnt L),cE (cnt L),c8 (cnt L),()):=by
  refine Eq.trans Gl (gz fun l hp=>?_)
  have := (ER (step := fun e a => run (fun _ => none) (gH66_2 e a)) (fun (a : Fk × List (Mg × Bool) × AF × fG × fG × Unit) e => (bO (cnt L), bk L, bS (cnt L), cE (cnt L), oP (cnt L) a.2.2.2.2.1 e, ())) (fun a => ∃ S, a = (bO (cnt L), bk L, bS (cnt L), cE (cnt L), S, ()) ∧ oO S) l (bO (cnt L), bk L, bS (cnt L), cE (cnt L), [], ()) ⟨[], rfl, .nil⟩ (by
   rintro e he _ ⟨S,rfl,hS⟩
   refine ⟨aeN (by omega) (hp.mem_iff.1 he) hS,_,rfl,?_⟩
   exact (sx hS).1)).1
  rw [this]
  have key:∀(l:List (ByteArray×List ByteArray)) (S:fG),l.foldl (fun (a:Fk×List (Mg×Bool)×AF×fG×fG×Unit) e=>(bO (cnt L),bk L,bS (cnt L),cE (cnt L),oP (cnt L) a.2.2.2.2.1 e,())) (bO (cnt L),bk L,bS (cnt L),cE (cnt L),S,())=(bO (cnt L),bk L,bS (cnt L),cE (cnt L),l.foldl (oP (cnt L)) S,()):=by
   intro l
   induction l with
   |nil=>intro S;rfl
   |cons e l ih=>intro S;exact ih _
  rw [key,ZT hp]
 rw [ah hmq]
end
end Go.Proofs.Tryz
end
section
namespace Go.Proofs.Tryz
open Go.AM
set_option maxRecDepth 100000
theorem Uh {A B : Type} {F : (A → Option B) → A → Option B} (R : Nat → A → B → Prop)
  (h:∀rec n x y,R n x y→(∀n' x' y',n'<n→R n' x' y'→rec x'=some y')→F rec x=some y):∀n x y,R n x y→xz F x=some y:=by
 have key:∀k n x y,R n x y→n<k→LH F k x=some y:=by
  intro k
  induction k with
  |zero=>intro n x y _ hm;omega
  |succ k ih=>intro n x y hx hm;exact h _ n x y hx fun n' x' y' hn' hx'=>ih n' x' y' hx' (by omega)
 intro n x y hx
 exact Im (N:=n+1) fun k hk=>key k n x y hx (by omega)
section
variable {c:List Mg}
theorem je {x y:ByteArray}:y∈kids c x↔∃m∈c,m.1=y∧m.2.1=2∧m.2.2.1=x:=by
 unfold kids
 rw [List.mem_map]
 constructor
 ·rintro ⟨m, hm, rfl⟩
  obtain ⟨h1,h2⟩:=List.mem_filter.1 hm
  simp only [decide_eq_true_eq] at h2
  exact ⟨m,h1,rfl,h2⟩
 ·rintro ⟨m, hm, rfl, h⟩
  exact ⟨m,List.mem_filter.2 ⟨hm,by simpa using h⟩,rfl⟩
theorem vB (hs:SI c) {x x' y:ByteArray} (h:y∈kids c x) (h':y∈kids c x'):x=x':=by
 obtain ⟨m,h1,h2,_,h3⟩:=je.1 h
 obtain ⟨m',h1',h2',_,h3'⟩:=je.1 h'
 have:=hs.inj h1 h1' (h2.trans h2'.symm)
 subst this
 exact h3.symm.trans h3'
inductive gY (c : List Mg) (x : ByteArray) : Nat → ByteArray → Prop
 |zero:gY c x 0 x
 |step {n y z} (h:gY c x n y) (hz:z∈kids c y):gY c x (n+1) z
theorem gY.add {n m:Nat} {x y z:ByteArray} (h:gY c x n y) (h':gY c y m z):gY c x (n+m) z:=by
 induction h' with
 |zero=>exact h
 |step _ hz ih=>exact .step ih hz
theorem gY.up (hs:SI c) {n:Nat} {x y:ByteArray} (h:gY c x n y):∀{m:Nat} {x':ByteArray},gY c x' m y→n≤m→gY c x' (m - n) x:=by
 induction h with
 |zero=>intro m x' h' _;exact h'
 |step h hz ih =>
  intro m x' h' hle
  cases h' with
  |zero=>omega
  |step h2 qf =>
   have e:=vB hs hz qf
   subst e
   have:=ih h2 (by omega)
   rwa [Nat.add_sub_add_right]
theorem gY.desc {n:Nat} {x y:ByteArray} (h:gY c x n y):jt c x y:=by
 induction h with
 |zero=>exact .refl _
 |step _ hz ih=>exact .step ih hz
theorem jt.LM {x y:ByteArray} (h:jt c x y):∃n,gY c x n y:=by
 induction h with
 |refl=>exact ⟨0,.zero⟩
 |step _ hz ih=>obtain ⟨n,h⟩:=ih;exact ⟨n+1,.step h hz⟩
def QA (c:List Mg) (t:ByteArray):Prop:=∀x,t∉kids c x
theorem gY.deep (hs:SI c) {t:ByteArray} (ht:QA c t) {n m:Nat} {y:ByteArray} (h:gY c t n y) (h':gY c t m y):n=m:=by
 have key:∀{n m:Nat},gY c t n y→gY c t m y→n≤m→n=m:=fun {n m} h h' hle=>by
  have:=h.up hs h' hle
  generalize hk:m - n=k at this
  cases this with
  |zero=>omega
  |step _ hz=>exact absurd hz (ht _)
 rcases Nat.le_total n m with hle|hle
 ·exact key h h' hle
 ·exact (key h' h hle).symm
theorem gY.short (hs:SI c) {t:ByteArray} (ht:QA c t) (CJ:t∈ids c) {n:Nat} {y:ByteArray} (h:gY c t n y):n<c.length:=by
 have key:∃l:List ByteArray,l.length=n+1∧l.Nodup∧∀a∈l,a∈ids c∧∃i,i≤n∧gY c t i a:=by
  induction h with
  |zero=>exact ⟨[t],rfl,by simp,fun a ha=>by rw [List.mem_singleton] at ha;subst ha;exact ⟨CJ,0,Nat.le_refl _,.zero⟩⟩
  |step h hz ih =>
   rename_i n' y' z
   obtain ⟨l,h1,h2,h3⟩:=ih
   have hp:gY c t (n'+1) z:=.step h hz
   refine ⟨z::l,by simp [h1],List.nodup_cons.2 ⟨fun hzl=>?_,h2⟩,fun a ha=>?_⟩
   ·obtain ⟨_, i, hi, hpi⟩ := h3 z hzl
    have:=hpi.deep hs ht hp
    omega
   ·rcases List.mem_cons.1 ha with rfl | ha
    ·exact ⟨fU hz,n'+1,Nat.le_refl _,hp⟩
    ·obtain ⟨q1, i, hi, hpi⟩ := h3 a ha
     exact ⟨q1,i,by omega,hpi⟩
 obtain ⟨l,h1,h2,h3⟩:=key
 have:=List.Nodup.length_le_of_subset h2 (fun a ha=>(h3 a ha).1)
 have hl:(ids c).length=c.length:=by simp [ids]
 omega
def gK (c:List Mg) (x:ByteArray):List ByteArray:=(kids c x).filter fun k => !dQ c k
theorem vC {x y:ByteArray} (h:y∈gK c x):y∈kids c x:=(List.mem_filter.1 h).1
theorem Ui (x:ByteArray):(gK c x).length≤c.length:=Nat.le_trans (List.length_filter_le ..) (oN c x)
def cB (c : List Mg) : Nat → ByteArray → List ByteArray
 |0,_=>[]
 |n+1,x=>match gK c x with
  |[]=>[x]
  |k::l=>oz .str ((k::l).flatMap (cB c n))
def ij (c:List Mg) (t:ByteArray):List ByteArray:=cB c (c.length+1) t
theorem Uj (hs:SI c) (x:ByteArray):(kids c x).Nodup:=by
 unfold kids List.Nodup
 rw [List.pairwise_map]
 refine List.Pairwise.imp (fun {a b} h e=>?_) (List.Pairwise.filter _ hs)
 rw [e,show slt b.1 b.1=false from gW (t:=.str) kS b.1] at h;cases h
theorem mG : ∀ {n : Nat} {x y : ByteArray}, y ∈ cB c n x → jt c x y
 |0,_,_,h=>by cases h
 |n+1,x,y,h=>by
  unfold cB at h
  split at h
  ·rw [List.mem_singleton] at h;subst h;exact .refl _
  ·rename_i k l hl
   rw [(ej (t:=.str) _).mem_iff,List.mem_flatMap] at h
   obtain ⟨a,ha,h⟩:=h
   exact .cons (vC (by rw [hl];exact ha)) (mG h)
theorem vD (hs : SI c) {t : ByteArray} (ht : QA c t) : ∀ {n d : Nat} {x : ByteArray}, gY c t d x → (cB c n x).Nodup
 |0,_,_,_=>.nil
 |n+1,d,x,hp=>by
  unfold cB
  split
  ·simp
  ·rename_i k l hl
   refine (ej (t:=.str) _).nodup_iff.2 ?_
   have hn:(k::l).Nodup:=by rw [←hl];exact List.Pairwise.filter _ (Uj hs x)
   have hk:∀a∈k::l,a∈kids c x:=fun a ha=>vC (by rw [hl];exact ha)
   refine List.pairwise_flatMap.2 ⟨fun a ha=>vD hs ht (hp.step (hk a ha)),List.Pairwise.imp_of_mem (fun {a b} ha hb hab=>?_) hn⟩
   intro y hya y' hyb e
   subst e
   obtain ⟨i,hi⟩:=(mG hya).LM
   obtain ⟨j,hj⟩:=(mG hyb).LM
   have h1:=(hp.step (hk a ha)).add hi
   have h2:=(hp.step (hk b hb)).add hj
   have:=h1.deep hs ht h2
   have he:i=j:=by omega
   subst he
   have:=hi.up hs hj (Nat.le_refl _)
   rw [Nat.sub_self] at this
   cases this
   exact hab rfl
theorem mH (hs:SI c) {t:ByteArray} (ht:QA c t) (CJ:t∈ids c) {n d:Nat} {x:ByteArray} (hp:gY c t d x):(cB c n x).length≤c.length:=by
 have h:=List.Nodup.length_le_of_subset (vD hs ht (n:=n) hp) (l₂:=ids c) fun y hy=>by
  have hd:jt c t y:=hp.desc.trans (mG hy)
  cases hd with
  |refl=>exact CJ
  |step _ hz=>exact fU hz
 have hl:(ids c).length=c.length:=by simp [ids]
 omega
end
end Go.Proofs.Tryz
end
section
namespace Go.Proofs.Tryz
open Go.AM
set_option maxRecDepth 100000
section
variable {c:List Mg}
theorem aeO (hc:c.length<1000000) (x:ByteArray):∃b,b.take (gK c x).length=gK c x∧(gK c x).length≤b.length∧ak (FH104 x (bS c) (bO c) (cE c) (c8 c))=some (0,(gK c x).length,b,bS c,bO c,cE c,c8 c,()):=by
 have hk:=oN c x
 obtain ⟨b,h1,h2,h3⟩:=Ub (m3:=bS c) (m4:=bO c) (m5:=cE c) (m6:=c8 c) (l:=kids c x) (by omega)
 have hf:(kids c x).filter (fun v => !(ax .str false (c8 c) v))=gK c x:=List.filter_congr fun v _=>by rw [Cr]
 rw [hf] at h2 h3
 refine ⟨b,h2,by rw [h1];exact List.length_filter_le ..,?_⟩
 unfold FH104
 simp only [aA,vz]
 rw [ah (kH98 (by omega))]
 simp only
 rw [ah h3]
 rfl
abbrev D76:=Nat×List ByteArray×AF×Fk×fG×fG×Unit
theorem PM (hs:SI c) (hc:c.length<1000000) {t:ByteArray} (ht:QA c t) (CJ:t∈ids c):ak (FH76fix t (bS c) (bO c) (cE c) (c8 c))=some ((ij c t).length,ij c t,bS c,bO c,cE c,c8 c,()):=by
 have h0:ak (FH76fix t (bS c) (bO c) (cE c) (c8 c))=xz (A:=kL.T) (B:=kN.T) (fun r y=>run r (FH76 y.1 y.2.1 y.2.2.1 y.2.2.2.1 y.2.2.2.2.1)) (t,bS c,bO c,cE c,c8 c,()):=rfl
 refine h0.trans ?_
 refine Uh (A:=kL.T) (B:=kN.T) (fun n a b=>∃z d,a=(z,bS c,bO c,cE c,c8 c,())∧gY c t d z∧d+n=c.length∧b=((cB c (n+1) z).length,cB c (n+1) z,bS c,bO c,cE c,c8 c,())) ?_ c.length _ _ ⟨t,0,rfl,.zero,by omega,rfl⟩
 rintro rec n _ _ ⟨z,d,rfl,hp,hn,rfl⟩ ih
 have hshort:=hp.short hs ht CJ
 obtain ⟨b,iX,eM,CG⟩:=aeO hc z
 have yL:=Ui (c:=c) z
 have hvl:=mH hs ht CJ (n:=n+1) hp
 have e : (run rec (FH76 z (bS c) (bO c) (cE c) (c8 c)) : Option D76) = cZ (ak (FH104 z (bS c) (bO c) (cE c) (c8 c))) fun y0 => um (((y0.2.1 : Nat) : Int) == 0) (some (1, [z], y0.2.2.2.1, y0.2.2.2.2.1, y0.2.2.2.2.2.1, y0.2.2.2.2.2.2.1, ()))
   (cZ (iter (fun a=>run rec (gH76_0 a)) (0,y0.1,y0.2.1,((y0.2.1:Nat):Int),(0:Int),[],y0.2.2.1,y0.2.2.2.1,y0.2.2.2.2.1,y0.2.2.2.2.2.1,y0.2.2.2.2.2.2.1,())) fun z2=>cZ (ak (FH105 z2.1 z2.2.1)) fun y3=>some (z2.1,y3.1,z2.2.2.1,z2.2.2.2.1,z2.2.2.2.2.1,z2.2.2.2.2.2.1,())):=rfl
 refine Eq.trans (α:=Option D76) e ?_
 rw [ah CG]
 simp only [bV]
 cases hl:gK c z with
 |nil =>
  have hv:cB c (n+1) z=[z]:=by unfold cB;rw [hl]
  rw [hv];rfl
 |cons k0 l0 =>
  have hlen:(gK c z).length=l0.length+1:=by rw [hl];rfl
  rw [←hl,if_neg (by omega)]
  have hv:cB c (n+1) z=oz .str ((gK c z).flatMap (cB c n)):=by
   conv=>lhs;unfold cB
   rw [hl]
  have hfl:((gK c z).flatMap (cB c n)).length≤c.length:=by
   have:=(ej (t:=.str) ((gK c z).flatMap (cB c n))).length_eq
   rw [←hv] at this
   omega
  have hit : iter (fun a => run rec (gH76_0 a)) (0, 0, (gK c z).length, (((gK c z).length : Nat) : Int), (0 : Int), [], b, bS c, bO c, cE c, c8 c, ()) = some (((gK c z).flatMap (cB c n)).length, (gK c z).flatMap (cB c n), bS c, bO c, cE c, c8 c, ()) := (aQ (gK c z) (fun k (o : List ByteArray) => (o.length, 0, (gK c z).length, (((gK c z).length : Nat) : Int), (k : Int), o, b, bS c, bO c, cE c, c8 c, ())) (fun o r => ((o ++ r.flatMap (cB c n)).length, o ++ r.flatMap (cB c n), bS c, bO c, cE c, c8 c, ()))
   (fun pre o => o = pre.flatMap (cB c n)) (by
    rintro pre k post _ hx rfl
    have hlen:(gK c z).length=pre.length+(post.length+1):=by rw [hx];simp
    have hd:b.getD pre.length (bs [])=k:=by
     have:(b.take (gK c z).length).getD pre.length (bs [])=k:=by rw [iX,hx];exact bt rfl
     rw [getD_take (by omega)] at this;exact this
    have hkk:k∈kids c z:=vC (by rw [hx];simp)
    have i1:fu (pre.length:Int) (((gK c z).length:Nat):Int)=true:=bY (by omega) (by omega)
    have r1:gG .i64 ((pre.length:Int)+1)=true:=aL (by omega) (by omega)
    have d1:decide (pre.length<b.length)=true:=decide_eq_true (by omega)
    have Qn:=hp.step hkk
    have hsh:=Qn.short hs ht CJ
    left
    refine ⟨pre.flatMap (cB c n)++cB c n k,?_,by simp,by simp [List.flatMap_cons]⟩
    have e2 : (run rec (gH76_0 ((pre.flatMap (cB c n)).length, 0, (gK c z).length, (((gK c z).length : Nat) : Int), (pre.length : Int), pre.flatMap (cB c n), b, bS c, bO c, cE c, c8 c, ()))) = um (decide ((pre.length : Int) < (((gK c z).length : Nat) : Int))) (need (fu (pre.length : Int) (((gK c z).length : Nat) : Int)) (need (decide (0 + Int.toNat (pre.length : Int) < b.length))
      (cZ (rec (b.getD (0 + Int.toNat (pre.length : Int)) (bs []), bS c, bO c, cE c, c8 c, ()) : Option D76) fun y1 => need (decide ((pre.flatMap (cB c n)).length + ((y1.2.1.drop 0).take y1.1).length < cu)) (need (gG .i64 ((pre.length : Int) + 1))
       (some (.inl ((pre.flatMap (cB c n)).length+((y1.2.1.drop 0).take y1.1).length,0,(gK c z).length,(((gK c z).length:Nat):Int),(pre.length:Int)+1,(((pre.flatMap (cB c n)).drop 0).take (pre.flatMap (cB c n)).length)++((y1.2.1.drop 0).take y1.1),b,y1.2.2.1,y1.2.2.2.1,y1.2.2.2.2.1,y1.2.2.2.2.2.1,())))))))
      (some (.inr ((pre.flatMap (cB c n)).length,pre.flatMap (cB c n),bS c,bO c,cE c,c8 c,()))):=rfl
    rw [e2,Int.toNat_natCast,Nat.zero_add,hd,i1,au,d1,au,bx,if_pos (by omega)]
    obtain ⟨n',rfl⟩:∃n',n=n'+1:=⟨n - 1,by omega⟩
    have hq:(rec (k,bS c,bO c,cE c,c8 c,()):Option D76)=some ((cB c (n'+1) k).length,cB c (n'+1) k,bS c,bO c,cE c,c8 c,()):=ih n' (k,bS c,bO c,cE c,c8 c,()) _ (by omega) ⟨k,d+1,rfl,Qn,by omega,rfl⟩
    refine bind_eq (A:=D76) hq ?_
    simp only [List.drop_zero,List.take_length,r1,au]
    have hle:(pre.flatMap (cB c (n'+1))).length+(cB c (n'+1) k).length≤c.length:=by
     have:((gK c z).flatMap (cB c (n'+1))).length=(pre.flatMap (cB c (n'+1))).length+((cB c (n'+1) k).length+(post.flatMap (cB c (n'+1))).length):=by rw [hx];simp
     omega
    rw [cg (show _<cu by rw [gT];omega)]
    simp only [List.length_append]
    rfl) (by
    rintro o _
    have e2 : (run rec (gH76_0 (o.length, 0, (gK c z).length, (((gK c z).length : Nat) : Int), (((gK c z).length : Nat) : Int), o, b, bS c, bO c, cE c, c8 c, ()))) = um (decide ((((gK c z).length : Nat) : Int) < (((gK c z).length : Nat) : Int))) (need (fu (((gK c z).length : Nat) : Int) (((gK c z).length : Nat) : Int)) (need (decide (0 + Int.toNat (((gK c z).length : Nat) : Int) < b.length))
      (cZ (rec (b.getD (0 + Int.toNat (((gK c z).length : Nat) : Int)) (bs []), bS c, bO c, cE c, c8 c, ()) : Option D76) fun y1 => need (decide (o.length + ((y1.2.1.drop 0).take y1.1).length < cu)) (need (gG .i64 ((((gK c z).length : Nat) : Int) + 1))
       (some (.inl (o.length+((y1.2.1.drop 0).take y1.1).length,0,(gK c z).length,(((gK c z).length:Nat):Int),(((gK c z).length:Nat):Int)+1,((o.drop 0).take o.length)++((y1.2.1.drop 0).take y1.1),b,y1.2.2.1,y1.2.2.2.1,y1.2.2.2.2.1,y1.2.2.2.2.2.1,())))))))
      (some (.inr (o.length,o,bS c,bO c,cE c,c8 c,()))):=rfl
    rw [e2,bx,if_neg (by omega)]
    simp) (s:=[]) rfl)
  refine bind_eq (A:=Nat×List ByteArray×AF×Fk×fG×fG×Unit) hit ?_
  simp only [FH105,xB]
  have hsrt:uJ .str ((gK c z).flatMap (cB c n)) ((gK c z).flatMap (cB c n)).length=some (oz .str ((gK c z).flatMap (cB c n)),()):=oM kS (ej _) (pz kS _) (by omega)
  refine bind_eq hsrt ?_
  rw [hv]
  have ZV:=(ej (t:=.str) ((gK c z).flatMap (cB c n))).length_eq
  rw [ZV]
  rfl
end
end Go.Proofs.Tryz
end
section
namespace Go.Proofs.Tryz
open Go.AM
set_option maxRecDepth 100000
def msg (c:List Mg) (x:ByteArray):Mg:=ax .str zM (bS c) x
def k9 (c:List Mg) (x:ByteArray):Bool:=aM .str (bS c) x
section
variable {c:List Mg}
theorem bG {x:ByteArray}:k9 c x=true↔x∈ids c:=by
 unfold k9 ids
 rw [dy kS]
 constructor
 ·rintro ⟨v, hv⟩
  obtain ⟨m,hm,h⟩:=List.mem_map.1 hv
  exact List.mem_map.2 ⟨m,hm,congrArg Prod.fst h⟩
 ·intro h
  obtain ⟨m,hm,rfl⟩:=List.mem_map.1 h
  exact ⟨m,List.mem_map.2 ⟨m,hm,rfl⟩⟩
theorem gu (hs:SI c) {m:Mg} (hm:m∈c):msg c m.1=m:=fR kS hs.cam (List.mem_map.2 ⟨m,hm,rfl⟩)
theorem pG (hs:SI c) {x:ByteArray} (h:k9 c x=true):msg c x∈c∧(msg c x).1=x:=by
 obtain ⟨m,hm,rfl⟩:=List.mem_map.1 (bG.1 h)
 rw [gu hs hm];exact ⟨hm,rfl⟩
theorem kW (hs:SI c) {x:ByteArray} (h:k9 c x=true) (hk:(msg c x).2.1=1):QA c x:=by
 intro y hy
 obtain ⟨m,hm,h1,h2,_⟩:=je.1 hy
 subst h1
 rw [gu hs hm] at hk
 omega
def zq (c : List Mg) : Nat → ByteArray → Option ByteArray
 |0,_=>none
 |n+1,x=>if k9 c x=true then (if (msg c x).2.1=3 then none else if dQ c x=true then none else if (msg c x).2.1=1 then some x else zq c n (msg c x).2.2.1) else none
theorem EX (hs : SI c) : ∀ {n : Nat} {x t : ByteArray}, zq c n x = some t → k9 c t = true ∧ (msg c t).2.1 = 1 ∧ dQ c t = false
 |0,_,_,h=>by cases h
 |n+1,x,t,h=>by
  unfold zq at h
  split at h<;>try (cases h;done)
  rename_i h1
  split at h<;>try (cases h;done)
  split at h<;>try (cases h;done)
  rename_i h3
  split at h
  ·rename_i h4;cases h;exact ⟨h1,h4,by simpa using h3⟩
  ·exact EX hs h
abbrev iL (c:List Mg) (x:ByteArray):Option ByteArray:=zq c c.length x
theorem kH74 (hs:SI c) (hc:c.length<1000000) (x:ByteArray):ak (FH74 x (bS c) (bO c) (cE c) (c8 c)) =
  some (match iL c x with|some t=>((ij c t).length,true,ij c t,bS c,bO c,cE c,c8 c,())|none=>(0,false,[],bS c,bO c,cE c,c8 c,())):=by
 have key:∀(l:List (ByteArray×Mg)) (x:ByteArray),∃x',yX (fun e a=>run (fun _=>none) (gH74_0 e a)) l (x,bS c,bO c,cE c,c8 c,()) =
   some (match zq c l.length x with|some t=>.inr ((ij c t).length,true,ij c t,bS c,bO c,cE c,c8 c,())|none=>x') ∧
   (zq c l.length x=none→x' = .inr (0,false,[],bS c,bO c,cE c,c8 c,())∨∃y,x' = .inl (y,bS c,bO c,cE c,c8 c,())):=by
  intro l
  induction l with
  |nil=>intro x;exact ⟨.inl (x,bS c,bO c,cE c,c8 c,()),rfl,fun _=>.inr ⟨x,rfl⟩⟩
  |cons e l ih =>
   intro x
   have hg:run (fun _=>none) (gH74_0 e (x,bS c,bO c,cE c,c8 c,()))=if k9 c x=true then (if (msg c x).2.1=3 then some (.inr (0,false,[],bS c,bO c,cE c,c8 c,())) else if dQ c x=true then some (.inr (0,false,[],bS c,bO c,cE c,c8 c,())) else if (msg c x).2.1=1 then some (.inr ((ij c x).length,true,ij c x,bS c,bO c,cE c,c8 c,())) else some (.inl ((msg c x).2.2.1,bS c,bO c,cE c,c8 c,()))) else some (.inr (0,false,[],bS c,bO c,cE c,c8 c,())):=by
    simp only [gH74_0,ay,aA,aZ,aa,dG,au,cA,bV,Cr]
    rw [show aM .str (bS c) x=k9 c x from rfl,show ax .str zM (bS c) x=msg c x from rfl,kG]
    split
    ·rename_i h1
     split
     ·rfl
     ·rw [kG]
      split
      ·rfl
      ·split
       ·rename_i h4
        rw [ah (PM hs hc (kW hs h1 h4) (bG.1 h1))]
       ·rfl
    ·rfl
   simp only [yX,hg,List.length_cons,zq]
   by_cases h1:k9 c x=true
   ·rw [if_pos h1, if_pos h1]
    by_cases h2:(msg c x).2.1=3
    ·rw [if_pos h2,if_pos h2];exact ⟨_,rfl,fun _=>.inl rfl⟩
    ·rw [if_neg h2, if_neg h2]
     by_cases h3:dQ c x=true
     ·rw [if_pos h3,if_pos h3];exact ⟨_,rfl,fun _=>.inl rfl⟩
     ·rw [if_neg h3, if_neg h3]
      by_cases h4:(msg c x).2.1=1
      ·rw [if_pos h4,if_pos h4];exact ⟨.inr (0,false,[],bS c,bO c,cE c,c8 c,()),rfl,fun h=>by cases h⟩
      ·rw [if_neg h4,if_neg h4];exact ih _
   ·rw [if_neg h1,if_neg h1];exact ⟨_,rfl,fun _=>.inl rfl⟩
 unfold FH74
 simp only [aA]
 have hmp:∃x',run (fun _=>none) (.mp gH74_0 (bS c) (x,bS c,bO c,cE c,c8 c,()))=some (match iL c x with|some t=>.inr ((ij c t).length,true,ij c t,bS c,bO c,cE c,c8 c,())|none=>x') ∧
   (iL c x=none→x' = .inr (0,false,[],bS c,bO c,cE c,c8 c,())∨∃y,x' = .inl (y,bS c,bO c,cE c,c8 c,())):=by
  obtain ⟨x',h1,h2⟩:=key (bS c) x
  have hlen:(bS c).length=c.length:=List.length_map ..
  rw [hlen] at h1 h2
  refine ⟨x',Eq.trans Xv (gz fun l hp=>?_),h2⟩
  have yL:l.length=(bS c).length:=hp.length_eq
  have hany:∀(l l':List (ByteArray×Mg)) (a:ByteArray×AF×Fk×fG×fG×Unit),l.length=l'.length→yX (fun e a=>run (fun _=>none) (gH74_0 e a)) l a=yX (fun e a=>run (fun _=>none) (gH74_0 e a)) l' a:=by
   intro l
   induction l with
   |nil =>
    intro l' a h
    cases l' with
    |nil=>rfl
    |cons _ _=>simp at h
   |cons e l ih =>
    intro l' a h
    cases l' with
    |nil=>simp at h
    |cons e' l' =>
     have hs:run (fun _=>none) (gH74_0 e a)=run (fun _=>none) (gH74_0 e' a):=rfl
     simp only [yX,hs]
     split
     ·rfl
     ·exact ih l' _ (by simpa using h)
     ·rfl
  rw [hany l (bS c) _ yL]
  exact h1
 obtain ⟨x',h1,h2⟩:=hmp
 rw [ah h1]
 cases hst:iL c x with
 |some t=>simp only [lZ,aa]
 |none =>
  rcases h2 hst with rfl|⟨y,rfl⟩
  ·simp only [lZ,aa]
  ·simp only [qw,aa]
def PN (x:ByteArray) (l:List ByteArray):Bool:=l.any fun y=>decide (y=x)
theorem EY {x:ByteArray} {l:List ByteArray}:PN x l=true↔x∈l:=by
 unfold PN;rw [List.any_eq_true]
 constructor
 ·rintro ⟨y,hy,h⟩;have:=of_decide_eq_true h;subst this;exact hy
 ·intro h;exact ⟨x,h,decide_eq_true rfl⟩
theorem k75 {l:List ByteArray} (hl:l.length<1000000000) (x:ByteArray):ak (F75 l x)=some (PN x l,()):=by
 have hi:iter (fun a=>run (fun _=>none) (g103_0 a)) (l,x,((l.length:Nat):Int),(0:Int),())=some (match eE (fun y=>decide (y=x)) 0 l with|some k=>Sum.inl (((k:Nat):Int),())|none=>Sum.inr ()):=by
  refine aQ l (fun k (_:Nat)=>(l,x,((l.length:Nat):Int),(k:Int),())) (fun k r=>match eE (fun y=>decide (y=x)) k r with|some k=>Sum.inl (((k:Nat):Int),())|none=>Sum.inr ()) (fun pre k=>k=pre.length) ?_ ?_ (s:=0) rfl
  ·rintro pre y post k hx rfl
   have hlen:l.length=pre.length+(post.length+1):=by rw [hx];simp
   have hd:l.getD pre.length (bs [])=y:=by rw [hx];exact bt rfl
   have i1:fu (pre.length:Int) ((l.length:Nat):Int)=true:=bY (by omega) (by omega)
   have r1:gG .i64 ((pre.length:Int)+1)=true:=aL (by omega) (by omega)
   simp only [g103_0,ay,bB,aS,aa,Int.toNat_natCast,hd,i1,r1,au,bx,seq_eq]
   rw [if_pos (by omega)]
   by_cases h:y=x
   ·right
    rw [if_pos h.symm]
    simp [eE,h]
   ·left
    refine ⟨pre.length+1,?_,by simp,?_⟩
    ·rw [if_neg (fun e=>h e.symm)];rfl
    ·simp [eE,h]
  ·rintro k _
   simp only [g103_0,ay,bx,aa]
   rw [if_neg (by omega)];rfl
 unfold F75 F103
 simp only [aA,bM]
 rcases lN (fun y=>decide (y=x)) l 0 with ⟨p,y,q,h1,h2,h3,h4⟩|⟨h1,h2⟩
 ·rw [h4] at hi
  rw [ah hi]
  have hy:y=x:=by simpa using h3
  simp only [qw,aa,aJ]
  congr 2
  rw [Bool.eq_iff_iff,decide_eq_true_eq,EY]
  exact ⟨fun _=>by rw [h1,hy];simp,fun _=>by omega⟩
 ·rw [h2] at hi
  rw [ah hi]
  simp only [lZ,aa,aJ]
  congr 2
  rw [Bool.eq_iff_iff,decide_eq_true_eq,EY]
  refine ⟨fun h=>by omega,fun h=>?_⟩
  have:=h1 x h
  simp at this
def dI (c:List Mg) (x:ByteArray):Int×Int :=
 if k9 c x=true then (if (msg c x).2.1=3 then (0,18) else if dQ c x=true then (2,0) else match iL c x with
  |none=>(1,0)
  |some t=>if PN x (ij c t)=true then (if 1<(ij c t).length then (5,0) else (4,0)) else (3,0)) else (0,5)
def iw (c:List Mg) (x:ByteArray):List ByteArray×Int:=if k9 c x=true then (if (msg c x).2.1=1 then (ij c x,0) else ([],18)) else ([],5)
theorem jP {L:List Mg} (h:lp L):(cnt L).length≤60:=by
 have hn:(cnt L).Nodup:=List.Pairwise.imp (fun {a b} h e=>by subst e;rw [show slt a.1 a.1=false from gW (t:=.str) kS a.1] at h;cases h) (eo L)
 have:=List.Nodup.length_le_of_subset hn (fun m hm=>sv hm)
 have:=h.len
 omega
theorem kH32 {L:List Mg} (h:lp L) (x:ByteArray):ak (FH32 x (bk L))=some ((dI (cnt L) x).1,(dI (cnt L) x).2,bk L,()):=by
 have hs:=eo L
 have hc:=jP h
 unfold FH32
 simp only [aA,Hf,aJ,ay,bq]
 rw [ah (PL h)]
 simp only [aa,cA,bV,Cr]
 rw [show aM .str (bS (cnt L)) x=k9 (cnt L) x from rfl,show ax .str zM (bS (cnt L)) x=msg (cnt L) x from rfl,kG]
 unfold dI
 by_cases h1:k9 (cnt L) x=true
 ·rw [if_pos h1, if_pos h1, if_pos trivial]
  by_cases h2:(msg (cnt L) x).2.1=3
  ·rw [if_pos h2,if_pos h2]
  ·rw [if_neg h2, if_neg h2, kG]
   by_cases h3:dQ (cnt L) x=true
   ·rw [if_pos h3,if_pos h3]
   ·rw [if_neg h3, if_neg h3]
    rw [ah (kH74 hs (by omega) x)]
    cases hst:iL (cnt L) x with
    |none=>simp
    |some t =>
     obtain ⟨ht1,ht2,_⟩:=EX hs hst
     have hvl:(ij (cnt L) t).length≤(cnt L).length:=mH hs (kW hs ht1 ht2) (bG.1 ht1) .zero
     simp only [bK,List.drop_zero,List.take_length]
     rw [ah (k75 (by omega) x)]
     rw [kG]
     simp only [bx]
     by_cases h4:PN x (ij (cnt L) t)=true
     ·rw [if_pos h4, if_pos h4]
      by_cases h5:1<(ij (cnt L) t).length
      ·rw [if_pos (by omega),if_pos h5]
      ·rw [if_neg (by omega),if_neg h5]
     ·rw [if_neg h4,if_neg h4]
 ·rw [if_neg h1,if_neg h1,if_neg (by omega)]
theorem ZW {L:List Mg} (h:lp L) (x:ByteArray):ak (FH33 x (bk L))=some ((iw (cnt L) x).1.length,(iw (cnt L) x).2,(iw (cnt L) x).1,bk L,()):=by
 have hs:=eo L
 have hc:=jP h
 unfold FH33
 simp only [aA,Hf,aJ,ay,bq]
 rw [ah (PL h)]
 simp only [aa,cA,bV]
 rw [show aM .str (bS (cnt L)) x=k9 (cnt L) x from rfl,show ax .str zM (bS (cnt L)) x=msg (cnt L) x from rfl,kG]
 unfold iw
 by_cases h1:k9 (cnt L) x=true
 ·rw [if_pos h1, if_pos h1, if_pos trivial]
  by_cases h2:(msg (cnt L) x).2.1=1
  ·rw [if_pos h2,if_pos h2,ah (PM hs (by omega) (kW hs h1 h2) (bG.1 h1))]
  ·rw [if_neg h2,if_neg h2];rfl
 ·rw [if_neg h1,if_neg h1,if_neg (by omega)];rfl
theorem EZ {L:List Mg} (h:lp L) (x:ByteArray) (n:Int):ak (FH40 x n (bk L))=some (decide (dI (cnt L) x=(n,0)),bk L,()):=by
 unfold FH40
 simp only [aA]
 rw [ah (kH32 h x)]
 simp only [ay,aa,bV]
 by_cases h1:(dI (cnt L) x).2=0
 ·rw [if_pos h1]
  congr 2
  rw [Bool.eq_iff_iff,beq_iff_eq,decide_eq_true_eq]
  exact ⟨fun h=>Prod.ext h h1,fun h=>by rw [h]⟩
 ·rw [if_neg h1]
  congr 2
  exact (decide_eq_false fun h=>h1 (by rw [h])).symm
end
end Go.Proofs.Tryz
end
section
namespace Go.Proofs.Tryz
open Go.AM
set_option maxRecDepth 100000
abbrev Zs:=List (Int×Unit)
abbrev kI:bD (.int .i64)=some [.i]:=rfl
def lq (l:Zs) (n:Int) (nx:Zs):Zs:=l.foldl (fun nx e=>aU (.int .i64) nx (e.1+n) ()) nx
def CZ (z:Zs):Prop:=gJ (.int .i64) z
def vE (Z:Zs) (z:Int):Prop:=(z,())∈Z
theorem CZ.put {Z:Zs} (h:CZ Z) (z:Int):CZ (aU (.int .i64) Z z ()):=gJ.iy kI h
theorem Jr {Z:Zs} (h:CZ Z) {z y:Int}:vE (aU (.int .i64) Z z ()) y↔y=z∨vE Z y:=by
 unfold vE
 rw [fS kI h]
 constructor
 ·rintro (e | ⟨h, _⟩)
  ·cases e;exact .inl rfl
  ·exact .inr h
 ·by_cases e : y = z
  ·subst e;exact fun _=>.inl rfl
  ·rintro (e' | h)
   ·exact absurd e' e
   ·exact .inr ⟨h,e⟩
theorem lQ {n : Int} : ∀ {l nx : Zs}, CZ nx → CZ (lq l n nx) ∧ ∀ z, vE (lq l n nx) z ↔ vE nx z ∨ ∃ x, vE l x ∧ z = x + n
 |[],nx,h=>⟨h,fun z=>by simp [lq,vE]⟩
 |e::l,nx,h=>by
  obtain ⟨h1,h2⟩:=lQ (n:=n) (l:=l) (h.put (e.1+n))
  refine ⟨h1,fun z=>?_⟩
  have h3:lq (e::l) n nx=lq l n (aU (.int .i64) nx (e.1+n) ()):=rfl
  rw [h3,h2,Jr h]
  constructor
  ·rintro ((h | h) | ⟨x, hx, h⟩)
   ·exact .inr ⟨e.1,List.mem_cons_self ..,h⟩
   ·exact .inl h
   ·exact .inr ⟨x,List.mem_cons_of_mem _ hx,h⟩
  ·rintro (h | ⟨x, hx, h⟩)
   ·exact .inl (.inr h)
   ·rcases List.mem_cons.1 hx with e' | hx
    ·exact .inl (.inl (by rw [h,←e']))
    ·exact .inr ⟨x,hx,h⟩
theorem CZ.ext {Z Z':Zs} (h:CZ Z) (h':CZ Z') (hz:∀z,vE Z z↔vE Z' z):Z=Z':=Jk kI h h' fun e=>hz e.1
theorem AJ {l l' nx:Zs} {n:Int} (h:CZ nx) (hp:l.Perm l'):lq l n nx=lq l' n nx :=
 (lQ h).1.ext (lQ h).1 fun z=>by
  rw [(lQ h).2,(lQ h).2]
  exact or_congr_right ⟨fun ⟨x,hx,e⟩=>⟨x,hp.mem_iff.1 hx,e⟩,fun ⟨x,hx,e⟩=>⟨x,hp.mem_iff.2 hx,e⟩⟩
def jJ (f:ByteArray→Int) (can:Zs) (vs:List ByteArray):Zs:=vs.foldl (fun nx v=>lq can (f v) nx) []
theorem E0 {f : ByteArray → Int} {can : Zs} : ∀ {vs : List ByteArray} {nx : Zs}, CZ nx → CZ (vs.foldl (fun nx v => lq can (f v) nx) nx) ∧ ∀ z, vE (vs.foldl (fun nx v => lq can (f v) nx) nx) z ↔ vE nx z ∨ ∃ v ∈ vs, ∃ x, vE can x ∧ z = x + f v
 |[],nx,h=>⟨h,fun z=>by simp⟩
 |v::vs,nx,h=>by
  obtain ⟨h1,h2⟩:=lQ (n:=f v) (l:=can) h
  obtain ⟨h3,h4⟩:=E0 (f:=f) (can:=can) (vs:=vs) h1
  refine ⟨h3,fun z=>?_⟩
  rw [List.foldl_cons,h4,h2]
  simp only [List.mem_cons,exists_eq_or_imp,or_assoc]
theorem oQ {f:ByteArray→Int} {can:Zs} {vs:List ByteArray}:CZ (jJ f can vs)∧∀z,vE (jJ f can vs) z↔∃v∈vs,∃x,vE can x∧z=x+f v:=by
 obtain ⟨h1,h2⟩:=E0 (f:=f) (can:=can) (vs:=vs) (nx:=[]) .nil
 exact ⟨h1,fun z=>(h2 z).trans (by simp [vE])⟩
def qc (c:List Mg):List ByteArray:=(c.filter fun m=>decide (m.2.1=1)).map (·.1)
def jQ (c:List Mg) (f:ByteArray→Int) (ts:List ByteArray) (can:Zs):Zs:=ts.foldl (fun can t=>jJ f can (ij c t)) can
def eW:Zs:=aU (.int .i64) [] 0 ()
def kX (c:List Mg) (f:ByteArray→Int):List Int:=(jQ c f (qc c) eW).map (·.1)
theorem dN:CZ eW∧∀z,vE eW z↔z=0:=⟨CZ.put .nil 0,fun z=>(Jr .nil).trans (by simp [vE])⟩
theorem vF {c : List Mg} {f : ByteArray → Int} : ∀ {ts : List ByteArray} {can : Zs}, CZ can → CZ (jQ c f ts can)
 |[],_,h=>h
 |t::ts,can,_=>vF (ts:=ts) oQ.1
def BZ (B:Int) (Z:Zs):Prop:=∀z,vE Z z → -B≤z∧z≤B
theorem sy {f:ByteArray→Int} {can:Zs} {vs:List ByteArray} {B:Int} (h:BZ B can) (hf:∀v∈vs,-1000≤f v∧f v≤1000):BZ (B+1000) (jJ f can vs):=fun z hz=>by
 obtain ⟨v,hv,x,hx,rfl⟩:=(oQ.2 z).1 hz
 have:=h x hx;have:=hf v hv;omega
section
variable {c:List Mg}
theorem Uk (hs:SI c) {t v:ByteArray} (ht:k9 c t=true) (hk:(msg c t).2.1=1) (hv:v∈ij c t):k9 c v=true∧((msg c v).2.1=1∨(msg c v).2.1=2):=by
 have hd:=mG hv
 cases hd with
 |refl=>exact ⟨ht,.inl hk⟩
 |step _ hz =>
  obtain ⟨m,hm,h1,h2,_⟩:=je.1 hz
  subst h1
  exact ⟨bG.2 (List.mem_map.2 ⟨m,hm,rfl⟩),.inr (by rw [gu hs hm];exact h2)⟩
theorem Ul {m:Mg} (h:qa m=0) (hk:m.2.1=1∨m.2.1=2) : -1000≤m.2.2.2.2∧m.2.2.2.2≤1000:=by
 unfold qa at h
 split at h
 ·cases h
 split at h
 ·unfold Cp at h
  have h3:lM m=0:=by
   by_cases h1:nN m=0
   ·by_cases h2 : lM m = 0
    ·exact h2
    ·simp [h1,h2] at h
   ·simp [h1] at h
  unfold lM at h3
  rw [if_neg (by omega)] at h3
  split at h3
  ·split at h3
   ·assumption
   ·cases h3
  ·cases h3
 ·cases h
def fA (c:List Mg) (a v:ByteArray):Int:=if (msg c v).2.2.2.1=a then (msg c v).2.2.2.2 else 0
def fT (c:List Mg) (v:ByteArray):Int:=(msg c v).2.2.2.2
def Wc (c:List Mg) (f:ByteArray→Int):Prop:=∀t v,k9 c t=true→(msg c t).2.1=1→v∈ij c t → -1000≤f v∧f v≤1000
theorem bndT (hs:SI c) (hc:∀m∈c,qa m=0):Wc c (fT c):=fun t v h1 h2 h3=>by
 obtain ⟨h4,h5⟩:=Uk hs h1 h2 h3
 exact Ul (hc _ (pG hs h4).1) h5
theorem ZX (hs:SI c) (hc:∀m∈c,qa m=0) (a:ByteArray):Wc c (fA c a):=fun t v h1 h2 h3=>by
 have:=bndT hs hc t v h1 h2 h3
 unfold fA;unfold fT at this
 split<;>omega
theorem k68 (m:Mg) (a:ByteArray):ak (F68 m a)=some (if m.2.2.2.1=a then m.2.2.2.2 else 0,()):=by
 simp only [F68,ay,aa,cA,seq_eq,bx]
 split<;>rfl
theorem k78 (m:Mg):ak (F78 m)=some (m.2.2.2.2,()):=rfl
theorem Js (z:Int) (m:Zs):ak (FH100 z m)=some (aU (.int .i64) m z (),()):=rfl
theorem Wd {Z:Zs} (h:CZ Z) (hl:Z.length<1000000000):ak (FH102 Z)=some (Z.length,Z.map (·.1),Z,()):=by
 unfold FH102
 refine Eq.trans BR (gz fun l hp=>?_)
 have yL:l.length=Z.length:=hp.length_eq
 simp only [aA,BT]
 refine bind_eq (sr (m:=Z) (l:=l) (by rw [yL];exact hl) fun e n b hn=>?_) ?_
 ·simp only [gH102f121f133_0i_0, aZ, aa, dG, au]
  rw [cg (show _<cu by rw [gT];simp;omega)]
  rfl
 ·simp only [FH122, xB]
  have hpk:(Z.map (·.1)).Perm (l.map (·.1)):=(hp.map (·.1)).symm
  have:=oM kI hpk (gJ.keys kI h) (by rw [List.length_map];omega)
  rw [List.length_map] at this
  rw [ah this,yL]
  rfl
theorem Hl {Z:Zs} {B:Nat} (h:CZ Z) (hb:BZ (B:Int) Z):Z.length≤2 * B+1:=by
 have hn:(Z.map (·.1)).Nodup:=by
  unfold List.Nodup
  rw [List.pairwise_map]
  exact List.Pairwise.imp (fun {a b} h e=>by rw [e,gW kI] at h;cases h) h
 have h2:((Z.map (·.1)).map fun z:Int=>(z+(B:Int)).toNat).Nodup:=by
  unfold List.Nodup
  rw [List.pairwise_map]
  refine List.Pairwise.imp_of_mem (fun {a b} ha hb' hab e=>hab ?_) hn
  obtain ⟨p,hp,rfl⟩:=List.mem_map.1 ha
  obtain ⟨q,hq,rfl⟩:=List.mem_map.1 hb'
  have h3:=hb p.1 hp
  have h4:=hb q.1 hq
  omega
 have:=List.Nodup.length_le_of_subset h2 (l₂:=List.range (2 * B+1)) fun z hz=>by
  obtain ⟨y,hy,rfl⟩:=List.mem_map.1 hz
  obtain ⟨p,hp,rfl⟩:=List.mem_map.1 hy
  have h3:=hb p.1 hp
  rw [List.mem_range];omega
 simpa using this
theorem kA67 {a:ByteArray} {nv:Nat} {w1 w2 n:Int} {pL jh:List ByteArray} {can nx:Zs} (hx:CZ nx) (hb:BZ 1000000 can) (hn : -1000≤n∧n≤1000):ak (gH67_0b_2 (nv,w1,w2,n,pL,bS c,bO c,cE c,c8 c,a,jh,can,nx,()))=some (nv,w1,w2,pL,bS c,bO c,cE c,c8 c,a,jh,can,lq can n nx,()):=by
 unfold gH67_0b_2
 simp only [aA]
 refine bind_eq (Eq.trans Gl (gz (b:=(nv,w1,w2,can,bS c,bO c,cE c,c8 c,a,n,pL,jh,lq can n nx,())) fun l hp=>?_)) rfl
 have key:∀(l:Zs) (nx:Zs),(∀e∈l,e∈can)→zY (fun e a=>run (fun _=>none) (gH67_0b_2i_0 e a)) l (nv,w1,w2,can,bS c,bO c,cE c,c8 c,a,n,pL,jh,nx,())=some (nv,w1,w2,can,bS c,bO c,cE c,c8 c,a,n,pL,jh,lq l n nx,()):=by
  intro l
  induction l with
  |nil=>intro nx _;rfl
  |cons e l ih =>
   intro nx hm
   have hz:=hb e.1 (hm e (List.mem_cons_self ..))
   have hs:run (fun _=>none) (gH67_0b_2i_0 e (nv,w1,w2,can,bS c,bO c,cE c,c8 c,a,n,pL,jh,nx,()))=some (nv,w1,w2,can,bS c,bO c,cE c,c8 c,a,n,pL,jh,aU (.int .i64) nx (e.1+n) (),()):=by
    simp only [gH67_0b_2i_0,aS,aA,aZ,aa,Js,aJ,dG,au]
    rw [gQ (aL (by omega) (by omega))]
   simp only [zY,hs]
   exact ih _ fun e he=>hm e (List.mem_cons_of_mem _ he)
 rw [key l nx fun e he=>hp.mem_iff.1 he,AJ hx hp]
theorem kB67 {a:ByteArray} {jh:List ByteArray} {can:Zs} {vs:List ByteArray} (hvl:vs.length<1000000) (hb:BZ 1000000 can) (hf:∀v∈vs,-1000≤fA c a v∧fA c a v≤1000) :
  iter (fun x=>ak (gH67_0b_1 x)) (vs.length,((vs.length:Nat):Int),(0:Int),vs,bS c,bO c,cE c,c8 c,a,jh,can,[],())=some (bS c,bO c,cE c,c8 c,a,jh,vs,can,jJ (fA c a) can vs,()):=by
 refine aQ vs (fun k (nx:Zs)=>(vs.length,((vs.length:Nat):Int),(k:Int),vs,bS c,bO c,cE c,c8 c,a,jh,can,nx,())) (fun nx r=>(bS c,bO c,cE c,c8 c,a,jh,vs,can,r.foldl (fun nx v=>lq can (fA c a v) nx) nx,())) (fun _ nx=>CZ nx) ?_ ?_ (s:=[]) .nil
 ·intro pre v post nx hx HW
  have hlen:vs.length=pre.length+(post.length+1):=by rw [hx];simp
  have hd:vs.getD pre.length (bs [])=v:=by rw [hx];exact bt rfl
  have i1:fu (pre.length:Int) ((vs.length:Nat):Int)=true:=bY (by omega) (by omega)
  have r1:gG .i64 ((pre.length:Int)+1)=true:=aL (by omega) (by omega)
  have d1:decide (pre.length<vs.length)=true:=decide_eq_true (by omega)
  left
  refine ⟨lq can (fA c a v) nx,?_,(lQ HW).1,rfl⟩
  simp only [gH67_0b_1,ay,bB,aZ,aS,aA,aa,Int.toNat_natCast,Nat.zero_add,hd,i1,d1,au,bx,FH101,FH120,aJ]
  rw [if_pos (by omega)]
  rw [ah (show ak (F68 ((ax .str zM (bS c) v).1,(ax .str zM (bS c) v).2.1,(ax .str zM (bS c) v).2.2.1,(ax .str zM (bS c) v).2.2.2.1,(ax .str zM (bS c) v).2.2.2.2) a)=some (fA c a v,()) from k68 _ _)]
  rw [ah (kA67 HW hb (hf v (by rw [hx];simp)))]
  simp only [r1,au]
  rfl
 ·intro nx _
  simp only [gH67_0b_1,ay,aa,bx]
  rw [if_neg (by omega)]
  rfl
theorem kC67 {a:ByteArray} (hs:SI c) (hl:c.length≤60) (hB:Wc c (fA c a)):iter (fun x=>ak (gH67_0i_0 x)) (c.length,((c.length:Nat):Int),(0:Int),c.map (·.1),bS c,bO c,cE c,c8 c,a,eW,()) =
  some (bS c,bO c,cE c,c8 c,a,jQ c (fA c a) (qc c) eW,()):=by
 have yL:(c.map (·.1)).length=c.length:=List.length_map ..
 refine aQ c (fun k (can:Zs)=>(c.length,((c.length:Nat):Int),(k:Int),c.map (·.1),bS c,bO c,cE c,c8 c,a,can,())) (fun can r=>(bS c,bO c,cE c,c8 c,a,jQ c (fA c a) ((r.filter fun m=>decide (m.2.1=1)).map (·.1)) can,())) (fun pre can=>CZ can∧BZ (1000 * (pre.length:Int)) can) ?_ ?_ (s:=eW) ⟨dN.1,fun z hz=>by rw [(dN.2 z).1 hz];simp⟩
 ·rintro pre m post can hx ⟨Um, hbz⟩
  have hlen:c.length=pre.length+(post.length+1):=by rw [hx];simp
  have hm:m∈c:=by rw [hx];simp
  have hd:(c.map (·.1)).getD pre.length (bs [])=m.1:=by rw [hx,List.map_append,List.map_cons];exact bt (by simp)
  have hg:ax .str zM (bS c) m.1=m:=gu hs hm
  have i1:fu (pre.length:Int) ((c.length:Nat):Int)=true:=bY (by omega) (by omega)
  have r1:gG .i64 ((pre.length:Int)+1)=true:=aL (by omega) (by omega)
  have d1:decide (pre.length<(c.map (·.1)).length)=true:=decide_eq_true (by omega)
  have ZV:((pre++[m]).length:Int)=(pre.length:Int)+1:=by simp
  left
  by_cases hk:m.2.1=1
  ·have him : k9 c m.1 = true := bG.2 (List.mem_map.2 ⟨m, hm, rfl⟩)
   have hkm:(msg c m.1).2.1=1:=by rw [gu hs hm];exact hk
   have hvl:(ij c m.1).length≤c.length:=mH hs (kW hs him hkm) (bG.1 him) .zero
   refine ⟨jJ (fA c a) can (ij c m.1),?_,⟨oQ.1,?_⟩,?_⟩
   ·simp only [gH67_0i_0, ay, bB, aZ, aS, aA, bM, aa, Int.toNat_natCast, Nat.zero_add, hd, hg, i1, d1, au, bx, bV]
    rw [if_pos (by omega),if_pos hk,ah (PM hs (by omega) (kW hs him hkm) (bG.1 him))]
    rw [ah (kB67 (vs:=ij c m.1) (by omega) (fun z hz=>by have:=hbz z hz;omega) (fun v hv=>hB m.1 v him hkm hv))]
    simp only [r1,au]
    rfl
   ·have := sy (f := (fA c a)) (vs := ij c m.1) hbz fun v hv => hB m.1 v him hkm hv
    intro z hz
    have:=this z hz
    omega
   ·rw [List.filter_cons_of_pos (by simpa using hk)]
    rfl
  ·refine ⟨can, ?_, ⟨Um, fun z hz => by have := hbz z hz; omega⟩, ?_⟩
   ·simp only [gH67_0i_0, ay, bB, aZ, aS, aA, bM, aa, Int.toNat_natCast, Nat.zero_add, hd, hg, i1, d1, r1, au, bx, bV]
    rw [if_pos (by omega),if_neg hk]
    rfl
   ·rw [List.filter_cons_of_neg (by simpa using hk)]
 ·rintro can _
  simp only [gH67_0i_0,ay,aa,bx]
  rw [if_neg (by omega)]
  rfl
theorem kH67 {a:ByteArray} (hs:SI c) (hl:c.length≤60) (hB:Wc c (fA c a)):ak (FH67 a (bS c) (bO c) (cE c) (c8 c))=some ((kX c (fA c a)).length,kX c (fA c a),bS c,bO c,cE c,c8 c,a,()):=by
 have Um:CZ (jQ c (fA c a) (qc c) eW):=vF dN.1
 have hbz:BZ 1000000 (jQ c (fA c a) (qc c) eW):=by
  have key:∀(ts:List ByteArray) (can:Zs) (B:Int),(∀t∈ts,k9 c t=true∧(msg c t).2.1=1)→BZ B can→BZ (B+1000 * ts.length) (jQ c (fA c a) ts can):=by
   intro ts
   induction ts with
   |nil=>intro can B _ h;simpa [jQ] using h
   |cons t ts ih =>
    intro can B ht h
    have h1:=ht t (List.mem_cons_self ..)
    have:=ih (jJ (fA c a) can (ij c t)) (B+1000) (fun t h=>ht t (List.mem_cons_of_mem _ h)) (sy h fun v hv=>hB t v h1.1 h1.2 hv)
    intro z hz
    have:=this z hz
    simp only [List.length_cons]
    omega
  have h1:=key (qc c) eW 0 (fun t ht=>by
   obtain ⟨m,hm,rfl⟩:=List.mem_map.1 ht
   obtain ⟨h1,h2⟩:=List.mem_filter.1 hm
   exact ⟨bG.2 (List.mem_map.2 ⟨m,h1,rfl⟩),by rw [gu hs h1];simpa using h2⟩) (fun z hz=>by rw [(dN.2 z).1 hz];simp)
  have hle:(qc c).length≤c.length:=by unfold qc;rw [List.length_map];exact List.length_filter_le ..
  intro z hz
  have:=h1 z hz
  omega
 have hlen:=Hl (B:=1000000) Um (by simpa using hbz)
 unfold FH67 gH67_0
 simp only [aA,Js,aJ,FH79,FH95,aa,bM]
 rw [ah (Uc hs (by omega))]
 refine bind_eq (bind_eq (kC67 hs hl hB) rfl) ?_
 simp only [aJ,FH101,FH120,aA,aa]
 rw [ah (Wd Um (by omega))]
 unfold kX
 rw [List.length_map]
theorem Un {nv:Nat} {w1 w2 n:Int} {pL jh:List ByteArray} {can nx:Zs} (hx:CZ nx) (hb:BZ 1000000 can) (hn : -1000≤n∧n≤1000):ak (gH67_v1_0b_2 (nv,w1,w2,n,pL,bS c,bO c,cE c,c8 c,jh,can,nx,()))=some (nv,w1,w2,pL,bS c,bO c,cE c,c8 c,jh,can,lq can n nx,()):=by
 unfold gH67_v1_0b_2
 simp only [aA]
 refine bind_eq (Eq.trans Gl (gz (b:=(nv,w1,w2,can,bS c,bO c,cE c,c8 c,n,pL,jh,lq can n nx,())) fun l hp=>?_)) rfl
 have key:∀(l:Zs) (nx:Zs),(∀e∈l,e∈can)→zY (fun e a=>run (fun _=>none) (gH67_v1_0b_2i_0 e a)) l (nv,w1,w2,can,bS c,bO c,cE c,c8 c,n,pL,jh,nx,())=some (nv,w1,w2,can,bS c,bO c,cE c,c8 c,n,pL,jh,lq l n nx,()):=by
  intro l
  induction l with
  |nil=>intro nx _;rfl
  |cons e l ih =>
   intro nx hm
   have hz:=hb e.1 (hm e (List.mem_cons_self ..))
   have hs:run (fun _=>none) (gH67_v1_0b_2i_0 e (nv,w1,w2,can,bS c,bO c,cE c,c8 c,n,pL,jh,nx,()))=some (nv,w1,w2,can,bS c,bO c,cE c,c8 c,n,pL,jh,aU (.int .i64) nx (e.1+n) (),()):=by
    simp only [gH67_v1_0b_2i_0,aS,aA,aZ,aa,Js,aJ,dG,au]
    rw [gQ (aL (by omega) (by omega))]
   simp only [zY,hs]
   exact ih _ fun e he=>hm e (List.mem_cons_of_mem _ he)
 rw [key l nx fun e he=>hp.mem_iff.1 he,AJ hx hp]
theorem Uo {jh:List ByteArray} {can:Zs} {vs:List ByteArray} (hvl:vs.length<1000000) (hb:BZ 1000000 can) (hf:∀v∈vs,-1000≤fT c v∧fT c v≤1000) :
  iter (fun x=>ak (gH67_v1_0b_1 x)) (vs.length,((vs.length:Nat):Int),(0:Int),vs,bS c,bO c,cE c,c8 c,jh,can,[],())=some (bS c,bO c,cE c,c8 c,jh,vs,can,jJ (fT c) can vs,()):=by
 refine aQ vs (fun k (nx:Zs)=>(vs.length,((vs.length:Nat):Int),(k:Int),vs,bS c,bO c,cE c,c8 c,jh,can,nx,())) (fun nx r=>(bS c,bO c,cE c,c8 c,jh,vs,can,r.foldl (fun nx v=>lq can (fT c v) nx) nx,())) (fun _ nx=>CZ nx) ?_ ?_ (s:=[]) .nil
 ·intro pre v post nx hx HW
  have hlen:vs.length=pre.length+(post.length+1):=by rw [hx];simp
  have hd:vs.getD pre.length (bs [])=v:=by rw [hx];exact bt rfl
  have i1:fu (pre.length:Int) ((vs.length:Nat):Int)=true:=bY (by omega) (by omega)
  have r1:gG .i64 ((pre.length:Int)+1)=true:=aL (by omega) (by omega)
  have d1:decide (pre.length<vs.length)=true:=decide_eq_true (by omega)
  left
  refine ⟨lq can (fT c v) nx,?_,(lQ HW).1,rfl⟩
  simp only [gH67_v1_0b_1,ay,bB,aZ,aS,aA,aa,Int.toNat_natCast,Nat.zero_add,hd,i1,d1,au,bx,FH101,FH120,aJ]
  rw [if_pos (by omega)]
  rw [ah (show ak (F78 ((ax .str zM (bS c) v).1,(ax .str zM (bS c) v).2.1,(ax .str zM (bS c) v).2.2.1,(ax .str zM (bS c) v).2.2.2.1,(ax .str zM (bS c) v).2.2.2.2))=some (fT c v,()) from k78 _)]
  rw [ah (Un HW hb (hf v (by rw [hx];simp)))]
  simp only [r1,au]
  rfl
 ·intro nx _
  simp only [gH67_v1_0b_1,ay,aa,bx]
  rw [if_neg (by omega)]
  rfl
theorem Uq (hs:SI c) (hl:c.length≤60) (hB:Wc c (fT c)):iter (fun x=>ak (gH67_v1_0i_0 x)) (c.length,((c.length:Nat):Int),(0:Int),c.map (·.1),bS c,bO c,cE c,c8 c,eW,()) =
  some (bS c,bO c,cE c,c8 c,jQ c (fT c) (qc c) eW,()):=by
 have yL:(c.map (·.1)).length=c.length:=List.length_map ..
 refine aQ c (fun k (can:Zs)=>(c.length,((c.length:Nat):Int),(k:Int),c.map (·.1),bS c,bO c,cE c,c8 c,can,())) (fun can r=>(bS c,bO c,cE c,c8 c,jQ c (fT c) ((r.filter fun m=>decide (m.2.1=1)).map (·.1)) can,())) (fun pre can=>CZ can∧BZ (1000 * (pre.length:Int)) can) ?_ ?_ (s:=eW) ⟨dN.1,fun z hz=>by rw [(dN.2 z).1 hz];simp⟩
 ·rintro pre m post can hx ⟨Um, hbz⟩
  have hlen:c.length=pre.length+(post.length+1):=by rw [hx];simp
  have hm:m∈c:=by rw [hx];simp
  have hd:(c.map (·.1)).getD pre.length (bs [])=m.1:=by rw [hx,List.map_append,List.map_cons];exact bt (by simp)
  have hg:ax .str zM (bS c) m.1=m:=gu hs hm
  have i1:fu (pre.length:Int) ((c.length:Nat):Int)=true:=bY (by omega) (by omega)
  have r1:gG .i64 ((pre.length:Int)+1)=true:=aL (by omega) (by omega)
  have d1:decide (pre.length<(c.map (·.1)).length)=true:=decide_eq_true (by omega)
  have ZV:((pre++[m]).length:Int)=(pre.length:Int)+1:=by simp
  left
  by_cases hk:m.2.1=1
  ·have him : k9 c m.1 = true := bG.2 (List.mem_map.2 ⟨m, hm, rfl⟩)
   have hkm:(msg c m.1).2.1=1:=by rw [gu hs hm];exact hk
   have hvl:(ij c m.1).length≤c.length:=mH hs (kW hs him hkm) (bG.1 him) .zero
   refine ⟨jJ (fT c) can (ij c m.1),?_,⟨oQ.1,?_⟩,?_⟩
   ·simp only [gH67_v1_0i_0, ay, bB, aZ, aS, aA, bM, aa, Int.toNat_natCast, Nat.zero_add, hd, hg, i1, d1, au, bx, bV]
    rw [if_pos (by omega),if_pos hk,ah (PM hs (by omega) (kW hs him hkm) (bG.1 him))]
    rw [ah (Uo (vs:=ij c m.1) (by omega) (fun z hz=>by have:=hbz z hz;omega) (fun v hv=>hB m.1 v him hkm hv))]
    simp only [r1,au]
    rfl
   ·have := sy (f := (fT c)) (vs := ij c m.1) hbz fun v hv => hB m.1 v him hkm hv
    intro z hz
    have:=this z hz
    omega
   ·rw [List.filter_cons_of_pos (by simpa using hk)]
    rfl
  ·refine ⟨can, ?_, ⟨Um, fun z hz => by have := hbz z hz; omega⟩, ?_⟩
   ·simp only [gH67_v1_0i_0, ay, bB, aZ, aS, aA, bM, aa, Int.toNat_natCast, Nat.zero_add, hd, hg, i1, d1, r1, au, bx, bV]
    rw [if_pos (by omega),if_neg hk]
    rfl
   ·rw [List.filter_cons_of_neg (by simpa using hk)]
 ·rintro can _
  simp only [gH67_v1_0i_0,ay,aa,bx]
  rw [if_neg (by omega)]
  rfl
theorem Ur (hs:SI c) (hl:c.length≤60) (hB:Wc c (fT c)):ak (FH67_v1 (bS c) (bO c) (cE c) (c8 c))=some ((kX c (fT c)).length,kX c (fT c),bS c,bO c,cE c,c8 c,()):=by
 have Um:CZ (jQ c (fT c) (qc c) eW):=vF dN.1
 have hbz:BZ 1000000 (jQ c (fT c) (qc c) eW):=by
  have key:∀(ts:List ByteArray) (can:Zs) (B:Int),(∀t∈ts,k9 c t=true∧(msg c t).2.1=1)→BZ B can→BZ (B+1000 * ts.length) (jQ c (fT c) ts can):=by
   intro ts
   induction ts with
   |nil=>intro can B _ h;simpa [jQ] using h
   |cons t ts ih =>
    intro can B ht h
    have h1:=ht t (List.mem_cons_self ..)
    have:=ih (jJ (fT c) can (ij c t)) (B+1000) (fun t h=>ht t (List.mem_cons_of_mem _ h)) (sy h fun v hv=>hB t v h1.1 h1.2 hv)
    intro z hz
    have:=this z hz
    simp only [List.length_cons]
    omega
  have h1:=key (qc c) eW 0 (fun t ht=>by
   obtain ⟨m,hm,rfl⟩:=List.mem_map.1 ht
   obtain ⟨h1,h2⟩:=List.mem_filter.1 hm
   exact ⟨bG.2 (List.mem_map.2 ⟨m,h1,rfl⟩),by rw [gu hs h1];simpa using h2⟩) (fun z hz=>by rw [(dN.2 z).1 hz];simp)
  have hle:(qc c).length≤c.length:=by unfold qc;rw [List.length_map];exact List.length_filter_le ..
  intro z hz
  have:=h1 z hz
  omega
 have hlen:=Hl (B:=1000000) Um (by simpa using hbz)
 unfold FH67_v1 gH67_v1_0
 simp only [aA,Js,aJ,FH79,FH95,aa,bM]
 rw [ah (Uc hs (by omega))]
 refine bind_eq (bind_eq (Uq hs hl hB) rfl) ?_
 simp only [aJ,FH101,FH120,aA,aa]
 rw [ah (Wd Um (by omega))]
 unfold kX
 rw [List.length_map]
def jv (c:List Mg) (a:ByteArray):List Int×Int:=if ek a=true then (kX c (fA c a),0) else ([],8)
theorem vG {L:List Mg} (h:lp L):∀m∈cnt L,qa m=0:=fun m hm=>h.qa m (sv hm)
theorem PO {L:List Mg} (h:lp L) {a:ByteArray} (ha:Sh a):ak (FH23 a (bk L))=some ((jv (cnt L) a).1.length,(jv (cnt L) a).2,(jv (cnt L) a).1,bk L,()):=by
 unfold FH23
 simp only [aA,Hf,aJ,ay,bq,k65 a ha,cA]
 rw [kG]
 unfold jv
 split
 ·rw [ah (PL h)]
  simp only
  rw [ah (kH67 (eo L) (jP h) (ZX (eo L) (vG h) a))]
  rfl
 ·rfl
end
end Go.Proofs.Tryz
end
section
namespace Go.Proofs.Tryz
open Go.AM
set_option maxRecDepth 100000
def PR (l:List Int):Int×Int:=(l.getD 0 0,l.getD (l.length - 1) 0)
theorem k72 {l:List Int} (h0:0<l.length) (hl:l.length<1000000000):ak (F72 l)=some (PR l,()):=by
 unfold F72
 simp only [bB,aS,aa]
 rw [bY (by omega) (by omega),au,gQ (aL (by omega) (by omega)),bY (by omega) (by omega),au]
 rw [show ((l.length:Int) - 1).toNat=l.length - 1 by omega]
 rfl
section
variable {c:List Mg}
theorem PS {f:ByteArray→Int} {can:Zs} {vs:List ByteArray} (hc:∃z,vE can z) (hv:vs≠[]):∃z,vE (jJ f can vs) z:=by
 obtain ⟨z,hz⟩:=hc
 cases vs with
 |nil=>exact absurd rfl hv
 |cons v vs=>exact ⟨z+f v,(oQ.2 _).2 ⟨v,List.mem_cons_self ..,z,hz,rfl⟩⟩
def Jt (c:List Mg) (a:ByteArray):(Int×Int)×Int:=if (jv c a).2=0 then (PR (jv c a).1,0) else ((0,0),(jv c a).2)
def tK (c:List Mg):Int×Int:=PR (kX c (fT c))
abbrev Ss:=List (ByteArray×Unit)
def yA (c:List Mg) (vs:List ByteArray) (m:Ss):Ss:=vs.foldl (fun m v=>aU .str m (msg c v).2.2.2.1 ()) m
def tN (c:List Mg) (ts:List ByteArray) (m:Ss):Ss:=ts.foldl (fun m t=>yA c (ij c t) m) m
def qF (c:List Mg):List ByteArray:=(tN c (qc c) []).map (·.1)
theorem PT {vs:List ByteArray}:∀{m:Ss},gJ .str m→gJ .str (yA c vs m):=by
 induction vs with
 |nil=>exact fun h=>h
 |cons v vs ih=>exact fun h=>ih (h.iy kS)
theorem PU {ts:List ByteArray}:∀{m:Ss},gJ .str m→gJ .str (tN c ts m):=by
 induction ts with
 |nil=>exact fun h=>h
 |cons t ts ih=>exact fun h=>ih (PT h)
theorem E1 : ∀ {m : Ss} {k : ByteArray}, (pN .str m k ()).length = m.length + 1
 |[],_=>rfl
 |e::m,k=>by
  unfold pN
  split
  ·simp
  ·rw [List.length_cons,E1];rfl
theorem PV {m:Ss} {k:ByteArray}:(aU .str m k ()).length≤m.length+1:=by
 unfold aU
 split
 ·rw [List.length_map];omega
 ·rw [E1];exact Nat.le_refl _
theorem Us {Z:Ss} (h:gJ .str Z) (hl:Z.length<1000000000):ak (FH81_v1 Z)=some (Z.length,Z.map (·.1),Z,()):=by
 unfold FH81_v1
 refine Eq.trans BR (gz fun l hp=>?_)
 have yL:l.length=Z.length:=hp.length_eq
 simp only [aA,BT]
 refine bind_eq (sr (m:=Z) (l:=l) (by rw [yL];exact hl) fun e n b hn=>?_) ?_
 ·simp only [gH81_v1f107f126_0i_0, aZ, aa, dG, au]
  rw [cg (show _<cu by rw [gT];simp;omega)]
  rfl
 ·simp only [FH105, xB]
  have hpk:(Z.map (·.1)).Perm (l.map (·.1)):=(hp.map (·.1)).symm
  have:=oM kS hpk (gJ.keys kS h) (by rw [List.length_map];omega)
  rw [List.length_map] at this
  rw [ah this,yL]
  rfl
theorem kB45 {m1:List (Mg×Bool)} {jh vs:List ByteArray} (hvl:vs.length<1000000) {m:Ss} :
  iter (fun x=>ak (gH45_0b_1 x)) (vs.length,((vs.length:Nat):Int),(0:Int),vs,bS c,bO c,cE c,c8 c,m1,jh,m,())=some (m1,bS c,bO c,cE c,c8 c,jh,vs,yA c vs m,()):=by
 refine aQ vs (fun k (m:Ss)=>(vs.length,((vs.length:Nat):Int),(k:Int),vs,bS c,bO c,cE c,c8 c,m1,jh,m,())) (fun m r=>(m1,bS c,bO c,cE c,c8 c,jh,vs,yA c r m,())) (fun _ _=>True) ?_ ?_ (s:=m) trivial
 ·intro pre v post nx hx _
  have hlen:vs.length=pre.length+(post.length+1):=by rw [hx];simp
  have hd:vs.getD pre.length (bs [])=v:=by rw [hx];exact bt rfl
  have i1:fu (pre.length:Int) ((vs.length:Nat):Int)=true:=bY (by omega) (by omega)
  have r1:gG .i64 ((pre.length:Int)+1)=true:=aL (by omega) (by omega)
  have d1:decide (pre.length<vs.length)=true:=decide_eq_true (by omega)
  left
  refine ⟨aU .str nx (msg c v).2.2.2.1 (),?_,trivial,rfl⟩
  simp only [gH45_0b_1,ay,bB,aZ,aS,aA,aa,Int.toNat_natCast,Nat.zero_add,hd,i1,d1,r1,au,bx,FH80,aJ]
  rw [if_pos (by omega)]
  rfl
 ·intro nx _
  simp only [gH45_0b_1,ay,aa,bx]
  rw [if_neg (by omega)]
  rfl
theorem kC45 {m1:List (Mg×Bool)} (hs:SI c) (hl:c.length≤60):iter (fun x=>ak (gH45_0i_0 x)) (c.length,((c.length:Nat):Int),(0:Int),c.map (·.1),bS c,bO c,cE c,c8 c,m1,[],()) =
  some (m1,bS c,bO c,cE c,c8 c,tN c (qc c) [],()):=by
 have yL:(c.map (·.1)).length=c.length:=List.length_map ..
 refine aQ c (fun k (m:Ss)=>(c.length,((c.length:Nat):Int),(k:Int),c.map (·.1),bS c,bO c,cE c,c8 c,m1,m,())) (fun m r=>(m1,bS c,bO c,cE c,c8 c,tN c ((r.filter fun m=>decide (m.2.1=1)).map (·.1)) m,())) (fun _ _=>True) ?_ ?_ (s:=[]) trivial
 ·rintro pre m post can hx _
  have hlen:c.length=pre.length+(post.length+1):=by rw [hx];simp
  have hm:m∈c:=by rw [hx];simp
  have hd:(c.map (·.1)).getD pre.length (bs [])=m.1:=by rw [hx,List.map_append,List.map_cons];exact bt (by simp)
  have hg:ax .str zM (bS c) m.1=m:=gu hs hm
  have i1:fu (pre.length:Int) ((c.length:Nat):Int)=true:=bY (by omega) (by omega)
  have r1:gG .i64 ((pre.length:Int)+1)=true:=aL (by omega) (by omega)
  have d1:decide (pre.length<(c.map (·.1)).length)=true:=decide_eq_true (by omega)
  left
  by_cases hk:m.2.1=1
  ·have him : k9 c m.1 = true := bG.2 (List.mem_map.2 ⟨m, hm, rfl⟩)
   have hkm:(msg c m.1).2.1=1:=by rw [gu hs hm];exact hk
   have hvl:(ij c m.1).length≤c.length:=mH hs (kW hs him hkm) (bG.1 him) .zero
   refine ⟨yA c (ij c m.1) can,?_,trivial,?_⟩
   ·simp only [gH45_0i_0, ay, bB, aZ, aS, aA, bM, aa, Int.toNat_natCast, Nat.zero_add, hd, hg, i1, d1, au, bx, bV]
    rw [if_pos (by omega),if_pos hk,ah (PM hs (by omega) (kW hs him hkm) (bG.1 him))]
    rw [ah (kB45 (vs:=ij c m.1) (by omega))]
    simp only [r1,au]
    rfl
   ·rw [List.filter_cons_of_pos (by simpa using hk)]
    rfl
  ·refine ⟨can, ?_, trivial, ?_⟩
   ·simp only [gH45_0i_0, ay, bB, aZ, aS, aA, bM, aa, Int.toNat_natCast, Nat.zero_add, hd, hg, i1, d1, r1, au, bx, bV]
    rw [if_pos (by omega),if_neg hk]
    rfl
   ·rw [List.filter_cons_of_neg (by simpa using hk)]
 ·rintro can _
  simp only [gH45_0i_0,ay,aa,bx]
  rw [if_neg (by omega)]
  rfl
theorem PW {vs:List ByteArray}:∀{m:Ss},(yA c vs m).length≤m.length+vs.length:=by
 induction vs with
 |nil=>exact Nat.le_refl _
 |cons v vs ih =>
  intro m
  have h1:=ih (m:=aU .str m (msg c v).2.2.2.1 ())
  have h2:=PV (m:=m) (k:=(msg c v).2.2.2.1)
  simp only [List.length_cons]
  exact Nat.le_trans h1 (by omega)
theorem Cs (hs:SI c) {t:ByteArray} (ht:t∈qc c):k9 c t=true∧(msg c t).2.1=1:=by
 obtain ⟨m,hm,rfl⟩:=List.mem_map.1 ht
 obtain ⟨h1,h2⟩:=List.mem_filter.1 hm
 exact ⟨bG.2 (List.mem_map.2 ⟨m,h1,rfl⟩),by rw [gu hs h1];simpa using h2⟩
theorem Cu:(qc c).length≤c.length:=by unfold qc;rw [List.length_map];exact List.length_filter_le ..
theorem Ju (hs:SI c) {t:ByteArray} (ht:k9 c t=true) (hk:(msg c t).2.1=1):(ij c t).length≤c.length:=mH hs (kW hs ht hk) (bG.1 ht) .zero
theorem yB (hs : SI c) : ∀ {ts : List ByteArray} {m : Ss}, (∀ t ∈ ts, k9 c t = true ∧ (msg c t).2.1 = 1) → (tN c ts m).length ≤ m.length + ts.length * c.length
 |[],m,_=>by simp [tN]
 |t::ts,m,h=>by
  have h1:=yB hs (ts:=ts) (m:=yA c (ij c t) m) fun t h'=>h t (List.mem_cons_of_mem _ h')
  have h2:=PW (c:=c) (vs:=ij c t) (m:=m)
  have h3:=Ju hs (h t (List.mem_cons_self ..)).1 (h t (List.mem_cons_self ..)).2
  have h4:(ts.length+1) * c.length=ts.length * c.length+c.length:=Nat.succ_mul ..
  simp only [List.length_cons,h4]
  exact Nat.le_trans h1 (by omega)
theorem ZY {L:List Mg} (h:lp L):ak (FH45 (bk L))=some ((qF (cnt L)).length,qF (cnt L),bk L,()):=by
 have hs:=eo L
 have hc:=jP h
 have hz:=yB hs (ts:=qc (cnt L)) (m:=[]) fun t ht=>Cs hs ht
 have hq:(qc (cnt L)).length * (cnt L).length≤60 * 60:=Nat.mul_le_mul (Nat.le_trans Cu hc) hc
 have hzl:(tN (cnt L) (qc (cnt L)) []).length<1000000000:=by simp only [List.length_nil] at hz;omega
 unfold FH45 gH45_0
 simp only [aA,Hf,aJ,ay,bq]
 rw [ah (PL h)]
 simp only [FH79,FH95,aa,aJ,bM]
 rw [ah (Uc hs (by omega))]
 refine bind_eq (bind_eq (kC45 hs hc) rfl) ?_
 simp only [FH82,FH108,aA,aa,aJ]
 rw [ah (Us (PU .nil) hzl)]
 unfold qF
 rw [List.length_map]
theorem ZZ {Z:Zs} (h:∃z,vE Z z):0<Z.length:=by
 obtain ⟨z,hz⟩:=h
 exact List.length_pos_of_mem hz
theorem Jv (hs : SI c) {t : ByteArray} (ht : QA c t) (CJ : t ∈ ids c) : ∀ {n d : Nat} {x : ByteArray}, gY c t d x → d + n = c.length → cB c (n + 1) x ≠ []
 |0,d,x,hp,hd=>by have:=hp.short hs ht CJ;omega
 |n+1,d,x,hp,hd=>by
  unfold cB
  split
  ·simp
  ·rename_i k l hl
   intro h
   have h1:=(ej (t:=.str) ((k::l).flatMap (cB c (n+1)))).length_eq
   rw [show oz .str ((k::l).flatMap (cB c (n+1)))=[] from h] at h1
   have h2:=Jv hs ht CJ (n:=n) (hp.step (vC (by rw [hl];exact List.mem_cons_self ..))) (by omega)
   have h3:0<(cB c (n+1) k).length:=List.length_pos_iff.2 h2
   rw [List.flatMap_cons,List.length_append] at h1
   simp only [List.length_nil] at h1
   omega
theorem Z0 (hs:SI c) {t:ByteArray} (ht:k9 c t=true∧(msg c t).2.1=1):ij c t≠[]:=Jv hs (kW hs ht.1 ht.2) (bG.1 ht.1) .zero (by omega)
theorem Jw (hs : SI c) {f : ByteArray → Int} : ∀ {ts : List ByteArray} {can : Zs}, (∀ t ∈ ts, k9 c t = true ∧ (msg c t).2.1 = 1) → (∃ z, vE can z) → ∃ z, vE (jQ c f ts can) z
 |[],_,_,h=>h
 |t::ts,can,ht,h=>Jw hs (ts:=ts) (fun t h=>ht t (List.mem_cons_of_mem _ h)) (PS h (Z0 hs (ht t (List.mem_cons_self ..))))
theorem Jx (hs:SI c) {f:ByteArray→Int}:0<(kX c f).length:=by
 unfold kX
 rw [List.length_map]
 exact ZZ (Jw hs (fun t ht=>Cs hs ht) ⟨0,(dN.2 0).2 rfl⟩)
theorem Ut (hs:SI c) (hl:c.length≤60) {f:ByteArray→Int} (hB:Wc c f):BZ 60000 (jQ c f (qc c) eW):=by
 have key:∀(ts:List ByteArray) (can:Zs) (B:Int),(∀t∈ts,k9 c t=true∧(msg c t).2.1=1)→BZ B can→BZ (B+1000 * ts.length) (jQ c f ts can):=by
  intro ts
  induction ts with
  |nil=>intro can B _ h;simpa [jQ] using h
  |cons t ts ih =>
   intro can B ht h
   have h1:=ht t (List.mem_cons_self ..)
   have:=ih (jJ f can (ij c t)) (B+1000) (fun t h=>ht t (List.mem_cons_of_mem _ h)) (sy h fun v hv=>hB t v h1.1 h1.2 hv)
   intro z hz
   have:=this z hz
   simp only [List.length_cons]
   omega
 have h1:=key (qc c) eW 0 (fun t ht=>Cs hs ht) (fun z hz=>by rw [(dN.2 z).1 hz];simp)
 have hle:=Cu (c:=c)
 intro z hz
 have:=h1 z hz
 omega
theorem yC (hs:SI c) (hl:c.length≤60) {f:ByteArray→Int} (hB:Wc c f):(kX c f).length<1000000:=by
 have:=Hl (B:=60000) (vF dN.1) (by simpa using Ut hs hl hB)
 unfold kX
 rw [List.length_map]
 omega
theorem Z1 {L:List Mg} (h:lp L):ak (FH37 (bk L))=some (tK (cnt L),0,bk L,()):=by
 have hs:=eo L
 have hc:=jP h
 have hB:=bndT hs (vG h)
 unfold FH37
 simp only [aA,Hf,aJ,ay,bq]
 rw [ah (PL h)]
 simp only
 rw [ah (Ur hs hc hB)]
 simp only [List.drop_zero,List.take_length]
 rw [ah (k72 (Jx hs) (by have:=yC hs hc hB;omega))]
 rfl
theorem kH25 {L:List Mg} (h:lp L) {a:ByteArray} (ha:Sh a):ak (FH25 a (bk L))=some ((Jt (cnt L) a).1,(Jt (cnt L) a).2,bk L,()):=by
 have hs:=eo L
 have hc:=jP h
 have hB:=ZX hs (vG h) a
 unfold FH25
 simp only [aA]
 rw [ah (PO h ha)]
 simp only [ay,cA,bV,aa,List.drop_zero,List.take_length]
 unfold Jt
 by_cases h0:(jv (cnt L) a).2=0
 ·rw [if_pos h0, if_pos h0]
  have h1:(jv (cnt L) a).1=kX (cnt L) (fA (cnt L) a):=by
   revert h0
   unfold jv
   split
   ·intro _;rfl
   ·intro h;cases h
  rw [h1,aA,ah (k72 (Jx hs) (by have:=yC hs hc hB;omega))]
  rfl
 ·rw [if_neg h0,if_neg h0]
theorem k36 {l l':List ByteArray} (hl:l.length<1000000000):ak (F36 l l')=some (decide (l=l'),()):=by
 by_cases hn:l.length=l'.length
 ·have hi:iter (fun a=>run (fun _=>none) (g36_0 a)) (l,l',(0:Int),())=some (if l=l'.drop 0 then Sum.inr () else Sum.inl ()):=by
   refine aQ l (fun k (_:Nat)=>(l,l',(k:Int),())) (fun k r=>if r=l'.drop k then Sum.inr () else Sum.inl ()) (fun pre k=>k=pre.length) ?_ ?_ (s:=0) rfl
   ·rintro pre x post k hx rfl
    have hlen:l.length=pre.length+(post.length+1):=by rw [hx];simp
    have hlt:pre.length<l'.length:=by omega
    have hd:l.getD pre.length (bs [])=x:=by rw [hx];exact bt rfl
    have hd':l'.getD pre.length (bs [])=l'[pre.length]:=by rw [List.getD_eq_getElem?_getD,List.getElem?_eq_getElem hlt];rfl
    have i1:fu (pre.length:Int) ((l.length:Nat):Int)=true:=bY (by omega) (by omega)
    have i2:fu (pre.length:Int) ((l'.length:Nat):Int)=true:=bY (by omega) (by omega)
    have r1:gG .i64 ((pre.length:Int)+1)=true:=aL (by omega) (by omega)
    simp only [g36_0,ay,bB,aS,aa,Int.toNat_natCast,hd,hd',i1,i2,r1,au,bx,seq_eq,cA]
    rw [if_pos (by omega),List.drop_eq_getElem_cons hlt]
    by_cases h:x=l'[pre.length]
    ·left
     refine ⟨pre.length+1,?_,by simp,?_⟩
     ·rw [if_pos h];rfl
     ·rw [h];simp only [List.cons.injEq,true_and]
    ·right
     rw [if_neg h,if_neg (fun e=>h (List.cons.inj e).1)]
   ·rintro k rfl
    simp only [g36_0,ay,bx,aa]
    rw [if_neg (by omega),if_pos (by rw [hn,List.drop_length])]
  unfold F36
  simp only [ay,aA,bM,cA,bV]
  rw [if_pos (by omega),ah hi,List.drop_zero]
  by_cases h:l=l'
  ·rw [if_pos h];simp only [lZ,aa,h,decide_true]
  ·rw [if_neg h];simp only [qw,aa,h,decide_false]
 ·unfold F36
  simp only [ay,cA,bV,aa]
  rw [if_neg (by omega),decide_eq_false fun e=>hn (by rw [e])]
theorem k27 {l l':List Int} (hl:l.length<1000000000):ak (F27 l l')=some (decide (l=l'),()):=by
 by_cases hn:l.length=l'.length
 ·have hi:iter (fun a=>run (fun _=>none) (g27_0 a)) (l,l',(0:Int),())=some (if l=l'.drop 0 then Sum.inr () else Sum.inl ()):=by
   refine aQ l (fun k (_:Nat)=>(l,l',(k:Int),())) (fun k r=>if r=l'.drop k then Sum.inr () else Sum.inl ()) (fun pre k=>k=pre.length) ?_ ?_ (s:=0) rfl
   ·rintro pre x post k hx rfl
    have hlen:l.length=pre.length+(post.length+1):=by rw [hx];simp
    have hlt:pre.length<l'.length:=by omega
    have hd:l.getD pre.length (0:Int)=x:=by rw [hx];exact bt rfl
    have hd':l'.getD pre.length (0:Int)=l'[pre.length]:=by rw [List.getD_eq_getElem?_getD,List.getElem?_eq_getElem hlt];rfl
    have i1:fu (pre.length:Int) ((l.length:Nat):Int)=true:=bY (by omega) (by omega)
    have i2:fu (pre.length:Int) ((l'.length:Nat):Int)=true:=bY (by omega) (by omega)
    have r1:gG .i64 ((pre.length:Int)+1)=true:=aL (by omega) (by omega)
    simp only [g27_0,ay,bB,aS,aa,Int.toNat_natCast,hd,hd',i1,i2,r1,au,bx,cA,bV]
    rw [if_pos (by omega),List.drop_eq_getElem_cons hlt]
    by_cases h:x=l'[pre.length]
    ·left
     refine ⟨pre.length+1,?_,by simp,?_⟩
     ·rw [if_pos h];rfl
     ·rw [h];simp only [List.cons.injEq,true_and]
    ·right
     rw [if_neg h,if_neg (fun e=>h (List.cons.inj e).1)]
   ·rintro k rfl
    simp only [g27_0,ay,bx,aa]
    rw [if_neg (by omega),if_pos (by rw [hn,List.drop_length])]
  unfold F27
  simp only [ay,aA,bM,cA,bV]
  rw [if_pos (by omega),ah hi,List.drop_zero]
  by_cases h:l=l'
  ·rw [if_pos h];simp only [lZ,aa,h,decide_true]
  ·rw [if_neg h];simp only [qw,aa,h,decide_false]
 ·unfold F27
  simp only [ay,cA,bV,aa]
  rw [if_neg (by omega),decide_eq_false fun e=>hn (by rw [e])]
end
end Go.Proofs.Tryz
end
section
namespace Go.Proofs.Tryz
open Go.AM
set_option maxRecDepth 100000
def XL:List Mg:=[(bs [116,49],1,bs [],bs [97,110,97],40),(bs [116,50],1,bs [],bs [98,101,110],25),(bs [99,49],2,bs [116,49],bs [97,110,97],42),(bs [99,50],2,bs [116,49],bs [99,121],40),(bs [99,51],2,bs [99,49],bs [97,110,97],41),(bs [119,49],2,bs [120,57],bs [98,101,110],5),(bs [114,49],3,bs [99,49],bs [],0),(bs [114,50],3,bs [99,50],bs [],0)]
theorem k46:ak F46=some (XL,()):=by
 unfold F46
 simp only [aA,F50,F42,F39,aa,aJ]
 rfl
def L6:List Mg:=bE ((XL.drop (Int.toNat 0)).take (Int.toNat 6 - Int.toNat 0))
def L7:List Mg:=bE ((XL.drop (Int.toNat 0)).take (Int.toNat 7 - Int.toNat 0))
def L8:List Mg:=bE XL
theorem x1:iw (cnt L6) (bs [116,49])=([bs [99,50],bs [99,51]],0):=by kernel_rfl
theorem x2:jv (cnt L6) (bs [97,110,97])=([0,41],0):=by kernel_rfl
theorem x3:jv (cnt L7) (bs [97,110,97])=([41],0):=by kernel_rfl
theorem x4:tK (cnt L6)=(65,66):=by kernel_rfl
theorem x5:Jt (cnt L8) (bs [99,121])=((0,40),0):=by kernel_rfl
theorem x6:qF (cnt L6)=[bs [97,110,97],bs [98,101,110],bs [99,121]]:=by kernel_rfl
theorem x7:dI (cnt L6) (bs [116,49])=(3,0):=by kernel_rfl
theorem x8:dI (cnt L6) (bs [116,50])=(4,0):=by kernel_rfl
theorem x9:dI (cnt L6) (bs [99,51])=(5,0):=by kernel_rfl
theorem x10:dI (cnt L6) (bs [119,49])=(1,0):=by kernel_rfl
theorem x11:dI (cnt L7) (bs [99,50])=(2,0):=by kernel_rfl
theorem x12:dI (cnt L7) (bs [99,51])=(4,0):=by kernel_rfl
theorem x13:dI (cnt L8) (bs [99,50])=(5,0):=by kernel_rfl
theorem x14:L8.length=8:=by kernel_rfl
instance (m:Mg):Decidable (Jl m):=by unfold Jl Sh;infer_instance
theorem aeQ:ak (FH29 ((XL.drop (Int.toNat 0)).take (Int.toNat 6 - Int.toNat 0)))=some (bk L6,()):=PF (by decide) (by decide +kernel)
theorem aeR:ak (FH29 ((XL.drop (Int.toNat 0)).take (Int.toNat 7 - Int.toNat 0)))=some (bk L7,()):=PF (by decide) (by decide +kernel)
theorem aeS:ak (FH29 XL)=some (bk L8,()):=PF (by decide) (by decide +kernel)
theorem o6:lp L6:=lp.told _
theorem o7:lp L7:=lp.told _
theorem o8:lp L8:=lp.told _
theorem xl:XL.length=8:=rfl
theorem PX:Sh (bs [97,110,97]):=by unfold Sh;decide +kernel
theorem aeT:Sh (bs [99,121]):=by unfold Sh;decide +kernel
theorem e1:ak (FH33 (bs [116,49]) (bk L6))=some (2,0,[bs [99,50],bs [99,51]],bk L6,()):=by rw [ZW o6,x1];rfl
theorem e2:ak (FH23 (bs [97,110,97]) (bk L6))=some (2,0,[0,41],bk L6,()):=by rw [PO o6 PX,x2];rfl
theorem e3:ak (FH23 (bs [97,110,97]) (bk L7))=some (1,0,[41],bk L7,()):=by rw [PO o7 PX,x3];rfl
theorem e4:ak (FH37 (bk L6))=some ((65,66),0,bk L6,()):=by rw [Z1 o6,x4]
theorem e5:ak (FH25 (bs [99,121]) (bk L8))=some ((0,40),0,bk L8,()):=by rw [kH25 o8 aeT,x5]
theorem e6:ak (FH45 (bk L6))=some (3,[bs [97,110,97],bs [98,101,110],bs [99,121]],bk L6,()):=by rw [ZY o6,x6];rfl
theorem e7:ak (F36 (([bs [99,50],bs [99,51]].drop 0).take 2) (([bs [99,50],bs [99,51]].drop 0).take 2))=some (true,()):=by rw [k36 (by decide)];rfl
theorem e8:ak (F27 ((([0,41]:List Int).drop 0).take 2) ((([0,41]:List Int).drop 0).take 2))=some (true,()):=by rw [k27 (by decide)];rfl
theorem e9:ak (F27 ((([41]:List Int).drop 0).take 1) ((([41]:List Int).drop 0).take 1))=some (true,()):=by rw [k27 (by decide)];rfl
theorem e10:ak (F36 (([bs [97,110,97],bs [98,101,110],bs [99,121]].drop 0).take 3) (([bs [97,110,97],bs [98,101,110],bs [99,121]].drop 0).take 3))=some (true,()):=by rw [k36 (by decide)];rfl
theorem e11:ak (FH40 (bs [116,49]) 3 (bk L6))=some (true,bk L6,()):=by rw [EZ o6,x7];rfl
theorem e12:ak (FH40 (bs [116,50]) 4 (bk L6))=some (true,bk L6,()):=by rw [EZ o6,x8];rfl
theorem e13:ak (FH40 (bs [99,51]) 5 (bk L6))=some (true,bk L6,()):=by rw [EZ o6,x9];rfl
theorem e14:ak (FH40 (bs [119,49]) 1 (bk L6))=some (true,bk L6,()):=by rw [EZ o6,x10];rfl
theorem e15:ak (FH40 (bs [99,50]) 2 (bk L7))=some (true,bk L7,()):=by rw [EZ o7,x11];rfl
theorem e16:ak (FH40 (bs [99,51]) 4 (bk L7))=some (true,bk L7,()):=by rw [EZ o7,x12];rfl
theorem e17:ak (FH40 (bs [99,50]) 5 (bk L8))=some (true,bk L8,()):=by rw [EZ o8,x13];rfl
theorem e18:ak (FH47 (bk L8))=some (8,L8,bk L8,()):=by rw [kH47 o8.s (by rw [x14];decide),x14]
theorem k17:ak F17=some (true,()):=by
 unfold F17
 simp only [aA,aZ,ay,aa,k46,aJ,aeQ,aeR,aeS,xl,e1,e2,e3,e4,e5,e6,e11,e12,e13,e14,e15,e16,e17,e18,bV]
 rw [cg (by decide),cg (by decide),cg (by decide),cg (by decide)]
 rw [if_pos trivial,if_pos trivial,if_pos trivial,if_pos trivial,if_pos trivial,ah e7]
 simp only [bK]
 rw [ah e8]
 simp only [bK]
 rw [ah e9]
 simp only [bK]
 rw [show (((65,66):Int×Int).1==65&&(((65,66):Int×Int).2==66&&true))=true from by decide,show (((0,40):Int×Int).1==0&&(((0,40):Int×Int).2==40&&true))=true from by decide]
 simp only [bK]
 rw [ah e10]
 simp only [bK]
 refine (cg (by decide)).trans ?_
 refine (cg (by decide)).trans ?_
 rfl
def mC:Mg:=(bs [99,49],2,bs [116,49],bs [97,110,97],43)
def L9:List Mg:=(iu L8 mC).2
theorem y1:(iu L8 mC).1=0:=by kernel_rfl
theorem y2:dI (cnt L9) (bs [114,49])=(0,18):=by kernel_rfl
theorem y3:iw (cnt L9) (bs [99,49])=([],18):=by kernel_rfl
theorem y4:dI (cnt L9) (bs [122,122])=(0,5):=by kernel_rfl
theorem y5:L9.length=9:=by kernel_rfl
theorem y6:dI (cnt L9) (bs [99,49])=(3,0):=by kernel_rfl
end Go.Proofs.Tryz
end
section
namespace Go.Proofs.Tryz
open Go.AM
set_option maxRecDepth 100000
abbrev Nu:=Int×Int×Int×Int
def U8 (z:Int):Prop:=0≤z∧z≤255
def Ln (x:Nu):Prop:=U8 x.1∧U8 x.2.1∧U8 x.2.2.1∧U8 x.2.2.2
theorem PY {z:Int} (h1:0≤z) (h2:z≤255):gG .u8 z=true:=by
 have e1:IntKind.u8.min=0:=by decide
 have e2:IntKind.u8.max=255:=by decide
 unfold gG
 rw [e1,e2]
 simp [h1,h2]
def jw (f n:Int):ByteArray:=uz [f+n]
theorem k43 {f n:Int} (h1:0≤f) (h2:0≤n) (h3:f+n≤255):ak (F43 f n)=some (jw f n,()):=by
 unfold F43
 simp only [aZ,aa]
 rw [gQ (PY h2 (by omega)),gQ (PY (by omega) h3)]
 rfl
def Uu (x:Nu):Int:=if Int.tmod x.1 8=Int.tmod x.2.1 8 then Int.tmod (Int.tmod x.2.1 8+1) 8 else Int.tmod x.2.1 8
def nP (x:Nu):Mg :=
 let i:=jw 97 (Int.tmod x.1 8)
 let a:=jw 120 (Int.tmod x.2.2.1 3)
 let n:=Int.tmod (Int.tdiv x.2.2.1 3) 12 - 3
 let k:=Int.tmod x.2.2.2 8
 if k=0∨k=1∨k=2 then (i,1,bs [],a,n) else if k=3 then (i,3,jw 97 (Uu x),bs [],0) else (i,2,jw 97 (Uu x),a,n)
theorem Fl {a:Int} (h:0≤a) (n:Int) (hn:0<n):0≤Int.tmod a n∧Int.tmod a n<n:=⟨Int.tmod_nonneg _ h,Int.tmod_lt_of_pos _ hn⟩
theorem Z2 {a:Int} (h:0≤a) (h2:a≤255):0≤Int.tdiv a 3∧Int.tdiv a 3≤255:=by
 rw [Int.tdiv_eq_ediv_of_nonneg h];omega
theorem n83:(!((8:Int)==0))=true∧(!((3:Int)==0))=true∧(!((12:Int)==0))=true:=by decide
theorem ln4 {a b c d:Int}:decide (0<[a,b,c,d].length)=true∧decide (1<[a,b,c,d].length)=true∧decide (2<[a,b,c,d].length)=true∧decide (3<[a,b,c,d].length)=true:=⟨rfl,rfl,rfl,rfl⟩
theorem gd4 {a b c d:Int}:[a,b,c,d].getD 0 0=a∧[a,b,c,d].getD 1 0=b∧[a,b,c,d].getD 2 0=c∧[a,b,c,d].getD 3 0=d:=⟨rfl,rfl,rfl,rfl⟩
theorem k44 {x:Nu} (h:Ln x):ak (F44 x)=some (nP x,()):=by
 obtain ⟨a,b,c,d⟩:=x
 obtain ⟨⟨a1,a2⟩,⟨b1,b2⟩,⟨c1,c2⟩,d1,d2⟩:=h
 simp only at a1 a2 b1 b2 c1 c2 d1 d2
 have ta:=Fl a1 8 (by omega)
 have tb:=Fl b1 8 (by omega)
 have tc:=Fl c1 3 (by omega)
 have td:=Fl d1 8 (by omega)
 have te:=Z2 c1 c2
 have tf:=Fl te.1 12 (by omega)
 have tg:=Fl (show 0≤Int.tmod b 8+1 by omega) 8 (by omega)
 have ra:=aL (z:=a) (by omega) (by omega)
 have rb:=aL (z:=b) (by omega) (by omega)
 have rc:=aL (z:=c) (by omega) (by omega)
 have rd:=aL (z:=d) (by omega) (by omega)
 have re:=aL (z:=Int.tdiv c 3) (by omega) (by omega)
 have rf:=aL (z:=Int.tmod (Int.tdiv c 3) 12 - 3) (by omega) (by omega)
 have rg:=aL (z:=Int.tmod b 8+1) (by omega) (by omega)
 unfold F44 nP Uu
 simp only [aZ,aS,ay,aA,aa,ln4.1,ln4.2.1,ln4.2.2.1,ln4.2.2.2,gd4.1,gd4.2.1,gd4.2.2.1,gd4.2.2.2,n83.1,n83.2.1,n83.2.2,au,ra,rb,rc,rd,re,rf,rg,bV]
 have q1:=k43 (f:=97) (n:=Int.tmod a 8) (by omega) (by omega) (by omega)
 have q2:=k43 (f:=97) (n:=Int.tmod b 8) (by omega) (by omega) (by omega)
 have q3:=k43 (f:=97) (n:=Int.tmod (Int.tmod b 8+1) 8) (by omega) (by omega) (by omega)
 have q4:=k43 (f:=120) (n:=Int.tmod c 3) (by omega) (by omega) (by omega)
 simp only [q1,q2,q3,q4,aJ]
 by_cases e:Int.tmod a 8=Int.tmod b 8
 ·simp only [if_pos e]
  by_cases e0:Int.tmod d 8=0
  ·simp only [e0,if_true,true_or]
  ·by_cases e1 : Int.tmod d 8 = 1
   ·simp [e1]
   ·by_cases e2 : Int.tmod d 8 = 2
    ·simp [e2]
    ·by_cases e3 : Int.tmod d 8 = 3
     ·simp [e3]
     ·simp [e0,e1,e2,e3]
 ·simp only [if_neg e]
  by_cases e0:Int.tmod d 8=0
  ·simp only [e0,if_true,true_or]
  ·by_cases e1 : Int.tmod d 8 = 1
   ·simp [e1]
   ·by_cases e2 : Int.tmod d 8 = 2
    ·simp [e2]
    ·by_cases e3 : Int.tmod d 8 = 3
     ·simp [e3]
     ·simp [e0,e1,e2,e3]
def bu (p:List Nu):List Mg:=(p.take 10).map nP
theorem mI (p:List Nu):(bu p).length≤10:=by unfold bu;rw [List.length_map,List.length_take];omega
theorem k28 {p:List Nu} (h:∀x∈p,Ln x):ak (F28 p)=some (bu p,()):=by
 have hi:iter (fun a=>run (fun _=>none) (g28_0 a)) (p,0,(0:Int),[],())=some ((bu p).length,bu p,()):=by
  have:=aQ (p.take 10) (fun k (o:List Mg)=>(p,o.length,(k:Int),o,())) (fun o r=>((o++r.map nP).length,o++r.map nP,())) (fun pre o=>o=pre.map nP) (f:=fun a=>run (fun _=>none) (g28_0 a)) (s:=[]) ?_ ?_ rfl
  ·simpa [bu] using this
  ·rintro pre x post _ hx rfl
   have hlen:(p.take 10).length=pre.length+(post.length+1):=by rw [hx];simp
   rw [List.length_take] at hlen
   have hd:p.getD pre.length ((0:Int),(0:Int),(0:Int),(0:Int))=x:=by
    have:(p.take 10).getD pre.length ((0:Int),(0:Int),(0:Int),(0:Int))=x:=by rw [hx];exact bt rfl
    rw [getD_take (by omega)] at this;exact this
   have hxm:x∈p:=List.mem_of_mem_take (i:=10) (by rw [hx];simp)
   have i1:fu (pre.length:Int) ((p.length:Nat):Int)=true:=bY (by omega) (by omega)
   have r1:gG .i64 ((pre.length:Int)+1)=true:=aL (by omega) (by omega)
   left
   refine ⟨(pre++[x]).map nP,?_,rfl,?_⟩
   ·simp only [g28_0, ay, bB, aA, aZ, aS, aa, Int.toNat_natCast, hd, i1, r1, au, bx]
    rw [if_pos (by omega),if_pos (by omega),ah (k44 (x:=(x.1,x.2.1,x.2.2.1,x.2.2.2)) (h x hxm))]
    rw [cg (show _<cu by rw [gT];simp;omega)]
    simp
    exact List.take_of_length_le (by simp)
   ·simp
  ·rintro _ rfl
   simp only [g28_0,ay,aa,bx]
   have:(p.take 10).length=min 10 p.length:=List.length_take
   by_cases h1:(((p.take 10).length:Nat):Int)<((p.length:Nat):Int)
   ·rw [if_pos h1,if_neg (by omega)];simp
   ·rw [if_neg h1];simp
 unfold F28
 simp only [aA,bM]
 rw [ah hi]
 simp only [aa,List.drop_zero,List.take_length]
theorem lt_size (f n:Int):(jw f n).size=1:=rfl
theorem yD (f n:Int):Sh (jw f n):=by unfold Sh;rw [lt_size];omega
theorem PZ:Sh (bs []):=by unfold Sh;decide
theorem aeV (x:Nu):Jl (nP x):=by
 unfold nP
 simp only
 split
 ·exact ⟨yD _ _,PZ,yD _ _⟩
 ·split
  ·exact ⟨yD _ _,yD _ _,PZ⟩
  ·exact ⟨yD _ _,yD _ _,yD _ _⟩
end Go.Proofs.Tryz
end
section
namespace Go.Proofs.Tryz
open Go.AM
set_option maxRecDepth 100000
theorem P0 {l:List Int} (h:∀z∈l,0≤z∧z≤255):eY (uz l)=l:=by
 unfold eY uz
 rw [List.map_map]
 conv=>rhs;rw [←List.map_id l]
 refine List.map_congr_left fun z hz=>?_
 have:=h z hz
 simp only [Function.comp_apply,id]
 rw [UInt8.toNat_ofNat']
 omega
theorem Ho {f n:Int} (h1:0≤f+n) (h2:f+n≤255):eY (jw f n)=[f+n]:=P0 fun z hz=>by
 rw [List.mem_singleton] at hz;subst hz;exact ⟨h1,h2⟩
theorem Z3 {f n m:Int} (h1:0≤f+n) (h2:f+n≤255) (h3:0≤f+m) (h4:f+m≤255) (e:jw f n=jw f m):n=m:=by
 have:=congrArg eY e
 rw [Ho h1 h2,Ho h3 h4] at this
 have:=(List.cons.inj this).1
 omega
theorem Cv {f n:Int} (h1:97≤f+n) (h2:f+n≤122):ek (jw f n)=true:=by
 unfold ek
 rw [Ho (by omega) (by omega),lt_size]
 simp [Ua,ym,h1,h2]
theorem E2:Cp [0,0]=0:=by decide
theorem We {x:Nu} (h:Ln x):0≤Uu x∧Uu x<8∧Int.tmod x.1 8≠Uu x:=by
 obtain ⟨⟨a1,a2⟩,⟨b1,b2⟩,_⟩:=h
 have ta:=Fl a1 8 (by omega)
 have tb:=Fl b1 8 (by omega)
 have tg:=Fl (show 0≤Int.tmod x.2.1 8+1 by omega) 8 (by omega)
 unfold Uu
 split
 ·rename_i e
  refine ⟨tg.1,tg.2,?_⟩
  rw [e,Int.tmod_eq_emod_of_nonneg (by omega:0≤Int.tmod x.2.1 8+1)]
  omega
 ·rename_i e
  exact ⟨tb.1,tb.2,e⟩
theorem P3 {x:Nu} (h:Ln x):qa (nP x)=0:=by
 have ho:=We h
 obtain ⟨⟨a1,a2⟩,⟨b1,b2⟩,⟨c1,c2⟩,d1,d2⟩:=h
 have ta:=Fl a1 8 (by omega)
 have tc:=Fl c1 3 (by omega)
 have te:=Z2 c1 c2
 have tf:=Fl te.1 12 (by omega)
 have n1:ek (jw 97 (Int.tmod x.1 8))=true:=Cv (by omega) (by omega)
 have n2:ek (jw 97 (Uu x))=true:=Cv (by omega) (by omega)
 have n3:ek (jw 120 (Int.tmod x.2.2.1 3))=true:=Cv (by omega) (by omega)
 have n4:jw 97 (Uu x)≠jw 97 (Int.tmod x.1 8):=fun e=>ho.2.2 (Z3 (by omega) (by omega) (by omega) (by omega) e).symm
 have n5 : -1000≤Int.tmod (Int.tdiv x.2.2.1 3) 12 - 3∧Int.tmod (Int.tdiv x.2.2.1 3) 12 - 3≤1000:=by omega
 unfold nP
 simp only
 split
 ·simp [qa,nN,lM,n1,n3,n5,E2]
 ·split
  ·simp [qa,nN,lM,n1,n2,n4,E2]
  ·simp [qa,nN,lM,n1,n2,n3,n4,n5,E2]
theorem Cw {L:List Mg} {m:Mg} (hc:qa m=0) (hl:L.length+1≤60):iu L m=(0,oL L m):=by
 unfold iu
 have:=yp (L:=L) (m:=m)
 rw [if_pos hc,if_neg (by omega)]
def Gd (l:List Mg):Prop:=∀m∈l,qa m=0
theorem E3 : ∀ {l L : List Mg}, lp L → Gd l → L.length + l.length ≤ 60 → ∀ x, x ∈ l.foldl (fun L m => (iu L m).2) L ↔ x ∈ L ∨ x ∈ l
 |[],L,_,_,_,x=>by simp
 |m::l,L,h,hg,hl,x=>by
  rw [List.length_cons] at hl
  have hc:=hg m (List.mem_cons_self ..)
  have ht:=Cw (L:=L) hc (by omega)
  have h2:=h.tell m
  rw [ht] at h2
  have:=yp (L:=L) (m:=m)
  rw [List.foldl_cons,ht,E3 h2 (fun z hz=>hg z (List.mem_cons_of_mem _ hz)) (by simp only;omega)]
  simp only [mF h.s,List.mem_cons]
  constructor
  ·rintro ((h | h) | h)
   ·exact .inr (.inl h)
   ·exact .inl h
   ·exact .inr (.inr h)
  ·rintro (h | h | h)
   ·exact .inl (.inr h)
   ·exact .inl (.inl h)
   ·exact .inr h
theorem oR {l:List Mg} (hg:Gd l) (hl:l.length≤60) (x:Mg):x∈bE l↔x∈l:=by
 have:=E3 lp.nil hg (by simpa using hl) x
 simpa [bE] using this
theorem vH {p:List Nu} (h:∀x∈p,Ln x):Gd (bu p):=fun m hm=>by
 obtain ⟨x,hx,rfl⟩:=List.mem_map.1 hm
 exact P3 (h x (List.mem_of_mem_take hx))
theorem Jy (p:List Nu):∀m∈bu p,Jl m:=fun m hm=>by
 obtain ⟨x,hx,rfl⟩:=List.mem_map.1 hm
 exact aeV x
theorem kT {L:List Mg} (h:lp L) {m:Mg} (hm:Jl m) (hc:qa m=0) (hl:L.length+1≤60):ak (FH20 (m.1,m.2.1,m.2.2.1,m.2.2.2.1,m.2.2.2.2) (bk L))=some (0,bk (oL L m),()):=by
 have:=kH20 h.s h.len hm
 rw [Cw hc hl] at this
 exact this
theorem Z4 {L:List Mg} (h:lp L) {m:Mg} (hc:qa m=0) (hl:L.length+1≤60):lp (oL L m):=by
 have:=h.tell m
 rwa [Cw hc hl] at this
end Go.Proofs.Tryz
end
section
namespace Go.Proofs.Tryz
open Go.AM
set_option maxRecDepth 100000
theorem SL.nd {L:List Mg} (h:SL L):L.Nodup:=List.Pairwise.imp (fun {a b} h e=>by subst e;rw [gW kM] at h;cases h) h
def jy:List ByteArray:=[bs [120],bs [121],bs [122]]
def gZ:List ByteArray:=[bs [97],bs [98],bs [99],bs [100],bs [101],bs [102],bs [103],bs [104]]
theorem Cy:∀a∈jy,Sh a:=by unfold jy Sh;decide
theorem P4 {L:List Mg} (h:lp L) (a:ByteArray):(jv (cnt L) a).1.length<1000000000:=by
 unfold jv
 split
 ·have := yC (eo L) (jP h) (ZX (eo L) (vG h) a)
  simp only;omega
 ·simp
abbrev B2:=List (Mg×Bool)×List (Mg×Bool)×Unit
theorem kH41 {L L':List Mg} (h:lp L) (h':lp L') (ht:∀a∈jy,jv (cnt L) a=jv (cnt L') a) (hs:tK (cnt L)=tK (cnt L')) :
  ak (FH41 (bk L) (bk L'))=some (true,bk L,bk L',()):=by
 have hit:iter (fun x=>ak (gH41_0 x)) (jy,((jy.length:Nat):Int),(0:Int),bk L,bk L',())=some (Sum.inr (bk L,bk L',()):B2 ⊕ B2):=by
  refine aQ jy (fun k (_:Unit)=>(jy,((jy.length:Nat):Int),(k:Int),bk L,bk L',())) (fun _ _=>(Sum.inr (bk L,bk L',()):B2 ⊕ B2)) (fun _ _=>True) ?_ ?_ (s:=()) trivial
  ·intro pre a post _ hx _
   have hlen:jy.length=pre.length+(post.length+1):=by rw [hx];simp
   have h3:jy.length=3:=rfl
   have ha:a∈jy:=by rw [hx];simp
   have hd:jy.getD pre.length (bs [])=a:=by rw [hx];exact bt rfl
   have i1:fu (pre.length:Int) ((jy.length:Nat):Int)=true:=bY (by omega) (by omega)
   have r1:gG .i64 ((pre.length:Int)+1)=true:=aL (by omega) (by omega)
   left
   refine ⟨(),?_,trivial,rfl⟩
   simp only [gH41_0,ay,bB,aS,aA,aa,Int.toNat_natCast,hd,i1,r1,au,bx]
   rw [if_pos (by omega),ah (PO h (Cy a ha))]
   simp only
   rw [ah (PO h' (Cy a ha))]
   simp only [List.drop_zero,List.take_length]
   rw [ah (k27 (P4 h a)),ht a ha]
   simp only [decide_true,Bool.not_true,bq,beq_self_eq_true]
   rfl
  ·intro _ _
   simp only [gH41_0,ay,aa,bx]
   rw [if_neg (by omega)]
 unfold FH41 F38
 simp only [aA,aa,aJ,bM]
 refine Eq.trans (ah hit) ?_
 simp only [lZ,aA,ay,aa]
 rw [ah (Z1 h)]
 simp only
 rw [ah (Z1 h'),hs]
 simp
theorem Lp {L:List Mg} (h:lp L) (x:ByteArray):(iw (cnt L) x).1.length<1000000000:=by
 have hs:=eo L
 have hc:=jP h
 unfold iw
 split
 ·rename_i h1
  split
  ·rename_i h2
   have:=Ju hs h1 h2
   simp only;omega
  ·simp
 ·simp
theorem P5 {L:List Mg} (h:lp L):(qF (cnt L)).length<1000000000:=by
 have hs:=eo L
 have hc:=jP h
 have hz:=yB hs (ts:=qc (cnt L)) (m:=[]) fun t ht=>Cs hs ht
 have hq:(qc (cnt L)).length * (cnt L).length≤60 * 60:=Nat.mul_le_mul (Nat.le_trans Cu hc) hc
 unfold qF
 rw [List.length_map]
 simp only [List.length_nil] at hz;omega
end Go.Proofs.Tryz
end
section
namespace Go.Proofs.Tryz
open Go.AM
set_option maxRecDepth 100000
end Go.Proofs.Tryz
end
section
namespace Go.Proofs.Tryz
open Go.AM
set_option maxRecDepth 100000
abbrev u8T:Ty:=.int .u8
abbrev nuT:Ty:=.prod u8T (.prod u8T (.prod u8T u8T))
theorem Jz {z:Int} (h:Wf u8T z):U8 z:=by
 have e1:IntKind.u8.min=0:=by decide
 have e2:IntKind.u8.max=255:=by decide
 simp only [Wf,e1,e2] at h
 exact h
theorem Wg {x:Nu} (h:Wf nuT x):Ln x:=⟨Jz h.1,Jz h.2.1,Jz h.2.2.1,Jz h.2.2.2⟩
end Go.Proofs.Tryz
end
section
namespace Go.Proofs.Tryz
open Go.AM
set_option maxRecDepth 100000
def sev (m:Mg):Mg:=if m.2.1=3 then m else (m.1,m.2.1,m.2.2.1,m.2.2.2.1,7)
structure KS where
 met:List (ByteArray×Bool)
 out:List Mg
 s:Int
def Nv (z:KS) (m:Mg):KS:=if ax .str false z.met m.1=true then z else ⟨aU .str z.met m.1 true,z.out++[sev m],if m.2.1=1 then z.s+7 else z.s⟩
structure KI (z:KS):Prop where
 cam:gJ .str z.met
 met:∀x,ax .str false z.met x=true↔x∈z.out.map (·.1)
 nd:(z.out.map (·.1)).Nodup
 gd:Gd z.out
 sh:∀m∈z.out,Jl m
 am:∀m∈z.out,m.2.1≠3→m.2.2.2.2=7
 s:z.s=7 * ((z.out.filter fun m=>decide (m.2.1=1)).length:Int)
def only (Z:Zs) (y:Int):Prop:=CZ Z∧∀z,vE Z z↔z=y
end Go.Proofs.Tryz
end
section
namespace Go.Proofs.Tryz
open Go.AM
set_option maxRecDepth 100000
section
variable {c:List Mg}
def Lq (c:List Mg) (x:ByteArray):Bool:=c.any fun m=>decide (m.1=x∧m.2.1≠3)
def jf (c:List Mg) (x:Mg):Bool:=Lq c x.2.2.1 && !dg c x.1&&decide ((c.filter fun m=>decide (m.2.1=2∧m.2.2.1=x.2.2.1∧m.1≠x.1∧dg c m.1=true)).length=1)
theorem Uv (hs:SI c) {x:ByteArray}:Lq c x=true↔k9 c x=true∧(msg c x).2.1≠3:=by
 unfold Lq
 rw [List.any_eq_true]
 constructor
 ·rintro ⟨m, hm, h⟩
  obtain ⟨rfl,h3⟩:=of_decide_eq_true h
  exact ⟨bG.2 (List.mem_map.2 ⟨m,hm,rfl⟩),by rw [gu hs hm];exact h3⟩
 ·rintro ⟨h1, h3⟩
  obtain ⟨h4,h5⟩:=pG hs h1
  exact ⟨msg c x,h4,decide_eq_true ⟨h5,h3⟩⟩
theorem JA (hs:SI c) (x:ByteArray):Uf c x=Lq c x:=by
 rw [Bool.eq_iff_iff,Uv hs]
 unfold Uf
 rw [Bool.and_eq_true,Bool.not_eq_true',beq_eq_false_iff_ne]
 exact Iff.rfl
theorem tO {m:Mg} (hm:m∈c) (h:m.2.1=2):m.1∈kids c m.2.2.1:=je.2 ⟨m,hm,rfl,h,rfl⟩
theorem P6 (hs:SI c) {x:Mg} (hx:x∈c) (hk:x.2.1=2):jf c x=true↔x.1∈dir c (x.2.2.1,kids c x.2.2.1):=by
 have hxk:=tO hx hk
 have hlen:dg c x.1=false→(c.filter fun m=>decide (m.2.1=2∧m.2.2.1=x.2.2.1∧m.1≠x.1∧dg c m.1=true)).map (·.1)=(kids c x.2.2.1).filter (dg c):=by
  intro hr
  unfold kids
  rw [List.filter_map,List.filter_filter]
  refine congrArg (List.map _) (List.filter_congr fun m hm=>?_)
  rw [Bool.eq_iff_iff]
  simp only [Function.comp_apply,Bool.and_eq_true,decide_eq_true_eq]
  constructor
  ·rintro ⟨h1,h2,_,h4⟩;exact ⟨h4,h1,h2⟩
  ·rintro ⟨h4, h1, h2⟩
   exact ⟨h1,h2,(fun e=>by rw [e,hr] at h4;cases h4),h4⟩
 unfold jf dir
 rw [←JA hs]
 simp only [Bool.and_eq_true,Bool.not_eq_true',decide_eq_true_eq]
 constructor
 ·rintro ⟨⟨h1, h2⟩, h3⟩
  rw [if_pos h1]
  have h4:=hlen h2
  have h5:((kids c x.2.2.1).filter (dg c)).length=1:=by rw [←h4,List.length_map];exact h3
  obtain ⟨o,ho⟩:=List.length_eq_one_iff.1 h5
  rw [ho]
  refine List.mem_filter.2 ⟨hxk,?_⟩
  have h6:dg c o=true:=(List.mem_filter.1 (show o∈(kids c x.2.2.1).filter (dg c) by rw [ho];exact List.mem_singleton.2 rfl)).2
  simp only [Bool.not_eq_true',decide_eq_false_iff_not]
  intro e;rw [e,h6] at h2;cases h2
 ·intro h
  split at h
  ·rename_i h1
   split at h
   ·rename_i o ho
    obtain ⟨_,h2⟩:=List.mem_filter.1 h
    simp only [Bool.not_eq_true',decide_eq_false_iff_not] at h2
    have hr:dg c x.1=false:=by
     cases hr:dg c x.1 with
     |false=>rfl
     |true =>
      have:x.1∈(kids c x.2.2.1).filter (dg c):=List.mem_filter.2 ⟨hxk,hr⟩
      rw [ho,List.mem_singleton] at this
      exact absurd this h2
    have h4:=congrArg List.length (hlen hr)
    rw [List.length_map,ho] at h4
    exact ⟨⟨h1,hr⟩,h4⟩
   ·cases h
  ·cases h
def par (c:List Mg) (m:Mg):Option Mg:=c.find? fun x=>decide (x.1=m.2.2.1∧x.2.1≠3)
def way (c : List Mg) : Nat → Mg → List Mg
 |0,_=>[]
 |n+1,m=>m::(if m.2.1=1 then [] else match par c m with|some x=>way c n x|none=>[])
theorem vI {m x:Mg} (h:par c m=some x):x∈c∧x.1=m.2.2.1∧x.2.1≠3:=by
 have h1:=List.find?_some h
 have h2:=List.mem_of_find?_eq_some h
 exact ⟨h2,(of_decide_eq_true h1).1,(of_decide_eq_true h1).2⟩
theorem P7 (hs:SI c) {m x:Mg} (hx:x∈c) (h1:x.1=m.2.2.1) (h3:x.2.1≠3):par c m=some x:=by
 cases h:par c m with
 |none =>
  have:=List.find?_eq_none.1 h x hx
  exact absurd (decide_eq_true ⟨h1,h3⟩) this
 |some y =>
  obtain ⟨h4,h5,_⟩:=vI h
  rw [hs.inj h4 hx (by rw [h5,h1])]
end
end Go.Proofs.Tryz
end
section
namespace Go.Proofs.Tryz
open Go.AM
set_option maxRecDepth 100000
set_option maxHeartbeats 1000000
theorem aeX {c aV:List Mg} {v5 v6:Bool} {v7 kU aI:Int} {v50 TY TZ v59:ByteArray} {v53 v60:Bool} (hc:c.length<1000000000) (y x:Mg) :
  iter (fun a=>ak (g77_1 a)) (c,v5,v6,v7,false,aV,kU,aI,v50,TY,v53,TZ,v59,v60,c,((c.length:Nat):Int),(0:Int),y.1,y.2.1,y.2.2.1,y.2.2.2.1,y.2.2.2.2,x.1,x.2.1,x.2.2.1,x.2.2.2.1,x.2.2.2.2,()) =
   some (c,v5,v6,v7,dg c x.1,aV,kU,aI,v50,TY,v53,TZ,v59,v60,y.1,y.2.1,y.2.2.1,y.2.2.2.1,y.2.2.2.2,()):=by
 refine aQ c (fun k (b : Bool) => (c, v5, v6, v7, b, aV, kU, aI, v50, TY, v53, TZ, v59, v60, c, ((c.length : Nat) : Int), (k : Int), y.1, y.2.1, y.2.2.1, y.2.2.2.1, y.2.2.2.2, x.1, x.2.1, x.2.2.1, x.2.2.2.1, x.2.2.2.2, ()))
  (fun b r=>(c,v5,v6,v7,b||dg r x.1,aV,kU,aI,v50,TY,v53,TZ,v59,v60,y.1,y.2.1,y.2.2.1,y.2.2.2.1,y.2.2.2.2,())) (fun _ _=>True) ?_ ?_ (s:=false) trivial
 ·intro pre z post b hz _
  have hlen:c.length=pre.length+(post.length+1):=by rw [hz];simp
  have hd:c.getD pre.length (bs [],(0:Int),bs [],bs [],(0:Int))=z:=by rw [hz];exact bt rfl
  have i1:fu (pre.length:Int) ((c.length:Nat):Int)=true:=bY (by omega) (by omega)
  have r1:gG .i64 ((pre.length:Int)+1)=true:=aL (by omega) (by omega)
  left
  refine ⟨b||decide (z.2.1=3∧z.2.2.1=x.1),?_,trivial,by simp only [dg,List.any_cons,Bool.or_assoc]⟩
  simp only [g77_1,ay,bB,aS,aa,Int.toNat_natCast,hd,i1,r1,au,bx,bV,seq_eq]
  rw [if_pos (by omega)]
  cases b
  ·rw [bq]
   by_cases h3:z.2.1=3
   ·rw [if_pos h3];simp [h3]
   ·rw [if_neg h3];simp [h3]
  ·rw [bK];simp
 ·intro b _
  simp only [g77_1,ay,aa,bx]
  rw [if_neg (by omega)]
  simp [dg]
def yE (c:List Mg) (y:Mg) (s:Bool×Bool×Nat) (z:Mg):Bool×Bool×Nat :=
 (s.1||decide (z.1=y.2.2.1∧z.2.1≠3),s.2.1||decide (z.2.1=3∧z.2.2.1=y.1),if z.2.1=2∧z.2.2.1=y.2.2.1∧z.1≠y.1∧dg c z.1=true then s.2.2+1 else s.2.2)
theorem E4 (c : List Mg) (y : Mg) : ∀ (l : List Mg) (s : Bool × Bool × Nat), l.foldl (yE c y) s = (s.1 || Lq l y.2.2.1, s.2.1 || dg l y.1, s.2.2 + (l.filter fun m => decide (m.2.1 = 2 ∧ m.2.2.1 = y.2.2.1 ∧ m.1 ≠ y.1 ∧ dg c m.1 = true)).length)
 |[],s=>by simp [Lq,dg]
 |z::l,s=>by
  rw [List.foldl_cons,E4 c y l]
  unfold yE Lq dg
  simp only [List.any_cons,Bool.or_assoc,List.filter_cons,decide_eq_true_eq]
  congr 2
  split<;>simp<;>omega
theorem k77 {c:List Mg} (hc:c.length<1000000000) (y:Mg):ak (F77 c y)=some (jf c y,()):=by
 have hit:iter (fun a=>ak (g77_0 a)) (c,false,false,(0:Int),c,((c.length:Nat):Int),(0:Int),y.1,y.2.1,y.2.2.1,y.2.2.2.1,y.2.2.2.2,()) =
   some ((c.foldl (yE c y) (false,false,0)).1,(c.foldl (yE c y) (false,false,0)).2.1,(((c.foldl (yE c y) (false,false,0)).2.2:Nat):Int),()):=by
  refine aQ c (fun k (s : Bool × Bool × Nat) => (c, s.1, s.2.1, ((s.2.2 : Nat) : Int), c, ((c.length : Nat) : Int), (k : Int), y.1, y.2.1, y.2.2.1, y.2.2.2.1, y.2.2.2.2, ()))
   (fun s r=>((r.foldl (yE c y) s).1,(r.foldl (yE c y) s).2.1,(((r.foldl (yE c y) s).2.2:Nat):Int),())) (fun pre s=>s.2.2≤pre.length) ?_ ?_ (s:=(false,false,0)) (Nat.le_refl _)
  ·rintro pre z post ⟨a, b, n⟩ hz hn
   have hlen:c.length=pre.length+(post.length+1):=by rw [hz];simp
   have hd:c.getD pre.length (bs [],(0:Int),bs [],bs [],(0:Int))=z:=by rw [hz];exact bt rfl
   have i1:fu (pre.length:Int) ((c.length:Nat):Int)=true:=bY (by omega) (by omega)
   have r1:gG .i64 ((pre.length:Int)+1)=true:=aL (by omega) (by omega)
   simp only at hn
   have r2:gG .i64 ((n:Int)+1)=true:=aL (by omega) (by omega)
   left
   refine ⟨yE c y (a,b,n) z,?_,?_,rfl⟩
   ·unfold yE
    simp only [g77_0,ay,bB,aS,aa,aA,bM,Int.toNat_natCast,hd,i1,r1,au,cA,seq_eq,aeX hc,aJ,kG]
    rw [if_pos (show decide ((pre.length:Int)<((c.length:Nat):Int))=true from decide_eq_true (by omega))]
    generalize hk:z.2.1=k
    generalize hi:z.1=i
    generalize ho:z.2.2.1=o
    have hr0:dg c z.1=dg c i:=by rw [hi]
    by_cases h3:k=3
    ·have h2 : k ≠ 2 := by omega
     rcases Classical.propComplete (i=y.2.2.1) with h1|h1<;>cases a<;>cases b<;>simp [h3,h1]
    ·by_cases h2 : k = 2
     ·rcases Classical.propComplete (i=y.2.2.1) with h1|h1<;>rcases Classical.propComplete (o=y.2.2.1) with h4|h4<;>rcases Classical.propComplete (i=y.1) with h5|h5<;>cases hr:dg c i<;>cases a<;>cases b<;>simp [h2,h1,h4,h5,r2]
     ·rcases Classical.propComplete (i=y.2.2.1) with h1|h1<;>cases a<;>cases b<;>simp [h2,h3,h1]
   ·have : (pre ++ [z]).length = pre.length + 1 := by simp
    rw [this]
    unfold yE
    simp only
    split<;>omega
  ·rintro s _
   simp only [g77_0,ay,aa,bx]
   rw [if_neg (by omega)]
   rfl
 unfold F77
 simp only [aA,bM]
 rw [ah hit,E4]
 simp only [ay,aa,cA,kG,Bool.false_or,Nat.zero_add]
 have hN:∀n:Nat,(((n:Nat):Int)==1)=decide (n=1):=fun n=>by
  rw [Bool.eq_iff_iff,beq_iff_eq,decide_eq_true_eq];omega
 unfold jf
 rw [hN]
 cases Lq c y.2.2.1<;>cases dg c y.1<;>simp
theorem aeY {c b1:List Mg} {zo:Nat} {v6:Bool} {v7:Int} (hc:c.length<1000000000) (y:Mg) :
  iter (fun a=>ak (g34_1 a)) (c,zo,v6,v7,c,((c.length:Nat):Int),(0:Int),y.1,y.2.1,y.2.2.1,y.2.2.2.1,y.2.2.2.2,b1,()) =
   some (match par c y with|some x=>(c,zo,v6,v7,true,x.1,x.2.1,x.2.2.1,x.2.2.2.1,x.2.2.2.2,b1,())|none=>(c,zo,v6,v7,false,y.1,y.2.1,y.2.2.1,y.2.2.2.1,y.2.2.2.2,b1,())):=by
 refine aQ c (fun k (_ : Unit) => (c, zo, v6, v7, c, ((c.length : Nat) : Int), (k : Int), y.1, y.2.1, y.2.2.1, y.2.2.2.1, y.2.2.2.2, b1, ()))
  (fun _ r=>match par r y with|some x=>(c,zo,v6,v7,true,x.1,x.2.1,x.2.2.1,x.2.2.2.1,x.2.2.2.2,b1,())|none=>(c,zo,v6,v7,false,y.1,y.2.1,y.2.2.1,y.2.2.2.1,y.2.2.2.2,b1,())) (fun _ _=>True) ?_ ?_ (s:=()) trivial
 ·intro pre z post _ hz _
  have hlen:c.length=pre.length+(post.length+1):=by rw [hz];simp
  have hd:c.getD pre.length (bs [],(0:Int),bs [],bs [],(0:Int))=z:=by rw [hz];exact bt rfl
  have i1:fu (pre.length:Int) ((c.length:Nat):Int)=true:=bY (by omega) (by omega)
  have r1:gG .i64 ((pre.length:Int)+1)=true:=aL (by omega) (by omega)
  by_cases h:z.1=y.2.2.1∧z.2.1≠3
  ·right
   have hp:par (z::post) y=some z:=by unfold par;rw [List.find?_cons_of_pos];simpa using h
   rw [hp]
   simp only [g34_1,ay,bB,aS,aa,Int.toNat_natCast,hd,i1,r1,au,bx,bV,cA,seq_eq]
   rw [if_pos (by omega),if_pos h.1,if_neg h.2]
  ·left
   have hp:par (z::post) y=par post y:=by unfold par;rw [List.find?_cons_of_neg];simpa using h
   refine ⟨(),?_,trivial,by rw [hp]⟩
   simp only [g34_1,ay,bB,aS,aa,Int.toNat_natCast,hd,i1,r1,au,bx,bV,cA,seq_eq]
   rw [if_pos (by omega)]
   by_cases h1:z.1=y.2.2.1
   ·rw [if_pos h1,if_pos (Classical.byContradiction fun h3=>h ⟨h1,h3⟩)];rfl
   ·rw [if_neg h1];rfl
 ·intro _ _
  simp only [g34_1,ay,aa,bx]
  rw [if_neg (by omega)]
  rfl
def fq (c : List Mg) : Nat → Mg → Bool → List Mg × Bool × Bool
 |0,_,o=>([],false,o)
 |n+1,m,o=>if m.2.1=1 then ([m],!o,o) else match par c m with
  |some x=>(m::(fq c n x (o||jf c m)).1,(fq c n x (o||jf c m)).2)
  |none=>([m],false,o||jf c m)
theorem Wh {c:List Mg} (hc:c.length<1000000):∀(n k:Nat) (m:Mg) (pre:List Mg) (o:Bool),k+n=9→pre.length≤k →
  (iter (fun a=>ak (g34_0 a)) (c,pre.length,o,(k:Int),m.1,m.2.1,m.2.2.1,m.2.2.2.1,m.2.2.2.2,pre,())=some (.inl ((pre++(fq c n m o).1).length,(fq c n m o).2.1,(fq c n m o).2.2,pre++(fq c n m o).1,()))) ∨
  (iter (fun a=>ak (g34_0 a)) (c,pre.length,o,(k:Int),m.1,m.2.1,m.2.2.1,m.2.2.2.1,m.2.2.2.2,pre,())=some (.inr ((pre++(fq c n m o).1).length,(fq c n m o).2.2,pre++(fq c n m o).1,()))∧(fq c n m o).2.1=false)
 |0,k,m,pre,o,hk,hp=>by
  right
  refine ⟨fM ?_,rfl⟩
  simp only [g34_0,ay,aa,bx]
  rw [if_neg (by omega)]
  simp [fq]
 |n+1,k,m,pre,o,hk,hp=>by
  have e1:((([(m.1,m.2.1,m.2.2.1,m.2.2.2.1,m.2.2.2.2)]:List Mg).drop 0).take 1)=[m]:=rfl
  have e2:(pre.drop 0).take pre.length=pre:=by simp
  have d1:decide (pre.length+1<cu)=true:=decide_eq_true (by rw [gT];omega)
  have r1:gG .i64 ((k:Int)+1)=true:=aL (by omega) (by omega)
  have ZV:pre.length+1=(pre++[m]).length:=by simp
  have h77:=k77 (show c.length<1000000000 by omega) m
  have h341:=fun o=>aeY (c:=c) (b1:=pre++[m]) (zo:=pre.length+1) (v6:=o) (v7:=(k:Int)) (by omega) m
  by_cases h1:m.2.1=1
  ·left
   have Mf:fq c (n+1) m o=([m],!o,o):=by unfold fq;rw [if_pos h1]
   rw [Mf]
   refine fM ?_
   simp only [g34_0,ay,aZ,aa,bx,bV,e1,e2,List.length_singleton,d1,au]
   rw [if_pos (by omega),if_pos h1,ZV]
  ·have hs:∀o',o'=(o||jf c m)→ak (g34_0 (c,pre.length,o,(k:Int),m.1,m.2.1,m.2.2.1,m.2.2.2.1,m.2.2.2.2,pre,()))=(match par c m with
     |some x=>some (.inl (c,pre.length+1,o',((k+1:Nat):Int),x.1,x.2.1,x.2.2.1,x.2.2.2.1,x.2.2.2.2,pre++[m],()))
     |none=>some (.inr (.inl (pre.length+1,false,o',pre++[m],())))):=by
    rintro o' rfl
    simp only [g34_0,ay,aZ,aa,aA,bM,aS,bx,bV,e1,e2,List.length_singleton,d1,au]
    rw [if_pos (by omega),if_neg h1]
    cases o
    ·rw [bq, ah (show ak (F77 c (m.1, m.2.1, m.2.2.1, m.2.2.2.1, m.2.2.2.2)) = _ from h77)]
     simp only
     rw [ah (h341 (jf c m))]
     simp only [Bool.false_or]
     cases hp:par c m with
     |none=>simp only [Bool.not_false,bK]
     |some x=>simp only [Bool.not_true,bq,r1,au];rfl
    ·rw [bK, ah (h341 true)]
     simp only [Bool.true_or]
     cases hp:par c m with
     |none=>simp only [Bool.not_false,bK]
     |some x=>simp only [Bool.not_true,bq,r1,au];rfl
   have hs:=hs _ rfl
   cases Qn:par c m with
   |none =>
    rw [Qn] at hs
    left
    have Mf:fq c (n+1) m o=([m],false,o||jf c m):=by conv=>lhs;unfold fq;rw [if_neg h1,Qn]
    rw [Mf]
    refine fM ?_
    rw [←ZV];exact hs
   |some x =>
    rw [Qn] at hs
    have Mf:fq c (n+1) m o=(m::(fq c n x (o||jf c m)).1,(fq c n x (o||jf c m)).2):=by conv=>lhs;unfold fq;rw [if_neg h1,Qn]
    rw [Mf]
    have ih:=Wh hc n (k+1) x (pre++[m]) (o||jf c m) (by omega) (by simp;omega)
    rw [←ZV] at ih
    simp only [List.append_assoc,List.singleton_append] at ih
    rcases ih with ih|⟨ih,h⟩
    ·left;exact ku hs ih
    ·right;exact ⟨ku hs ih,h⟩
theorem k34 {c:List Mg} (hc:c.length<1000000) (m:Mg):ak (F34 c m)=some ((fq c 9 m false).1,(fq c 9 m false).2.1,(fq c 9 m false).2.2,()):=by
 unfold F34
 simp only [aA,bM]
 rcases Wh hc 9 0 m [] false rfl (Nat.le_refl _) with h|⟨h,hf⟩
 ·refine Eq.trans (ah h) ?_
  simp only [qw,aa,List.nil_append,List.drop_zero,List.take_length]
 ·refine Eq.trans (ah h) ?_
  rw [hf]
  simp only [lZ,aa,List.nil_append,List.drop_zero,List.take_length]
theorem Z5 {c:List Mg} {n:Nat} {m:Mg} {o:Bool}:(fq c (n+1) m o).1≠[]:=by
 unfold fq
 split
 ·simp
 ·split<;>simp
end Go.Proofs.Tryz
end
section
namespace Go.Proofs.Tryz
open Go.AM
set_option maxRecDepth 100000
section
variable {c:List Mg}
def AK (c:List Mg):Prop:=∀m∈c,m.2.1=1∨m.2.1=2∨m.2.1=3
def Tk (c:List Mg) (t:ByteArray):Prop:=∃m∈c,m.1=t∧m.2.1=1
def NR (c:List Mg) (t:ByteArray):Prop:=∃m∈c,m.1=t∧m.2.1≠3
theorem vJ (hs:SI c) {m:Mg} (hm:m∈c) {y:ByteArray} (h:m.1∈kids c y):m.2.1=2∧m.2.2.1=y:=by
  obtain ⟨m',hm',e,h2,h3⟩:=je.1 h
  rw [hs.inj hm' hm e] at h2 h3;exact ⟨h2,h3⟩
theorem Tk.top (hs:SI c) {t:ByteArray} (h:Tk c t):QA c t:=by
  obtain ⟨m,hm,rfl,h1⟩:=h
  intro x hx
  have:=(vJ hs hm hx).1
  omega
theorem Tk.ids {t:ByteArray} (h:Tk c t):t∈ids c:=by obtain ⟨m,hm,rfl,_⟩:=h;exact List.mem_map.2 ⟨m,hm,rfl⟩
theorem Tk.nr {t:ByteArray} (h:Tk c t):NR c t:=by obtain ⟨m,hm,rfl,h1⟩:=h;exact ⟨m,hm,rfl,by omega⟩
theorem JB {x y:ByteArray} (h:y∈kids c x):NR c y:=by
  obtain ⟨m,hm,rfl,h2,_⟩:=je.1 h;exact ⟨m,hm,rfl,by omega⟩
theorem cH {x z:ByteArray} {n:Nat} (h:gY c x n z):(n=0∧z=x)∨∃k y,n=k+1∧gY c x k y∧z∈kids c y:=by
  cases h with
  |zero=>exact .inl ⟨rfl,rfl⟩
  |step h hz=>exact .inr ⟨_,_,rfl,h,hz⟩
theorem vK {n:Nat} {x y:ByteArray} (h:gY c x n y) (hx:x∈ids c):y∈ids c:=by
  rcases cH h with ⟨_,rfl⟩|⟨_,_,_,_,hz⟩
  · exact hx
  · exact fU hz
theorem Hp {n:Nat} {x y:ByteArray} (h:gY c x n y) (hx:NR c x):NR c y:=by
  rcases cH h with ⟨_,rfl⟩|⟨_,_,_,_,hz⟩
  · exact hx
  · exact JB hz
theorem vL {x : ByteArray} : ∀ {b a : Nat} {z : ByteArray}, gY c x (a + b) z → ∃ y, gY c x a y ∧ gY c y b z
  |0,_,z,h=>⟨z,h,.zero⟩
  |b+1,a,z,h=>by
    rcases cH h with ⟨h0,_⟩|⟨k,y,hk,h1,hz⟩
    · omega
    · obtain rfl : k = a + b := by omega
      obtain ⟨w,h2,h3⟩:=vL h1
      exact ⟨w,h2,.step h3 hz⟩
theorem Lr {y x:ByteArray} (hy:y∈ids c) (d:Nat):gY c y d x→∃d',d'<c.length∧gY c y d' x:=by
  induction d using Nat.strongRecOn with
  |_ d ih =>
    intro h
    by_cases hd:d<c.length
    · exact ⟨d,hd,h⟩
    · have hex : ∀ i, i ≤ d → ∃ z, gY c y (d - i) z ∧ gY c z i x := fun i hi => vL (b := i) (a := d - i) (by rw [Nat.sub_add_cancel hi]; exact h)
      have hex2:∀i,∃z,i≤d→gY c y (d - i) z∧gY c z i x:=fun i=>by
        by_cases hi:i≤d
        · obtain ⟨z,hz⟩:=hex i hi;exact ⟨z,fun _=>hz⟩
        · exact ⟨y,fun h=>absurd h hi⟩
      obtain ⟨f,hf⟩:=Classical.axiomOfChoice hex2
      by_cases lX:∃i j,i<j∧j≤d∧f i=f j
      · obtain ⟨i, j, hij, hj, e⟩ := lX
        have h1:=(hf j hj).1
        have h2:=(hf i (by omega)).2
        rw [e] at h2
        exact ih (d - j+i) (by omega) (h1.add h2)
      · have hnd:((List.range (d+1)).map f).Nodup:=by
          unfold List.Nodup
          rw [List.pairwise_map]
          refine List.Pairwise.imp_of_mem ?_ List.pairwise_lt_range
          intro a b ha hb hab e
          exact lX ⟨a,b,hab,by have:=List.mem_range.1 hb;omega,e⟩
        have := List.Nodup.length_le_of_subset hnd (l₂ := ids c) (by
          intro z hz
          obtain ⟨i,hi,rfl⟩:=List.mem_map.1 hz
          exact vK (hf i (by have:=List.mem_range.1 hi;omega)).1 hy)
        have hl:(ids c).length=c.length:=by simp [ids]
        simp at this
        omega
theorem JC (hs:SI c) (hk:AK c):∀(n:Nat) {m:Mg} {o:Bool},m∈c→m.2.1≠3 →
    ((fq c n m o).2.2=true↔o=true∨∃d,d<n∧∃p y,y∈dir c (p,kids c p)∧gY c y d m.1)
  |0,m,o,_,_=>by simp [fq]
  |n+1,m,o,hm,h3=>by
    by_cases h1:m.2.1=1
    · have e : fq c (n + 1) m o = ([m], !o, o) := by unfold fq; rw [if_pos h1]
      rw [e]
      refine ⟨.inl,?_⟩
      rintro (h|⟨d,_,p,y,hy,hp⟩)
      · exact h
      · have ht : QA c m.1 := Tk.top hs ⟨m, hm, rfl, h1⟩
        rcases cH hp with ⟨_,e⟩|⟨_,_,_,_,hz⟩
        · rw [←e] at hy;exact absurd (lP hy) (ht _)
        · exact absurd hz (ht _)
    · have h2 : m.2.1 = 2 := by rcases hk m hm with h | h | h <;> omega
      have hS:=P6 hs hm h2
      have zJ:∀p y,y∈dir c (p,kids c p)→m.1=y→jf c m=true:=fun p y hy e=>by
        have h4:=lP hy
        rw [←e] at h4 hy
        rw [hS,(vJ hs hm h4).2];exact hy
      cases hp:par c m with
      |none =>
        have e:fq c (n+1) m o=([m],false,o||jf c m):=by conv=>lhs;unfold fq;rw [if_neg h1,hp]
        rw [e]
        simp only [Bool.or_eq_true]
        constructor
        · rintro (h | h)
          · exact .inl h
          · exact .inr ⟨0,by omega,_,_,hS.1 h,.zero⟩
        · rintro (h | ⟨d, hd, p, y, hy, hpt⟩)
          · exact .inl h
          · rcases cH hpt with ⟨_, e⟩ | ⟨k, z, _, h4, hz⟩
            · exact .inr (zJ p y hy e)
            · obtain ⟨x, hx, h5, h6⟩ := Hp h4 (JB (lP hy))
              rw [P7 hs hx (by rw [h5];exact (vJ hs hm hz).2.symm) h6] at hp
              cases hp
      |some x =>
        have e:fq c (n+1) m o=(m::(fq c n x (o||jf c m)).1,(fq c n x (o||jf c m)).2):=by conv=>lhs;unfold fq;rw [if_neg h1,hp]
        rw [e]
        obtain ⟨hx,hx1,Dx⟩:=vI hp
        have ih:=JC hs hk n (o:=o||jf c m) hx Dx
        rw [ih,Bool.or_eq_true]
        have jR:m.1∈kids c x.1:=by rw [hx1];exact tO hm h2
        constructor
        · rintro ((h | h) | ⟨d, hd, p, y, hy, hpt⟩)
          · exact .inl h
          · exact .inr ⟨0,by omega,_,_,hS.1 h,.zero⟩
          · exact .inr ⟨d+1,by omega,p,y,hy,.step hpt jR⟩
        · rintro (h | ⟨d, hd, p, y, hy, hpt⟩)
          · exact .inl (.inl h)
          · rcases cH hpt with ⟨_, e⟩ | ⟨k, z, hk', h4, hz⟩
            · exact .inl (.inr (zJ p y hy e))
            · rw [vB hs hz jR] at h4
              exact .inr ⟨k,by omega,p,y,hy,h4⟩
theorem JD (hs:SI c) (hk:AK c):∀(n:Nat) {m:Mg} {o:Bool},m∈c→m.2.1≠3 →
    ((fq c n m o).2.1=true↔(fq c n m o).2.2=false∧∃d,d<n∧∃t,Tk c t∧gY c t d m.1)
  |0,m,o,_,_=>by simp [fq]
  |n+1,m,o,hm,h3=>by
    by_cases h1:m.2.1=1
    · have e : fq c (n + 1) m o = ([m], !o, o) := by unfold fq; rw [if_pos h1]
      rw [e]
      simp only [Bool.not_eq_true']
      exact ⟨fun h=>⟨h,0,by omega,m.1,⟨m,hm,rfl,h1⟩,.zero⟩,fun h=>h.1⟩
    · have h2 : m.2.1 = 2 := by rcases hk m hm with h | h | h <;> omega
      have zJ:∀t,Tk c t→m.1=t→False:=fun t ht e=>ht.top hs m.2.2.1 (show t∈kids c m.2.2.1 by rw [←e];exact tO hm h2)
      cases hp:par c m with
      |none =>
        have e:fq c (n+1) m o=([m],false,o||jf c m):=by conv=>lhs;unfold fq;rw [if_neg h1,hp]
        rw [e]
        simp only [Bool.false_eq_true,false_iff]
        rintro ⟨_,d,hd,t,ht,hpt⟩
        rcases cH hpt with ⟨_,e⟩|⟨k,z,_,h4,hz⟩
        · exact zJ t ht e
        · obtain ⟨x, hx, h5, h6⟩ := Hp h4 ht.nr
          rw [P7 hs hx (by rw [h5];exact (vJ hs hm hz).2.symm) h6] at hp
          cases hp
      |some x =>
        have e:fq c (n+1) m o=(m::(fq c n x (o||jf c m)).1,(fq c n x (o||jf c m)).2):=by conv=>lhs;unfold fq;rw [if_neg h1,hp]
        rw [e]
        obtain ⟨hx,hx1,Dx⟩:=vI hp
        have jR:m.1∈kids c x.1:=by rw [hx1];exact tO hm h2
        rw [JD hs hk n (o:=o||jf c m) hx Dx]
        refine and_congr_right fun _=>?_
        constructor
        · rintro ⟨d, hd, t, ht, hpt⟩
          exact ⟨d+1,by omega,t,ht,.step hpt jR⟩
        · rintro ⟨d, hd, t, ht, hpt⟩
          rcases cH hpt with ⟨_,e⟩|⟨k,z,hk',h4,hz⟩
          · exact (zJ t ht e).elim
          · rw [vB hs hz jR] at h4
            exact ⟨k,by omega,t,ht,h4⟩
theorem Ls {m:Mg} {l:List Mg} (h:l≠[]):(m::l).getD ((m::l).length - 1) zM=l.getD (l.length - 1) zM:=by
  cases l with
  |nil=>exact absurd rfl h
  |cons a l=>rfl
theorem E5 (hs:SI c) (hk:AK c):∀(n:Nat) {m:Mg} {o:Bool},m∈c→m.2.1≠3→(fq c n m o).2.1=true →
    Tk c ((fq c n m o).1.getD ((fq c n m o).1.length - 1) zM).1∧∃d,gY c ((fq c n m o).1.getD ((fq c n m o).1.length - 1) zM).1 d m.1
  |0,m,o,_,_,h=>by simp [fq] at h
  |n+1,m,o,hm,h3,h=>by
    by_cases h1:m.2.1=1
    · have e : fq c (n + 1) m o = ([m], !o, o) := by unfold fq; rw [if_pos h1]
      rw [e]
      exact ⟨⟨m,hm,rfl,h1⟩,0,.zero⟩
    · have h2 : m.2.1 = 2 := by rcases hk m hm with h | h | h <;> omega
      cases hp:par c m with
      |none =>
        have e:fq c (n+1) m o=([m],false,o||jf c m):=by conv=>lhs;unfold fq;rw [if_neg h1,hp]
        rw [e] at h;cases h
      |some x =>
        have e:fq c (n+1) m o=(m::(fq c n x (o||jf c m)).1,(fq c n x (o||jf c m)).2):=by conv=>lhs;unfold fq;rw [if_neg h1,hp]
        rw [e] at h ⊢
        obtain ⟨hx,hx1,Dx⟩:=vI hp
        have jR:m.1∈kids c x.1:=by rw [hx1];exact tO hm h2
        have hn:(fq c n x (o||jf c m)).1≠[]:=by
          cases n with
          |zero=>simp [fq] at h
          |succ n=>exact Z5
        rw [Ls hn]
        obtain ⟨q1,d,q2⟩:=E5 hs hk n hx Dx h
        exact ⟨q1,d+1,.step q2 jR⟩
theorem Uw {t:ByteArray} (ht:QA c t):dQ c t=false:=by
  cases h:dQ c t with
  |false=>rfl
  |true =>
    obtain ⟨p,y,hy,hd⟩:=gX.1 h
    obtain ⟨n,hp⟩:=hd.LM
    rcases cH hp with ⟨_,e⟩|⟨_,_,_,_,hz⟩
    · rw [←e] at hy;exact absurd (lP hy) (ht _)
    · exact absurd hz (ht _)
theorem P8 {x z:ByteArray} (h:dQ c z=false) (hz:z∈kids c x):dQ c x=false:=by
  cases h':dQ c x with
  |false=>rfl
  |true=>rw [Ug h' hz] at h;cases h
theorem JE {n:Nat} {x z:ByteArray} (hp:gY c x n z) (h:dQ c z=false):dQ c x=false:=by
  induction hp with
  |zero=>exact h
  |step _ hz ih=>exact ih (P8 h hz)
theorem JF (hs : SI c) (hk : AK c) : ∀ {n : Nat} {x t : ByteArray}, zq c n x = some t ↔ Tk c t ∧ dQ c x = false ∧ ∃ d, d < n ∧ gY c t d x
  |0,x,t=>by simp [zq]
  |n+1,x,t=>by
    unfold zq
    by_cases hm:k9 c x=true
    · rw [if_pos hm]
      obtain ⟨fK,hm2⟩:=pG hs hm
      by_cases h3:(msg c x).2.1=3
      · rw [if_pos h3]
        simp only [reduceCtorEq,false_iff]
        rintro ⟨ht,_,d,_,hp⟩
        obtain ⟨m,hm',e,h3'⟩:=Hp hp ht.nr
        have:=hs.inj hm' fK (by rw [e,hm2])
        rw [this] at h3'
        exact h3' h3
      · rw [if_neg h3]
        by_cases hst:dQ c x=true
        · rw [if_pos hst]
          simp only [reduceCtorEq,false_iff]
          rintro ⟨_,h,_⟩
          rw [h] at hst;cases hst
        · rw [if_neg hst]
          have hst:dQ c x=false:=by simpa using hst
          by_cases h1:(msg c x).2.1=1
          · rw [if_pos h1]
            have ht:Tk c x:=⟨_,fK,hm2,h1⟩
            constructor
            · intro e
              obtain rfl:=Option.some.inj e
              exact ⟨ht,hst,0,by omega,.zero⟩
            · rintro ⟨_, _, d, _, hp⟩
              rcases cH hp with ⟨_,e⟩|⟨_,_,_,_,hz⟩
              · rw [e]
              · exact absurd hz (ht.top hs _)
          · rw [if_neg h1, JF hs hk]
            have h2:(msg c x).2.1=2:=by rcases hk _ fK with h|h|h<;>omega
            have jR:x∈kids c (msg c x).2.2.1:=by have:=tO fK h2;rwa [hm2] at this
            constructor
            · rintro ⟨ht, _, d, hd, hp⟩
              exact ⟨ht,hst,d+1,by omega,.step hp jR⟩
            · rintro ⟨ht, _, d, hd, hp⟩
              rcases cH hp with ⟨_,e⟩|⟨k,z,hk',h4,hz⟩
              · exact absurd (by rw [←e];exact jR) (ht.top hs _)
              · rw [vB hs hz jR] at h4
                exact ⟨ht,P8 hst jR,k,by omega,h4⟩
    · rw [if_neg hm]
      simp only [reduceCtorEq,false_iff]
      rintro ⟨ht,_,d,_,hp⟩
      exact hm (bG.2 (vK hp ht.ids))
theorem eA (hs:SI c) (hk:AK c) {x t:ByteArray}:iL c x=some t↔Tk c t∧dQ c x=false∧∃d,gY c t d x:=by
  rw [JF hs hk]
  exact and_congr_right fun ht=>and_congr_right fun _=>⟨fun ⟨d,_,h⟩=>⟨d,h⟩,fun ⟨d,h⟩=>⟨d,h.short hs (ht.top hs) ht.ids,h⟩⟩
theorem Z6 (hs:SI c) {t t' x:ByteArray} {n m:Nat} (ht:Tk c t) (ht':Tk c t') (h:gY c t n x) (h':gY c t' m x):t=t':=by
  rcases Nat.le_total n m with hle|hle
  · rcases cH (h.up hs h' hle) with ⟨_, e⟩ | ⟨_, _, _, _, hz⟩
    · exact e
    · exact absurd hz (ht.top hs _)
  · rcases cH (h'.up hs h hle) with ⟨_, e⟩ | ⟨_, _, _, _, hz⟩
    · exact e.symm
    · exact absurd hz (ht'.top hs _)
theorem chn9 (hs:SI c) (hk:AK c) (hl:c.length≤9) {m:Mg} (hm:m∈c) (h3:m.2.1≠3) :
    (fq c 9 m false).2.2=dQ c m.1∧(fq c 9 m false).2.1=(iL c m.1).isSome∧∀t,iL c m.1=some t→((fq c 9 m false).1.getD ((fq c 9 m false).1.length - 1) zM).1=t:=by
  have ho:(fq c 9 m false).2.2=dQ c m.1:=by
    rw [Bool.eq_iff_iff,JC hs hk 9 hm h3,gX]
    simp only [Bool.false_eq_true,false_or]
    constructor
    · rintro ⟨d,_,p,y,hy,hp⟩;exact ⟨p,y,hy,hp.desc⟩
    · rintro ⟨p, y, hy, hd⟩
      obtain ⟨n,hp⟩:=hd.LM
      obtain ⟨d,hd,hp⟩:=Lr (fU (lP hy)) n hp
      exact ⟨d,by omega,p,y,hy,hp⟩
  have hst:(fq c 9 m false).2.1=(iL c m.1).isSome:=by
    rw [Bool.eq_iff_iff,JD hs hk 9 hm h3,Option.isSome_iff_exists,ho]
    simp only [eA hs hk]
    constructor
    · rintro ⟨h,d,_,t,ht,hp⟩;exact ⟨t,ht,h,d,hp⟩
    · rintro ⟨t, ht, h, d, hp⟩
      exact ⟨h,d,by have:=hp.short hs (ht.top hs) ht.ids;omega,t,ht,hp⟩
  refine ⟨ho,hst,fun t ht=>?_⟩
  obtain ⟨q1,d,q2⟩:=E5 hs hk 9 hm h3 (by rw [hst,ht];rfl)
  obtain ⟨h1,_,d',h2⟩:=(eA hs hk).1 ht
  exact Z6 hs q1 h1 q2 h2
def tP (c:List Mg) (x:ByteArray):Option ByteArray:=if gK c x=[] then iL c x else none
theorem AL {x t:ByteArray}:tP c x=some t↔gK c x=[]∧iL c x=some t:=by
  unfold tP;split<;>simp [*]
theorem Cz {x y:ByteArray}:y∈gK c x↔y∈kids c x∧dQ c y=false:=by
  unfold gK;rw [List.mem_filter];simp
theorem yF {y : ByteArray} : ∀ {n : Nat} {x : ByteArray}, dQ c x = false → (y ∈ cB c n x ↔ gK c y = [] ∧ dQ c y = false ∧ ∃ d, d < n ∧ gY c x d y)
  |0,x,_=>by simp [cB]
  |n+1,x,hx=>by
    unfold cB
    split
    · rename_i hl
      rw [List.mem_singleton]
      constructor
      · rintro rfl;exact ⟨hl,hx,0,by omega,.zero⟩
      · rintro ⟨_, h2, d, _, hp⟩
        cases d with
        | zero => rcases cH hp with ⟨_, e⟩ | ⟨_, _, h, _, _⟩
                  · exact e
                  · omega
        |succ d =>
          rw [Nat.add_comm] at hp
          obtain ⟨z,hz1,hz2⟩:=vL hp
          rcases cH hz1 with ⟨h,_⟩|⟨k,w,hk,hw,hzk⟩
          · omega
          · obtain rfl : k = 0 := by omega
            rcases cH hw with ⟨_,rfl⟩|⟨_,_,h,_,_⟩
            · have := Cz.2 ⟨hzk, JE hz2 h2⟩
              rw [hl] at this;cases this
            · omega
    · rename_i k l hl
      rw [(ej (t:=.str) _).mem_iff,List.mem_flatMap,←hl]
      constructor
      · rintro ⟨z, hz, h⟩
        obtain ⟨h1,h2⟩:=Cz.1 hz
        obtain ⟨h3,h4,d,hd,hp⟩:=(yF h2).1 h
        exact ⟨h3,h4,1+d,by omega,gY.add (.step .zero h1) hp⟩
      · rintro ⟨h3, h4, d, hd, hp⟩
        cases d with
        |zero =>
          rcases cH hp with ⟨_,e⟩|⟨_,_,h,_,_⟩
          · subst e;rw [hl] at h3;cases h3
          · omega
        |succ d =>
          rw [Nat.add_comm] at hp
          obtain ⟨z,hz1,hz2⟩:=vL hp
          rcases cH hz1 with ⟨h,_⟩|⟨k,w,hk,hw,hzk⟩
          · omega
          · obtain rfl : k = 0 := by omega
            rcases cH hw with ⟨_,rfl⟩|⟨_,_,h,_,_⟩
            · have hsz := JE hz2 h4
              exact ⟨z,Cz.2 ⟨hzk,hsz⟩,(yF hsz).2 ⟨h3,h4,d,by omega,hz2⟩⟩
            · omega
theorem CA (hs:SI c) (hk:AK c) {t y:ByteArray} (ht:Tk c t):y∈ij c t↔tP c y=some t:=by
  unfold ij
  rw [yF (Uw (ht.top hs)),AL,eA hs hk]
  refine and_congr_right fun _=>?_
  constructor
  · rintro ⟨h,d,_,hp⟩;exact ⟨ht,h,d,hp⟩
  · rintro ⟨_,h,d,hp⟩;exact ⟨h,d,by have:=hp.short hs (ht.top hs) ht.ids;omega,hp⟩
theorem lR (x:ByteArray):slt x x=false:=gW (t:=.str) kS x
theorem JG {x y:ByteArray} (h:slt x y=true) (h':slt y x=true):False:=dx (t:=.str) kS h h'
theorem Ux {l l':List ByteArray} (h:l.Pairwise fun a b=>slt a b=true) (h':l'.Pairwise fun a b=>slt a b=true) (hm:∀x,x∈l↔x∈l'):l=l' :=
  kV (r:=fun a b=>slt a b=true) (fun a h=>by rw [lR] at h;cases h) (fun a b h1 h2=>JG h1 h2) h h' hm
theorem yG {l:List ByteArray} (h:Au .str l) (hn:l.Nodup):l.Pairwise fun a b=>slt a b=true:=by
  refine List.Pairwise.imp₂ (fun a b h1 h2=>?_) h hn
  cases hlt:slt a b with
  |true=>rfl
  |false=>exact absurd (gB (t:=.str) kS hlt h1) h2
theorem E6 : ∀ {n : Nat} {x : ByteArray}, Au .str (cB c n x)
  |0,_=>.nil
  |n+1,x=>by
    unfold cB
    split
    · exact List.pairwise_singleton _ _
    · exact pz (t:=.str) kS _
end
end Go.Proofs.Tryz
end
section
namespace Go.Proofs.Tryz
open Go.AM
set_option maxRecDepth 100000
set_option maxHeartbeats 1000000
def tQ (x:ByteArray) (b z:Mg):Mg:=if z.1=x∧(b.2.1=0∨fW tM z b=true) then z else b
def ic (l:List Mg) (x:ByteArray):Mg:=l.foldl (tQ x) zM
def kY (l:List Mg) (r:List ByteArray):List Mg:=(r.map (ic l)).filter fun m=>decide (0<m.2.1)
theorem dltM {z b:Mg} (h:z.1=b.1):fW tM z b=(decide (z.2.1<b.2.1)||(decide (z.2.1=b.2.1)&&(slt z.2.2.1 b.2.2.1||(decide (z.2.2.1=b.2.2.1)&&(slt z.2.2.2.1 b.2.2.2.1||(decide (z.2.2.2.1=b.2.2.2.1)&&decide (z.2.2.2.2<b.2.2.2.2))))))):=by
 have e:fW tM z b=(slt z.1 b.1||(dJ .str z.1 b.1&&(decide (z.2.1<b.2.1)||((z.2.1==b.2.1)&&(slt z.2.2.1 b.2.2.1||(dJ .str z.2.2.1 b.2.2.1&&(slt z.2.2.2.1 b.2.2.2.1||(dJ .str z.2.2.2.1 b.2.2.2.1&&decide (z.2.2.2.2<b.2.2.2.2))))))))):=rfl
 rw [e,h,lR,vw,vw,vw]
 simp only [decide_true,Bool.false_or,Bool.true_and]
 congr 2
theorem k31:ak F31=some (gZ,()):=rfl
def BS (x:ByteArray) (l:List Mg) (b:Mg):Prop:=(b=zM∧∀m∈l,m.1≠x)∨(b∈l∧b.1=x∧∀m∈l,m.1=x→m=b∨fW tM b m=true)
theorem AN {x : ByteArray} : ∀ {l pre : List Mg} {b : Mg}, (∀ m ∈ pre ++ l, 1 ≤ m.2.1) → BS x pre b → BS x (pre ++ l) (l.foldl (tQ x) b)
 |[],pre,b,_,h=>by simpa using h
 |z::l,pre,b,hk,h=>by
  have hn:BS x (pre++[z]) (tQ x b z):=by
   unfold tQ
   rcases h with ⟨rfl,h⟩|⟨h1,h2,h3⟩
   ·by_cases hx : z.1 = x
    ·rw [if_pos ⟨hx, .inl rfl⟩]
     refine .inr ⟨by simp,hx,fun m hm e=>?_⟩
     rcases List.mem_append.1 hm with hm|hm
     ·exact absurd e (h m hm)
     ·exact .inl (List.mem_singleton.1 hm)
    ·rw [if_neg (fun h => hx h.1)]
     refine .inl ⟨rfl,fun m hm=>?_⟩
     rcases List.mem_append.1 hm with hm|hm
     ·exact h m hm
     ·rw [List.mem_singleton.1 hm];exact hx
   ·have hb0 : ¬ b.2.1 = 0 := by have := hk b (by simp [h1]); omega
    by_cases hc:z.1=x∧(b.2.1=0∨fW tM z b=true)
    ·rw [if_pos hc]
     have Ql:=hc.2.resolve_left hb0
     refine .inr ⟨by simp,hc.1,fun m hm e=>?_⟩
     rcases List.mem_append.1 hm with hm|hm
     ·rcases h3 m hm e with rfl | h4
      ·exact .inr Ql
      ·exact .inr (iH kM Ql h4)
     ·exact .inl (List.mem_singleton.1 hm)
    ·rw [if_neg hc]
     refine .inr ⟨by simp [h1],h2,fun m hm e=>?_⟩
     rcases List.mem_append.1 hm with hm|hm
     ·exact h3 m hm e
     ·rw [List.mem_singleton.1 hm] at e ⊢
      cases h4:fW tM b z with
      |true=>exact .inr rfl
      |false =>
       cases h5:fW tM z b with
       |true=>exact absurd ⟨e,.inr h5⟩ hc
       |false=>exact .inl (gB kM h5 h4)
  have:=AN (l:=l) (pre:=pre++[z]) (b:=tQ x b z) (by simpa using hk) hn
  simpa using this
theorem pH {l:List Mg} (hk:∀m∈l,1≤m.2.1) (x:ByteArray):BS x l (ic l x):=by
 have:=AN (x:=x) (l:=l) (pre:=[]) (b:=zM) (by simpa using hk) (.inl ⟨rfl,fun m h=>by cases h⟩)
 rw [List.nil_append] at this
 exact this
theorem E7 {m:Mg} (h:qa m=0):m.2.1=1∨m.2.1=2∨m.2.1=3:=by
 unfold qa at h
 split at h
 ·cases h
 ·omega
theorem Uy:gZ.Pairwise fun a b=>slt a b=true:=of_decide_eq_true (by kernel_rfl)
theorem P9 {c c':List Mg} (h:SI c) (h':SI c') (hm:∀m,m∈c↔m∈c'):c=c' :=
 kV (r:=fun a b:Mg=>slt a.1 b.1=true) (fun a h=>by rw [lR] at h;cases h) (fun a b h1 h2=>JG h1 h2) h h' hm
theorem JH {l:List Mg} (hg:Gd l) (hl:l.length≤60) (hi:∀m∈l,m.1∈gZ):kY l gZ=cnt (bE l):=by
 have hk:∀m∈l,1≤m.2.1:=fun m hm=>by rcases E7 (hg m hm) with h|h|h<;>omega
 have key:∀r:List ByteArray,(r.Pairwise fun a b=>slt a b=true)→SI (kY l r)∧∀m,m∈kY l r↔∃x∈r,ic l x=m∧m.1=x∧m∈l:=by
  intro r
  have hmem:∀m,m∈kY l r↔∃x∈r,ic l x=m∧m.1=x∧m∈l:=fun m=>by
   unfold kY
   rw [List.mem_filter,List.mem_map]
   constructor
   ·rintro ⟨⟨x, hx, rfl⟩, h0⟩
    rcases pH hk x with ⟨e,_⟩|⟨h1,h2,_⟩
    ·rw [e] at h0;simp at h0
    ·exact ⟨x,hx,rfl,h2,h1⟩
   ·rintro ⟨x, hx, rfl, h2, h1⟩
    exact ⟨⟨x,hx,rfl⟩,by have:=hk _ h1;simp;omega⟩
  refine fun hr=>⟨?_,hmem⟩
  induction r with
  |nil=>exact .nil
  |cons x r ih =>
   rw [List.pairwise_cons] at hr
   have ih':SI (kY l r):=by
    refine ih (fun m=>?_) hr.2
    unfold kY
    rw [List.mem_filter,List.mem_map]
    constructor
    ·rintro ⟨⟨x, hx, rfl⟩, h0⟩
     rcases pH hk x with ⟨e,_⟩|⟨h1,h2,_⟩
     ·rw [e] at h0;simp at h0
     ·exact ⟨x,hx,rfl,h2,h1⟩
    ·rintro ⟨x, hx, rfl, h2, h1⟩
     exact ⟨⟨x,hx,rfl⟩,by have:=hk _ h1;simp;omega⟩
   unfold kY
   rw [List.map_cons]
   by_cases h0:0<(ic l x).2.1
   ·rw [List.filter_cons_of_pos (by simpa using h0)]
    refine List.pairwise_cons.2 ⟨fun m hm=>?_,ih'⟩
    obtain ⟨fK,hm2⟩:=List.mem_filter.1 hm
    obtain ⟨y,hy,rfl⟩:=List.mem_map.1 fK
    rcases pH hk x with ⟨e,_⟩|⟨_,h2,_⟩
    ·rw [e] at h0;simp at h0
    rcases pH hk y with ⟨e,_⟩|⟨_,h4,_⟩
    ·rw [e] at hm2;simp at hm2
    rw [h2,h4];exact hr.1 y hy
   ·rw [List.filter_cons_of_neg (by simpa using h0)]
    exact ih'
 obtain ⟨h1,h2⟩:=key gZ Uy
 refine P9 h1 (eo _) fun m=>?_
 rw [h2,Cq (lp.told l).s,oR hg hl]
 constructor
 ·rintro ⟨x, hx, hb, e, hm⟩
  refine ⟨hm,fun y hy e'=>?_⟩
  rcases pH hk x with ⟨q,_⟩|⟨_,_,h3⟩
  ·rw [hb] at q;rw [q] at hm;have:=hk _ hm;simp at this
  ·rw [hb] at h3
   exact h3 y ((oR hg hl y).1 hy) (by rw [e',e])
 ·rintro ⟨hm, h3⟩
  refine ⟨m.1,hi m hm,?_,rfl,hm⟩
  rcases pH hk m.1 with ⟨_,q⟩|⟨q1,q2,q3⟩
  ·exact absurd rfl (q m hm)
  ·rcases q3 m hm rfl with e | h4
   ·exact e.symm
   ·rcases h3 _ ((oR hg hl _).2 q1) q2 with e | h5
    ·exact e
    ·exact (dx kM h4 h5).elim
theorem ga {l:List ByteArray} {k:Nat} (h:k<l.length):l.getD k (bs [])∈l:=by
 rw [List.getD_eq_getElem?_getD,List.getElem?_eq_getElem h];exact List.getElem_mem h
theorem Hq {n:Int} (h:0≤n) (h2:n<8):jw 97 n∈gZ:=by
 have h8:gZ.length=8:=rfl
 have:n=0∨n=1∨n=2∨n=3∨n=4∨n=5∨n=6∨n=7:=by omega
 rcases this with rfl|rfl|rfl|rfl|rfl|rfl|rfl|rfl
 ·exact (show gZ.getD 0 (bs [])=jw 97 0 by kernel_rfl)▸ga (l:=gZ) (k:=0) (by omega)
 ·exact (show gZ.getD 1 (bs [])=jw 97 1 by kernel_rfl)▸ga (l:=gZ) (k:=1) (by omega)
 ·exact (show gZ.getD 2 (bs [])=jw 97 2 by kernel_rfl)▸ga (l:=gZ) (k:=2) (by omega)
 ·exact (show gZ.getD 3 (bs [])=jw 97 3 by kernel_rfl)▸ga (l:=gZ) (k:=3) (by omega)
 ·exact (show gZ.getD 4 (bs [])=jw 97 4 by kernel_rfl)▸ga (l:=gZ) (k:=4) (by omega)
 ·exact (show gZ.getD 5 (bs [])=jw 97 5 by kernel_rfl)▸ga (l:=gZ) (k:=5) (by omega)
 ·exact (show gZ.getD 6 (bs [])=jw 97 6 by kernel_rfl)▸ga (l:=gZ) (k:=6) (by omega)
 ·exact (show gZ.getD 7 (bs [])=jw 97 7 by kernel_rfl)▸ga (l:=gZ) (k:=7) (by omega)
theorem Uz {n:Int} (h:0≤n) (h2:n<3):jw 120 n∈jy:=by
 have h8:jy.length=3:=rfl
 have:n=0∨n=1∨n=2:=by omega
 rcases this with rfl|rfl|rfl
 ·exact (show jy.getD 0 (bs [])=jw 120 0 by kernel_rfl)▸ga (l:=jy) (k:=0) (by omega)
 ·exact (show jy.getD 1 (bs [])=jw 120 1 by kernel_rfl)▸ga (l:=jy) (k:=1) (by omega)
 ·exact (show jy.getD 2 (bs [])=jw 120 2 by kernel_rfl)▸ga (l:=jy) (k:=2) (by omega)
structure ByN (m:Mg):Prop where
 qa:qa m=0
 id:m.1∈gZ
 of:m.2.1≠1→m.2.2.1∈gZ
 acc:m.2.1≠3→m.2.2.2.1∈jy
 amt : -3≤m.2.2.2.2∧m.2.2.2.2≤8
theorem Qa {x:Nu} (h:Ln x):ByN (nP x):=by
 have ho:=We h
 have hc:=P3 h
 obtain ⟨⟨a1,a2⟩,⟨b1,b2⟩,⟨c1,c2⟩,d1,d2⟩:=h
 have ta:=Fl a1 8 (by omega)
 have tc:=Fl c1 3 (by omega)
 have te:=Z2 c1 c2
 have tf:=Fl te.1 12 (by omega)
 have n1:=Hq ta.1 ta.2
 have n2:=Hq ho.1 ho.2.1
 have n3:=Uz tc.1 tc.2
 refine ⟨hc,?_,?_,?_,?_⟩
 ·unfold nP; simp only; split
  ·exact n1
  ·split<;>exact n1
 ·unfold nP; simp only; split
  ·intro h;exact absurd rfl h
  ·split<;>exact fun _=>n2
 ·unfold nP; simp only; split
  ·exact fun _=>n3
  ·split
   ·intro h;exact absurd rfl h
   ·exact fun _=>n3
 ·unfold nP; simp only; split
  ·simp only;omega
  ·split
   ·simp
   ·simp only;omega
theorem sA {p:List Nu} (hp:∀x∈p,Ln x):∀m∈bu p,ByN m:=fun m hm=>by
 obtain ⟨x,hx,rfl⟩:=List.mem_map.1 hm
 exact Qa (hp x (List.mem_of_mem_take hx))
structure CN (c:List Mg):Prop where
 si:SI c
 k3:AK c
 byN:∀m∈c,ByN m
 len:c.length≤8
theorem UA {p:List Nu} (hp:∀x∈p,Ln x):CN (cnt (bE (bu p))):=by
 have hml:=mI p
 have hb:∀m∈cnt (bE (bu p)),ByN m:=fun m hm=>sA hp m ((oR (vH hp) (by omega) m).1 (sv hm))
 refine ⟨eo _,fun m hm=>E7 (hb m hm).qa,hb,?_⟩
 rw [←JH (vH hp) (by omega) fun m hm=>(sA hp m hm).id]
 unfold kY
 exact Nat.le_trans (List.length_filter_le ..) (by simp [gZ])
end Go.Proofs.Tryz
end
section
namespace Go.Proofs.Tryz
open Go.AM
set_option maxRecDepth 100000
set_option maxHeartbeats 2000000
section
variable {c:List Mg}
end
end Go.Proofs.Tryz
end
section
namespace Go.Proofs.Tryz
open Go.AM
set_option maxRecDepth 100000
set_option maxHeartbeats 2000000
section
variable {c:List Mg}
theorem Qb (hs:SI c):∀t∈qc c,Tk c t:=fun t ht=>by
 obtain ⟨m,hm,rfl⟩:=List.mem_map.1 ht
 obtain ⟨h1,h2⟩:=List.mem_filter.1 hm
 exact ⟨m,h1,rfl,by simpa using h2⟩
end
end Go.Proofs.Tryz
end
section
namespace Go.Proofs.Tryz
open Go.AM
set_option maxRecDepth 100000
theorem CB {α:Type} {a b:Option α} (h:∀t,a=some t↔b=some t):a=b:=by
 cases a with
 |some x=>exact ((h x).1 rfl).symm
 |none =>
  cases b with
  |none=>rfl
  |some y=>exact (h y).2 rfl
theorem CC {L:List Mg} (h:lp L) {n:Mg} (hn:∀m∈L,slt m.1 n.1=true):SI (cnt L++[n])∧cnt (oL L n)=cnt L++[n]:=by
 have hsi:SI (cnt L++[n]):=by
  unfold SI
  rw [List.pairwise_append]
  refine ⟨eo L,List.pairwise_singleton ..,fun a ha b hb=>?_⟩
  rw [List.mem_singleton] at hb;subst hb
  exact hn a (sv ha)
 refine ⟨hsi,P9 (eo _) hsi fun m=>?_⟩
 rw [Cq h.s.ins,List.mem_append,List.mem_singleton,Cq h.s,mF h.s]
 have hne:∀m∈L,m.1≠n.1:=fun m hm e=>by have:=hn m hm;rw [e,lR] at this;cases this
 constructor
 ·rintro ⟨rfl | hm, h2⟩
  ·exact .inr rfl
  ·exact .inl ⟨hm,fun x hx e=>h2 x ((mF h.s).2 (.inr hx)) e⟩
 ·rintro (⟨hm, h2⟩ | rfl)
  ·refine ⟨.inr hm, fun x hx e => ?_⟩
   rcases (mF h.s).1 hx with rfl|hx
   ·exact absurd e.symm (hne m hm)
   ·exact h2 x hx e
  ·refine ⟨.inl rfl, fun x hx e => ?_⟩
   rcases (mF h.s).1 hx with rfl|hx
   ·exact .inl rfl
   ·exact absurd e (hne x hx)
section
variable {c c':List Mg} {n:Mg}
abbrev D (c:List Mg) (p:ByteArray):List ByteArray:=dir c (p,kids c p)
theorem E8 (hs:SI c) (p:ByteArray):D c p=if Lq c p=true then (match (kids c p).filter (dg c) with|[o]=>(kids c p).filter (fun k => !decide (k=o))|_=>[]) else []:=by
 unfold D dir
 rw [JA hs]
 first|done|rfl
theorem yH (x:ByteArray):kids (c++[n]) x=kids c x++if n.2.1=2∧n.2.2.1=x then [n.1] else []:=by
 unfold kids
 rw [List.filter_append,List.map_append]
 congr 1
 by_cases h:n.2.1=2∧n.2.2.1=x
 ·rw [if_pos h,List.filter_cons_of_pos (by simpa using h)];rfl
 ·rw [if_neg h,List.filter_cons_of_neg (by simpa using h)];rfl
theorem E9 (x:ByteArray):dg (c++[n]) x=(dg c x||decide (n.2.1=3∧n.2.2.1=x)):=by
 unfold dg;rw [List.any_append];simp
theorem CD (x:ByteArray):Lq (c++[n]) x=(Lq c x||decide (n.1=x∧n.2.1≠3)):=by
 unfold Lq;rw [List.any_append];simp
theorem yI (h:∀x y,y∈kids c x→y∈kids c' x) {k:Nat} {x y:ByteArray} (hp:gY c x k y):gY c' x k y:=by
 induction hp with
 |zero=>exact .zero
 |step _ hz ih=>exact .step ih (h _ _ hz)
theorem AO (h:∀x y,y∈kids c x→y∈kids c' x) {x y:ByteArray} (hp:jt c x y):jt c' x y:=by
 induction hp with
 |refl=>exact .refl _
 |step _ hz ih=>exact .step ih (h _ _ hz)
theorem CE (x:ByteArray):k9 (c++[n]) x=(k9 c x||decide (n.1=x)):=by
 rw [Bool.eq_iff_iff,Bool.or_eq_true,bG,bG,decide_eq_true_eq]
 unfold ids
 rw [List.map_append,List.mem_append]
 simp only [List.map_cons,List.map_nil,List.mem_singleton]
 exact or_congr_right eq_comm
theorem vM (hs:SI c) (hs':SI (c++[n])) {x:ByteArray} (h:k9 c x=true):msg (c++[n]) x=msg c x:=by
 obtain ⟨h1,h2⟩:=pG hs h
 have:=gu hs' (List.mem_append_left [n] h1)
 rw [h2] at this
 exact this
theorem Qc (h1:n.2.1≠1) {t:ByteArray}:Tk (c++[n]) t↔Tk c t:=by
 constructor
 ·rintro ⟨m, hm, e, hk⟩
  rcases List.mem_append.1 hm with hm|hm
  ·exact ⟨m,hm,e,hk⟩
  ·rw [List.mem_singleton.1 hm] at hk;exact absurd hk h1
 ·rintro ⟨m,hm,h⟩;exact ⟨m,List.mem_append_left _ hm,h⟩
theorem Qd (hk:AK c) (hn:n.2.1=1∨n.2.1=2∨n.2.1=3):AK (c++[n]):=fun m hm=>by
 rcases List.mem_append.1 hm with hm|hm
 ·exact hk m hm
 ·rw [List.mem_singleton.1 hm];exact hn
theorem JI (h1:n.2.1≠1):qc (c++[n])=qc c:=by
 unfold qc
 rw [List.filter_append,List.filter_cons_of_neg (by simpa using h1)]
 simp
theorem JJ {t:ByteArray} (hs:SI c) (hk:AK c) (hs':SI c') (hk':AK c') (ht:Tk c t) (ht':Tk c' t) (h:∀y,tP c y=some t↔tP c' y=some t):ij c t=ij c' t :=
 Ux (yG E6 (vD hs (ht.top hs) .zero)) (yG E6 (vD hs' (ht'.top hs') .zero)) fun y=>by
  rw [CA hs hk ht,CA hs' hk' ht',h]
theorem Hr {f f':ByteArray→Int} {can:Zs}:∀{vs:List ByteArray} {nx:Zs},(∀v∈vs,f v=f' v)→vs.foldl (fun nx v=>lq can (f v) nx) nx=vs.foldl (fun nx v=>lq can (f' v) nx) nx:=by
 intro vs
 induction vs with
 |nil=>intro nx _;rfl
 |cons v vs ih=>intro nx hv;rw [List.foldl_cons,List.foldl_cons,hv v (List.mem_cons_self ..)];exact ih fun v h=>hv v (List.mem_cons_of_mem _ h)
theorem AP {f:ByteArray→Int} {t:ByteArray} {ts:List ByteArray} {can:Zs}:jQ c f (t::ts) can=jQ c f ts (jJ f can (ij c t)):=by
 unfold jQ;rw [List.foldl_cons]
theorem Fa {f f':ByteArray→Int} {can:Zs} {vs:List ByteArray} (h:∀v∈vs,f v=f' v):jJ f can vs=jJ f' can vs:=by
 unfold jJ;exact Hr h
theorem yJ {f f':ByteArray→Int} {ts:List ByteArray}:∀{can:Zs},(∀t∈ts,ij c t=ij c' t∧∀v∈ij c t,f v=f' v)→jQ c f ts can=jQ c' f' ts can:=by
 induction ts with
 |nil=>intro can _;simp only [jQ,List.foldl_nil]
 |cons t ts ih =>
  intro can h
  obtain ⟨h1,h2⟩:=h t (List.mem_cons_self ..)
  rw [AP,AP,Fa h2,h1]
  exact ih fun t h'=>h t (List.mem_cons_of_mem _ h')
theorem Hs {vs:List ByteArray}:∀{m:Ss},(∀v∈vs,msg c v=msg c' v)→yA c vs m=yA c' vs m:=by
 unfold yA
 induction vs with
 |nil=>intro m _;rfl
 |cons v vs ih=>intro m hv;rw [List.foldl_cons,List.foldl_cons,hv v (List.mem_cons_self ..)];exact ih fun v h=>hv v (List.mem_cons_of_mem _ h)
theorem AQ {t:ByteArray} {ts:List ByteArray} {m:Ss}:tN c (t::ts) m=tN c ts (yA c (ij c t) m):=by
 unfold tN;rw [List.foldl_cons]
theorem Hu {ts:List ByteArray}:∀{m:Ss},(∀t∈ts,ij c t=ij c' t∧∀v∈ij c t,msg c v=msg c' v)→tN c ts m=tN c' ts m:=by
 induction ts with
 |nil=>intro m _;simp only [tN,List.foldl_nil]
 |cons t ts ih =>
  intro m h
  obtain ⟨h1,h2⟩:=h t (List.mem_cons_self ..)
  rw [AQ,AQ,Hs h2,h1]
  exact ih fun t h'=>h t (List.mem_cons_of_mem _ h')
theorem AR (ht:qc c=qc c') (h:∀t∈qc c,ij c t=ij c' t∧∀v∈ij c t,msg c v=msg c' v):(∀a,jv c a=jv c' a)∧tK c=tK c'∧qF c=qF c':=by
 refine ⟨fun a=>?_,?_,?_⟩
 ·unfold jv kX
  rw [←ht,yJ (c:=c) (c':=c') (f:=fA c a) (f':=fA c' a) fun t h'=>⟨(h t h').1,fun v hv=>by unfold fA;rw [(h t h').2 v hv]⟩]
 ·unfold tK kX
  rw [←ht,yJ (c:=c) (c':=c') (f:=fT c) (f':=fT c') fun t h'=>⟨(h t h').1,fun v hv=>by unfold fT;rw [(h t h').2 v hv]⟩]
 ·unfold qF
  rw [←ht,Hu h]
theorem Qe (jR:∀x,kids c' x=kids c x) (hD:∀p,D c' p=D c p) (x:ByteArray):dQ c' x=dQ c x:=by
 rw [Bool.eq_iff_iff,gX,gX]
 constructor
 ·rintro ⟨p, y, hy, hd⟩
  exact ⟨p,y,by have:=hD p;unfold D at this;rw [←this];exact hy,AO (fun x y h=>by rw [←jR];exact h) hd⟩
 ·rintro ⟨p, y, hy, hd⟩
  exact ⟨p,y,by have:=hD p;unfold D at this;rw [this];exact hy,AO (fun x y h=>by rw [jR];exact h) hd⟩
theorem Qf (hs:SI c) (hk:AK c) (hs':SI c') (hk':AK c') (jR:∀x,kids c' x=kids c x) (hst:∀x,dQ c' x=dQ c x) (Q7:∀t,Tk c' t↔Tk c t) (x:ByteArray):iL c' x=iL c x∧tP c' x=tP c x:=by
 have h1:iL c' x=iL c x:=CB fun t=>by
  rw [eA hs' hk',eA hs hk,Q7,hst]
  exact and_congr_right fun _=>and_congr_right fun _=>exists_congr fun d=>⟨yI fun x y h=>by rw [←jR];exact h,yI fun x y h=>by rw [jR];exact h⟩
 refine ⟨h1,?_⟩
 have h2:gK c' x=gK c x:=by
  unfold gK
  rw [jR]
  exact List.filter_congr fun k _=>by rw [hst]
 unfold tP
 rw [h1,h2]
theorem Fb (hs:SI c) (hk:AK c) {t v:ByteArray} (ht:Tk c t) (hv:v∈ij c t):k9 c v=true:=by
 obtain ⟨_,_,d,hp⟩:=(eA hs hk).1 (AL.1 ((CA hs hk ht).1 hv)).2
 exact bG.2 (vK hp ht.ids)
theorem Lt (hs:SI c) (hk:AK c) (hs':SI (c++[n])) (hn:n.2.1=3) (hni:k9 c n.1=false) (hD:∀p,D (c++[n]) p=D c p) :
  (∀x,x≠n.1→dI (c++[n]) x=dI c x∧iw (c++[n]) x=iw c x)∧(∀a,jv c a=jv (c++[n]) a)∧tK c=tK (c++[n])∧qF c=qF (c++[n]):=by
 have hk':AK (c++[n]):=Qd hk (.inr (.inr hn))
 have jR:∀x,kids (c++[n]) x=kids c x:=fun x=>by rw [yH,if_neg (by omega),List.append_nil]
 have hst:=Qe jR hD
 have Q7:∀t,Tk (c++[n]) t↔Tk c t:=fun t=>Qc (by omega)
 have hsd:=Qf hs hk hs' hk' jR hst Q7
 have Lu:∀t,Tk c t→ij c t=ij (c++[n]) t:=fun t ht=>JJ hs hk hs' hk' ht ((Q7 t).2 ht) fun y=>by rw [(hsd y).2]
 refine ⟨fun x hx=>?_,AR (JI (by omega)).symm fun t ht=>?_⟩
 ·have hM : k9 (c ++ [n]) x = k9 c x := by rw [CE, decide_eq_false hx.symm, Bool.or_false]
  unfold dI iw
  rw [hM,hst,(hsd x).1]
  by_cases h:k9 c x=true
  ·rw [if_pos h, if_pos h, if_pos h, if_pos h, vM hs hs' h]
   constructor
   ·by_cases h3 : (msg c x).2.1 = 3
    ·rw [if_pos h3,if_pos h3]
    ·rw [if_neg h3, if_neg h3]
     split
     ·rfl
     ·cases h5:iL c x with
      |none=>rfl
      |some t=>simp only [Lu t ((eA hs hk).1 h5).1]
   ·by_cases h1 : (msg c x).2.1 = 1
    ·obtain ⟨q1, q2⟩ := pG hs h
     rw [if_pos h1,if_pos h1,Lu x ⟨_,q1,q2,h1⟩]
    ·rw [if_neg h1,if_neg h1]
  ·rw [if_neg h,if_neg h,if_neg h,if_neg h];exact ⟨rfl,rfl⟩
 ·have h1 := Qb hs t ht
  exact ⟨Lu t h1,fun v hv=>(vM hs hs' (Fb hs hk h1 hv)).symm⟩
end
end Go.Proofs.Tryz
end
section
namespace Go.Proofs.Tryz
open Go.AM
set_option maxRecDepth 100000
set_option maxHeartbeats 2000000
section
variable {c:List Mg} {n m:Mg} {t:ByteArray}
theorem k39 (a b:ByteArray):ak (F39 a b)=some ((a,3,b,bs [],0),()):=rfl
theorem Qg {a b:ByteArray} (h1:ek a=true) (h2:ek b=true) (h:b≠a):qa (a,3,b,bs [],0)=0:=by
 simp [qa,nN,lM,h1,h2,h,E2]
theorem kZ:∀x∈gZ,ek x=true∧slt x (bs [114,57])=true∧slt x (bs [110,101,119])=true:=of_decide_eq_true (by kernel_rfl)
theorem Qh {p:List Nu} (hp:∀x∈p,Ln x):∀m∈bE (bu p),m.1∈gZ:=fun m hm=>(sA hp m ((oR (vH hp) (by have:=mI p;omega) m).1 hm)).id
theorem Hv (hC:CN c) {x:ByteArray} (h:k9 c x=true):x∈gZ:=by
 obtain ⟨m,hm,rfl⟩:=List.mem_map.1 (bG.1 h)
 exact (hC.byN m hm).id
theorem Qi {p:List Nu}:(bE (bu p)).length≤10:=by
 have h:∀(l L:List Mg),(l.foldl (fun L m=>(iu L m).2) L).length≤L.length+l.length:=by
  intro l
  induction l with
  |nil=>intro L;simp
  |cons m l ih =>
   intro L
   rw [List.foldl_cons,List.length_cons]
   have h1:=ih (iu L m).2
   have h2:(iu L m).2.length≤L.length+1:=by
    have:=yp (L:=L) (m:=m)
    unfold iu
    split
    ·split
     ·simp
     ·exact this
    ·simp
   omega
 have:=h (bu p) []
 have hml:=mI p
 unfold bE
 simp only [List.length_nil] at this
 omega
end
end Go.Proofs.Tryz
end
section
namespace Go.Proofs.Tryz
open Go.AM
set_option maxRecDepth 100000
set_option maxHeartbeats 2000000
section
variable {c:List Mg} {n m:Mg} {t:ByteArray}
structure Fx (c:List Mg) (n:Mg):Prop where
 si:SI c
 k3:AK c
 UB:SI (c++[n])
 k2:n.2.1=2
 ni:k9 c n.1=false
 nk:kids c n.1=[]
 nr:dg c n.1=false
 no:n.1≠n.2.2.1
theorem Fx.k3' (h:Fx c n):AK (c++[n]):=Qd h.k3 (.inr (.inl h.k2))
theorem Fx.JK (h:Fx c n) (x:ByteArray):n.1∉kids c x:=fun hx=>by
 have:=bG.2 (fU hx)
 rw [h.ni] at this;cases this
theorem Fx.kid (h:Fx c n) (x:ByteArray):kids (c++[n]) x=if x=n.2.2.1 then kids c x++[n.1] else kids c x:=by
 rw [yH]
 by_cases e:x=n.2.2.1
 ·rw [if_pos e,if_pos ⟨h.k2,e.symm⟩]
 ·rw [if_neg e,if_neg fun h=>e h.2.symm,List.append_nil]
theorem Fx.sB (h:Fx c n) {x y:ByteArray}:y∈kids (c++[n]) x↔y∈kids c x∨(x=n.2.2.1∧y=n.1):=by
 rw [h.kid]
 split
 ·rename_i e;simp [e]
 ·rename_i e;simp [e]
theorem Fx.ae1 (h:Fx c n):kids (c++[n]) n.1=[]:=by rw [h.kid,if_neg h.no,h.nk]
theorem Fx.rul (h:Fx c n) (x:ByteArray):dg (c++[n]) x=dg c x:=by rw [E9,decide_eq_false (by have:=h.k2;omega),Bool.or_false]
theorem Fx.LM (h:Fx c n) {k:Nat} {x y:ByteArray} (hp:gY (c++[n]) x k y) (hy:y≠n.1):gY c x k y:=by
 induction hp with
 |zero=>exact .zero
 |step _ hz ih =>
  rcases h.sB.1 hz with hz|⟨_,e⟩
  ·refine .step (ih fun e => ?_) hz
   rw [e,h.nk] at hz;cases hz
  ·exact absurd e hy
theorem Fx.UC (h:Fx c n) {k:Nat} {x y:ByteArray} (hp:gY c x k y):gY (c++[n]) x k y:=yI (fun _ _ hy=>h.sB.2 (.inl hy)) hp
theorem Fx.Wi (h:Fx c n) {k:Nat} {x:ByteArray} (hp:gY (c++[n]) x k n.1):(k=0∧x=n.1)∨∃j,k=j+1∧gY c x j n.2.2.1:=by
 rcases cH hp with ⟨h0,e⟩|⟨j,z,hj,h1,hz⟩
 ·exact .inl ⟨h0,e.symm⟩
 ·rcases h.sB.1 hz with hz | ⟨e, _⟩
  ·exact absurd hz (h.JK z)
  ·subst e
   exact .inr ⟨j,hj,h.LM h1 h.no.symm⟩
theorem Fx.stk (h:Fx c n) (hD:∀p,D (c++[n]) p=D c p) {x:ByteArray} (hx:x≠n.1):dQ (c++[n]) x=dQ c x:=by
 rw [Bool.eq_iff_iff,gX,gX]
 constructor
 ·rintro ⟨p, y, hy, hd⟩
  obtain ⟨k,hp⟩:=hd.LM
  exact ⟨p,y,by have:y∈D (c++[n]) p:=hy;rw [hD p] at this;exact this,(h.LM hp hx).desc⟩
 ·rintro ⟨p, y, hy, hd⟩
  obtain ⟨k,hp⟩:=hd.LM
  exact ⟨p,y,by show y∈D (c++[n]) p;rw [hD p];exact hy,(h.UC hp).desc⟩
theorem Fx.ae2 (h:Fx c n) (hD:∀p,D (c++[n]) p=D c p):dQ (c++[n]) n.1=dQ c n.2.2.1:=by
 rw [Bool.eq_iff_iff,gX,gX]
 constructor
 ·rintro ⟨p, y, hy, hd⟩
  obtain ⟨k,hp⟩:=hd.LM
  have hy:y∈D c p:=by have:y∈D (c++[n]) p:=hy;rw [hD p] at this;exact this
  rcases h.Wi hp with ⟨_,e⟩|⟨j,_,h1⟩
  ·rw [e] at hy;exact absurd (lP hy) (h.JK p)
  ·exact ⟨p,y,hy,h1.desc⟩
 ·rintro ⟨p, y, hy, hd⟩
  obtain ⟨k,hp⟩:=hd.LM
  exact ⟨p,y,by show y∈D (c++[n]) p;rw [hD p];exact hy,(gY.step (h.UC hp) (h.sB.2 (.inr ⟨rfl,rfl⟩))).desc⟩
theorem Fx.tk (h:Fx c n) {t:ByteArray}:Tk (c++[n]) t↔Tk c t:=Qc (by have:=h.k2;omega)
theorem Fx.fI (h:Fx c n) (hD:∀p,D (c++[n]) p=D c p) {x:ByteArray} (hx:x≠n.1):iL (c++[n]) x=iL c x:=CB fun t=>by
 rw [eA h.UB h.k3',eA h.si h.k3,h.tk,h.stk hD hx]
 exact and_congr_right fun _=>and_congr_right fun _=>exists_congr fun d=>⟨fun hp=>h.LM hp hx,h.UC⟩
theorem Fx.ae3 (h:Fx c n) (hD:∀p,D (c++[n]) p=D c p):iL (c++[n]) n.1=iL c n.2.2.1:=CB fun t=>by
 rw [eA h.UB h.k3',eA h.si h.k3,h.tk,h.ae2 hD]
 refine and_congr_right fun ht=>and_congr_right fun _=>⟨fun ⟨d,hp⟩=>?_,fun ⟨d,hp⟩=>⟨d+1,.step (h.UC hp) (h.sB.2 (.inr ⟨rfl,rfl⟩))⟩⟩
 rcases h.Wi hp with ⟨_,e⟩|⟨j,_,h1⟩
 ·have := bG.2 ht.ids
  rw [e,h.ni] at this;cases this
 ·exact ⟨j,h1⟩
theorem Fx.gK (h:Fx c n) (hD:∀p,D (c++[n]) p=D c p) {x:ByteArray} (hx:x≠n.2.2.1):gK (c++[n]) x=gK c x:=by
 unfold Tryz.gK
 rw [h.kid,if_neg hx]
 exact List.filter_congr fun k hk=>by rw [h.stk hD fun e=>h.JK x (by rw [←e];exact hk)]
theorem UD {a b d:ByteArray} {z:Int} (h1:ek a=true) (h2:ek b=true) (h:b≠a) (h3:ek d=true) (hz : -1000≤z∧z≤1000):qa (a,2,b,d,z)=0:=by
 simp [qa,nN,lM,h1,h2,h,h3,hz,E2]
theorem Z7 (hC:CN c) {x a d:ByteArray} {z:Int} (hx:x∈gZ) (hs':SI (c++[(a,(2:Int),x,d,z)])) (ha:∀y∈gZ,slt y a=true):Fx c (a,(2:Int),x,d,z):=by
 have hne:∀y∈gZ,y≠a:=fun y hy e=>by have:=ha y hy;rw [e,lR] at this;cases this
 refine ⟨hC.si,hC.k3,hs',rfl,?_,?_,?_,fun e=>hne x hx e.symm⟩
 ·cases h:k9 c a with
  |false=>rfl
  |true=>exact absurd rfl (hne _ (Hv hC h))
 ·refine List.eq_nil_iff_forall_not_mem.2 fun k hk => ?_
  obtain ⟨m,hm,_,h2,h3⟩:=je.1 hk
  exact hne _ ((hC.byN m hm).of (by omega)) h3
 ·cases h:dg c a with
  |false=>rfl
  |true =>
   obtain ⟨m,hm,h2⟩:=List.any_eq_true.1 h
   have h2:=of_decide_eq_true h2
   exact absurd h2.2 (hne _ ((hC.byN m hm).of (by omega)))
end
end Go.Proofs.Tryz
end
section
namespace Go.Proofs.Tryz
open Go.AM
set_option maxRecDepth 100000
set_option maxHeartbeats 2000000
theorem Z8:∀x∈gZ,Sh x:=by unfold Sh;decide
theorem CF:ek (bs [110,101,119])=true∧Sh (bs [110,101,119]):=by unfold Sh;decide
theorem Lv:∀a∈jy,ek a=true:=by decide
section
variable {c:List Mg} {n:Mg} {t:ByteArray}
end
end Go.Proofs.Tryz
end
section
namespace Go.Proofs.Tryz
open Go.AM
set_option maxRecDepth 100000
set_option maxHeartbeats 2000000
section
variable {c:List Mg} {n:Mg} {t:ByteArray}
theorem ae4 (h:Fx c n) (hsn:dQ (c++[n]) n.1=false) (p:ByteArray):D (c++[n]) p=D c p:=by
  have hf:∀l:List ByteArray,l.filter (dg (c++[n]))=l.filter (dg c):=fun l=>List.filter_congr fun k _=>h.rul k
  by_cases hpn:n.1=p
  · subst hpn
    rw [E8 h.si,E8 h.UB,h.ae1,h.nk]
    simp
  · by_cases e : p = n.2.2.1
    · subst e
      have hni:n.1∉D (c++[n]) n.2.2.1:=fun hd=>by
        have:=gX.2 ⟨n.2.2.1,n.1,hd,.refl _⟩
        rw [hsn] at this;cases this
      rw [E8 h.UB,CD,decide_eq_false (fun e=>hpn e.1),Bool.or_false,hf,h.kid,if_pos rfl,List.filter_append,List.filter_cons_of_neg (by rw [h.nr];simp),List.filter_nil,List.append_nil] at hni ⊢
      rw [E8 h.si]
      by_cases ht:Lq c n.2.2.1=true
      · rw [if_pos ht] at hni ⊢
        rw [if_pos ht]
        split
        · rename_i o ho
          exfalso
          rw [ho] at hni
          refine hni (List.mem_filter.2 ⟨by simp,?_⟩)
          simp only [Bool.not_eq_true',decide_eq_false_iff_not]
          intro e
          have ho':o∈kids c n.2.2.1:=(List.mem_filter.1 (show o∈(kids c n.2.2.1).filter (dg c) by rw [ho];exact List.mem_singleton.2 rfl)).1
          rw [←e] at ho'
          exact h.JK _ ho'
        · rfl
      · rw [if_neg ht,if_neg ht]
    · rw [E8 h.si,E8 h.UB,CD,decide_eq_false (fun e=>hpn e.1),Bool.or_false,hf,h.kid,if_neg e]
theorem Qj {x:ByteArray} (hs:SI c) (hk:AK c) (h:k9 c x=false):iL c x=none:=by
  cases hx:iL c x with
  |none=>rfl
  |some t =>
    obtain ⟨ht,_,d,hp⟩:=(eA hs hk).1 hx
    have:=bG.2 (vK hp ht.ids)
    rw [h] at this;cases this
theorem Qk (h:Fx c n) (hsn:dQ (c++[n]) n.1=false) (hst:iL (c++[n]) n.1=none) :
    (∀x,x≠n.1→iw (c++[n]) x=iw c x)∧(∀a,jv c a=jv (c++[n]) a)∧tK c=tK (c++[n])∧qF c=qF (c++[n])∧dI (c++[n]) n.1=(1,0):=by
  have hD:=ae4 h hsn
  have hso:iL c n.2.2.1=none:=by rw [←h.ae3 hD];exact hst
  have hV:∀y,tP c y=tP (c++[n]) y:=fun y=>by
    by_cases hy:y=n.1
    · subst hy
      unfold tP
      rw [hst,Qj h.si h.k3 h.ni]
      split<;>split<;>rfl
    · by_cases ho : y = n.2.2.1
      · subst ho
        unfold tP
        rw [h.fI hD hy,hso]
        split<;>split<;>rfl
      · unfold tP
        rw [h.fI hD hy,h.gK hD ho]
  have Lu:∀t,Tk c t→ij c t=ij (c++[n]) t:=fun t ht=>JJ h.si h.k3 h.UB h.k3' ht (h.tk.2 ht) fun y=>by rw [hV y]
  obtain ⟨q1,q2,q3⟩:=AR (c:=c) (c':=c++[n]) (JI (by have:=h.k2;omega)).symm fun t ht=>by
    have h1:=Qb h.si t ht
    exact ⟨Lu t h1,fun v hv=>(vM h.si h.UB (Fb h.si h.k3 h1 hv)).symm⟩
  refine ⟨fun x hx=>?_,q1,q2,q3,?_⟩
  · unfold iw
    rw [CE,decide_eq_false hx.symm,Bool.or_false]
    by_cases hM:k9 c x=true
    · rw [if_pos hM, if_pos hM, vM h.si h.UB hM]
      by_cases h1:(msg c x).2.1=1
      · obtain ⟨q1, q2⟩ := pG h.si hM
        rw [if_pos h1,if_pos h1,Lu x ⟨_,q1,q2,h1⟩]
      · rw [if_neg h1,if_neg h1]
    · rw [if_neg hM,if_neg hM]
  · unfold dI
    rw [CE,decide_eq_true rfl,Bool.or_true,if_pos rfl,gu h.UB (List.mem_append_right _ (List.mem_singleton.2 rfl)),if_neg (by have:=h.k2;omega),hsn,if_neg (by simp),hst]
end
theorem Z9 {l b0:List Mg} {nv:Nat} {x:ByteArray} {v9:List ByteArray} {v10 v11:Int} (hl:l.length<1000000000) :
    iter (fun a=>ak (gH30_1 a)) (l,nv,x,v9,v10,v11,l,((l.length:Nat):Int),(0:Int),b0,bs [],(0:Int),bs [],bs [],(0:Int),()) =
      some (l,nv,v9,v10,v11,b0,(ic l x).1,(ic l x).2.1,(ic l x).2.2.1,(ic l x).2.2.2.1,(ic l x).2.2.2.2,()):=by
  refine aQ l (fun k (b : Mg) => (l, nv, x, v9, v10, v11, l, ((l.length : Nat) : Int), (k : Int), b0, b.1, b.2.1, b.2.2.1, b.2.2.2.1, b.2.2.2.2, ()))
    (fun b r=>(l,nv,v9,v10,v11,b0,(r.foldl (tQ x) b).1,(r.foldl (tQ x) b).2.1,(r.foldl (tQ x) b).2.2.1,(r.foldl (tQ x) b).2.2.2.1,(r.foldl (tQ x) b).2.2.2.2,())) (fun _ b=>b.2.1=0∨b.1=x) ?_ ?_ (s:=zM) (.inl rfl)
  · intro pre z post b hz hb
    have hlen:l.length=pre.length+(post.length+1):=by rw [hz];simp
    have hd:l.getD pre.length (bs [],(0:Int),bs [],bs [],(0:Int))=z:=by rw [hz];exact bt rfl
    have i1:fu (pre.length:Int) ((l.length:Nat):Int)=true:=bY (by omega) (by omega)
    have r1:gG .i64 ((pre.length:Int)+1)=true:=aL (by omega) (by omega)
    left
    refine ⟨tQ x b z,?_,?_,rfl⟩
    · simp only [gH30_1, ay, bB, aS, aa, Int.toNat_natCast, hd, i1, r1, au, bx, bV, seq_eq]
      rw [if_pos (by omega)]
      simp only [kG]
      unfold tQ
      by_cases hx:z.1=x
      · by_cases h0 : b.2.1 = 0
        · rw [if_pos hx,if_pos h0,if_pos ⟨hx,.inl h0⟩];rfl
        · have hbx : b.1 = x := hb.resolve_left h0
          rw [if_pos hx,if_neg h0]
          have hdl:=dltM (z:=z) (b:=b) (by rw [hx,hbx])
          by_cases k1:z.2.1<b.2.1
          · rw [if_pos k1,if_pos ⟨hx,.inr (by rw [hdl];simp [k1])⟩];rfl
          · rw [if_neg k1]
            by_cases k2:z.2.1=b.2.1
            · rw [if_pos k2]
              cases k3:slt z.2.2.1 b.2.2.1 with
              |true=>rw [if_pos rfl,if_pos ⟨hx,.inr (by rw [hdl];simp [k2,k3])⟩];rfl
              |false =>
                rw [if_neg (by simp)]
                by_cases k4:z.2.2.1=b.2.2.1
                · rw [if_pos k4]
                  cases k5:slt z.2.2.2.1 b.2.2.2.1 with
                  |true=>rw [if_pos rfl,if_pos ⟨hx,.inr (by rw [hdl];simp [k2,k4,k5])⟩];rfl
                  |false =>
                    rw [if_neg (by simp)]
                    by_cases k6:z.2.2.2.1=b.2.2.2.1
                    · rw [if_pos k6]
                      by_cases k7:z.2.2.2.2<b.2.2.2.2
                      · rw [if_pos k7,if_pos ⟨hx,.inr (by rw [hdl];simp [k2,k4,k6,k7])⟩];rfl
                      · rw [if_neg k7, if_neg]; · rfl
                        rintro ⟨_,h|h⟩
                        · exact h0 h
                        · rw [hdl,k3,k5] at h;simp [k1,k7] at h
                    · rw [if_neg k6, if_neg]; · rfl
                      rintro ⟨_,h|h⟩
                      · exact h0 h
                      · rw [hdl,k3,k5] at h;simp [k1,k6] at h
                · rw [if_neg k4, if_neg]; · rfl
                  rintro ⟨_,h|h⟩
                  · exact h0 h
                  · rw [hdl,k3] at h;simp [k1,k4] at h
            · rw [if_neg k2, if_neg]; · rfl
              rintro ⟨_,h|h⟩
              · exact h0 h
              · rw [hdl] at h;simp [k1,k2] at h
      · rw [if_neg hx,if_neg (fun h=>hx h.1)];rfl
    · unfold tQ
      split
      · rename_i h;exact .inr h.1
      · exact hb
  · intro b _
    simp only [gH30_1,ay,aa,bx]
    rw [if_neg (by omega)]
    rfl
theorem aaa {l:List Mg} (hl:l.length<1000000000):iter (fun a=>ak (gH30_0 a)) (l,(0:Nat),gZ,((gZ.length:Nat):Int),(0:Int),[],())=some ((kY l gZ).length,kY l gZ,()):=by
  refine aQ gZ (fun k (o:List Mg)=>(l,o.length,gZ,((gZ.length:Nat):Int),(k:Int),o,())) (fun o r=>((o++kY l r).length,o++kY l r,())) (fun pre o=>o.length≤pre.length) ?_ ?_ (s:=[]) (Nat.le_refl _)
  · intro pre x post o hx ho
    have hlen:gZ.length=pre.length+(post.length+1):=by rw [hx];simp
    have h8:gZ.length=8:=rfl
    have hd:gZ.getD pre.length (bs [])=x:=by rw [hx];exact bt rfl
    have i1:fu (pre.length:Int) ((gZ.length:Nat):Int)=true:=bY (by omega) (by omega)
    have r1:gG .i64 ((pre.length:Int)+1)=true:=aL (by omega) (by omega)
    have d1:decide (o.length+1<cu)=true:=decide_eq_true (by rw [gT];omega)
    have e1:(([((ic l x).1,(ic l x).2.1,(ic l x).2.2.1,(ic l x).2.2.2.1,(ic l x).2.2.2.2)]:List Mg).take 1)=[ic l x]:=rfl
    have hk:=Z9 (l:=l) (b0:=o) (nv:=o.length) (x:=x) (v9:=gZ) (v10:=((gZ.length:Nat):Int)) (v11:=(pre.length:Int)) hl
    left
    by_cases hb:0<(ic l x).2.1
    · have hc : kY l (x :: post) = ic l x :: kY l post := by unfold kY; rw [List.map_cons, List.filter_cons_of_pos (by simpa using hb)]
      refine ⟨o++[ic l x],?_,by simp;omega,by rw [hc];simp⟩
      simp only [gH30_0,ay,aA,bM,bB,aZ,aS,aa,Int.toNat_natCast,hd,i1,au,bx]
      rw [if_pos (by omega),ah hk]
      simp only
      rw [if_pos hb]
      simp only [e1,List.length_singleton,d1,r1,au,List.drop_zero,List.take_length,List.length_append]
      rfl
    · have hc : kY l (x :: post) = kY l post := by unfold kY; rw [List.map_cons, List.filter_cons_of_neg (by simpa using hb)]
      refine ⟨o,?_,by simp;omega,by rw [hc]⟩
      simp only [gH30_0,ay,aA,bM,bB,aZ,aS,aa,Int.toNat_natCast,hd,i1,au,bx]
      rw [if_pos (by omega),ah hk]
      simp only
      rw [if_neg hb]
      simp only [r1,au]
      rfl
  · intro o _
    simp only [gH30_0,ay,aa,bx]
    rw [if_neg (by omega)]
    simp [kY]
theorem kH30 {l:List Mg} (hg:Gd l) (hl:l.length≤60) (hi:∀m∈l,m.1∈gZ):ak (FH30 l)=some ((cnt (bE l)).length,cnt (bE l),()):=by
  have hlen:(kY l gZ).length<1000000:=by
    have:(kY l gZ).length≤8:=by unfold kY;exact Nat.le_trans (List.length_filter_le ..) (by simp [gZ])
    omega
  unfold FH30
  simp only [aA,bM]
  rw [ah k31]
  simp only
  rw [ah (aaa (by omega))]
  simp only [aa]
  rw [JH hg hl hi]
theorem Lw {p:List Nu} (hp:∀x∈p,Ln x):ak (FH30 (bu p))=some ((cnt (bE (bu p))).length,cnt (bE (bu p)),()) :=
  kH30 (vH hp) (by have:=mI p;omega) fun m hm=>(sA hp m hm).id
theorem ae5 {L L':List Mg} {a:Bool} (h:lp L) (h':lp L') (hS:∀x∈gZ,iw (cnt L') x=iw (cnt L) x) :
    iter (fun a=>ak (g10_0 a)) (a,gZ,((gZ.length:Nat):Int),(0:Int),bk L',bk L,())=some (.inr (a,bk L',bk L,())):=by
  have h8:gZ.length=8:=rfl
  refine Gk 8 (fun k=>(a,gZ,((gZ.length:Nat):Int),(k:Int),bk L',bk L,())) (fun k hk=>?_) ?_
  · have i1 : fu (k : Int) ((gZ.length : Nat) : Int) = true := bY (by omega) (by omega)
    have r1:gG .i64 ((k:Int)+1)=true:=aL (by omega) (by omega)
    have hvl:=Lp h (gZ.getD k (bs []))
    simp only [g10_0,ay,bB,aS,aA,aa,Int.toNat_natCast,i1,r1,au,bx]
    rw [if_pos (by omega),ah (ZW h _)]
    simp only
    rw [ah (ZW h' _),hS _ (ga (by omega))]
    simp only [List.drop_zero,List.take_length]
    rw [ah (k36 hvl)]
    simp only [decide_true,beq_self_eq_true,Bool.not_true,bq]
    rfl
  · simp only [g10_0, ay, aa, bx]
    rw [if_neg (by omega)]
noncomputable def k10t:Bool×List Mg×ByteArray×Int×ByteArray×ByteArray×Int×Unit→bU (Bool×Unit):=fun j8 =>
 .bd (FH29 j8.2.1) fun K3 =>
 .bd (FH29 j8.2.1) fun y15 =>
 .bd (FH20 (j8.2.2.1,j8.2.2.2.1,j8.2.2.2.2.1,j8.2.2.2.2.2.1,j8.2.2.2.2.2.2.1) K3.1) fun V5 =>
 .br (!(V5.1==(0:Int))) (
 .ret (false,())) (
 .bd (FH45 V5.2.1) fun Qy =>
 .bd (FH45 y15.1) fun Qz =>
 .bd (F36 (((Qy.2.1).drop (0:Nat)).take Qy.1) (((Qz.2.1).drop (0:Nat)).take Qz.1)) fun y19 =>
 .br (!y19.1) (
 .ret (false,())) (
 .bd (F31) fun V6 =>
 .bd (.it g10_0 (j8.1,V6.1,(((V6.1).length:Nat):Int),(0:Int),Qy.2.2.1,Qz.2.2.1,())) fun z24 =>
 .sm z24 (fun z25 =>
 .ret (false,())) fun z26 =>
 .br z26.1 (
 .bd (FH41 z26.2.1 z26.2.2.1) fun y27 =>
 .br y27.1 (
 .bd (F17) fun y28 =>
 .ret (y28.1,())) (
 .ret (false,()))) (
 .bd (FH40 (bs [110,101,119]) (1:Int) z26.2.1) fun y29 =>
 .br y29.1 (
 .bd (FH41 y29.2.1 z26.2.2.1) fun y30 =>
 .br y30.1 (
 .bd (F17) fun y31 =>
 .ret (y31.1,())) (
 .ret (false,()))) (
 .ret (false,())))))
theorem k10 {p:List Nu} {x:Nu} {a:Bool} (hp:∀x∈p,Ln x) (hx:Ln x):ak (F10 p x a)=some (true,()):=by
  have hml:=mI p
  have hL:=lp.told (bu p)
  have hC:=UA hp
  have hs:=hC.si
  have hk:=hC.k3
  have h8:=hC.len
  have hid:=Qh hp
  have htl:=Qi (p:=p)
  have QZ:=Qa hx
  obtain ⟨_,⟨b1,b2⟩,_⟩:=id hx
  have tb:=Fl b1 8 (by omega)
  have ho:=Hq tb.1 tb.2
  have h44:ak (F44 (([x.1,x.2.1,x.2.2.1,x.2.2.2].getD 0 0),([x.1,x.2.1,x.2.2.1,x.2.2.2].getD 1 0),([x.1,x.2.1,x.2.2.1,x.2.2.2].getD 2 0),([x.1,x.2.1,x.2.2.1,x.2.2.2].getD 3 0)))=some (nP x,()):=k44 hx
  have e1:[x.1,x.2.1,x.2.2.1,x.2.2.2].getD 1 0=x.2.1:=rfl
  have Dx:bs [120]∈jy:=by unfold jy;simp
  have Gi:∀(n:Mg),qa n=0→Jl n→n.1=bs [110,101,119]→(∀x,x≠n.1→iw (cnt (bE (bu p))++[n]) x=iw (cnt (bE (bu p))) x)→(∀a,jv (cnt (bE (bu p))) a=jv (cnt (bE (bu p))++[n]) a)→tK (cnt (bE (bu p)))=tK (cnt (bE (bu p))++[n]) →
      qF (cnt (bE (bu p)))=qF (cnt (bE (bu p))++[n])→(a=false→dI (cnt (bE (bu p))++[n]) n.1=(1,0)) →
      ak (k10t (a,bu p,n.1,n.2.1,n.2.2.1,n.2.2.2.1,n.2.2.2.2,()))=some (true,()):=by
    intro n hck hsh JQ q1 q2 q3 q4 q5
    obtain ⟨hs',hcn⟩:=CC (n:=n) hL fun y hy=>by rw [JQ];exact (kZ y.1 (hid y hy)).2.2
    have hL':=Z4 hL hck (by omega)
    rw [←hcn] at q1 q2 q3 q4 q5
    unfold k10t
    simp only [aA]
    rw [ah (PF (by omega) (Jy p))]
    simp only
    rw [ah (PF (by omega) (Jy p))]
    simp only
    rw [ah (kT hL hsh hck (by omega))]
    simp only [ay,cA,bV,reduceIte,aA]
    rw [ah (ZY hL')]
    simp only
    rw [ah (ZY hL)]
    simp only [List.drop_zero,List.take_length]
    rw [ah (k36 (P5 hL')),q4]
    simp only [decide_true,Bool.not_true,bq,aA,bM,ay,cA,bK]
    rw [ah k31]
    simp only
    refine Eq.trans (ah (ae5 hL hL' fun x hx=>q1 x fun e=>by have:=(kZ x hx).2.2;rw [e,JQ,lR] at this;cases this)) ?_
    simp only [lZ,ay]
    have h41:=kH41 hL' hL (fun a _=>(q2 a).symm) q3.symm
    cases a with
    |true =>
      rw [bK]
      simp only [aA]
      rw [ah h41]
      simp only [ay,bK,aA]
      rw [ah k17]
      rfl
    |false =>
      rw [bq]
      have h40:=EZ hL' (bs [110,101,119]) 1
      rw [←JQ,q5 rfl,JQ] at h40
      simp only [aA]
      rw [ah h40]
      simp only [decide_true,ay,bK,aA]
      rw [ah h41]
      simp only [ay,bK,aA]
      rw [ah k17]
      rfl
  have hout:∀{X:Type} {f:X→Option (Bool×Unit)},onS f some (.inr (true,()))=some (true,()):=rfl
  unfold F10
  simp only [aA]
  rw [ah (k28 hp)]
  simp only
  rw [ah (Lw hp)]
  simp only
  rw [ah h44]
  simp only [Xt]
  cases a with
  |true =>
    have hck:=Qg (a:=bs [110,101,119]) (b:=bs [110,111,110,101]) CF.1 (by decide) (by decide)
    have hsh:Jl (bs [110,101,119],(3:Int),bs [110,111,110,101],bs [],(0:Int)):=⟨CF.2,show (bs [110,111,110,101]).size<1000000000 by decide,show (bs []).size<1000000000 by decide⟩
    obtain ⟨hs',hcn⟩:=CC (n:=(bs [110,101,119],(3:Int),bs [110,111,110,101],bs [],(0:Int))) hL fun y hy=>(kZ y.1 (hid y hy)).2.2
    have hni:k9 (cnt (bE (bu p))) (bs [110,101,119])=false:=by
      cases h:k9 (cnt (bE (bu p))) (bs [110,101,119]) with
      |false=>rfl
      |true=>have:=(kZ _ (Hv hC h)).2.2;rw [lR] at this;cases this
    have hno:∀k∈gZ,k≠bs [110,111,110,101]:=by decide
    have hD:∀q,D (cnt (bE (bu p))++[(bs [110,101,119],(3:Int),bs [110,111,110,101],bs [],(0:Int))]) q=D (cnt (bE (bu p))) q:=fun q=>by
      have jR:kids (cnt (bE (bu p))++[(bs [110,101,119],(3:Int),bs [110,111,110,101],bs [],(0:Int))]) q=kids (cnt (bE (bu p))) q:=by rw [yH,if_neg (fun h=>by have:=h.1;simp at this),List.append_nil]
      rw [E8 hs,E8 hs',jR,CD,decide_eq_false (fun h=>h.2 rfl),Bool.or_false]
      have hf:(kids (cnt (bE (bu p))) q).filter (dg (cnt (bE (bu p))++[(bs [110,101,119],(3:Int),bs [110,111,110,101],bs [],(0:Int))]))=(kids (cnt (bE (bu p))) q).filter (dg (cnt (bE (bu p)))):=List.filter_congr fun k hk=>by
        rw [E9,decide_eq_false,Bool.or_false]
        rintro ⟨_,e⟩
        exact hno k (Hv hC (bG.2 (fU hk))) e.symm
      rw [hf]
    obtain ⟨q1,q2,q3,q4⟩:=Lt hs hk hs' rfl hni hD
    refine Eq.trans (ah (a:=.inl (true,bu p,bs [110,101,119],(3:Int),bs [110,111,110,101],bs [],(0:Int),())) ?_) ?_
    · simp only [ay, bK, aA, aa]
      rw [ah (k39 _ _)]
    · exact Gi _ hck hsh rfl (fun x hx=>(q1 x hx).2) q2 q3 q4 (fun h=>by cases h)
  |false =>
    have ho':=kZ _ ho
    have hne:jw 97 (Int.tmod x.2.1 8)≠bs [110,101,119]:=fun e=>by have:=ho'.2.2;rw [e,lR] at this;cases this
    have hck:=UD (a:=bs [110,101,119]) (b:=jw 97 (Int.tmod x.2.1 8)) (d:=bs [120]) (z:=(nP x).2.2.2.2) CF.1 ho'.1 hne (Lv _ Dx) (by have:=QZ.amt;omega)
    have hsh:Jl (bs [110,101,119],(2:Int),jw 97 (Int.tmod x.2.1 8),bs [120],(nP x).2.2.2.2):=⟨CF.2,Z8 _ ho,Cy _ Dx⟩
    obtain ⟨hs',hcn⟩:=CC (n:=(bs [110,101,119],(2:Int),jw 97 (Int.tmod x.2.1 8),bs [120],(nP x).2.2.2.2)) hL fun y hy=>(kZ y.1 (hid y hy)).2.2
    have hF:=Z7 hC ho hs' fun y hy=>(kZ y hy).2.2
    have hlen:(cnt (bE (bu p))++[((bs [110,101,119],(2:Int),jw 97 (Int.tmod x.2.1 8),bs [120],(nP x).2.2.2.2):Mg)]).length≤9:=by rw [List.length_append,List.length_singleton];omega
    have hin:((bs [110,101,119],(2:Int),jw 97 (Int.tmod x.2.1 8),bs [120],(nP x).2.2.2.2):Mg)∈cnt (bE (bu p))++[(bs [110,101,119],(2:Int),jw 97 (Int.tmod x.2.1 8),bs [120],(nP x).2.2.2.2)]:=List.mem_append_right _ (List.mem_singleton.2 rfl)
    have h34:=k34 (c:=cnt (bE (bu p))++[(bs [110,101,119],(2:Int),jw 97 (Int.tmod x.2.1 8),bs [120],(nP x).2.2.2.2)]) (by omega) (bs [110,101,119],(2:Int),jw 97 (Int.tmod x.2.1 8),bs [120],(nP x).2.2.2.2)
    obtain ⟨c1,c2,_⟩:=chn9 hs' hF.k3' hlen hin (by simp)
    rw [c1,c2] at h34
    have e2:(([(bs [110,101,119],(2:Int),jw 97 (Int.tmod x.2.1 8),bs [120],(nP x).2.2.2.2)]:List Mg).drop 0).take 1=[(bs [110,101,119],(2:Int),jw 97 (Int.tmod x.2.1 8),bs [120],(nP x).2.2.2.2)]:=rfl
    have e3:(((((cnt (bE (bu p))).drop 0).take (cnt (bE (bu p))).length++[(bs [110,101,119],(2:Int),jw 97 (Int.tmod x.2.1 8),bs [120],(nP x).2.2.2.2)]).drop 0).take ((cnt (bE (bu p))).length+1))=cnt (bE (bu p))++[(bs [110,101,119],(2:Int),jw 97 (Int.tmod x.2.1 8),bs [120],(nP x).2.2.2.2)]:=by
      rw [List.drop_zero,List.drop_zero,List.take_length,List.take_of_length_le (by simp)]
    have aab:=k43 (f:=97) (n:=Int.tmod x.2.1 8) (by omega) tb.1 (by omega)
    have hrun:∀(s o:Bool),(iL (cnt (bE (bu p))++[(bs [110,101,119],(2:Int),jw 97 (Int.tmod x.2.1 8),bs [120],(nP x).2.2.2.2)]) (bs [110,101,119])).isSome=s→dQ (cnt (bE (bu p))++[(bs [110,101,119],(2:Int),jw 97 (Int.tmod x.2.1 8),bs [120],(nP x).2.2.2.2)]) (bs [110,101,119])=o →
        ak (F34 (cnt (bE (bu p))++[(bs [110,101,119],(2:Int),jw 97 (Int.tmod x.2.1 8),bs [120],(nP x).2.2.2.2)]) (bs [110,101,119],(2:Int),jw 97 (Int.tmod x.2.1 8),bs [120],(nP x).2.2.2.2))=some ((fq (cnt (bE (bu p))++[(bs [110,101,119],(2:Int),jw 97 (Int.tmod x.2.1 8),bs [120],(nP x).2.2.2.2)]) 9 (bs [110,101,119],(2:Int),jw 97 (Int.tmod x.2.1 8),bs [120],(nP x).2.2.2.2) false).1,s,o,()):=by
      rintro s o rfl rfl
      exact h34
    have d2:decide (1<[x.1,x.2.1,x.2.2.1,x.2.2.2].length)=true:=rfl
    have i2:gG .i64 x.2.1=true:=aL (by omega) (by omega)
    have d3:decide ((cnt (bE (bu p))).length+1<cu)=true:=decide_eq_true (by rw [gT];omega)
    cases hst:iL (cnt (bE (bu p))++[(bs [110,101,119],(2:Int),jw 97 (Int.tmod x.2.1 8),bs [120],(nP x).2.2.2.2)]) (bs [110,101,119]) with
    |some t =>
      refine Eq.trans (ah (a:=.inr (true,())) ?_) hout
      simp only [ay,bq,aZ,aS,aA,aa,d2,e1,i2,n83.1,au,aab,aJ,e2,List.length_singleton,d3,e3]
      rw [ah (hrun true _ (by rw [hst];rfl) rfl)]
      simp only [bK]
      rw [ah k17]
    |none =>
      cases hsk:dQ (cnt (bE (bu p))++[(bs [110,101,119],(2:Int),jw 97 (Int.tmod x.2.1 8),bs [120],(nP x).2.2.2.2)]) (bs [110,101,119]) with
      |true =>
        refine Eq.trans (ah (a:=.inr (true,())) ?_) hout
        simp only [ay,bq,aZ,aS,aA,aa,d2,e1,i2,n83.1,au,aab,aJ,e2,List.length_singleton,d3,e3]
        rw [ah (hrun false true (by rw [hst];rfl) hsk)]
        simp only [bq,bK]
        rw [ah k17]
      |false =>
        obtain ⟨q1,q2,q3,q4,q5⟩:=Qk hF hsk hst
        refine Eq.trans (ah (a:=.inl (false,bu p,bs [110,101,119],(2:Int),jw 97 (Int.tmod x.2.1 8),bs [120],(nP x).2.2.2.2,())) ?_) ?_
        · simp only [ay, bq, aZ, aS, aA, aa, d2, e1, i2, n83.1, au, aab, aJ, e2, List.length_singleton, d3, e3]
          rw [ah (hrun false false (by rw [hst];rfl) hsk)]
          simp only [bq]
        · exact Gi _ hck hsh rfl q1 q2 q3 q4 fun _=>q5
theorem ae7 (p:List Nu) (x:Nu) (a:Bool) (hW:DW [.list nuT,nuT,.bool] (p,x,a,())):ak (F10 p x a)=some (true,()):=k10 (fun x hx=>Wg (hW.1.2 x hx)) (Wg hW.2.1)
end Go.Proofs.Tryz
end
