/- Maps that are kept in order: what stands in them. Plain Lean. Messages: names, what is wrong with them. Books: telling, all messages in order. DeleteFunc, Clone, the keys of maps. The messages that count, and what they say of each other. Striking: what is struck, and what corrects it. A book's desk. The versions of a ticket. The versions of a ticket: walked. States and versions. Sums. Spans, sums, accounts. The examples: what works() and Known come to. Messages by numbers. Books that were told good messages. Joins; books that answer the same. TicketOrder. TicketOrder: the row. TicketKept. Ways up to a ticket. Struck, the chain, versions: walked. Ways up: what they say. The messages that count: the first of each id. TicketStates. TicketExact. TicketExact: what the ways say. A book that was told one message more. TicketRuled. The reference: names, errors, books as lists in order, what counts. -/
import Derived.Test.YthemjfloiapaaaaGreatW41
set_option linter.unusedSectionVars false
set_option linter.unusedVariables false
set_option linter.unusedSimpArgs false
section
namespace Go.AM
theorem kN {α : Type} {r : α → α → Prop} (irr : ∀ a, ¬ r a a) (asy : ∀ a b, r a b → ¬ r b a) : ∀ {l l' : List α}, l.Pairwise r → l'.Pairwise r → (∀ x, x ∈ l ↔ x ∈ l') → l = l'
 |[],[],_,_,_=>rfl
 |[],b::s,_,_,h=>by have:=(h b).2 (List.mem_cons_self ..);cases this
 |a::r',[],_,_,h=>by have:=(h a).1 (List.mem_cons_self ..);cases this
 |a::l,b::s,h1,h2,h=>by
  rw [List.pairwise_cons] at h1 h2
  have e:a=b:=by
   rcases List.mem_cons.1 ((h a).1 (List.mem_cons_self ..)) with e|ha
   ·exact e
   rcases List.mem_cons.1 ((h b).2 (List.mem_cons_self ..)) with e|hb
   ·exact e.symm
   ·exact absurd (h2.1 a ha) (asy _ _ (h1.1 b hb))
  subst e
  rw [kN irr asy h1.2 h2.2 fun x=>?_]
  constructor
  ·intro hx
   rcases List.mem_cons.1 ((h x).1 (List.mem_cons_of_mem _ hx)) with e|hx'
   ·subst e;exact absurd (h1.1 x hx) (irr x)
   ·exact hx'
  ·intro hx
   rcases List.mem_cons.1 ((h x).2 (List.mem_cons_of_mem _ hx)) with e|hx'
   ·subst e;exact absurd (h2.1 x hx) (irr x)
   ·exact hx'
section
variable {t:Ty} {ks:List Kd} {β:Type}
theorem jI (hk:bF t=some ks) {x:t.den}:dJ t x x=true:=ko x hk
theorem Ck (hk:bF t=some ks) {x y:t.den}:dJ t x y=true↔x=y:=⟨bL,fun h=>by subst h;exact jI hk⟩
theorem eo (hk:bF t=some ks) (x:t.den):eS t x x=false:=by
 cases h:eS t x x with
 |false=>rfl
 |true=>exact (cT hk h h).elim
theorem UJ (hk:bF t=some ks) {x y:t.den} (h:eS t x y=true):dJ t x y=false:=by
 cases h':dJ t x y with
 |false=>rfl
 |true=>rw [bL h',eo hk] at h;cases h
def gN (t:Ty) (es:List (t.den×β)):Prop:=es.Pairwise fun a b=>eS t a.1 b.1=true
theorem gN.kd (hk:bF t=some ks) {es:List (t.den×β)} (h:gN t es):KD t es:=List.Pairwise.imp (fun h=>UJ hk h) h
theorem E0 {es:List (t.den×β)} {x:t.den} {v:β} {e:t.den×β}:e∈pI t es x v↔e=(x,v)∨e∈es:=by
 rw [jM.mem_iff];simp
theorem gN.mins (hk : bF t = some ks) {x : t.den} {v : β} : ∀ {es : List (t.den × β)}, gN t es → aO t es x = false → gN t (pI t es x v)
 |[],_,_=>by unfold gN;simp [pI]
 |e::r,h,hn=>by
  unfold gN at h
  rw [List.pairwise_cons] at h
  have hne:=sS hn (List.mem_cons_self ..)
  have hnr:aO t r x=false:=by simpa [aO,hne] using hn
  unfold pI
  split
  ·rename_i hlt
   unfold gN
   rw [List.pairwise_cons]
   refine ⟨fun b hb=>?_,List.pairwise_cons.2 h⟩
   rcases List.mem_cons.1 hb with rfl|hb
   ·exact hlt
   ·exact iJ hk hlt (h.1 b hb)
  ·rename_i hlt
   unfold gN
   rw [List.pairwise_cons]
   refine ⟨fun b hb=>?_,gN.mins hk h.2 hnr⟩
   rcases E0.1 hb with rfl|hb
   ·cases hlt':eS t e.1 x with
    |true=>rfl
    |false =>
     have:=iI hk (by simpa using hlt) hlt'
     rw [this,jI hk] at hne;cases hne
   ·exact h.1 b hb
theorem gN.iw (hk:bF t=some ks) {x:t.den} {v:β} {es:List (t.den×β)} (h:gN t es):gN t (bg t es x v):=by
 unfold bg
 split
 ·unfold gN
  rw [List.pairwise_map]
  refine List.Pairwise.imp ?_ h
  intro a b hab
  split<;>split
  ·rename_i h1 h2
   rw [←bL h1,←bL h2,eo hk] at hab;cases hab
  ·rename_i h1 h2
   rw [←bL h1] at hab;exact hab
  ·rename_i h1 h2
   rw [←bL h2] at hab;exact hab
  ·exact hab
 ·rename_i hn
  exact h.mins hk (by simpa using hn)
theorem dy (hk:bF t=some ks) {es:List (t.den×β)} {x:t.den}:aO t es x=true↔∃v,(x,v)∈es:=by
 unfold aO
 rw [List.any_eq_true]
 constructor
 ·rintro ⟨e,he,hx⟩;rw [bL hx];exact ⟨e.2,he⟩
 ·rintro ⟨v,hv⟩;exact ⟨_,hv,jI hk⟩
theorem fW (hk:bF t=some ks) {es:List (t.den×β)} {x:t.den} {v d:β} (h:gN t es) (hm:(x,v)∈es):az t d es x=v:=mJ (h.kd hk) hm (jI hk)
theorem fZ (hk:bF t=some ks) {es:List (t.den×β)} {x:t.den} {v:β} (h:gN t es) {e:t.den×β}:e∈bg t es x v↔e=(x,v)∨(e∈es∧e.1≠x):=by
 unfold bg
 split
 ·rename_i hh
  obtain ⟨u,hu⟩:=(dy hk).1 hh
  rw [List.mem_map]
  constructor
  ·rintro ⟨e', he', rfl⟩
   split
   ·exact .inl rfl
   ·rename_i hne;exact .inr ⟨he',fun e=>hne (by rw [e];exact jI hk)⟩
  ·rintro (rfl | ⟨he, hne⟩)
   ·exact ⟨(x,u),hu,by simp [jI hk]⟩
   ·exact ⟨e,he,by rw [if_neg];intro h;exact hne (bL h).symm⟩
 ·rename_i hh
  rw [E0]
  constructor
  ·rintro (h | h)
   ·exact .inl h
   ·refine .inr ⟨h, fun e' => hh ?_⟩
    rw [←e'];exact (dy hk).2 ⟨_,h⟩
  ·rintro (h | h)
   ·exact .inl h
   ·exact .inr h.1
theorem Lz (hk:bF t=some ks) {es:List (t.den×β)} {x y:t.den} {v d:β} (h:gN t es):az t d (bg t es x v) y=if dJ t y x=true then v else az t d es y:=by
 have hc:=h.iw (x:=x) (v:=v) hk
 split
 ·rename_i e; have e := bL e; subst e
  exact fW hk hc ((fZ hk h).2 (.inl rfl))
 ·rename_i e0
  have e:y≠x:=fun h=>e0 ((Ck hk).2 h)
  cases hm:aO t es y with
  |true =>
   obtain ⟨u,hu⟩:=(dy hk).1 hm
   rw [fW hk h hu]
   exact fW hk hc ((fZ hk h).2 (.inr ⟨hu,e⟩))
  |false =>
   rw [gB hm,gB]
   cases hm':aO t (bg t es x v) y with
   |false=>rfl
   |true =>
    obtain ⟨u,hu⟩:=(dy hk).1 hm'
    rcases (fZ hk h).1 hu with e'|⟨h',_⟩
    ·cases e';exact absurd rfl e
    ·rw [(dy hk).2 ⟨u,h'⟩] at hm;cases hm
theorem oZ (hk:bF t=some ks) {es:List (t.den×β)} {x y:t.den} {v:β} (h:gN t es):aO t (bg t es x v) y=(dJ t y x||aO t es y):=by
 rw [Bool.eq_iff_iff,dy hk,Bool.or_eq_true,Ck hk,dy hk]
 constructor
 ·rintro ⟨u, hu⟩
  rcases (fZ hk h).1 hu with e|⟨h',_⟩
  ·cases e;exact .inl rfl
  ·exact .inr ⟨u,h'⟩
 ·by_cases e : y = x
  ·subst e;exact fun _=>⟨v,(fZ hk h).2 (.inl rfl)⟩
  ·rintro (h' | ⟨u, hu⟩)
   ·exact absurd h' e
   ·exact ⟨u,(fZ hk h).2 (.inr ⟨hu,e⟩)⟩
theorem Jw (hk:bF t=some ks) {es es':List (t.den×β)} (h:gN t es) (h':gN t es') (hm:∀e,e∈es↔e∈es'):es=es' :=
 kN (r:=fun a b:t.den×β=>eS t a.1 b.1=true) (fun a h=>by rw [eo hk] at h;cases h) (fun a b h1 h2=>cT hk h1 h2) h h' hm
theorem gN.keys (hk:bF t=some ks) {es:List (t.den×β)} (h:gN t es):CE t (es.map (·.1)):=by
 unfold CE
 rw [List.pairwise_map]
 refine List.Pairwise.imp (fun {a b} hab=>?_) h
 cases hba:eS t b.1 a.1 with
 |false=>rfl
 |true=>exact (cT hk hab hba).elim
theorem gN.nil:gN (β:=β) t []:=List.Pairwise.nil
theorem P4 {es:List (t.den×Bool)} (hk:bF t=some ks) (h:gN t es) (ht:∀e∈es,e.2=true) {x:t.den}:∀e∈bg t es x true,e.2=true:=fun e he=>by
 rcases (fZ hk h).1 he with rfl|⟨h',_⟩
 ·rfl
 ·exact ht e h'
theorem P5 {es:List (t.den×Bool)} (hk:bF t=some ks) (h:gN t es) (ht:∀e∈es,e.2=true) {x:t.den}:az t false es x=aO t es x:=by
 cases hm:aO t es x with
 |false=>exact gB hm
 |true =>
  obtain ⟨u,hu⟩:=(dy hk).1 hm
  rw [fW hk h hu];exact ht _ hu
theorem P6 (hk:bF t=some ks) {es es':List (t.den×Bool)} (h:gN t es) (h':gN t es') (ht:∀e∈es,e.2=true) (ht':∀e∈es',e.2=true) (hm:∀x,aO t es x=aO t es' x):es=es':=by
 refine Jw hk h h' fun e=>?_
 have key:∀{es es':List (t.den×Bool)},(∀e∈es,e.2=true)→(∀e∈es',e.2=true)→(∀x,aO t es x=aO t es' x)→e∈es→e∈es':=fun {es es'} ht ht' hm he=>by
  have h1:aO t es' e.1=true:=by rw [←hm];exact (dy hk).2 ⟨e.2,he⟩
  obtain ⟨u,hu⟩:=(dy hk).1 h1
  have e1:=ht e he
  have e2:=ht' _ hu
  obtain ⟨a,b⟩:=e
  simp only at e1 e2;subst e1;subst e2;exact hu
 exact ⟨key ht ht' hm,key ht' ht fun x=>(hm x).symm⟩
end
end Go.AM
end
section
namespace Go.Proofs.Tryz
open Go.AM
set_option maxRecDepth 100000
abbrev Mg:=ByteArray×Int×ByteArray×ByteArray×Int
abbrev tM:Ty:=.prod .str (.prod (.int .i64) (.prod .str (.prod .str (.int .i64))))
abbrev kM:bF tM=some [.s,.i,.s,.s,.i]:=rfl
abbrev kS:bF .str=some [.s]:=rfl
theorem seq_eq (a b:ByteArray):seq a b=decide (a=b):=by
 unfold seq
 rw [Go.ByteArray.toList_eq,Go.ByteArray.toList_eq]
 by_cases h:a=b
 ·subst h;simp
 ·rw [decide_eq_false h, beq_eq_false_iff_ne]
  intro e;apply h
  obtain ⟨x⟩:=a;obtain ⟨y⟩:=b
  simp at e;rw [e]
theorem sq (a b:ByteArray):dJ .str a b=decide (a=b):=by
 rw [←seq_eq];simp only [dJ,seq,Go.ByteArray.toList_eq]
def nk (i:Nat) (b:Int):Bool:=decide (97≤b∧b≤122)||decide (i≠0∧48≤b∧b≤57)
def Jx : Nat → List Int → Bool
 |_,[]=>true
 |i,b::r=>nk i b&&Jx (i+1) r
def gx (s:ByteArray):Bool:=Jx 0 (eU s)&&decide (0<s.size∧s.size≤10)
theorem k65 (s:ByteArray) (hs:s.size<1000000000):ah (F65 s)=some (gx s,()):=by
 have hl:(eU s).length=s.size:=uw s
 unfold F65
 simp only [aA,bB]
 refine bind_eq (aP (eU s) (fun k (_:Nat)=>(s,eU s,((eU s).length:Int),(k:Int),())) (fun i r=>if Jx i r=true then .inr (s,()) else .inl ()) (fun pre i=>i=pre.length) ?_ ?_ (s:=0) rfl) ?_
 ·intro pre x post i hx hi
  subst hi
  have hlen:(eU s).length=pre.length+(post.length+1):=by rw [hx];simp
  have hd:(eU s).getD pre.length 0=x:=by rw [hx];exact aU rfl
  have key:run (fun _=>none) (g65_0 (s,eU s,((eU s).length:Int),(pre.length:Int),()))=if nk pre.length x=true then some (.inl (s,eU s,((eU s).length:Int),((pre.length+1:Nat):Int),())) else some (.inr (.inl ())):=by
   simp only [g65_0,ak,aN,aJ,aS,aa,Int.toNat_natCast,hd,aM,bh]
   rw [if_pos (by omega),DU (by omega) (by omega)]
   unfold nk;simp only [Bool.or_eq_true,decide_eq_true_eq]
   by_cases h1:x<97
   ·rw [if_pos h1]
    by_cases h2:(pre.length:Int)=0
    ·rw [if_pos h2,if_neg (by omega)]
    ·rw [if_neg h2]
     by_cases h3:x<48
     ·rw [if_pos h3,if_neg (by omega)]
     ·rw [if_neg h3]
      by_cases h4:57<x
      ·rw [if_pos h4,if_neg (by omega)]
      ·rw [if_neg h4, if_pos, rK (by omega) (by omega)]; · rfl
       omega
   ·rw [if_neg h1]
    by_cases h5:122<x
    ·rw [if_pos h5]
     by_cases h2:(pre.length:Int)=0
     ·rw [if_pos h2,if_neg (by omega)]
     ·rw [if_neg h2]
      by_cases h3:x<48
      ·omega
      ·rw [if_neg h3,if_pos (by omega),if_neg (by omega)]
    ·rw [if_neg h5, if_pos, rK (by omega) (by omega)]; · rfl
     omega
  rw [key]
  by_cases hb:nk pre.length x=true
  ·left
   exact ⟨pre.length+1,by rw [if_pos hb],by simp,by simp [Jx,hb]⟩
  ·right
   rw [if_neg hb]
   have:Jx pre.length (x::post)=false:=by simp [Jx,hb]
   simp [this]
 ·intro i _
  simp only [g65_0,ak,aM]
  rw [if_neg (by omega)]
  simp [Jx,aa]
 ·unfold gx
  by_cases h:Jx 0 (eU s)=true
  ·rw [if_pos h, h]
   simp only [kn,ak,aa,aM]
   by_cases h0:(0:Int)<((s.size:Nat):Int)
   ·rw [if_pos h0, Bool.true_and]
    congr 2
    exact decide_eq_decide.2 (by omega)
   ·rw [if_neg h0]
    simp;omega
  ·rw [if_neg h]
   simp [h,lJ,aa]
def E1 (l:List Int):Int:=(l.find? (· != 0)).getD 0
theorem k86 (l:List Int) (hl:l.length<1000000000):ah (F86 l)=some (E1 l,()):=by
 unfold F86
 simp only [aA,bB]
 refine bind_eq (aP l (fun k (_:Nat)=>((0:Int),l,((l.length:Nat):Int),(k:Int),())) (fun i r=>if (r.find? (· != 0)).isSome then .inl (E1 r,()) else .inr (0,())) (fun pre i=>i=pre.length) ?_ ?_ (s:=0) rfl) ?_
 ·intro pre x post i hx hi
  subst hi
  have hlen:l.length=pre.length+(post.length+1):=by rw [hx];simp
  have hd:l.getD pre.length 0=x:=by rw [hx];exact aU rfl
  have hin:bZ (pre.length:Int) (l.length:Int)=true:=aR (by omega) (by omega)
  have hni:de .i64 ((pre.length:Int)+1)=true:=aH (by omega) (by omega)
  by_cases h:x=0
  ·left
   refine ⟨pre.length+1,?_,by simp,by simp [h,E1]⟩
   simp only [g86_0,ak,aN,aJ,aa,Int.toNat_natCast,hd,aM,bh,bA,hin,hni,af]
   rw [if_pos (by omega),if_pos h];rfl
  ·right
   simp only [g86_0,ak,aN,aJ,aa,Int.toNat_natCast,hd,aM,bh,bA,hin,hni,af]
   rw [if_pos (by omega),if_neg h]
   simp [h,E1]
 ·intro i _
  simp only [g86_0,ak,aM]
  rw [if_neg (by omega)]
  simp [aa]
 ·cases h:(l.find? (· != 0)).isSome with
  |true=>rw [if_pos rfl];simp only [lJ,aa]
  |false =>
   rw [if_neg (by simp)]
   have:E1 l=0:=by
    unfold E1
    cases h':l.find? (· != 0) with
    |none=>rfl
    |some _=>rw [h'] at h;cases h
   rw [this];simp only [kn,aa]
def uE (m:Mg):Int:=if m.2.1=1 then (if m.2.2.1=bs [] then 0 else 22) else if gx m.2.2.1=true then (if m.2.2.1=m.1 then 22 else 0) else 8
def pW (m:Mg):Int:=if m.2.1=3 then (if m.2.2.2.1=bs []∧m.2.2.2.2=0 then 0 else 22) else if gx m.2.2.2.1=true then (if -1000≤m.2.2.2.2∧m.2.2.2.2≤1000 then 0 else 2) else 8
def uF (m:Mg):Int:=if m.2.1<1∨3<m.2.1 then 18 else if gx m.1=true then E1 [uE m,pW m] else 8
def Sh (s:ByteArray):Prop:=s.size<1000000000
def P7 (m:Mg):Prop:=Sh m.1∧Sh m.2.2.1∧Sh m.2.2.2.1
theorem k87 (m:Mg) (h:P7 m):ah (F87 m)=some (uE m,()):=by
 unfold F87 uE
 simp only [ak,aA,aa,bh,k65 _ h.2.1,aF,bA,seq_eq,aM]
 split
 ·split<;>rfl
 ·rw [jA]
  split
  ·split<;>rfl
  ·rfl
theorem k88 (m:Mg) (h:P7 m):ah (F88 m)=some (pW m,()):=by
 unfold F88 pW
 simp only [ak,aA,aa,bh,k65 _ h.2.2,aF,bA,seq_eq,aM]
 split
 ·by_cases h1 : m.2.2.2.1 = bs []
  ·by_cases h2:m.2.2.2.2=0<;>simp [h1,h2]
  ·simp [h1]
 ·rw [jA]
  split
  ·by_cases h1 : m.2.2.2.2 < -1000
   ·rw [if_pos h1,if_neg (by omega)]
   ·rw [if_neg h1]
    by_cases h2:1000<m.2.2.2.2
    ·rw [if_pos h2,if_neg (by omega)]
    ·rw [if_neg h2,if_pos (by omega)]
  ·rfl
theorem k55 (m:Mg) (h:P7 m):ah (F55 m)=some (uF m,()):=by
 have h86:=k86 [uE m,pW m] (by simp)
 unfold F55 uF
 simp only [ak,aA,aa,aM,k65 _ h.1,aF,bA,k87 m h,k88 m h]
 have hl:((uE m::pW m::[]).drop 0).take 2=[uE m,pW m]:=rfl
 simp only [hl,h86,aF]
 by_cases h1:m.2.1<1
 ·rw [if_pos h1,if_pos (.inl h1)]
 ·rw [if_neg h1]
  by_cases h2:3<m.2.1
  ·rw [if_pos h2,if_pos (.inr h2)]
  ·rw [if_neg h2, if_neg (by omega), jA]
   split<;>rfl
end Go.Proofs.Tryz
end
section
namespace Go.Proofs.Tryz
open Go.AM
set_option maxRecDepth 100000
def bk (L:List Mg):List (Mg×Bool):=L.map fun m=>(m,true)
def SL (L:List Mg):Prop:=L.Pairwise fun a b=>eS tM a b=true
theorem SL.can {L:List Mg} (h:SL L):gN tM (bk L):=by
 unfold gN bk;rw [List.pairwise_map];exact h
theorem bk_t {L:List Mg}:∀e∈bk L,e.2=true:=fun e he=>by
 obtain ⟨m,_,rfl⟩:=List.mem_map.1 he;rfl
theorem Hv {L:List Mg} {m:Mg} {b:Bool}:(m,b)∈bk L↔m∈L∧b=true:=by
 unfold bk;rw [List.mem_map]
 constructor
 ·rintro ⟨x,hx,h⟩;cases h;exact ⟨hx,rfl⟩
 ·rintro ⟨h,rfl⟩;exact ⟨m,h,rfl⟩
theorem Jy {L:List Mg}:(bk L).map (·.1)=L:=by simp [bk,List.map_map,Function.comp_def]
theorem P8 {L:List Mg}:(bk L).length=L.length:=by simp [bk]
theorem af3 {es:List (Mg×Bool)} (h:∀e∈es,e.2=true):bk (es.map (·.1))=es:=by
 unfold bk;rw [List.map_map]
 conv=>rhs;rw [←List.map_id es]
 refine List.map_congr_left fun e he=>?_
 obtain ⟨a,b⟩:=e
 have:=h _ he
 simp only at this;subst this;rfl
def lM (L:List Mg) (m:Mg):List Mg:=(bg tM (bk L) m true).map (·.1)
theorem Hw {L:List Mg} (h:SL L) {m:Mg}:bk (lM L m)=bg tM (bk L) m true:=af3 (P4 kM h.can bk_t)
theorem yp {L:List Mg} (h:SL L) {m x:Mg}:x∈lM L m↔x=m∨x∈L:=by
 have:x∈lM L m↔(x,true)∈bk (lM L m):=by rw [Hv];simp
 rw [this,Hw h,fZ kM h.can]
 constructor
 ·rintro (e | ⟨h1, h2⟩)
  ·cases e;exact .inl rfl
  ·exact .inr (Hv.1 h1).1
 ·by_cases e : x = m
  ·subst e;exact fun _=>.inl rfl
  ·rintro (e' | h')
   ·exact absurd e' e
   ·exact .inr ⟨Hv.2 ⟨h',rfl⟩,e⟩
theorem SL.ins {L:List Mg} (h:SL L) {m:Mg}:SL (lM L m):=by
 have:=h.can.iw (x:=m) (v:=true) kM
 rw [←Hw h] at this
 unfold gN bk at this;rw [List.pairwise_map] at this;exact this
theorem SL.ext {L L':List Mg} (h:SL L) (h':SL L') (hm:∀x,x∈L↔x∈L'):L=L' :=
 kN (fun a h=>by rw [eo kM] at h;cases h) (fun a b h1 h2=>cT kM h1 h2) h h' hm
theorem P9 {L:List Mg} {m:Mg}:(lM L m).length≤L.length+1:=by
 unfold lM bg
 rw [List.length_map]
 split
 ·simp [bk]
 ·rw [jM.length_eq];simp [bk]
theorem Jz {L:List Mg} (h:SL L) {m:Mg} (hm:m∈L):lM L m=L:=h.ins.ext h fun x=>by
 rw [yp h]
 constructor
 ·rintro (rfl | h')
  ·exact hm
  ·exact h'
 ·exact .inr
theorem Hx (m:List (Mg×Bool)):ah (FH54 m)=some (false,m,()):=rfl
def gY (L:List Mg) (m:Mg):Int×List Mg:=if uF m=0 then (if 60<(lM L m).length then (15,L) else (0,lM L m)) else (uF m,L)
theorem g56 {mm m1:List (Mg×Bool)} {b3:List Mg} {n:Nat} {k:Nat} (hn:n=b3.length) (hb:n<1000000000) (hk:k<n) :
  ah (gH56_0 (n,((n:Nat):Int),(k:Int),mm,b3,m1,()))=some (.inl (n,((n:Nat):Int),((k+1:Nat):Int),bg tM mm (b3.getD k (bs [],(0:Int),bs [],bs [],(0:Int))) true,b3,m1,())):=by
 have hin:bZ (k:Int) (n:Int)=true:=aR (by omega) (by omega)
 have hni:de .i64 ((k:Int)+1)=true:=aH (by omega) (by omega)
 simp only [gH56_0,ak,aN,aS,aJ,aa,Int.toNat_natCast,Nat.zero_add,aM,hin,hni,af]
 rw [if_pos (by omega),b7 (by omega)]
 rfl
theorem g56e {mm m1:List (Mg×Bool)} {b3:List Mg} {n:Nat}:ah (gH56_0 (n,((n:Nat):Int),(n:Int),mm,b3,m1,()))=some (.inr (mm,m1,())):=by
 simp only [gH56_0,ak,aa,aM]
 rw [if_neg (by omega)]
theorem kH56 {L:List Mg} (h:SL L) (hl:L.length≤60) (m:Mg):ah (FH56 m.1 m.2.1 m.2.2.1 m.2.2.2.1 m.2.2.2.2 (bk L))=some (if 60<(lM L m).length then (15,bk L,()) else (0,bk (lM L m),())):=by
 have hit:iter (fun x=>ah (gH56_0 x)) ((1:Nat),((1:Nat):Int),(0:Int),bk L,[m],bk L,())=some (bk (lM L m),bk L,()):=by
  rw [Hw h]
  exact rq (g56 (b3:=[m]) (n:=1) (k:=0) rfl (by omega) (by omega)) (j9 g56e)
 unfold FH56
 simp only [aA,FH89,FH193,aa,aF,bB]
 refine bind_eq hit ?_
 simp only [ak,aa,aM,P8]
 by_cases hc:60<(lM L m).length
 ·rw [if_pos (by omega),if_pos hc]
 ·rw [if_neg (by omega),if_neg hc]
theorem aak {L:List Mg} (h:SL L) (hl:L.length≤60) {m:Mg} (hm:P7 m):ah (FH20 m (bk L))=some ((gY L m).1,bk (gY L m).2,()):=by
 have h55:=k55 m hm
 unfold FH20
 simp only [aA,Hx,aF,ak,aY]
 rw [ai (show ah (F55 (m.1,m.2.1,m.2.2.1,m.2.2.2.1,m.2.2.2.2))=_ from h55)]
 simp only [bA,bh]
 unfold gY
 by_cases hc:uF m=0
 ·rw [if_pos hc, if_pos hc]
  rw [ai (kH56 h hl m)]
  split<;>rfl
 ·rw [if_neg hc,if_neg hc];rfl
structure mB (L:List Mg):Prop where
 s:SL L
 len:L.length≤60
 uF:∀m∈L,uF m=0
theorem mB.nil:mB []:=⟨.nil,by simp,fun m h=>by cases h⟩
theorem mB.tell {L:List Mg} (h:mB L) (m:Mg):mB (gY L m).2:=by
 unfold gY
 split
 ·rename_i hc
  split
  ·exact h
  ·rename_i h60
   refine ⟨h.s.ins,by simp only;omega,fun x hx=>?_⟩
   rcases (yp h.s).1 hx with rfl|hx
   ·exact hc
   ·exact h.uF x hx
 ·exact h
def yq (l:List Mg):List Mg:=l.foldl (fun L m=>(gY L m).2) []
theorem mB.fold {L : List Mg} (h : mB L) : ∀ l : List Mg, mB (l.foldl (fun L m => (gY L m).2) L)
 |[]=>h
 |m::l=>mB.fold (h.tell m) l
theorem mB.told (l:List Mg):mB (yq l):=mB.nil.fold l
theorem aal {l:List Mg} (hl:l.length<1000000000) (hs:∀m∈l,P7 m):ah (FH29 l)=some (bk (yq l),()):=by
 unfold FH29
 simp only [aA,FH18,aa,aF,bB]
 refine bind_eq (aP l (fun k (L:List Mg)=>(l,(k:Int),bk L,())) (fun L r=>(bk (r.foldl (fun L m=>(gY L m).2) L),())) (fun _ L=>mB L) ?_ ?_ (s:=[]) mB.nil) rfl
 ·intro pre x post L hx hL
  have hlen:l.length=pre.length+(post.length+1):=by rw [hx];simp
  have hd:l.getD pre.length (bs [],(0:Int),bs [],bs [],(0:Int))=x:=by rw [hx];exact aU rfl
  have hin:bZ (pre.length:Int) (l.length:Int)=true:=aR (by omega) (by omega)
  have hni:de .i64 ((pre.length:Int)+1)=true:=aH (by omega) (by omega)
  left
  refine ⟨(gY L x).2,?_,hL.tell x,rfl⟩
  simp only [gH29_0,ak,aN,aJ,aa,aA,Int.toNat_natCast,aM,hin,hni,af]
  rw [if_pos (by omega)]
  have hk:=aak hL.s hL.len (hs x (by rw [hx];simp))
  rw [hd]
  rw [ai (show ah (FH20 (x.1,x.2.1,x.2.2.1,x.2.2.2.1,x.2.2.2.2) (bk L))=_ from hk)]
  rfl
 ·intro L _
  simp only [gH29_0,ak,aa,aM]
  rw [if_neg (by omega)]
  rfl
theorem E2 {E A : Type} {step : E → A → Option A} (f : A → E → A) (I : A → Prop) : ∀ (l : List E) (x : A), I x → (∀ e ∈ l, ∀ x, I x → step e x = some (f x e) ∧ I (f x e)) → zU step l x = some (l.foldl f x) ∧ I (l.foldl f x)
 |[],x,hx,_=>⟨rfl,hx⟩
 |e::l,x,hx,h=>by
  obtain ⟨h1,h2⟩:=h e (List.mem_cons_self ..) x hx
  obtain ⟨h3,h4⟩:=E2 f I l (f x e) h2 fun e he=>h e (List.mem_cons_of_mem _ he)
  exact ⟨by simp only [zU,h1];exact h3,h4⟩
theorem sr {K V M : Type} {step : K × V → M × Nat × List K × Unit → Option (M × Nat × List K × Unit)} {m : M} {l : List (K × V)} (hl : l.length < 1000000000)
  (h:∀e n b,n<1000000000→step e (m,n,b,())=some (m,n+1,(b.drop 0).take n++[e.1],())):zU step l (m,0,[],())=some (m,l.length,l.map (·.1),()):=by
 have key:∀(l:List (K×V)) (b:List K),b.length+l.length<1000000000→zU step l (m,b.length,b,())=some (m,b.length+l.length,b++l.map (·.1),()):=by
  intro l
  induction l with
  |nil=>intro b _;simp [zU]
  |cons e l ih =>
   intro b hb
   simp only [List.length_cons] at hb
   simp only [zU,h e b.length b (by omega)]
   have:=ih (b++[e.1]) (by simp;omega)
   simp only [List.drop_zero,List.take_length]
   rw [List.length_append,List.length_singleton] at this
   rw [this]
   simp only [List.length_cons,List.map_cons,List.append_assoc,List.singleton_append]
   congr 3
   omega
 have:=key l [] (by simpa using hl)
 simpa using this
theorem oF {t:Ty} {ks:List Kd} (hk:bF t=some ks) {l s:List t.den} (hp:s.Perm l) (hs:CE t s) (hl:l.length<1000000000):uR t l l.length=some (s,()):=by
 unfold uR
 rw [if_pos ⟨Nat.le_refl _,by rw [ei];omega⟩,List.take_length,List.drop_length,List.append_nil,rN hk hp hs]
theorem SL.srt {L:List Mg} (h:SL L):CE tM L:=by
 have:=h.can.keys kM
 rwa [Jy] at this
theorem kH83 {L:List Mg} (h:SL L) (hl:L.length<1000000000):ah (FH83 (bk L))=some (L.length,L,bk L,()):=by
 unfold FH83
 refine Eq.trans BL (gF fun l hp=>?_)
 have yH:l.length=L.length:=by rw [hp.length_eq,P8]
 simp only [aA,BM]
 refine bind_eq (sr (m:=bk L) (l:=l) (by rw [yH];exact hl) fun e n b hn=>?_) ?_
 ·simp only [gH83f109f128_0i_0, aS, aa, dG, af]
  rw [b7 (show _<bI by rw [ei];simp;omega)]
  rfl
 ·simp only [FH110, xA]
  have hpk:L.Perm (l.map (·.1)):=by
   have:=(hp.map (·.1)).symm
   rwa [Jy] at this
  have:=oF kM hpk h.srt (by rw [List.length_map];omega)
  rw [List.length_map] at this
  rw [ai this,yH]
  rfl
theorem kH47 {L:List Mg} (h:SL L) (hl:L.length<1000000000):ah (FH47 (bk L))=some (L.length,L,bk L,()):=by
 unfold FH47
 simp only [aA,Hx,aF,ak,aY,FH84,aa]
 rw [ai (kH83 h hl)]
end Go.Proofs.Tryz
end
section
namespace Go.Proofs.Tryz
open Go.AM
set_option maxRecDepth 100000
abbrev AD:=List (ByteArray×Mg)
abbrev Fm:=List (ByteArray×List ByteArray)
abbrev fJ:=List (ByteArray×Bool)
theorem kH98 {l:List ByteArray} (hl:l.length<1000000000):ah (FH98 l)=some (l.length,l,()):=by
 simp only [FH98,ak,X9,aS,aa,bh]
 rw [D6 (by omega)]
 split
 ·have : l = [] := List.length_eq_zero_iff.1 (by omega)
  subst this
  simp only [List.length_nil,List.drop_nil,List.take_nil,List.append_nil,Nat.add_zero]
  exact zW
 ·simp
def eH (del : ByteArray → Bool) : Nat → List ByteArray → Option Nat
 |_,[]=>none
 |k,x::r=>if del x=true then some k else eH del (k+1) r
theorem lu (del : ByteArray → Bool) : ∀ (l : List ByteArray) (k : Nat), (∃ p x q, l = p ++ x :: q ∧ (∀ c ∈ p, del c = false) ∧ del x = true ∧ eH del k l = some (k + p.length)) ∨ ((∀ c ∈ l, del c = false) ∧ eH del k l = none)
 |[],k=>.inr ⟨by simp,rfl⟩
 |y::l,k=>by
  by_cases h:del y=true
  ·left
   exact ⟨[],y,l,rfl,by simp,h,by simp [eH,h]⟩
  ·rcases lu del l (k + 1) with ⟨p, x, q, h1, h2, h3, h4⟩ | ⟨h1, h2⟩
   ·left
    refine ⟨y::p,x,q,by rw [h1];rfl,fun c hc=>?_,h3,?_⟩
    ·rcases List.mem_cons.1 hc with rfl | hc
     ·simpa using h
     ·exact h2 c hc
    ·unfold eH;rw [if_neg h,h4,List.length_cons,show k+1+p.length=k+(p.length+1) by omega]
   ·right
    refine ⟨fun c hc=>?_,by unfold eH;rw [if_neg h,h2]⟩
    rcases List.mem_cons.1 hc with rfl|hc
    ·simpa using h
    ·exact h1 c hc
theorem su {del:ByteArray→Bool} {l:List ByteArray} (h:∀c∈l,del c=false):l.filter (fun c => !del c)=l:=List.filter_eq_self.2 fun c hc=>by rw [h c hc];rfl
section
variable {m3:AD} {m4:Fm} {m5 m6:fJ}
theorem kH99 (v:ByteArray):ah (FH99 v m3 m4 m5 m6)=some (!(az .str false m5 v),m3,m4,m5,m6,()):=rfl
theorem af7 {l:List ByteArray} (hl:l.length<1000000000):ah (FH119 l.length l m3 m4 m5 m6)=some ((match eH (fun v => !(az .str false m5 v)) 0 l with|some k=>((k:Nat):Int)|none => -1),m3,m4,m5,m6,l,()):=by
 have hi := aP (f := fun a => run (fun _ => none) (gH119_0 a)) l (fun k (_ : Nat) => (l.length, ((l.length : Nat) : Int), (k : Int), l, m3, m4, m5, m6, ())) (fun k r => match eH (fun v => !(az .str false m5 v)) k r with | some k => .inl (((k : Nat) : Int), m3, m4, m5, m6, l, ()) | none => .inr (m3, m4, m5, m6, l, ())) (fun pre k => k = pre.length) (by
  rintro pre x post k hx rfl
  have hlen:l.length=pre.length+(post.length+1):=by rw [hx];simp
  have hd:l.getD pre.length (bs [])=x:=by rw [hx];exact aU rfl
  have i1:bZ (pre.length:Int) ((l.length:Nat):Int)=true:=aR (by omega) (by omega)
  have r1:de .i64 ((pre.length:Int)+1)=true:=aH (by omega) (by omega)
  have d1:decide (pre.length<l.length)=true:=decide_eq_true (by omega)
  simp only [gH119_0,ak,aA,aN,aS,aJ,aa,Int.toNat_natCast,Nat.zero_add,hd,kH99,aF,i1,r1,d1,af,aM]
  rw [if_pos (by omega)]
  by_cases h:(!(az .str false m5 x))=true
  ·right;rw [h,bM];simp only [eH,h,if_true]
  ·left
   refine ⟨pre.length+1,?_⟩
   rw [Gk (by simpa using h)]
   refine ⟨rfl,by simp,?_⟩
   simp only [eH,h,if_false];rfl) (by
  rintro k _
  simp only [gH119_0,ak,aM,aa]
  rw [if_neg (by omega)];rfl) (s:=0) rfl
 simp only [FH119,aA,bB]
 refine bind_eq hi ?_
 split<;>rfl
theorem kH97 {l:List ByteArray} (hl:l.length<1000000000):∃b,b.length=l.length∧b.take (l.filter fun v => !(!(az .str false m5 v))).length=l.filter (fun v => !(!(az .str false m5 v)))∧ah (FH97 l.length l m3 m4 m5 m6)=some (0,(l.filter fun v => !(!(az .str false m5 v))).length,b,m3,m4,m5,m6,()):=by
 have aam:=af7 (m3:=m3) (m4:=m4) (m5:=m5) (m6:=m6) hl
 simp only [FH97,aA,bB,ak,aa,aJ,aS,bh]
 rw [ai aam]
 rcases lu (fun v => !(az .str false m5 v)) l 0 with ⟨p,x,q,h1,h2,h3,h4⟩|⟨h1,h2⟩
 case inr =>
  rw [h2]
  simp only [if_true]
  rw [su h1]
  exact ⟨l,rfl,List.take_length ..,rfl⟩
 rw [h4]
 simp only [Nat.zero_add]
 have hlen:l.length=p.length+(q.length+1):=by rw [h1];simp
 rw [if_neg (by omega),rK (by omega) (by omega)]
 have hk:l.filter (fun v => !(!(az .str false m5 v)))=p++q.filter fun v => !(!(az .str false m5 v)):=by
  have e1:=su h2
  have e2:(x::q).filter (fun v => !(!(az .str false m5 v)))=q.filter fun v => !(!(az .str false m5 v)):=by rw [List.filter_cons_of_neg];simpa using h3
  rw [h1,List.filter_append,e2]
  rw [show p.filter (fun v => !(!(az .str false m5 v)))=p from e1]
 obtain ⟨res, hres, m, b, rfl, hb, hm, ht⟩ := ek (step := fun a => run (fun _ => none) (gH97_0 a)) q.length
  (fun k x=>∃(i:Nat) (b:List ByteArray),x=(l.length,(i:Int),((p.length+1+k:Nat):Int),b,m3,m4,m5,m6,())∧b.length=l.length∧i≤p.length+k∧b.take i=p++(q.take k).filter (fun v => !(!(az .str false m5 v)))∧b.drop (p.length+1+k)=q.drop k)
  (fun r => ∃ (m : Nat) (b : List ByteArray), r = (l.length, (m : Int), b, m3, m4, m5, m6, ()) ∧ b.length = l.length ∧ m ≤ l.length ∧ b.take m = p ++ q.filter fun v => !(!(az .str false m5 v))) (by
   rintro k _ hk ⟨i,b,rfl,hb,hi,ht,hd⟩
   have hx:b.getD (p.length+1+k) (bs [])=q.getD k (bs []):=by
    have:=congrArg (fun l=>l.getD 0 (bs [])) hd
    simpa [List.getD_eq_getElem?_getD] using this
   have hqk:q.take (k+1)=q.take k++[q.getD k (bs [])]:=by
    rw [List.take_succ_eq_append_getElem hk];simp [List.getD_eq_getElem?_getD,List.getElem?_eq_getElem hk]
   generalize q.getD k (bs [])=y at hx hqk
   have i1:bZ ((p.length+1+k:Nat):Int) ((l.length:Nat):Int)=true:=aR (by omega) (by omega)
   have i2:bZ (i:Int) ((l.length:Nat):Int)=true:=aR (by omega) (by omega)
   have d1:decide (p.length+1+k<b.length)=true:=decide_eq_true (by omega)
   have d2:decide (i<b.length)=true:=decide_eq_true (by omega)
   have r1:de .i64 ((i:Int)+1)=true:=aH (by omega) (by omega)
   have r2:de .i64 (((p.length+1+k:Nat):Int)+1)=true:=aH (by omega) (by omega)
   simp only [gH97_0,ak,aA,aN,aS,aJ,aa,Int.toNat_natCast,Nat.zero_add,hx,kH99,aF,i1,i2,d1,d2,r1,r2,af,aM]
   rw [if_pos (by omega)]
   by_cases hy:(!(az .str false m5 y))=true
   ·refine ⟨_, by rw [Gk (by rw [hy]; rfl)], i, b, by rw [show ((p.length + 1 + (k + 1) : Nat) : Int) = ((p.length + 1 + k : Nat) : Int) + 1 by omega], hb, by omega, ?_, ?_⟩
    ·rw [ht,hqk,List.filter_append,List.filter_cons_of_neg (by rw [hy];simp)];simp
    ·have := congrArg (List.drop 1) hd
     simpa [List.drop_drop,Nat.add_assoc] using this
   ·refine ⟨_, by rw [NN (by rw [Bool.eq_false_iff.2 hy]; rfl)], i + 1, b.set i y, by rw [show ((p.length + 1 + (k + 1) : Nat) : Int) = ((p.length + 1 + k : Nat) : Int) + 1 by omega, show ((i + 1 : Nat) : Int) = (i : Int) + 1 by omega], by simp [hb], by omega, ?_, ?_⟩
    ·have e:(b.set i y).take (i+1)=b.take i++[y]:=by
      rw [List.take_succ_eq_append_getElem (by simp;omega)]
      simp [List.take_set_of_le]
     rw [e,ht,hqk,List.filter_append,List.filter_cons_of_pos (by simpa using hy)];simp
    ·have := congrArg (List.drop 1) hd
     rw [List.drop_set_of_lt (by omega)]
     simpa [List.drop_drop,Nat.add_assoc] using this) (by
   rintro _ ⟨i,b,rfl,hb,hi,ht,hd⟩
   simp only [gH97_0,ak,aa,aM]
   rw [if_neg (by omega)]
   exact ⟨_,rfl,i,b,rfl,hb,by omega,by rw [ht,List.take_length]⟩) (x:=(l.length,(p.length:Int),(p.length:Int)+1,l,m3,m4,m5,m6,())) ⟨p.length,l,by simp,rfl,by omega,by rw [h1];simp,by rw [h1];simp⟩
 rw [ai hres]
 have hml:m=(l.filter fun v => !(!(az .str false m5 v))).length:=by rw [hk,←ht,List.length_take];omega
 simp only [Int.toNat_natCast,Nat.zero_add,AO,Int.toNat_zero,Nat.sub_zero]
 rw [b7 (by omega),b7 (by omega),b7 (by omega),b7 (by omega),b7 (by omega),b7 (by omega)]
 refine ⟨b.take m++List.replicate (l.length - m) (bs [])++b.drop (m+(l.length - m)),?_,?_,by rw [←hml]⟩
 ·simp only [List.length_append,List.length_take,List.length_replicate,List.length_drop];omega
 ·rw [←hml,List.take_append_of_le_length (by simp;omega),List.take_append_of_le_length (by simp;omega),List.take_take,Nat.min_self,ht,hk]
theorem WU (v:ByteArray):ah (FH123 v m3 m4 m5 m6)=some (az .str false m6 v,m3,m4,m5,m6,()):=rfl
theorem Qa {l:List ByteArray} (hl:l.length<1000000000):ah (FH119_v1 l.length l m3 m4 m5 m6)=some ((match eH (fun v=>az .str false m6 v) 0 l with|some k=>((k:Nat):Int)|none => -1),m3,m4,m5,m6,l,()):=by
 have hi := aP (f := fun a => run (fun _ => none) (gH119_v1_0 a)) l (fun k (_ : Nat) => (l.length, ((l.length : Nat) : Int), (k : Int), l, m3, m4, m5, m6, ())) (fun k r => match eH (fun v => az .str false m6 v) k r with | some k => .inl (((k : Nat) : Int), m3, m4, m5, m6, l, ()) | none => .inr (m3, m4, m5, m6, l, ())) (fun pre k => k = pre.length) (by
  rintro pre x post k hx rfl
  have hlen:l.length=pre.length+(post.length+1):=by rw [hx];simp
  have hd:l.getD pre.length (bs [])=x:=by rw [hx];exact aU rfl
  have i1:bZ (pre.length:Int) ((l.length:Nat):Int)=true:=aR (by omega) (by omega)
  have r1:de .i64 ((pre.length:Int)+1)=true:=aH (by omega) (by omega)
  have d1:decide (pre.length<l.length)=true:=decide_eq_true (by omega)
  simp only [gH119_v1_0,ak,aA,aN,aS,aJ,aa,Int.toNat_natCast,Nat.zero_add,hd,WU,aF,i1,r1,d1,af,aM]
  rw [if_pos (by omega)]
  by_cases h:(az .str false m6 x)=true
  ·right;rw [h,bM];simp only [eH,h,if_true]
  ·left
   refine ⟨pre.length+1,?_⟩
   rw [Gk (by simpa using h)]
   refine ⟨rfl,by simp,?_⟩
   simp only [eH,h,if_false];rfl) (by
  rintro k _
  simp only [gH119_v1_0,ak,aM,aa]
  rw [if_neg (by omega)];rfl) (s:=0) rfl
 simp only [FH119_v1,aA,bB]
 refine bind_eq hi ?_
 split<;>rfl
theorem UK {l:List ByteArray} (hl:l.length<1000000000):∃b,b.length=l.length∧b.take (l.filter fun v => !(az .str false m6 v)).length=l.filter (fun v => !(az .str false m6 v))∧ah (FH97_v1 l.length l m3 m4 m5 m6)=some (0,(l.filter fun v => !(az .str false m6 v)).length,b,m3,m4,m5,m6,()):=by
 have aam:=Qa (m3:=m3) (m4:=m4) (m5:=m5) (m6:=m6) hl
 simp only [FH97_v1,aA,bB,ak,aa,aJ,aS,bh]
 rw [ai aam]
 rcases lu (fun v=>az .str false m6 v) l 0 with ⟨p,x,q,h1,h2,h3,h4⟩|⟨h1,h2⟩
 case inr =>
  rw [h2]
  simp only [if_true]
  rw [su h1]
  exact ⟨l,rfl,List.take_length ..,rfl⟩
 rw [h4]
 simp only [Nat.zero_add]
 have hlen:l.length=p.length+(q.length+1):=by rw [h1];simp
 rw [if_neg (by omega),rK (by omega) (by omega)]
 have hk:l.filter (fun v => !(az .str false m6 v))=p++q.filter fun v => !(az .str false m6 v):=by
  have e1:=su h2
  have e2:(x::q).filter (fun v => !(az .str false m6 v))=q.filter fun v => !(az .str false m6 v):=by rw [List.filter_cons_of_neg];simpa using h3
  rw [h1,List.filter_append,e2]
  rw [show p.filter (fun v => !(az .str false m6 v))=p from e1]
 obtain ⟨res, hres, m, b, rfl, hb, hm, ht⟩ := ek (step := fun a => run (fun _ => none) (gH97_v1_0 a)) q.length
  (fun k x=>∃(i:Nat) (b:List ByteArray),x=(l.length,(i:Int),((p.length+1+k:Nat):Int),b,m3,m4,m5,m6,())∧b.length=l.length∧i≤p.length+k∧b.take i=p++(q.take k).filter (fun v => !(az .str false m6 v))∧b.drop (p.length+1+k)=q.drop k)
  (fun r => ∃ (m : Nat) (b : List ByteArray), r = (l.length, (m : Int), b, m3, m4, m5, m6, ()) ∧ b.length = l.length ∧ m ≤ l.length ∧ b.take m = p ++ q.filter fun v => !(az .str false m6 v)) (by
   rintro k _ hk ⟨i,b,rfl,hb,hi,ht,hd⟩
   have hx:b.getD (p.length+1+k) (bs [])=q.getD k (bs []):=by
    have:=congrArg (fun l=>l.getD 0 (bs [])) hd
    simpa [List.getD_eq_getElem?_getD] using this
   have hqk:q.take (k+1)=q.take k++[q.getD k (bs [])]:=by
    rw [List.take_succ_eq_append_getElem hk];simp [List.getD_eq_getElem?_getD,List.getElem?_eq_getElem hk]
   generalize q.getD k (bs [])=y at hx hqk
   have i1:bZ ((p.length+1+k:Nat):Int) ((l.length:Nat):Int)=true:=aR (by omega) (by omega)
   have i2:bZ (i:Int) ((l.length:Nat):Int)=true:=aR (by omega) (by omega)
   have d1:decide (p.length+1+k<b.length)=true:=decide_eq_true (by omega)
   have d2:decide (i<b.length)=true:=decide_eq_true (by omega)
   have r1:de .i64 ((i:Int)+1)=true:=aH (by omega) (by omega)
   have r2:de .i64 (((p.length+1+k:Nat):Int)+1)=true:=aH (by omega) (by omega)
   simp only [gH97_v1_0,ak,aA,aN,aS,aJ,aa,Int.toNat_natCast,Nat.zero_add,hx,WU,aF,i1,i2,d1,d2,r1,r2,af,aM]
   rw [if_pos (by omega)]
   by_cases hy:(az .str false m6 y)=true
   ·refine ⟨_, by rw [Gk (by rw [hy]; rfl)], i, b, by rw [show ((p.length + 1 + (k + 1) : Nat) : Int) = ((p.length + 1 + k : Nat) : Int) + 1 by omega], hb, by omega, ?_, ?_⟩
    ·rw [ht,hqk,List.filter_append,List.filter_cons_of_neg (by rw [hy];simp)];simp
    ·have := congrArg (List.drop 1) hd
     simpa [List.drop_drop,Nat.add_assoc] using this
   ·refine ⟨_, by rw [NN (by rw [Bool.eq_false_iff.2 hy]; rfl)], i + 1, b.set i y, by rw [show ((p.length + 1 + (k + 1) : Nat) : Int) = ((p.length + 1 + k : Nat) : Int) + 1 by omega, show ((i + 1 : Nat) : Int) = (i : Int) + 1 by omega], by simp [hb], by omega, ?_, ?_⟩
    ·have e:(b.set i y).take (i+1)=b.take i++[y]:=by
      rw [List.take_succ_eq_append_getElem (by simp;omega)]
      simp [List.take_set_of_le]
     rw [e,ht,hqk,List.filter_append,List.filter_cons_of_pos (by simpa using hy)];simp
    ·have := congrArg (List.drop 1) hd
     rw [List.drop_set_of_lt (by omega)]
     simpa [List.drop_drop,Nat.add_assoc] using this) (by
   rintro _ ⟨i,b,rfl,hb,hi,ht,hd⟩
   simp only [gH97_v1_0,ak,aa,aM]
   rw [if_neg (by omega)]
   exact ⟨_,rfl,i,b,rfl,hb,by omega,by rw [ht,List.take_length]⟩) (x:=(l.length,(p.length:Int),(p.length:Int)+1,l,m3,m4,m5,m6,())) ⟨p.length,l,by simp,rfl,by omega,by rw [h1];simp,by rw [h1];simp⟩
 rw [ai hres]
 have hml:m=(l.filter fun v => !(az .str false m6 v)).length:=by rw [hk,←ht,List.length_take];omega
 simp only [Int.toNat_natCast,Nat.zero_add,AO,Int.toNat_zero,Nat.sub_zero]
 rw [b7 (by omega),b7 (by omega),b7 (by omega),b7 (by omega),b7 (by omega),b7 (by omega)]
 refine ⟨b.take m++List.replicate (l.length - m) (bs [])++b.drop (m+(l.length - m)),?_,?_,by rw [←hml]⟩
 ·simp only [List.length_append,List.length_take,List.length_replicate,List.length_drop];omega
 ·rw [←hml,List.take_append_of_le_length (by simp;omega),List.take_append_of_le_length (by simp;omega),List.take_take,Nat.min_self,ht,hk]
end
end Go.Proofs.Tryz
end
section
namespace Go.Proofs.Tryz
open Go.AM
set_option maxRecDepth 100000
abbrev zM:Mg:=(bs [],(0:Int),bs [],bs [],(0:Int))
def jk (es:AD) (m:Mg):AD:=if aO .str es m.1=true then es else bg .str es m.1 m
def pX (L:List Mg):AD:=L.foldl jk []
def cnt (L:List Mg):List Mg:=(pX L).map (·.2)
theorem yu {es:AD} (h:gN .str es) (m:Mg):gN .str (jk es m):=by
 unfold jk;split
 ·exact h
 ·exact h.iw kS
theorem yw : ∀ {L : List Mg} {es : AD}, gN .str es → gN .str (L.foldl jk es)
 |[],_,h=>h
 |m::L,es,h=>yw (L:=L) (es:=jk es m) (yu h m)
theorem LA (L:List Mg):gN .str (pX L):=yw .nil
theorem yx : ∀ {L : List Mg} {es : AD} {e : ByteArray × Mg}, gN .str es → (e ∈ L.foldl jk es ↔ e ∈ es ∨ (aO .str es e.1 = false ∧ ∃ pre post, L = pre ++ e.2 :: post ∧ e.2.1 = e.1 ∧ ∀ x ∈ pre, x.1 ≠ e.1))
 |[],es,e,_=>by simp
 |m::L,es,e,h=>by
  rw [List.foldl_cons,yx (yu h m)]
  have hs:jk es m=es∧aO .str es m.1=true∨jk es m=bg .str es m.1 m∧aO .str es m.1=false:=by
   unfold jk
   cases hm:aO .str es m.1
   ·right;simp
   ·left;simp
  rcases hs with ⟨hs,hm⟩|⟨hs,hm⟩
  ·rw [hs]
   refine or_congr_right ?_
   constructor
   ·rintro ⟨h1, pre, post, rfl, h2, h3⟩
    refine ⟨h1,m::pre,post,rfl,h2,fun x hx=>?_⟩
    rcases List.mem_cons.1 hx with rfl|hx
    ·intro e';rw [e'] at hm;rw [hm] at h1;cases h1
    ·exact h3 x hx
   ·rintro ⟨h1, pre, post, h2, h3, h4⟩
    cases pre with
    |nil =>
     simp only [List.nil_append,List.cons.injEq] at h2
     rw [h2.1] at hm;rw [h3] at hm;rw [hm] at h1;cases h1
    |cons p pre =>
     simp only [List.cons_append,List.cons.injEq] at h2
     exact ⟨h1,pre,post,h2.2,h3,fun x hx=>h4 x (List.mem_cons_of_mem _ hx)⟩
  ·rw [hs, fZ kS h, oZ kS h]
   have hk:∀{v:Mg},(m.1,v)∉es:=fun {v} hv=>by rw [(dy kS).2 ⟨v,hv⟩] at hm;cases hm
   constructor
   ·rintro ((h1 | ⟨h1, _⟩) | ⟨h1, pre, post, rfl, h2, h3⟩)
    ·subst h1
     exact .inr ⟨hm,[],L,rfl,rfl,by simp⟩
    ·exact .inl h1
    ·simp only [Bool.or_eq_false_iff] at h1
     have hne:e.1≠m.1:=fun e'=>by have:=h1.1;rw [e',jI kS] at this;cases this
     refine .inr ⟨h1.2,m::pre,post,rfl,h2,fun x hx=>?_⟩
     rcases List.mem_cons.1 hx with rfl|hx
     ·exact Ne.symm hne
     ·exact h3 x hx
   ·rintro (h1 | ⟨h1, pre, post, h2, h3, h4⟩)
    ·refine .inl (.inr ⟨h1, fun e' => ?_⟩)
     obtain ⟨a,b⟩:=e
     simp only at e';subst e';exact hk h1
    ·cases pre with
     |nil =>
      simp only [List.nil_append,List.cons.injEq] at h2
      obtain ⟨a,b⟩:=e
      simp only at h2 h3
      exact .inl (.inl (by rw [←h3,h2.1]))
     |cons p pre =>
      simp only [List.cons_append,List.cons.injEq] at h2
      have hne:e.1≠m.1:=fun e'=>by
       have:=h4 p (List.mem_cons_self ..)
       rw [←h2.1,e'] at this;exact this rfl
      refine .inr ⟨?_,pre,post,h2.2,h3,fun x hx=>h4 x (List.mem_cons_of_mem _ hx)⟩
      rw [Bool.or_eq_false_iff]
      refine ⟨?_,h1⟩
      cases hd:dJ .str e.1 m.1 with
      |false=>rfl
      |true=>exact absurd (bL hd) hne
theorem tQ {L:List Mg} {e:ByteArray×Mg}:e∈pX L↔∃pre post,L=pre++e.2::post∧e.2.1=e.1∧∀x∈pre,x.1≠e.1:=by
 unfold pX
 rw [yx .nil]
 simp [aO]
theorem E3 {L:List Mg} {e:ByteArray×Mg} (h:e∈pX L):e.2.1=e.1:=by
 obtain ⟨_,_,_,h,_⟩:=tQ.1 h;exact h
theorem E4 (L:List Mg):pX L=(cnt L).map fun m=>(m.1,m):=by
 unfold cnt
 rw [List.map_map]
 conv=>lhs;rw [←List.map_id (pX L)]
 refine List.map_congr_left fun e he=>?_
 have:=E3 he
 obtain ⟨a,b⟩:=e
 simp only at this;subst this;rfl
theorem JA {L:List Mg} {m:Mg}:m∈cnt L↔(m.1,m)∈pX L:=by
 unfold cnt
 rw [List.mem_map]
 constructor
 ·rintro ⟨e, he, rfl⟩
  have:=E3 he
  obtain ⟨a,b⟩:=e
  simp only at this;subst this;exact he
 ·intro h;exact ⟨_,h,rfl⟩
def SI (c:List Mg):Prop:=c.Pairwise fun a b=>slt a.1 b.1=true
theorem fK (L:List Mg):SI (cnt L):=by
 have h:=LA L
 rw [E4] at h
 unfold gN at h;rw [List.pairwise_map] at h;exact h
theorem SI.cam {c:List Mg} (h:SI c):gN .str (c.map fun m=>(m.1,m)):=by
 unfold gN;rw [List.pairwise_map];exact h
theorem SI.inj {c:List Mg} (h:SI c) {m m':Mg} (hm:m∈c) (hm':m'∈c) (e:m.1=m'.1):m=m':=by
 have h1:=fW (d:=zM) kS h.cam (List.mem_map.2 ⟨m,hm,rfl⟩)
 have h2:=fW (d:=zM) kS h.cam (List.mem_map.2 ⟨m',hm',rfl⟩)
 rw [←h1,←h2,e]
theorem Cl {L:List Mg} {m:Mg} (h:m∈cnt L):m∈L:=by
 obtain ⟨pre,post,h,_⟩:=tQ.1 (JA.1 h)
 rw [h];simp
theorem UL {L:List Mg} (hL:SL L) {m:Mg}:m∈cnt L↔m∈L∧∀x∈L,x.1=m.1→x=m∨eS tM m x=true:=by
 rw [JA,tQ]
 constructor
 ·rintro ⟨pre, post, h, _, h2⟩
  simp only at h h2
  subst h
  refine ⟨by simp,fun x hx e=>?_⟩
  rcases List.mem_append.1 hx with hx|hx
  ·exact absurd e (h2 x hx)
  ·rcases List.mem_cons.1 hx with rfl | hx
   ·exact .inl rfl
   ·unfold SL at hL
    rw [List.pairwise_append,List.pairwise_cons] at hL
    exact .inr (hL.2.1.1 x hx)
 ·rintro ⟨h1, h2⟩
  obtain ⟨pre,post,h⟩:=List.append_of_mem h1
  refine ⟨pre,post,h,rfl,fun x hx e=>?_⟩
  subst h
  unfold SL at hL
  rw [List.pairwise_append] at hL
  have h3:=hL.2.2 x hx m (List.mem_cons_self ..)
  rcases h2 x (by simp [hx]) e with rfl|h4
  ·rw [eo kM] at h3;cases h3
  ·exact cT kM h3 h4
theorem af8 {L:List Mg} {m1:List (Mg×Bool)} (hl:L.length<1000000000):iter (fun x=>ah (gH66_0 x)) (L.length,((L.length:Nat):Int),(0:Int),L,m1,[],[],[],[],())=some (m1,pX L,[],[],[],()):=by
 refine aP L (fun k (es:AD)=>(L.length,((L.length:Nat):Int),(k:Int),L,m1,es,[],[],[],())) (fun es r=>(m1,r.foldl jk es,[],[],[],())) (fun _ _=>True) ?_ ?_ (s:=[]) trivial
 ·intro pre x post es hx _
  have hlen:L.length=pre.length+(post.length+1):=by rw [hx];simp
  have hd:L.getD pre.length zM=x:=by rw [hx];exact aU rfl
  have i1:bZ (pre.length:Int) ((L.length:Nat):Int)=true:=aR (by omega) (by omega)
  have r1:de .i64 ((pre.length:Int)+1)=true:=aH (by omega) (by omega)
  have d1:decide (pre.length<L.length)=true:=decide_eq_true (by omega)
  left
  refine ⟨jk es x,?_,trivial,rfl⟩
  simp only [gH66_0,ak,aN,aS,aJ,aa,Int.toNat_natCast,Nat.zero_add,hd,i1,r1,d1,af,aM]
  rw [if_pos (by omega)]
  unfold jk
  cases hm:aO .str es x.1
  ·rw [NN (by rfl)];rfl
  ·rw [Gk (by rfl)];rfl
 ·intro es _
  simp only [gH66_0,ak,aa,aM]
  rw [if_neg (by omega)]
  rfl
theorem UM {c:List Mg} (h:SI c) (hl:c.length<1000000000):ah (FH81 (c.map fun m=>(m.1,m)))=some (c.length,c.map (·.1),c.map (fun m=>(m.1,m)),()):=by
 unfold FH81
 refine Eq.trans BL (gF fun l hp=>?_)
 have yH:l.length=c.length:=by rw [hp.length_eq,List.length_map]
 simp only [aA,BM]
 refine bind_eq (sr (m:=c.map fun m=>(m.1,m)) (l:=l) (by rw [yH];exact hl) fun e n b hn=>?_) ?_
 ·simp only [gH81f107f126_0i_0, aS, aa, dG, af]
  rw [b7 (show _<bI by rw [ei];simp;omega)]
  rfl
 ·simp only [FH105, xA]
  have hpk:(c.map (·.1)).Perm (l.map (·.1)):=by
   have:=(hp.map (·.1)).symm
   rwa [List.map_map] at this
  have hs:CE .str (c.map (·.1)):=by
   have:=h.cam.keys kS
   rwa [List.map_map] at this
  have:=oF kS hpk hs (by rw [List.length_map];omega)
  rw [List.length_map] at this
  rw [ai this,yH]
  rfl
def kids (c:List Mg) (x:ByteArray):List ByteArray:=(c.filter fun m=>decide (m.2.1=2∧m.2.2.1=x)).map (·.1)
def eP (c:List Mg) (x:ByteArray):Bool:=c.any fun m=>decide (m.2.1=3∧m.2.2.1=x)
def jl (t:Fm) (m:Mg):Fm:=if m.2.1=2 then bg .str t m.2.2.1 (az .str [] t m.2.2.1++[m.1]) else t
def jm (t:fJ) (m:Mg):fJ:=if m.2.1=3 then bg .str t m.2.2.1 true else t
def bQ (c:List Mg):Fm:=c.foldl jl []
def cF (c:List Mg):fJ:=c.foldl jm []
theorem Hy {t:Fm} (h:gN .str t) (m:Mg):gN .str (jl t m):=by
 unfold jl;split
 ·exact h.iw kS
 ·exact h
theorem Hz {t:fJ} (h:gN .str t) (m:Mg):gN .str (jm t m):=by
 unfold jm;split
 ·exact h.iw kS
 ·exact h
theorem yy : ∀ {c : List Mg} {t : Fm}, gN .str t → gN .str (c.foldl jl t) ∧ (∀ x, az .str [] (c.foldl jl t) x = az .str [] t x ++ kids c x) ∧ ∀ x, aO .str (c.foldl jl t) x = (aO .str t x || !(kids c x).isEmpty)
 |[],t,h=>⟨h,fun x=>by simp [kids],fun x=>by simp [kids]⟩
 |m::c,t,h=>by
  obtain ⟨h1,h2,h3⟩:=yy (c:=c) (Hy h m)
  refine ⟨h1,fun x=>?_,fun x=>?_⟩
  ·rw [List.foldl_cons, h2]
   unfold jl kids
   by_cases hk:m.2.1=2
   ·rw [if_pos hk, Lz kS h]
    by_cases hx:m.2.2.1=x
    ·subst hx
     rw [if_pos (jI kS),List.filter_cons_of_pos (by simp [hk])]
     simp
    ·rw [if_neg (fun h=>hx (bL h).symm),List.filter_cons_of_neg (by simp [hx])]
   ·rw [if_neg hk,List.filter_cons_of_neg (by simp [hk])]
  ·rw [List.foldl_cons, h3]
   unfold jl kids
   by_cases hk:m.2.1=2
   ·rw [if_pos hk, oZ kS h]
    by_cases hx:m.2.2.1=x
    ·subst hx
     rw [jI kS,List.filter_cons_of_pos (by simp [hk])]
     simp
    ·have:dJ .str x m.2.2.1=false:=by
      cases hd:dJ .str x m.2.2.1 with
      |false=>rfl
      |true=>exact absurd (bL hd).symm hx
     rw [this,List.filter_cons_of_neg (by simp [hx]),Bool.false_or]
   ·rw [if_neg hk,List.filter_cons_of_neg (by simp [hk])]
theorem JB (c:List Mg):gN .str (bQ c):=(yy .nil).1
theorem vI (c:List Mg) (x:ByteArray):az .str [] (bQ c) x=kids c x:=by
 exact ((yy (c:=c) (t:=[]) .nil).2.1 x).trans (by simp [az])
theorem JC (c:List Mg) (x:ByteArray):aO .str (bQ c) x = !(kids c x).isEmpty:=by
 exact ((yy (c:=c) (t:=[]) .nil).2.2 x).trans (by simp [aO])
theorem vJ {c:List Mg} {e:ByteArray×List ByteArray}:e∈bQ c↔e.2=kids c e.1∧kids c e.1≠[]:=by
 constructor
 ·intro h
  have h1:=fW (d:=[]) kS (JB c) (show (e.1,e.2)∈bQ c from h)
  rw [vI] at h1
  refine ⟨h1.symm,fun h2=>?_⟩
  have h3:=(dy kS).2 ⟨e.2,(show (e.1,e.2)∈bQ c from h)⟩
  rw [JC,h2] at h3;cases h3
 ·rintro ⟨h1, h2⟩
  have h3:aO .str (bQ c) e.1=true:=by
   rw [JC]
   cases hk:kids c e.1 with
   |nil=>exact absurd hk h2
   |cons _ _=>rfl
  obtain ⟨v,hv⟩:=(dy kS).1 h3
  have h4:=fW (d:=[]) kS (JB c) hv
  rw [vI] at h4
  obtain ⟨a,b⟩:=e
  simp only at h1 h4 hv
  rw [h1,h4];exact hv
theorem Qb : ∀ {c : List Mg} {t : fJ}, gN .str t → (∀ e ∈ t, e.2 = true) → gN .str (c.foldl jm t) ∧ (∀ e ∈ c.foldl jm t, e.2 = true) ∧ ∀ x, aO .str (c.foldl jm t) x = (aO .str t x || eP c x)
 |[],t,h,ht=>⟨h,ht,fun x=>by simp [eP]⟩
 |m::c,t,h,ht=>by
  obtain ⟨h1, h0, h2⟩ := Qb (c := c) (Hz h m) (by
   unfold jm;split
   ·exact P4 kS h ht
   ·exact ht)
  refine ⟨h1,h0,fun x=>?_⟩
  rw [List.foldl_cons,h2]
  unfold jm eP
  by_cases hk:m.2.1=3
  ·rw [if_pos hk, oZ kS h, List.any_cons]
   have:dJ .str x m.2.2.1=decide (m.2.1=3∧m.2.2.1=x):=by
    rw [sq];exact decide_eq_decide.2 ⟨fun e=>⟨hk,e.symm⟩,fun e=>e.2.symm⟩
   rw [this,Bool.or_comm (decide _) (aO .str t x),Bool.or_assoc]
  ·rw [if_neg hk, List.any_cons]
   simp [hk]
theorem UN (c:List Mg) (x:ByteArray):az .str false (cF c) x=eP c x:=by
 have h:=Qb (c:=c) (t:=[]) .nil (fun e h=>by cases h)
 rw [show cF c=c.foldl jm [] from rfl,P5 kS h.1 h.2.1,h.2.2]
 simp [aO]
theorem oG (c:List Mg) (x:ByteArray):(kids c x).length≤c.length:=by
 unfold kids;rw [List.length_map];exact List.length_filter_le ..
theorem af9 {c:List Mg} {m1:List (Mg×Bool)} (h:SI c) (hl:c.length<1000000):iter (fun x=>ah (gH66_1 x)) (c.length,((c.length:Nat):Int),(0:Int),c.map (·.1),m1,c.map (fun m=>(m.1,m)),[],[],[],()) =
  some (m1,c.map (fun m=>(m.1,m)),bQ c,cF c,[],()):=by
 have yH:(c.map (·.1)).length=c.length:=List.length_map ..
 refine aP c (fun k (s : Fm × fJ) => (c.length, ((c.length : Nat) : Int), (k : Int), c.map (·.1), m1, c.map (fun m => (m.1, m)), s.1, s.2, [], ())) (fun s r => (m1, c.map (fun m => (m.1, m)), r.foldl jl s.1, r.foldl jm s.2, [], ()))
  (fun pre s=>s.1=pre.foldl jl []) ?_ ?_ (s:=([],[])) rfl
 ·rintro pre x post ⟨t, r⟩ hx ht
  simp only at ht
  have hlen:c.length=pre.length+(post.length+1):=by rw [hx];simp
  have hd:(c.map (·.1)).getD pre.length (bs [])=x.1:=by rw [hx,List.map_append,List.map_cons];exact aU (by simp)
  have hg:az .str zM (c.map fun m=>(m.1,m)) x.1=x:=fW kS h.cam (List.mem_map.2 ⟨x,by rw [hx];simp,rfl⟩)
  have i1:bZ (pre.length:Int) ((c.length:Nat):Int)=true:=aR (by omega) (by omega)
  have r1:de .i64 ((pre.length:Int)+1)=true:=aH (by omega) (by omega)
  have d1:decide (pre.length<(c.map (·.1)).length)=true:=decide_eq_true (by omega)
  left
  refine ⟨(jl t x,jm r x),?_,by simp only;rw [ht,List.foldl_append];rfl,rfl⟩
  simp only [gH66_1,ak,aN,aS,aJ,aa,Int.toNat_natCast,Nat.zero_add,hd,hg,i1,r1,d1,af,aM,bh]
  rw [if_pos (by omega)]
  unfold jl jm
  by_cases h3:x.2.1=3
  ·rw [if_pos h3,if_pos h3,if_neg (by omega)];rfl
  ·rw [if_neg h3, if_neg h3]
   by_cases h2:x.2.1=2
   ·rw [if_pos h2, if_pos h2]
    have hlt:(az .str [] t x.2.2.1).length≤c.length:=by
     have:=(yy (c:=pre) (t:=[]) .nil).2.1 x.2.2.1
     rw [←ht] at this
     rw [this]
     have:=oG pre x.2.2.1
     simp only [az,List.nil_append];omega
    rw [b7 (show _<bI by rw [ei];omega)]
    rfl
   ·rw [if_neg h2,if_neg h2];rfl
 ·rintro ⟨t, r⟩ _
  simp only [gH66_1,ak,aa,aM]
  rw [if_neg (by omega)]
  rfl
end Go.Proofs.Tryz
end
section
namespace Go.Proofs.Tryz
open Go.AM
set_option maxRecDepth 100000
theorem UO {A B : Type} {F : (A → Option B) → A → Option B} (R : A → B → Prop) (m : A → Nat)
  (h:∀rec x y,R x y→(∀x' y',R x' y'→m x'<m x→rec x'=some y')→F rec x=some y):∀x y,R x y→tw F x=some y:=by
 have key:∀n x y,R x y→m x<n→LL F n x=some y:=by
  intro n
  induction n with
  |zero=>intro x y _ hm;omega
  |succ n ih=>intro x y hx hm;exact h _ x y hx fun x' y' hx' hm'=>ih x' y' hx' (by omega)
 intro x y hx
 exact ID (N:=m x+1) fun n hn=>key n x y hx (by omega)
structure oH (S:fJ):Prop where
 c:gN .str S
 t:∀e∈S,e.2=true
theorem oH.nil:oH []:=⟨.nil,fun e h=>by cases h⟩
theorem oH.put {S:fJ} (h:oH S) (x:ByteArray):oH (bg .str S x true):=⟨h.c.iw kS,P4 kS h.c h.t⟩
abbrev has (S:fJ) (x:ByteArray):Bool:=aO .str S x
def Sub (S S':fJ):Prop:=∀x,has S x=true→has S' x=true
theorem Sub.rfl {S:fJ}:Sub S S:=fun _ h=>h
theorem Sub.trans {S S' BF:fJ} (h:Sub S S') (h':Sub S' BF):Sub S BF:=fun x hx=>h' x (h x hx)
theorem o9 {S:fJ} (h:oH S) {x y:ByteArray}:has (bg .str S x true) y=true↔y=x∨has S y=true:=by
 unfold has
 rw [oZ kS h.c,Bool.or_eq_true,Ck kS]
theorem Sub.put {S:fJ} (h:oH S) (x:ByteArray):Sub S (bg .str S x true):=fun y hy=>(o9 h).2 (.inr hy)
theorem oH.ext {S S':fJ} (h:oH S) (h':oH S') (hx:∀x,has S x=true↔has S' x=true):S=S' :=
 P6 kS h.c h'.c h.t h'.t fun x=>by rw [Bool.eq_iff_iff];exact hx x
section
variable {c:List Mg}
inductive kO (c : List Mg) : ByteArray → ByteArray → Prop
 |refl (x):kO c x x
 |step {x y z} (h:kO c x y) (hz:z∈kids c y):kO c x z
theorem kO.trans {x y z:ByteArray} (h:kO c x y) (h':kO c y z):kO c x z:=by
 induction h' with
 |refl=>exact h
 |step _ hz ih=>exact .step ih hz
theorem kO.cons {x y z:ByteArray} (hy:y∈kids c x) (h:kO c y z):kO c x z:=(kO.step (.refl x) hy).trans h
def ids (c:List Mg):List ByteArray:=c.map (·.1)
theorem gZ {x z:ByteArray} (h:z∈kids c x):z∈ids c:=by
 unfold kids at h
 obtain ⟨m,hm,rfl⟩:=List.mem_map.1 h
 exact List.mem_map.2 ⟨m,(List.mem_filter.1 hm).1,rfl⟩
def CG (c:List Mg) (S:fJ):Nat:=((ids c).filter fun x => !has S x).length
theorem Qc (S:fJ):CG c S≤c.length:=by
 unfold CG ids;exact Nat.le_trans (List.length_filter_le ..) (by simp)
theorem nq {α : Type} {p q : α → Bool} : ∀ {l : List α}, (∀ x ∈ l, p x = true → q x = true) → (l.filter p).length ≤ (l.filter q).length
 |[],_=>by simp
 |a::l,h=>by
  have ih:=nq (l:=l) fun x hx=>h x (List.mem_cons_of_mem _ hx)
  by_cases hp:p a=true
  ·rw [List.filter_cons_of_pos hp, List.filter_cons_of_pos (h a (List.mem_cons_self ..) hp)]
   simp only [List.length_cons];omega
  ·rw [List.filter_cons_of_neg hp]
   by_cases hq:q a=true
   ·rw [List.filter_cons_of_pos hq];simp only [List.length_cons];omega
   ·rw [List.filter_cons_of_neg hq];exact ih
theorem sv {α : Type} {p q : α → Bool} : ∀ {l : List α}, (∀ x ∈ l, p x = true → q x = true) → ∀ {y : α}, y ∈ l → q y = true → p y = false → (l.filter p).length < (l.filter q).length
 |[],_,y,h,_,_=>by cases h
 |a::l,h,y,hy,hq,hp=>by
  have hl:∀x∈l,p x=true→q x=true:=fun x hx=>h x (List.mem_cons_of_mem _ hx)
  rcases List.mem_cons.1 hy with rfl|hy
  ·rw [List.filter_cons_of_neg (by rw [hp]; simp), List.filter_cons_of_pos hq]
   have:=nq hl
   simp only [List.length_cons];omega
  ·have ih := sv hl hy hq hp
   by_cases hpa:p a=true
   ·rw [List.filter_cons_of_pos hpa, List.filter_cons_of_pos (h a (List.mem_cons_self ..) hpa)]
    simp only [List.length_cons];omega
   ·rw [List.filter_cons_of_neg hpa]
    by_cases hqa:q a=true
    ·rw [List.filter_cons_of_pos hqa];simp only [List.length_cons];omega
    ·rw [List.filter_cons_of_neg hqa];exact ih
theorem yz {S S':fJ} (h:Sub S S'):CG c S'≤CG c S:=nq fun x _ hx=>by
 cases hs:has S x with
 |false=>rfl
 |true=>rw [h x hs] at hx;cases hx
theorem HA {S:fJ} (h:oH S) {x:ByteArray} (hx:x∈ids c) (hn:has S x=false):CG c (bg .str S x true)<CG c S:=by
 refine sv (fun y _ hy=>?_) hx (by rw [hn];rfl) (by rw [(o9 h).2 (.inl rfl)];rfl)
 cases hs:has S y with
 |false=>rfl
 |true=>rw [(o9 h).2 (.inr hs)] at hy;cases hy
def cU (c : List Mg) : Nat → ByteArray → fJ → fJ
 |0,_,S=>S
 |n+1,x,S=>if has S x=true then S else (kids c x).foldl (fun S k=>cU c n k S) (bg .str S x true)
theorem iP : ∀ {n : Nat} {x : ByteArray} {S : fJ}, oH S → oH (cU c n x S) ∧ Sub S (cU c n x S)
 |0,_,_,h=>⟨h,.rfl⟩
 |n+1,x,S,h=>by
  unfold cU
  split
  ·exact ⟨h,.rfl⟩
  ·have key:∀(l:List ByteArray) (S:fJ),oH S→oH (l.foldl (fun S k=>cU c n k S) S)∧Sub S (l.foldl (fun S k=>cU c n k S) S):=by
    intro l
    induction l with
    |nil=>intro S h;exact ⟨h,.rfl⟩
    |cons k l ih =>
     intro S h
     obtain ⟨h1,h2⟩:=iP (n:=n) (x:=k) h
     obtain ⟨h3,h4⟩:=ih _ h1
     exact ⟨h3,h2.trans h4⟩
   obtain ⟨h1,h2⟩:=key (kids c x) _ (h.put x)
   exact ⟨h1,(Sub.put h x).trans h2⟩
theorem sw {n : Nat} : ∀ {l : List ByteArray} {S : fJ}, oH S → oH (l.foldl (fun S k => cU c n k S) S) ∧ Sub S (l.foldl (fun S k => cU c n k S) S)
 |[],_,h=>⟨h,.rfl⟩
 |k::l,S,h=>by
  obtain ⟨h1,h2⟩:=iP (c:=c) (n:=n) (x:=k) h
  obtain ⟨h3,h4⟩:=sw (l:=l) h1
  exact ⟨h3,h2.trans h4⟩
theorem uG : ∀ {n n' : Nat} {x : ByteArray} {S : fJ}, oH S → x ∈ ids c → CG c S < n → CG c S < n' → cU c n x S = cU c n' x S
 |0,_,_,_,_,_,h,_=>by omega
 |_+1,0,_,_,_,_,_,h=>by omega
 |n+1,n'+1,x,S,hS,hx,h,h'=>by
  unfold cU
  split
  ·rfl
  ·rename_i hn
   have hn:has S x=false:=by simpa using hn
   have hlt:=HA hS hx hn
   have key:∀(l:List ByteArray) (S1:fJ),(∀k∈l,k∈ids c)→oH S1→CG c S1<n→CG c S1<n'→l.foldl (fun S k=>cU c n k S) S1=l.foldl (fun S k=>cU c n' k S) S1:=by
    intro l
    induction l with
    |nil=>intro _ _ _ _ _;rfl
    |cons k l ih =>
     intro S1 hk h1 h2 h3
     simp only [List.foldl_cons]
     rw [uG (n:=n) (n':=n') h1 (hk k (List.mem_cons_self ..)) h2 h3]
     obtain ⟨h4,h5⟩:=iP (c:=c) (n:=n') (x:=k) h1
     have:=yz (c:=c) h5
     exact ih _ (fun k hk'=>hk k (List.mem_cons_of_mem _ hk')) h4 (by omega) (by omega)
   exact key _ _ (fun k hk=>gZ hk) (hS.put x) (by omega) (by omega)
theorem E5 {n:Nat} {x:ByteArray} {S:fJ} (h:oH S) (hn:CG c S<n):has (cU c n x S) x=true:=by
 cases n with
 |zero=>omega
 |succ n =>
  unfold cU
  split
  ·assumption
  ·exact (sw (h.put x)).2 x ((o9 h).2 (.inl rfl))
theorem AE : ∀ {n : Nat} {x : ByteArray} {S : fJ}, oH S → ∀ y, has (cU c n x S) y = true → has S y = true ∨ kO c x y
 |0,_,_,_,y,hy=>.inl hy
 |n+1,x,S,h,y,hy=>by
  unfold cU at hy
  split at hy
  ·exact .inl hy
  ·have key:∀(l:List ByteArray) (S1:fJ),(∀k∈l,k∈kids c x)→oH S1→has (l.foldl (fun S k=>cU c n k S) S1) y=true→has S1 y=true∨kO c x y:=by
    intro l
    induction l with
    |nil=>intro S1 _ _ h;exact .inl h
    |cons k l ih =>
     intro S1 hk h1 h2
     simp only [List.foldl_cons] at h2
     rcases ih _ (fun k hk'=>hk k (List.mem_cons_of_mem _ hk')) (iP h1).1 h2 with h3|h3
     ·rcases AE h1 y h3 with h4 | h4
      ·exact .inl h4
      ·exact .inr (.cons (hk k (List.mem_cons_self ..)) h4)
     ·exact .inr h3
   rcases key _ _ (fun k hk=>hk) (h.put x) hy with h1|h1
   ·rcases (o9 h).1 h1 with rfl | h2
    ·exact .inr (.refl _)
    ·exact .inl h2
   ·exact .inr h1
theorem AF : ∀ {n : Nat} {x : ByteArray} {S : fJ}, oH S → x ∈ ids c → CG c S < n → ∀ y, has (cU c n x S) y = true → has S y = false → ∀ z ∈ kids c y, has (cU c n x S) z = true
 |0,_,_,_,_,h,_,_,_=>by omega
 |n+1,x,S,hS,hx,hlt,y,hy,hyn=>by
  intro z hz
  unfold cU at hy ⊢
  split at hy
  ·rw [hyn] at hy;cases hy
  ·rename_i hn
   rw [if_neg hn]
   have hn:has S x=false:=by simpa using hn
   have hl:=HA hS hx hn
   have key:∀(l:List ByteArray) (S1:fJ),(∀k∈l,k∈kids c x)→oH S1→CG c S1<n→(∀k∈l,has (l.foldl (fun S k=>cU c n k S) S1) k=true) ∧
     (has (l.foldl (fun S k=>cU c n k S) S1) y=true→has S1 y=false→has (l.foldl (fun S k=>cU c n k S) S1) z=true):=by
    intro l
    induction l with
    |nil=>intro S1 _ _ _;exact ⟨(fun k hk=>by cases hk),(fun h h'=>by rw [List.foldl_nil,h'] at h;cases h)⟩
    |cons k l ih =>
     intro S1 hk h1 h2
     simp only [List.foldl_cons]
     obtain ⟨h3,h4⟩:=iP (c:=c) (n:=n) (x:=k) h1
     have h5:=yz (c:=c) h4
     obtain ⟨h6,h7⟩:=ih _ (fun k hk'=>hk k (List.mem_cons_of_mem _ hk')) h3 (by omega)
     have h8:=(sw (c:=c) (n:=n) (l:=l) h3).2
     refine ⟨fun k' hk'=>?_,fun h9 h10=>?_⟩
     ·rcases List.mem_cons.1 hk' with rfl | hk'
      ·exact h8 _ (E5 h1 (by omega))
      ·exact h6 k' hk'
     ·cases h11:has (cU c n k S1) y with
      |false=>exact h7 h9 h11
      |true=>exact h8 _ (AF h1 (gZ (hk k (List.mem_cons_self ..))) h2 y h11 h10 z hz)
   obtain ⟨h1,h2⟩:=key _ _ (fun k hk=>hk) (hS.put x) (by omega)
   by_cases he:y=x
   ·subst he;exact h1 z hz
   ·refine h2 hy ?_
    cases h3:has (bg .str S x true) y with
    |false=>rfl
    |true =>
     rcases (o9 hS).1 h3 with h4|h4
     ·exact absurd h4 he
     ·rw [hyn] at h4;cases h4
def WV (c:List Mg) (S:fJ):Prop:=∀y,has S y=true→∀z∈kids c y,has S z=true
theorem WV.desc {S:fJ} (h:WV c S) {x y:ByteArray} (hx:has S x=true) (hd:kO c x y):has S y=true:=by
 induction hd with
 |refl=>exact hx
 |step _ hz ih=>exact h _ ih _ hz
theorem Qd {n:Nat} {x:ByteArray} {S:fJ} (hS:oH S) (hC:WV c S) (hx:x∈ids c) (hn:CG c S<n):WV c (cU c n x S)∧∀y,has (cU c n x S) y=true↔has S y=true∨kO c x y:=by
 have hc:WV c (cU c n x S):=fun y hy z hz=>by
  cases h:has S y with
  |true=>exact (iP hS).2 z (hC y h z hz)
  |false=>exact AF hS hx hn y hy h z hz
 refine ⟨hc,fun y=>⟨AE hS y,?_⟩⟩
 rintro (h|h)
 ·exact (iP hS).2 y h
 ·exact hc.desc (E5 hS hn) h
theorem kH96 {m3:AD} {m5:fJ} {x:ByteArray} {S:fJ} (hc:c.length<1000000) (hS:oH S) (hx:x∈ids c):ah (FH96fix x m3 (bQ c) m5 S)=some (m3,bQ c,m5,cU c (c.length+1) x S,()):=by
 have h0:ah (FH96fix x m3 (bQ c) m5 S)=tw (A:=kA.T) (B:=kB.T) (fun r y=>run r (FH96 y.1 y.2.1 y.2.2.1 y.2.2.2.1 y.2.2.2.2.1)) (x,m3,bQ c,m5,S,()):=rfl
 refine h0.trans ?_
 refine UO (A:=kA.T) (B:=kB.T) (fun a b=>∃x S,a=(x,m3,bQ c,m5,S,())∧oH S∧x∈ids c∧b=(m3,bQ c,m5,cU c (c.length+1) x S,())) (fun a=>CG c a.2.2.2.2.1) ?_ _ _ ⟨x,S,rfl,hS,hx,rfl⟩
 rintro rec _ _ ⟨x,S,rfl,hS,hx,rfl⟩ ih
 have e:(run rec (FH96 x m3 (bQ c) m5 S):Option (AD×Fm×fJ×fJ×Unit))=kU (az .str false S x) (some (m3,bQ c,m5,S,())) (cq (iter (fun a=>run rec (gH96_0 a)) (az .str [] (bQ c) x,(((az .str [] (bQ c) x).length:Nat):Int),(0:Int),m3,bQ c,m5,bg .str S x true,())) fun z=>some (z.1,z.2.1,z.2.2.1,z.2.2.2.1,())):=rfl
 refine Eq.trans (α:=Option (AD×Fm×fJ×fJ×Unit)) e ?_
 rw [P5 kS hS.c hS.t,vI]
 by_cases hh:has S x=true
 ·rw [NN hh]
  have:cU c (c.length+1) x S=S:=by unfold cU;rw [if_pos hh]
  rw [this];rfl
 ·rw [Gk (by simpa using hh)]
  have hn:has S x=false:=by simpa using hh
  have hlt:=HA hS hx hn
  have hle:=Qc (c:=c) S
  have QN:=oG c x
  have he:cU c (c.length+1) x S=(kids c x).foldl (fun S k=>cU c (c.length+1) k S) (bg .str S x true):=by
   have:cU c (c.length+1) x S=cU c (c.length+2) x S:=uG hS hx (by omega) (by omega)
   rw [this]
   conv=>lhs;unfold cU
   rw [if_neg hh]
  rw [he]
  refine bind_eq (aP (kids c x) (fun k (S:fJ)=>(kids c x,(((kids c x).length:Nat):Int),(k:Int),m3,bQ c,m5,S,())) (fun S r=>(m3,bQ c,m5,r.foldl (fun S k=>cU c (c.length+1) k S) S,())) (fun _ S1=>oH S1∧CG c S1<CG c S) ?_ ?_ (s:=bg .str S x true) ⟨hS.put x,hlt⟩) rfl
  ·rintro pre k post S1 hk ⟨h1, h2⟩
   have hlen:(kids c x).length=pre.length+(post.length+1):=by rw [hk];simp
   have hd:(kids c x).getD pre.length (bs [])=k:=by rw [hk];exact aU rfl
   have i1:bZ (pre.length:Int) (((kids c x).length:Nat):Int)=true:=aR (by omega) (by omega)
   have r1:de .i64 ((pre.length:Int)+1)=true:=aH (by omega) (by omega)
   have hki:k∈ids c:=gZ (x:=x) (by rw [hk];simp)
   obtain ⟨h3,h4⟩:=iP (c:=c) (n:=c.length+1) (x:=k) h1
   have h5:=yz (c:=c) h4
   left
   refine ⟨cU c (c.length+1) k S1,?_,⟨h3,by omega⟩,rfl⟩
   simp only [gH96_0,ak,aN,aJ,aa,aA,Yc,Int.toNat_natCast,hd,i1,r1,af,aM]
   rw [if_pos (by omega)]
   have hq:(run rec (Tr.rc (k,m3,bQ c,m5,S1,())):Option (AD×Fm×fJ×fJ×Unit))=some (m3,bQ c,m5,cU c (c.length+1) k S1,()):=ih (k,m3,bQ c,m5,S1,()) _ ⟨k,S1,rfl,h1,hki,rfl⟩ h2
   exact bind_eq (A:=AD×Fm×fJ×fJ×Unit) hq rfl
  ·rintro S1 _
   simp only [gH96_0,ak,aa,aM]
   rw [if_neg (by omega)]
   rfl
end
end Go.Proofs.Tryz
end
section
namespace Go.Proofs.Tryz
open Go.AM
set_option maxRecDepth 100000
def UP (c:List Mg) (x:ByteArray):Bool:=aO .str (c.map fun m=>(m.1,m)) x && !((az .str zM (c.map fun m=>(m.1,m)) x).2.1==3)
def dir (c:List Mg) (e:ByteArray×List ByteArray):List ByteArray:=if UP c e.1=true then (match e.2.filter (eP c) with|[o]=>e.2.filter (fun k => !decide (k=o))|_=>[]) else []
def oI (c:List Mg) (S:fJ) (e:ByteArray×List ByteArray):fJ:=(dir c e).foldl (fun S k=>cU c (c.length+1) k S) S
def dc (c:List Mg):fJ:=(bQ c).foldl (oI c) []
abbrev bV (c:List Mg):AD:=c.map fun m=>(m.1,m)
section
variable {c:List Mg}
theorem pe {e:ByteArray×List ByteArray} {y:ByteArray} (h:y∈dir c e):y∈e.2:=by
 unfold dir at h
 split at h
 ·split at h
  ·exact (List.mem_filter.1 h).1
  ·cases h
 ·cases h
structure nJ (c:List Mg) (l:List (ByteArray×List ByteArray)) (S:fJ):Prop where
 ok:oH S
 clo:WV c S
 iff:∀x,has S x=true↔∃e∈l,∃y∈dir c e,kO c y x
theorem aga {l:List ByteArray}:∀{S:fJ},oH S→WV c S→(∀k∈l,k∈ids c)→oH (l.foldl (fun S k=>cU c (c.length+1) k S) S)∧WV c (l.foldl (fun S k=>cU c (c.length+1) k S) S) ∧
  ∀x,has (l.foldl (fun S k=>cU c (c.length+1) k S) S) x=true↔has S x=true∨∃y∈l,kO c y x:=by
 induction l with
 |nil=>intro S h1 h2 _;exact ⟨h1,h2,fun x=>by simp⟩
 |cons k l ih =>
  intro S h1 h2 h3
  have hn:CG c S<c.length+1:=by have:=Qc (c:=c) S;omega
  have hk:=h3 k (List.mem_cons_self ..)
  obtain ⟨h4,h5⟩:=Qd h1 h2 hk hn
  obtain ⟨h6,h7,h8⟩:=ih (iP h1).1 h4 fun k hk=>h3 k (List.mem_cons_of_mem _ hk)
  refine ⟨h6,h7,fun x=>?_⟩
  rw [List.foldl_cons,h8,h5]
  simp only [List.mem_cons,exists_eq_or_imp,or_assoc]
theorem nJ.step {l:List (ByteArray×List ByteArray)} {S:fJ} (h:nJ c l S) {e:ByteArray×List ByteArray} (he:∀k∈e.2,k∈ids c):nJ c (l++[e]) (oI c S e):=by
 obtain ⟨h1,h2,h3⟩:=aga (l:=dir c e) h.ok h.clo fun k hk=>he k (pe hk)
 refine ⟨h1,h2,fun x=>?_⟩
 unfold oI
 rw [h3,h.iff]
 constructor
 ·rintro (⟨e', he', h⟩ | h)
  ·exact ⟨e',by simp [he'],h⟩
  ·exact ⟨e,by simp,h⟩
 ·rintro ⟨e', he', h⟩
  rcases List.mem_append.1 he' with he'|he'
  ·exact .inl ⟨e',he',h⟩
  ·rw [List.mem_singleton] at he';subst he';exact .inr h
theorem nJ.all : ∀ {r l : List (ByteArray × List ByteArray)} {S : fJ}, nJ c l S → (∀ e ∈ r, ∀ k ∈ e.2, k ∈ ids c) → nJ c (l ++ r) (r.foldl (oI c) S)
 |[],l,S,h,_=>by simpa using h
 |e::r,l,S,h,hr=>by
  have:=nJ.all (h.step (hr e (List.mem_cons_self ..))) fun e he=>hr e (List.mem_cons_of_mem _ he)
  simpa using this
theorem nJ.nil:nJ c [] []:=⟨.nil,fun y hy=>by simp [has,aO] at hy,fun x=>by simp [has,aO]⟩
theorem JD:∀e∈bQ c,∀k∈e.2,k∈ids c:=fun e he k hk=>by
 rw [(vJ.1 he).1] at hk;exact gZ hk
theorem yA {l:List (ByteArray×List ByteArray)} (hp:l.Perm (bQ c)):nJ c l (l.foldl (oI c) []):=by
 have:=nJ.all (c:=c) (r:=l) (l:=[]) .nil fun e he=>JD e (hp.mem_iff.1 he)
 simpa using this
theorem tR (c:List Mg):nJ c (bQ c) (dc c):=yA (.refl _)
theorem aao {l:List (ByteArray×List ByteArray)} (hp:l.Perm (bQ c)):l.foldl (oI c) []=dc c :=
 (yA hp).ok.ext (tR c).ok fun x=>by
  rw [(yA hp).iff,(tR c).iff]
  exact ⟨fun ⟨e,he,h⟩=>⟨e,hp.mem_iff.1 he,h⟩,fun ⟨e,he,h⟩=>⟨e,hp.mem_iff.2 he,h⟩⟩
def cR (c:List Mg) (x:ByteArray):Bool:=has (dc c) x
theorem Cm (x:ByteArray):az .str false (dc c) x=cR c x:=P5 kS (tR c).ok.c (tR c).ok.t
theorem yB {x:ByteArray}:cR c x=true↔∃p y,y∈dir c (p,kids c p)∧kO c y x:=by
 unfold cR
 rw [(tR c).iff]
 constructor
 ·rintro ⟨⟨p, l⟩, he, y, hy, hd⟩
  have:=(vJ.1 he).1
  simp only at this;subst this
  exact ⟨p,y,hy,hd⟩
 ·rintro ⟨p, y, hy, hd⟩
  refine ⟨(p,kids c p),vJ.2 ⟨rfl,fun h=>?_⟩,y,hy,hd⟩
  have:=pe hy
  simp only at this h
  rw [h] at this;cases this
theorem Cn {x z:ByteArray} (h:cR c x=true) (hz:z∈kids c x):cR c z=true:=(tR c).clo x h z hz
theorem aap {m1:List (Mg×Bool)} {m6:AD} {Ed:Int} {Ee:Bool} {l QO:List ByteArray} {o:ByteArray} {m:Mg} {S:fJ} (hc:c.length<1000000) (hl:l.length≤c.length) (Rt:∀k∈l,k∈ids c) (hb:QO.getD 0 (bs [])=o) (qE:0<QO.length) (hS:oH S) :
  iter (fun x=>ah (gH66_2b_3 x)) (0,1,Ed,Ee,l,((l.length:Nat):Int),(0:Int),QO,bQ c,m.1,m.2.1,m.2.2.1,m.2.2.2.1,m.2.2.2.2,m6,cF c,S,m1,()) =
   some (Ed,Ee,bQ c,m.1,m.2.1,m.2.2.1,m.2.2.2.1,m.2.2.2.2,m6,cF c,(l.filter fun k => !decide (k=o)).foldl (fun S k=>cU c (c.length+1) k S) S,m1,()):=by
 refine aP l (fun k (S : fJ) => (0, 1, Ed, Ee, l, ((l.length : Nat) : Int), (k : Int), QO, bQ c, m.1, m.2.1, m.2.2.1, m.2.2.2.1, m.2.2.2.2, m6, cF c, S, m1, ()))
  (fun S r=>(Ed,Ee,bQ c,m.1,m.2.1,m.2.2.1,m.2.2.2.1,m.2.2.2.2,m6,cF c,(r.filter fun k => !decide (k=o)).foldl (fun S k=>cU c (c.length+1) k S) S,m1,())) (fun _ S=>oH S) ?_ ?_ (s:=S) hS
 ·intro pre x post S hx hS
  have hlen:l.length=pre.length+(post.length+1):=by rw [hx];simp
  have hd:l.getD pre.length (bs [])=x:=by rw [hx];exact aU rfl
  have i1:bZ (pre.length:Int) ((l.length:Nat):Int)=true:=aR (by omega) (by omega)
  have i2:bZ (0:Int) ((1:Nat):Int)=true:=aR (by omega) (by omega)
  have r1:de .i64 ((pre.length:Int)+1)=true:=aH (by omega) (by omega)
  have d1:decide (0<QO.length)=true:=decide_eq_true qE
  left
  by_cases LJ:x=o
  ·refine ⟨S, ?_, hS, by rw [List.filter_cons_of_neg (by simp [LJ])]⟩
   simp only [gH66_2b_3,ak,aN,aS,aJ,aa,aA,Int.toNat_natCast,Int.toNat_zero,Nat.zero_add,Nat.add_zero,hd,hb,i1,i2,r1,d1,af,aM,seq_eq,LJ]
   rw [if_pos (by omega),Gk (by simp)]
   rfl
  ·refine ⟨cU c (c.length + 1) x S, ?_, (iP hS).1, by rw [List.filter_cons_of_pos (by simp [LJ])]; rfl⟩
   simp only [gH66_2b_3,ak,aN,aS,aJ,aa,aA,Int.toNat_natCast,Int.toNat_zero,Nat.zero_add,Nat.add_zero,hd,hb,i1,i2,r1,d1,af,aM,seq_eq]
   rw [if_pos (by omega),NN (by simp [LJ])]
   rw [ai (kH96 hc hS (Rt x (by rw [hx];simp)))]
   rfl
 ·intro S _
  simp only [gH66_2b_3,ak,aa,aM]
  rw [if_neg (by omega)]
  rfl
theorem agb {m1:List (Mg×Bool)} {e:ByteArray×List ByteArray} {S:fJ} (hc:c.length<1000000) (he:e∈bQ c) (hS:oH S):ah (gH66_2 e (bQ c,m1,bV c,cF c,S,()))=some (bQ c,m1,bV c,cF c,oI c S e,()):=by
 have QE:=(vJ.1 he).1
 have hl:e.2.length≤c.length:=by rw [QE];exact oG c e.1
 simp only [gH66_2,ak,aS,aa,aA,bB,dG,af,bA]
 unfold oI dir UP
 cases hh:aO .str (bV c) e.1 with
 |false=>rw [aY];simp
 |true =>
  rw [bM]
  by_cases h3:(az .str zM (bV c) e.1).2.1=3
  ·rw [bh, if_pos h3, if_neg (by simp [h3])]
   rfl
  ·rw [bh, if_neg h3, if_pos (by simp [h3])]
   rw [ai (kH98 (by omega))]
   obtain ⟨b,iC,eC,zA⟩:=kH97 (m3:=bV c) (m4:=bQ c) (m5:=cF c) (m6:=S) (l:=e.2) (by omega)
   rw [ai zA]
   have hf:(e.2.filter fun v => !(!az .str false (cF c) v))=e.2.filter (eP c):=List.filter_congr fun v _=>by rw [UN];simp
   rw [hf] at eC ⊢
   simp only [dG,af,bh]
   by_cases h1:(e.2.filter (eP c)).length=1
   ·rw [if_pos (by omega)]
    obtain ⟨o,ho⟩:=List.length_eq_one_iff.1 h1
    rw [ho] at eC h1 ⊢
    simp only [List.length_singleton] at eC ⊢
    have qE:0<b.length:=by
     cases b with
     |nil=>simp at eC
     |cons _ _=>simp
    have hbo:b.getD 0 (bs [])=o:=by
     cases b with
     |nil=>simp at eC
     |cons x r=>simp at eC;simp [eC]
    rw [ai (aap (m:=az .str zM (bV c) e.1) (o:=o) hc hl (JD e he) hbo qE hS)]
    simp only [dG,af]
   ·rw [if_neg (by omega)]
    have:(match e.2.filter (eP c) with|[o]=>e.2.filter (fun k => !decide (k=o))|_=>[])=([]:List ByteArray):=by
     split
     ·rename_i o ho;rw [ho] at h1;simp at h1
     ·rfl
    rw [this]
    rfl
theorem Qe {L:List Mg} (h:mB L):ah (FH66 (bk L))=some (bk L,bV (cnt L),bQ (cnt L),cF (cnt L),dc (cnt L),()):=by
 have hl:=h.len
 have yI:(cnt L).length≤60:=by
  have:(cnt L).length≤L.length:=by
   have hn:(cnt L).Nodup:=List.Pairwise.imp (fun {a b} h e=>by subst e;rw [show slt a.1 a.1=false from eo (t:=.str) kS a.1] at h;cases h) (fK L)
   exact List.Nodup.length_le_of_subset hn fun m hm=>Cl hm
  omega
 have hby:pX L=bV (cnt L):=E4 L
 unfold FH66
 simp only [aA,bB,aS]
 rw [ai (kH47 h.s (by omega))]
 simp only
 rw [ai (af8 (by omega))]
 simp only [FH95,aa,aF]
 rw [hby,ai (UM (fK L) (by omega))]
 simp only [List.isEmpty_nil,af]
 rw [ai (af9 (fK L) (by omega))]
 simp only
 have hmq:run (fun _=>none) (.mq gH66_2 (bQ (cnt L)) (bQ (cnt L),bk L,bV (cnt L),cF (cnt L),[],()))=some (bQ (cnt L),bk L,bV (cnt L),cF (cnt L),dc (cnt L),()):=by
  refine Eq.trans Gm (gF fun l hp=>?_)
  have := (E2 (step := fun e a => run (fun _ => none) (gH66_2 e a)) (fun (a : Fm × List (Mg × Bool) × AD × fJ × fJ × Unit) e => (bQ (cnt L), bk L, bV (cnt L), cF (cnt L), oI (cnt L) a.2.2.2.2.1 e, ())) (fun a => ∃ S, a = (bQ (cnt L), bk L, bV (cnt L), cF (cnt L), S, ()) ∧ oH S) l (bQ (cnt L), bk L, bV (cnt L), cF (cnt L), [], ()) ⟨[], rfl, .nil⟩ (by
   rintro e he _ ⟨S,rfl,hS⟩
   refine ⟨agb (by omega) (hp.mem_iff.1 he) hS,_,rfl,?_⟩
   exact (sw hS).1)).1
  rw [this]
  have key:∀(l:List (ByteArray×List ByteArray)) (S:fJ),l.foldl (fun (a:Fm×List (Mg×Bool)×AD×fJ×fJ×Unit) e=>(bQ (cnt L),bk L,bV (cnt L),cF (cnt L),oI (cnt L) a.2.2.2.2.1 e,())) (bQ (cnt L),bk L,bV (cnt L),cF (cnt L),S,())=(bQ (cnt L),bk L,bV (cnt L),cF (cnt L),l.foldl (oI (cnt L)) S,()):=by
   intro l
   induction l with
   |nil=>intro S;rfl
   |cons e l ih=>intro S;exact ih _
  rw [key,aao hp]
 rw [ai hmq]
end
end Go.Proofs.Tryz
end
section
namespace Go.Proofs.Tryz
open Go.AM
set_option maxRecDepth 100000
theorem Co {A B : Type} {F : (A → Option B) → A → Option B} (R : Nat → A → B → Prop)
  (h:∀rec n x y,R n x y→(∀n' x' y',n'<n→R n' x' y'→rec x'=some y')→F rec x=some y):∀n x y,R n x y→tw F x=some y:=by
 have key:∀k n x y,R n x y→n<k→LL F k x=some y:=by
  intro k
  induction k with
  |zero=>intro n x y _ hm;omega
  |succ k ih=>intro n x y hx hm;exact h _ n x y hx fun n' x' y' hn' hx'=>ih n' x' y' hx' (by omega)
 intro n x y hx
 exact ID (N:=n+1) fun k hk=>key k n x y hx (by omega)
section
variable {c:List Mg}
theorem kP {x y:ByteArray}:y∈kids c x↔∃m∈c,m.1=y∧m.2.1=2∧m.2.2.1=x:=by
 unfold kids
 rw [List.mem_map]
 constructor
 ·rintro ⟨m, hm, rfl⟩
  obtain ⟨h1,h2⟩:=List.mem_filter.1 hm
  simp only [decide_eq_true_eq] at h2
  exact ⟨m,h1,rfl,h2⟩
 ·rintro ⟨m, hm, rfl, h⟩
  exact ⟨m,List.mem_filter.2 ⟨hm,by simpa using h⟩,rfl⟩
theorem JE (hs:SI c) {x x' y:ByteArray} (h:y∈kids c x) (h':y∈kids c x'):x=x':=by
 obtain ⟨m,h1,h2,_,h3⟩:=kP.1 h
 obtain ⟨m',h1',h2',_,h3'⟩:=kP.1 h'
 have:=hs.inj h1 h1' (h2.trans h2'.symm)
 subst this
 exact h3.symm.trans h3'
inductive jD (c : List Mg) (x : ByteArray) : Nat → ByteArray → Prop
 |zero:jD c x 0 x
 |step {n y z} (h:jD c x n y) (hz:z∈kids c y):jD c x (n+1) z
theorem jD.add {n m:Nat} {x y z:ByteArray} (h:jD c x n y) (h':jD c y m z):jD c x (n+m) z:=by
 induction h' with
 |zero=>exact h
 |step _ hz ih=>exact .step ih hz
theorem jD.up (hs:SI c) {n:Nat} {x y:ByteArray} (h:jD c x n y):∀{m:Nat} {x':ByteArray},jD c x' m y→n≤m→jD c x' (m - n) x:=by
 induction h with
 |zero=>intro m x' h' _;exact h'
 |step h hz ih =>
  intro m x' h' hle
  cases h' with
  |zero=>omega
  |step h2 qa =>
   have e:=JE hs hz qa
   subst e
   have:=ih h2 (by omega)
   rwa [Nat.add_sub_add_right]
theorem jD.desc {n:Nat} {x y:ByteArray} (h:jD c x n y):kO c x y:=by
 induction h with
 |zero=>exact .refl _
 |step _ hz ih=>exact .step ih hz
theorem kO.pth {x y:ByteArray} (h:kO c x y):∃n,jD c x n y:=by
 induction h with
 |refl=>exact ⟨0,.zero⟩
 |step _ hz ih=>obtain ⟨n,h⟩:=ih;exact ⟨n+1,.step h hz⟩
def UQ (c:List Mg) (t:ByteArray):Prop:=∀x,t∉kids c x
theorem jD.deep (hs:SI c) {t:ByteArray} (ht:UQ c t) {n m:Nat} {y:ByteArray} (h:jD c t n y) (h':jD c t m y):n=m:=by
 have key:∀{n m:Nat},jD c t n y→jD c t m y→n≤m→n=m:=fun {n m} h h' hle=>by
  have:=h.up hs h' hle
  generalize hk:m - n=k at this
  cases this with
  |zero=>omega
  |step _ hz=>exact absurd hz (ht _)
 rcases Nat.le_total n m with hle|hle
 ·exact key h h' hle
 ·exact (key h' h hle).symm
theorem jD.short (hs:SI c) {t:ByteArray} (ht:UQ c t) (CB:t∈ids c) {n:Nat} {y:ByteArray} (h:jD c t n y):n<c.length:=by
 have key:∃l:List ByteArray,l.length=n+1∧l.Nodup∧∀a∈l,a∈ids c∧∃i,i≤n∧jD c t i a:=by
  induction h with
  |zero=>exact ⟨[t],rfl,by simp,fun a ha=>by rw [List.mem_singleton] at ha;subst ha;exact ⟨CB,0,Nat.le_refl _,.zero⟩⟩
  |step h hz ih =>
   rename_i n' y' z
   obtain ⟨l,h1,h2,h3⟩:=ih
   have hp:jD c t (n'+1) z:=.step h hz
   refine ⟨z::l,by simp [h1],List.nodup_cons.2 ⟨fun hzl=>?_,h2⟩,fun a ha=>?_⟩
   ·obtain ⟨_, i, hi, hpi⟩ := h3 z hzl
    have:=hpi.deep hs ht hp
    omega
   ·rcases List.mem_cons.1 ha with rfl | ha
    ·exact ⟨gZ hz,n'+1,Nat.le_refl _,hp⟩
    ·obtain ⟨q1, i, hi, hpi⟩ := h3 a ha
     exact ⟨q1,i,by omega,hpi⟩
 obtain ⟨l,h1,h2,h3⟩:=key
 have:=List.Nodup.length_le_of_subset h2 (fun a ha=>(h3 a ha).1)
 have hl:(ids c).length=c.length:=by simp [ids]
 omega
def eu (c:List Mg) (x:ByteArray):List ByteArray:=(kids c x).filter fun k => !cR c k
theorem vK {x y:ByteArray} (h:y∈eu c x):y∈kids c x:=(List.mem_filter.1 h).1
theorem UR (x:ByteArray):(eu c x).length≤c.length:=Nat.le_trans (List.length_filter_le ..) (oG c x)
def cC (c : List Mg) : Nat → ByteArray → List ByteArray
 |0,_=>[]
 |n+1,x=>match eu c x with
  |[]=>[x]
  |k::l=>ot .str ((k::l).flatMap (cC c n))
def jo (c:List Mg) (t:ByteArray):List ByteArray:=cC c (c.length+1) t
theorem US (hs:SI c) (x:ByteArray):(kids c x).Nodup:=by
 unfold kids List.Nodup
 rw [List.pairwise_map]
 refine List.Pairwise.imp (fun {a b} h e=>?_) (List.Pairwise.filter _ hs)
 rw [e,show slt b.1 b.1=false from eo (t:=.str) kS b.1] at h;cases h
theorem mc : ∀ {n : Nat} {x y : ByteArray}, y ∈ cC c n x → kO c x y
 |0,_,_,h=>by cases h
 |n+1,x,y,h=>by
  unfold cC at h
  split at h
  ·rw [List.mem_singleton] at h;subst h;exact .refl _
  ·rename_i k l hl
   rw [(dI (t:=.str) _).mem_iff,List.mem_flatMap] at h
   obtain ⟨a,ha,h⟩:=h
   exact .cons (vK (by rw [hl];exact ha)) (mc h)
theorem JF (hs : SI c) {t : ByteArray} (ht : UQ c t) : ∀ {n d : Nat} {x : ByteArray}, jD c t d x → (cC c n x).Nodup
 |0,_,_,_=>.nil
 |n+1,d,x,hp=>by
  unfold cC
  split
  ·simp
  ·rename_i k l hl
   refine (dI (t:=.str) _).nodup_iff.2 ?_
   have hn:(k::l).Nodup:=by rw [←hl];exact List.Pairwise.filter _ (US hs x)
   have hk:∀a∈k::l,a∈kids c x:=fun a ha=>vK (by rw [hl];exact ha)
   refine List.pairwise_flatMap.2 ⟨fun a ha=>JF hs ht (hp.step (hk a ha)),List.Pairwise.imp_of_mem (fun {a b} ha hb hab=>?_) hn⟩
   intro y hya y' hyb e
   subst e
   obtain ⟨i,hi⟩:=(mc hya).pth
   obtain ⟨j,hj⟩:=(mc hyb).pth
   have h1:=(hp.step (hk a ha)).add hi
   have h2:=(hp.step (hk b hb)).add hj
   have:=h1.deep hs ht h2
   have he:i=j:=by omega
   subst he
   have:=hi.up hs hj (Nat.le_refl _)
   rw [Nat.sub_self] at this
   cases this
   exact hab rfl
theorem ga (hs:SI c) {t:ByteArray} (ht:UQ c t) (CB:t∈ids c) {n d:Nat} {x:ByteArray} (hp:jD c t d x):(cC c n x).length≤c.length:=by
 have h:=List.Nodup.length_le_of_subset (JF hs ht (n:=n) hp) (l₂:=ids c) fun y hy=>by
  have hd:kO c t y:=hp.desc.trans (mc hy)
  cases hd with
  |refl=>exact CB
  |step _ hz=>exact gZ hz
 have hl:(ids c).length=c.length:=by simp [ids]
 omega
end
end Go.Proofs.Tryz
end
section
namespace Go.Proofs.Tryz
open Go.AM
set_option maxRecDepth 100000
section
variable {c:List Mg}
theorem agc (hc:c.length<1000000) (x:ByteArray):∃b,b.take (eu c x).length=eu c x∧(eu c x).length≤b.length∧ah (FH104 x (bV c) (bQ c) (cF c) (dc c))=some (0,(eu c x).length,b,bV c,bQ c,cF c,dc c,()):=by
 have hk:=oG c x
 obtain ⟨b,h1,h2,h3⟩:=UK (m3:=bV c) (m4:=bQ c) (m5:=cF c) (m6:=dc c) (l:=kids c x) (by omega)
 have hf:(kids c x).filter (fun v => !(az .str false (dc c) v))=eu c x:=List.filter_congr fun v _=>by rw [Cm]
 rw [hf] at h2 h3
 refine ⟨b,h2,by rw [h1];exact List.length_filter_le ..,?_⟩
 unfold FH104
 simp only [aA,vI]
 rw [ai (kH98 (by omega))]
 simp only
 rw [ai h3]
 rfl
abbrev D76:=Nat×List ByteArray×AD×Fm×fJ×fJ×Unit
theorem Qf (hs:SI c) (hc:c.length<1000000) {t:ByteArray} (ht:UQ c t) (CB:t∈ids c):ah (FH76fix t (bV c) (bQ c) (cF c) (dc c))=some ((jo c t).length,jo c t,bV c,bQ c,cF c,dc c,()):=by
 have h0:ah (FH76fix t (bV c) (bQ c) (cF c) (dc c))=tw (A:=kC.T) (B:=kD.T) (fun r y=>run r (FH76 y.1 y.2.1 y.2.2.1 y.2.2.2.1 y.2.2.2.2.1)) (t,bV c,bQ c,cF c,dc c,()):=rfl
 refine h0.trans ?_
 refine Co (A:=kC.T) (B:=kD.T) (fun n a b=>∃z d,a=(z,bV c,bQ c,cF c,dc c,())∧jD c t d z∧d+n=c.length∧b=((cC c (n+1) z).length,cC c (n+1) z,bV c,bQ c,cF c,dc c,())) ?_ c.length _ _ ⟨t,0,rfl,.zero,by omega,rfl⟩
 rintro rec n _ _ ⟨z,d,rfl,hp,hn,rfl⟩ ih
 have Qg:=hp.short hs ht CB
 obtain ⟨b,iC,eC,zA⟩:=agc hc z
 have yH:=UR (c:=c) z
 have hvl:=ga hs ht CB (n:=n+1) hp
 have e : (run rec (FH76 z (bV c) (bQ c) (cF c) (dc c)) : Option D76) = cq (ah (FH104 z (bV c) (bQ c) (cF c) (dc c))) fun y0 => kU (((y0.2.1 : Nat) : Int) == 0) (some (1, [z], y0.2.2.2.1, y0.2.2.2.2.1, y0.2.2.2.2.2.1, y0.2.2.2.2.2.2.1, ()))
   (cq (iter (fun a=>run rec (gH76_0 a)) (0,y0.1,y0.2.1,((y0.2.1:Nat):Int),(0:Int),[],y0.2.2.1,y0.2.2.2.1,y0.2.2.2.2.1,y0.2.2.2.2.2.1,y0.2.2.2.2.2.2.1,())) fun z2=>cq (ah (FH105 z2.1 z2.2.1)) fun y3=>some (z2.1,y3.1,z2.2.2.1,z2.2.2.2.1,z2.2.2.2.2.1,z2.2.2.2.2.2.1,())):=rfl
 refine Eq.trans (α:=Option D76) e ?_
 rw [ai zA]
 simp only [bh]
 cases hl:eu c z with
 |nil =>
  have hv:cC c (n+1) z=[z]:=by unfold cC;rw [hl]
  rw [hv];rfl
 |cons k0 l0 =>
  have hlen:(eu c z).length=l0.length+1:=by rw [hl];rfl
  rw [←hl,if_neg (by omega)]
  have hv:cC c (n+1) z=ot .str ((eu c z).flatMap (cC c n)):=by
   conv=>lhs;unfold cC
   rw [hl]
  have hfl:((eu c z).flatMap (cC c n)).length≤c.length:=by
   have:=(dI (t:=.str) ((eu c z).flatMap (cC c n))).length_eq
   rw [←hv] at this
   omega
  have hit : iter (fun a => run rec (gH76_0 a)) (0, 0, (eu c z).length, (((eu c z).length : Nat) : Int), (0 : Int), [], b, bV c, bQ c, cF c, dc c, ()) = some (((eu c z).flatMap (cC c n)).length, (eu c z).flatMap (cC c n), bV c, bQ c, cF c, dc c, ()) := (aP (eu c z) (fun k (o : List ByteArray) => (o.length, 0, (eu c z).length, (((eu c z).length : Nat) : Int), (k : Int), o, b, bV c, bQ c, cF c, dc c, ())) (fun o r => ((o ++ r.flatMap (cC c n)).length, o ++ r.flatMap (cC c n), bV c, bQ c, cF c, dc c, ()))
   (fun pre o => o = pre.flatMap (cC c n)) (by
    rintro pre k post _ hx rfl
    have hlen:(eu c z).length=pre.length+(post.length+1):=by rw [hx];simp
    have hd:b.getD pre.length (bs [])=k:=by
     have:(b.take (eu c z).length).getD pre.length (bs [])=k:=by rw [iC,hx];exact aU rfl
     rw [getD_take (by omega)] at this;exact this
    have hkk:k∈kids c z:=vK (by rw [hx];simp)
    have i1:bZ (pre.length:Int) (((eu c z).length:Nat):Int)=true:=aR (by omega) (by omega)
    have r1:de .i64 ((pre.length:Int)+1)=true:=aH (by omega) (by omega)
    have d1:decide (pre.length<b.length)=true:=decide_eq_true (by omega)
    have ME:=hp.step hkk
    have hsh:=ME.short hs ht CB
    left
    refine ⟨pre.flatMap (cC c n)++cC c n k,?_,by simp,by simp [List.flatMap_cons]⟩
    have e2 : (run rec (gH76_0 ((pre.flatMap (cC c n)).length, 0, (eu c z).length, (((eu c z).length : Nat) : Int), (pre.length : Int), pre.flatMap (cC c n), b, bV c, bQ c, cF c, dc c, ()))) = kU (decide ((pre.length : Int) < (((eu c z).length : Nat) : Int))) (need (bZ (pre.length : Int) (((eu c z).length : Nat) : Int)) (need (decide (0 + Int.toNat (pre.length : Int) < b.length))
      (cq (rec (b.getD (0 + Int.toNat (pre.length : Int)) (bs []), bV c, bQ c, cF c, dc c, ()) : Option D76) fun y1 => need (decide ((pre.flatMap (cC c n)).length + ((y1.2.1.drop 0).take y1.1).length < bI)) (need (de .i64 ((pre.length : Int) + 1))
       (some (.inl ((pre.flatMap (cC c n)).length+((y1.2.1.drop 0).take y1.1).length,0,(eu c z).length,(((eu c z).length:Nat):Int),(pre.length:Int)+1,(((pre.flatMap (cC c n)).drop 0).take (pre.flatMap (cC c n)).length)++((y1.2.1.drop 0).take y1.1),b,y1.2.2.1,y1.2.2.2.1,y1.2.2.2.2.1,y1.2.2.2.2.2.1,())))))))
      (some (.inr ((pre.flatMap (cC c n)).length,pre.flatMap (cC c n),bV c,bQ c,cF c,dc c,()))):=rfl
    rw [e2,Int.toNat_natCast,Nat.zero_add,hd,i1,af,d1,af,aM,if_pos (by omega)]
    obtain ⟨n',rfl⟩:∃n',n=n'+1:=⟨n - 1,by omega⟩
    have hq:(rec (k,bV c,bQ c,cF c,dc c,()):Option D76)=some ((cC c (n'+1) k).length,cC c (n'+1) k,bV c,bQ c,cF c,dc c,()):=ih n' (k,bV c,bQ c,cF c,dc c,()) _ (by omega) ⟨k,d+1,rfl,ME,by omega,rfl⟩
    refine bind_eq (A:=D76) hq ?_
    simp only [List.drop_zero,List.take_length,r1,af]
    have hle:(pre.flatMap (cC c (n'+1))).length+(cC c (n'+1) k).length≤c.length:=by
     have:((eu c z).flatMap (cC c (n'+1))).length=(pre.flatMap (cC c (n'+1))).length+((cC c (n'+1) k).length+(post.flatMap (cC c (n'+1))).length):=by rw [hx];simp
     omega
    rw [b7 (show _<bI by rw [ei];omega)]
    simp only [List.length_append]
    rfl) (by
    rintro o _
    have e2 : (run rec (gH76_0 (o.length, 0, (eu c z).length, (((eu c z).length : Nat) : Int), (((eu c z).length : Nat) : Int), o, b, bV c, bQ c, cF c, dc c, ()))) = kU (decide ((((eu c z).length : Nat) : Int) < (((eu c z).length : Nat) : Int))) (need (bZ (((eu c z).length : Nat) : Int) (((eu c z).length : Nat) : Int)) (need (decide (0 + Int.toNat (((eu c z).length : Nat) : Int) < b.length))
      (cq (rec (b.getD (0 + Int.toNat (((eu c z).length : Nat) : Int)) (bs []), bV c, bQ c, cF c, dc c, ()) : Option D76) fun y1 => need (decide (o.length + ((y1.2.1.drop 0).take y1.1).length < bI)) (need (de .i64 ((((eu c z).length : Nat) : Int) + 1))
       (some (.inl (o.length+((y1.2.1.drop 0).take y1.1).length,0,(eu c z).length,(((eu c z).length:Nat):Int),(((eu c z).length:Nat):Int)+1,((o.drop 0).take o.length)++((y1.2.1.drop 0).take y1.1),b,y1.2.2.1,y1.2.2.2.1,y1.2.2.2.2.1,y1.2.2.2.2.2.1,())))))))
      (some (.inr (o.length,o,bV c,bQ c,cF c,dc c,()))):=rfl
    rw [e2,aM,if_neg (by omega)]
    simp) (s:=[]) rfl)
  refine bind_eq (A:=Nat×List ByteArray×AD×Fm×fJ×fJ×Unit) hit ?_
  simp only [FH105,xA]
  have hsrt:uR .str ((eu c z).flatMap (cC c n)) ((eu c z).flatMap (cC c n)).length=some (ot .str ((eu c z).flatMap (cC c n)),()):=oF kS (dI _) (tC kS _) (by omega)
  refine bind_eq hsrt ?_
  rw [hv]
  have hpl:=(dI (t:=.str) ((eu c z).flatMap (cC c n))).length_eq
  rw [hpl]
  rfl
end
end Go.Proofs.Tryz
end
section
namespace Go.Proofs.Tryz
open Go.AM
set_option maxRecDepth 100000
def msg (c:List Mg) (x:ByteArray):Mg:=az .str zM (bV c) x
def pF (c:List Mg) (x:ByteArray):Bool:=aO .str (bV c) x
section
variable {c:List Mg}
theorem bT {x:ByteArray}:pF c x=true↔x∈ids c:=by
 unfold pF ids
 rw [dy kS]
 constructor
 ·rintro ⟨v, hv⟩
  obtain ⟨m,hm,h⟩:=List.mem_map.1 hv
  exact List.mem_map.2 ⟨m,hm,congrArg Prod.fst h⟩
 ·intro h
  obtain ⟨m,hm,rfl⟩:=List.mem_map.1 h
  exact ⟨m,List.mem_map.2 ⟨m,hm,rfl⟩⟩
theorem gy (hs:SI c) {m:Mg} (hm:m∈c):msg c m.1=m:=fW kS hs.cam (List.mem_map.2 ⟨m,hm,rfl⟩)
theorem Cp (hs:SI c) {x:ByteArray} (h:pF c x=true):msg c x∈c∧(msg c x).1=x:=by
 obtain ⟨m,hm,rfl⟩:=List.mem_map.1 (bT.1 h)
 rw [gy hs hm];exact ⟨hm,rfl⟩
theorem kQ (hs:SI c) {x:ByteArray} (h:pF c x=true) (hk:(msg c x).2.1=1):UQ c x:=by
 intro y hy
 obtain ⟨m,hm,h1,h2,_⟩:=kP.1 hy
 subst h1
 rw [gy hs hm] at hk
 omega
def zk (c : List Mg) : Nat → ByteArray → Option ByteArray
 |0,_=>none
 |n+1,x=>if pF c x=true then (if (msg c x).2.1=3 then none else if cR c x=true then none else if (msg c x).2.1=1 then some x else zk c n (msg c x).2.2.1) else none
theorem E6 (hs : SI c) : ∀ {n : Nat} {x t : ByteArray}, zk c n x = some t → pF c t = true ∧ (msg c t).2.1 = 1 ∧ cR c t = false
 |0,_,_,h=>by cases h
 |n+1,x,t,h=>by
  unfold zk at h
  split at h<;>try (cases h;done)
  rename_i h1
  split at h<;>try (cases h;done)
  split at h<;>try (cases h;done)
  rename_i h3
  split at h
  ·rename_i h4;cases h;exact ⟨h1,h4,by simpa using h3⟩
  ·exact E6 hs h
abbrev nt (c:List Mg) (x:ByteArray):Option ByteArray:=zk c c.length x
theorem kH74 (hs:SI c) (hc:c.length<1000000) (x:ByteArray):ah (FH74 x (bV c) (bQ c) (cF c) (dc c)) =
  some (match nt c x with|some t=>((jo c t).length,true,jo c t,bV c,bQ c,cF c,dc c,())|none=>(0,false,[],bV c,bQ c,cF c,dc c,())):=by
 have key:∀(l:List (ByteArray×Mg)) (x:ByteArray),∃x',yT (fun e a=>run (fun _=>none) (gH74_0 e a)) l (x,bV c,bQ c,cF c,dc c,()) =
   some (match zk c l.length x with|some t=>.inr ((jo c t).length,true,jo c t,bV c,bQ c,cF c,dc c,())|none=>x') ∧
   (zk c l.length x=none→x' = .inr (0,false,[],bV c,bQ c,cF c,dc c,())∨∃y,x' = .inl (y,bV c,bQ c,cF c,dc c,())):=by
  intro l
  induction l with
  |nil=>intro x;exact ⟨.inl (x,bV c,bQ c,cF c,dc c,()),rfl,fun _=>.inr ⟨x,rfl⟩⟩
  |cons e l ih =>
   intro x
   have hg:run (fun _=>none) (gH74_0 e (x,bV c,bQ c,cF c,dc c,()))=if pF c x=true then (if (msg c x).2.1=3 then some (.inr (0,false,[],bV c,bQ c,cF c,dc c,())) else if cR c x=true then some (.inr (0,false,[],bV c,bQ c,cF c,dc c,())) else if (msg c x).2.1=1 then some (.inr ((jo c x).length,true,jo c x,bV c,bQ c,cF c,dc c,())) else some (.inl ((msg c x).2.2.1,bV c,bQ c,cF c,dc c,()))) else some (.inr (0,false,[],bV c,bQ c,cF c,dc c,())):=by
    simp only [gH74_0,ak,aA,aS,aa,dG,af,bA,bh,Cm]
    rw [show aO .str (bV c) x=pF c x from rfl,show az .str zM (bV c) x=msg c x from rfl,jA]
    split
    ·rename_i h1
     split
     ·rfl
     ·rw [jA]
      split
      ·rfl
      ·split
       ·rename_i h4
        rw [ai (Qf hs hc (kQ hs h1 h4) (bT.1 h1))]
       ·rfl
    ·rfl
   simp only [yT,hg,List.length_cons,zk]
   by_cases h1:pF c x=true
   ·rw [if_pos h1, if_pos h1]
    by_cases h2:(msg c x).2.1=3
    ·rw [if_pos h2,if_pos h2];exact ⟨_,rfl,fun _=>.inl rfl⟩
    ·rw [if_neg h2, if_neg h2]
     by_cases h3:cR c x=true
     ·rw [if_pos h3,if_pos h3];exact ⟨_,rfl,fun _=>.inl rfl⟩
     ·rw [if_neg h3, if_neg h3]
      by_cases h4:(msg c x).2.1=1
      ·rw [if_pos h4,if_pos h4];exact ⟨.inr (0,false,[],bV c,bQ c,cF c,dc c,()),rfl,fun h=>by cases h⟩
      ·rw [if_neg h4,if_neg h4];exact ih _
   ·rw [if_neg h1,if_neg h1];exact ⟨_,rfl,fun _=>.inl rfl⟩
 unfold FH74
 simp only [aA]
 have hmp:∃x',run (fun _=>none) (.mp gH74_0 (bV c) (x,bV c,bQ c,cF c,dc c,()))=some (match nt c x with|some t=>.inr ((jo c t).length,true,jo c t,bV c,bQ c,cF c,dc c,())|none=>x') ∧
   (nt c x=none→x' = .inr (0,false,[],bV c,bQ c,cF c,dc c,())∨∃y,x' = .inl (y,bV c,bQ c,cF c,dc c,())):=by
  obtain ⟨x',h1,h2⟩:=key (bV c) x
  have hlen:(bV c).length=c.length:=List.length_map ..
  rw [hlen] at h1 h2
  refine ⟨x',Eq.trans Yd (gF fun l hp=>?_),h2⟩
  have yH:l.length=(bV c).length:=hp.length_eq
  have hany:∀(l l':List (ByteArray×Mg)) (a:ByteArray×AD×Fm×fJ×fJ×Unit),l.length=l'.length→yT (fun e a=>run (fun _=>none) (gH74_0 e a)) l a=yT (fun e a=>run (fun _=>none) (gH74_0 e a)) l' a:=by
   intro l
   induction l with
   |nil =>
    intro l' a h
    cases l' with
    |nil=>rfl
    |cons _ _=>simp at h
   |cons e l ih =>
    intro l' a h
    cases l' with
    |nil=>simp at h
    |cons e' l' =>
     have hs:run (fun _=>none) (gH74_0 e a)=run (fun _=>none) (gH74_0 e' a):=rfl
     simp only [yT,hs]
     split
     ·rfl
     ·exact ih l' _ (by simpa using h)
     ·rfl
  rw [hany l (bV c) _ yH]
  exact h1
 obtain ⟨x',h1,h2⟩:=hmp
 rw [ai h1]
 cases hst:nt c x with
 |some t=>simp only [kn,aa]
 |none =>
  rcases h2 hst with rfl|⟨y,rfl⟩
  ·simp only [kn,aa]
  ·simp only [lJ,aa]
def Qh (x:ByteArray) (l:List ByteArray):Bool:=l.any fun y=>decide (y=x)
theorem E7 {x:ByteArray} {l:List ByteArray}:Qh x l=true↔x∈l:=by
 unfold Qh;rw [List.any_eq_true]
 constructor
 ·rintro ⟨y,hy,h⟩;have:=of_decide_eq_true h;subst this;exact hy
 ·intro h;exact ⟨x,h,decide_eq_true rfl⟩
theorem k75 {l:List ByteArray} (hl:l.length<1000000000) (x:ByteArray):ah (F75 l x)=some (Qh x l,()):=by
 have hi:iter (fun a=>run (fun _=>none) (g103_0 a)) (l,x,((l.length:Nat):Int),(0:Int),())=some (match eH (fun y=>decide (y=x)) 0 l with|some k=>Sum.inl (((k:Nat):Int),())|none=>Sum.inr ()):=by
  refine aP l (fun k (_:Nat)=>(l,x,((l.length:Nat):Int),(k:Int),())) (fun k r=>match eH (fun y=>decide (y=x)) k r with|some k=>Sum.inl (((k:Nat):Int),())|none=>Sum.inr ()) (fun pre k=>k=pre.length) ?_ ?_ (s:=0) rfl
  ·rintro pre y post k hx rfl
   have hlen:l.length=pre.length+(post.length+1):=by rw [hx];simp
   have hd:l.getD pre.length (bs [])=y:=by rw [hx];exact aU rfl
   have i1:bZ (pre.length:Int) ((l.length:Nat):Int)=true:=aR (by omega) (by omega)
   have r1:de .i64 ((pre.length:Int)+1)=true:=aH (by omega) (by omega)
   simp only [g103_0,ak,aN,aJ,aa,Int.toNat_natCast,hd,i1,r1,af,aM,seq_eq]
   rw [if_pos (by omega)]
   by_cases h:y=x
   ·right
    rw [if_pos h.symm]
    simp [eH,h]
   ·left
    refine ⟨pre.length+1,?_,by simp,?_⟩
    ·rw [if_neg (fun e=>h e.symm)];rfl
    ·simp [eH,h]
  ·rintro k _
   simp only [g103_0,ak,aM,aa]
   rw [if_neg (by omega)];rfl
 unfold F75 F103
 simp only [aA,bB]
 rcases lu (fun y=>decide (y=x)) l 0 with ⟨p,y,q,h1,h2,h3,h4⟩|⟨h1,h2⟩
 ·rw [h4] at hi
  rw [ai hi]
  have hy:y=x:=by simpa using h3
  simp only [lJ,aa,aF]
  congr 2
  rw [Bool.eq_iff_iff,decide_eq_true_eq,E7]
  exact ⟨fun _=>by rw [h1,hy];simp,fun _=>by omega⟩
 ·rw [h2] at hi
  rw [ai hi]
  simp only [kn,aa,aF]
  congr 2
  rw [Bool.eq_iff_iff,decide_eq_true_eq,E7]
  refine ⟨fun h=>by omega,fun h=>?_⟩
  have:=h1 x h
  simp at this
def gz (c:List Mg) (x:ByteArray):Int×Int :=
 if pF c x=true then (if (msg c x).2.1=3 then (0,18) else if cR c x=true then (2,0) else match nt c x with
  |none=>(1,0)
  |some t=>if Qh x (jo c t)=true then (if 1<(jo c t).length then (5,0) else (4,0)) else (3,0)) else (0,5)
def AG (c:List Mg) (x:ByteArray):List ByteArray×Int:=if pF c x=true then (if (msg c x).2.1=1 then (jo c x,0) else ([],18)) else ([],5)
theorem jJ {L:List Mg} (h:mB L):(cnt L).length≤60:=by
 have hn:(cnt L).Nodup:=List.Pairwise.imp (fun {a b} h e=>by subst e;rw [show slt a.1 a.1=false from eo (t:=.str) kS a.1] at h;cases h) (fK L)
 have:=List.Nodup.length_le_of_subset hn (fun m hm=>Cl hm)
 have:=h.len
 omega
theorem kH32 {L:List Mg} (h:mB L) (x:ByteArray):ah (FH32 x (bk L))=some ((gz (cnt L) x).1,(gz (cnt L) x).2,bk L,()):=by
 have hs:=fK L
 have hc:=jJ h
 unfold FH32
 simp only [aA,Hx,aF,ak,aY]
 rw [ai (Qe h)]
 simp only [aa,bA,bh,Cm]
 rw [show aO .str (bV (cnt L)) x=pF (cnt L) x from rfl,show az .str zM (bV (cnt L)) x=msg (cnt L) x from rfl,jA]
 unfold gz
 by_cases h1:pF (cnt L) x=true
 ·rw [if_pos h1, if_pos h1, if_pos trivial]
  by_cases h2:(msg (cnt L) x).2.1=3
  ·rw [if_pos h2,if_pos h2]
  ·rw [if_neg h2, if_neg h2, jA]
   by_cases h3:cR (cnt L) x=true
   ·rw [if_pos h3,if_pos h3]
   ·rw [if_neg h3, if_neg h3]
    rw [ai (kH74 hs (by omega) x)]
    cases hst:nt (cnt L) x with
    |none=>simp
    |some t =>
     obtain ⟨ht1,ht2,_⟩:=E6 hs hst
     have hvl:(jo (cnt L) t).length≤(cnt L).length:=ga hs (kQ hs ht1 ht2) (bT.1 ht1) .zero
     simp only [bM,List.drop_zero,List.take_length]
     rw [ai (k75 (by omega) x)]
     rw [jA]
     simp only [aM]
     by_cases h4:Qh x (jo (cnt L) t)=true
     ·rw [if_pos h4, if_pos h4]
      by_cases h5:1<(jo (cnt L) t).length
      ·rw [if_pos (by omega),if_pos h5]
      ·rw [if_neg (by omega),if_neg h5]
     ·rw [if_neg h4,if_neg h4]
 ·rw [if_neg h1,if_neg h1,if_neg (by omega)]
theorem kH33 {L:List Mg} (h:mB L) (x:ByteArray):ah (FH33 x (bk L))=some ((AG (cnt L) x).1.length,(AG (cnt L) x).2,(AG (cnt L) x).1,bk L,()):=by
 have hs:=fK L
 have hc:=jJ h
 unfold FH33
 simp only [aA,Hx,aF,ak,aY]
 rw [ai (Qe h)]
 simp only [aa,bA,bh]
 rw [show aO .str (bV (cnt L)) x=pF (cnt L) x from rfl,show az .str zM (bV (cnt L)) x=msg (cnt L) x from rfl,jA]
 unfold AG
 by_cases h1:pF (cnt L) x=true
 ·rw [if_pos h1, if_pos h1, if_pos trivial]
  by_cases h2:(msg (cnt L) x).2.1=1
  ·rw [if_pos h2,if_pos h2,ai (Qf hs (by omega) (kQ hs h1 h2) (bT.1 h1))]
  ·rw [if_neg h2,if_neg h2];rfl
 ·rw [if_neg h1,if_neg h1,if_neg (by omega)];rfl
theorem HB {L:List Mg} (h:mB L) (x:ByteArray) (n:Int):ah (FH40 x n (bk L))=some (decide (gz (cnt L) x=(n,0)),bk L,()):=by
 unfold FH40
 simp only [aA]
 rw [ai (kH32 h x)]
 simp only [ak,aa,bh]
 by_cases h1:(gz (cnt L) x).2=0
 ·rw [if_pos h1]
  congr 2
  rw [Bool.eq_iff_iff,beq_iff_eq,decide_eq_true_eq]
  exact ⟨fun h=>Prod.ext h h1,fun h=>by rw [h]⟩
 ·rw [if_neg h1]
  congr 2
  exact (decide_eq_false fun h=>h1 (by rw [h])).symm
end
end Go.Proofs.Tryz
end
section
namespace Go.Proofs.Tryz
open Go.AM
set_option maxRecDepth 100000
abbrev Zs:=List (Int×Unit)
abbrev kI:bF (.int .i64)=some [.i]:=rfl
def me (l:Zs) (n:Int) (nx:Zs):Zs:=l.foldl (fun nx e=>bg (.int .i64) nx (e.1+n) ()) nx
def CZ (z:Zs):Prop:=gN (.int .i64) z
def sD (Z:Zs) (z:Int):Prop:=(z,())∈Z
theorem CZ.put {Z:Zs} (h:CZ Z) (z:Int):CZ (bg (.int .i64) Z z ()):=gN.iw kI h
theorem JG {Z:Zs} (h:CZ Z) {z y:Int}:sD (bg (.int .i64) Z z ()) y↔y=z∨sD Z y:=by
 unfold sD
 rw [fZ kI h]
 constructor
 ·rintro (e | ⟨h, _⟩)
  ·cases e;exact .inl rfl
  ·exact .inr h
 ·by_cases e : y = z
  ·subst e;exact fun _=>.inl rfl
  ·rintro (e' | h)
   ·exact absurd e' e
   ·exact .inr ⟨h,e⟩
theorem lz {n : Int} : ∀ {l nx : Zs}, CZ nx → CZ (me l n nx) ∧ ∀ z, sD (me l n nx) z ↔ sD nx z ∨ ∃ x, sD l x ∧ z = x + n
 |[],nx,h=>⟨h,fun z=>by simp [me,sD]⟩
 |e::l,nx,h=>by
  obtain ⟨h1,h2⟩:=lz (n:=n) (l:=l) (h.put (e.1+n))
  refine ⟨h1,fun z=>?_⟩
  have h3:me (e::l) n nx=me l n (bg (.int .i64) nx (e.1+n) ()):=rfl
  rw [h3,h2,JG h]
  constructor
  ·rintro ((h | h) | ⟨x, hx, h⟩)
   ·exact .inr ⟨e.1,List.mem_cons_self ..,h⟩
   ·exact .inl h
   ·exact .inr ⟨x,List.mem_cons_of_mem _ hx,h⟩
  ·rintro (h | ⟨x, hx, h⟩)
   ·exact .inl (.inr h)
   ·rcases List.mem_cons.1 hx with e' | hx
    ·exact .inl (.inl (by rw [h,←e']))
    ·exact .inr ⟨x,hx,h⟩
theorem CZ.ext {Z Z':Zs} (h:CZ Z) (h':CZ Z') (hz:∀z,sD Z z↔sD Z' z):Z=Z':=Jw kI h h' fun e=>hz e.1
theorem AH {l l' nx:Zs} {n:Int} (h:CZ nx) (hp:l.Perm l'):me l n nx=me l' n nx :=
 (lz h).1.ext (lz h).1 fun z=>by
  rw [(lz h).2,(lz h).2]
  exact or_congr_right ⟨fun ⟨x,hx,e⟩=>⟨x,hp.mem_iff.1 hx,e⟩,fun ⟨x,hx,e⟩=>⟨x,hp.mem_iff.2 hx,e⟩⟩
def mg (f:ByteArray→Int) (can:Zs) (vs:List ByteArray):Zs:=vs.foldl (fun nx v=>me can (f v) nx) []
theorem E8 {f : ByteArray → Int} {can : Zs} : ∀ {vs : List ByteArray} {nx : Zs}, CZ nx → CZ (vs.foldl (fun nx v => me can (f v) nx) nx) ∧ ∀ z, sD (vs.foldl (fun nx v => me can (f v) nx) nx) z ↔ sD nx z ∨ ∃ v ∈ vs, ∃ x, sD can x ∧ z = x + f v
 |[],nx,h=>⟨h,fun z=>by simp⟩
 |v::vs,nx,h=>by
  obtain ⟨h1,h2⟩:=lz (n:=f v) (l:=can) h
  obtain ⟨h3,h4⟩:=E8 (f:=f) (can:=can) (vs:=vs) h1
  refine ⟨h3,fun z=>?_⟩
  rw [List.foldl_cons,h4,h2]
  simp only [List.mem_cons,exists_eq_or_imp,or_assoc]
theorem mh {f:ByteArray→Int} {can:Zs} {vs:List ByteArray}:CZ (mg f can vs)∧∀z,sD (mg f can vs) z↔∃v∈vs,∃x,sD can x∧z=x+f v:=by
 obtain ⟨h1,h2⟩:=E8 (f:=f) (can:=can) (vs:=vs) (nx:=[]) .nil
 exact ⟨h1,fun z=>(h2 z).trans (by simp [sD])⟩
def uH (c:List Mg):List ByteArray:=(c.filter fun m=>decide (m.2.1=1)).map (·.1)
def ic (c:List Mg) (f:ByteArray→Int) (ts:List ByteArray) (can:Zs):Zs:=ts.foldl (fun can t=>mg f can (jo c t)) can
def cm:Zs:=bg (.int .i64) [] 0 ()
def gJ (c:List Mg) (f:ByteArray→Int):List Int:=(ic c f (uH c) cm).map (·.1)
theorem cI:CZ cm∧∀z,sD cm z↔z=0:=⟨CZ.put .nil 0,fun z=>(JG .nil).trans (by simp [sD])⟩
theorem sx {c : List Mg} {f : ByteArray → Int} : ∀ {ts : List ByteArray} {can : Zs}, CZ can → CZ (ic c f ts can)
 |[],_,h=>h
 |t::ts,can,_=>sx (ts:=ts) mh.1
def BZ (B:Int) (Z:Zs):Prop:=∀z,sD Z z → -B≤z∧z≤B
theorem pg {f:ByteArray→Int} {can:Zs} {vs:List ByteArray} {B:Int} (h:BZ B can) (hf:∀v∈vs,-1000≤f v∧f v≤1000):BZ (B+1000) (mg f can vs):=fun z hz=>by
 obtain ⟨v,hv,x,hx,rfl⟩:=(mh.2 z).1 hz
 have:=h x hx;have:=hf v hv;omega
section
variable {c:List Mg}
theorem UT (hs:SI c) {t v:ByteArray} (ht:pF c t=true) (hk:(msg c t).2.1=1) (hv:v∈jo c t):pF c v=true∧((msg c v).2.1=1∨(msg c v).2.1=2):=by
 have hd:=mc hv
 cases hd with
 |refl=>exact ⟨ht,.inl hk⟩
 |step _ hz =>
  obtain ⟨m,hm,h1,h2,_⟩:=kP.1 hz
  subst h1
  exact ⟨bT.2 (List.mem_map.2 ⟨m,hm,rfl⟩),.inr (by rw [gy hs hm];exact h2)⟩
theorem UU {m:Mg} (h:uF m=0) (hk:m.2.1=1∨m.2.1=2) : -1000≤m.2.2.2.2∧m.2.2.2.2≤1000:=by
 unfold uF at h
 split at h
 ·cases h
 split at h
 ·unfold E1 at h
  have h3:pW m=0:=by
   by_cases h1:uE m=0
   ·by_cases h2 : pW m = 0
    ·exact h2
    ·simp [h1,h2] at h
   ·simp [h1] at h
  unfold pW at h3
  rw [if_neg (by omega)] at h3
  split at h3
  ·split at h3
   ·assumption
   ·cases h3
  ·cases h3
 ·cases h
def fA (c:List Mg) (a v:ByteArray):Int:=if (msg c v).2.2.2.1=a then (msg c v).2.2.2.2 else 0
def fT (c:List Mg) (v:ByteArray):Int:=(msg c v).2.2.2.2
def QS (c:List Mg) (f:ByteArray→Int):Prop:=∀t v,pF c t=true→(msg c t).2.1=1→v∈jo c t → -1000≤f v∧f v≤1000
theorem aaq (hs:SI c) (hc:∀m∈c,uF m=0):QS c (fT c):=fun t v h1 h2 h3=>by
 obtain ⟨h4,h5⟩:=UT hs h1 h2 h3
 exact UU (hc _ (Cp hs h4).1) h5
theorem Qi (hs:SI c) (hc:∀m∈c,uF m=0) (a:ByteArray):QS c (fA c a):=fun t v h1 h2 h3=>by
 have:=aaq hs hc t v h1 h2 h3
 unfold fA;unfold fT at this
 split<;>omega
theorem k68 (m:Mg) (a:ByteArray):ah (F68 m a)=some (if m.2.2.2.1=a then m.2.2.2.2 else 0,()):=by
 simp only [F68,ak,aa,bA,seq_eq,aM]
 split<;>rfl
theorem k78 (m:Mg):ah (F78 m)=some (m.2.2.2.2,()):=rfl
theorem JH (z:Int) (m:Zs):ah (FH100 z m)=some (bg (.int .i64) m z (),()):=rfl
theorem WW {Z:Zs} (h:CZ Z) (hl:Z.length<1000000000):ah (FH102 Z)=some (Z.length,Z.map (·.1),Z,()):=by
 unfold FH102
 refine Eq.trans BL (gF fun l hp=>?_)
 have yH:l.length=Z.length:=hp.length_eq
 simp only [aA,BM]
 refine bind_eq (sr (m:=Z) (l:=l) (by rw [yH];exact hl) fun e n b hn=>?_) ?_
 ·simp only [gH102f121f133_0i_0, aS, aa, dG, af]
  rw [b7 (show _<bI by rw [ei];simp;omega)]
  rfl
 ·simp only [FH122, xA]
  have hpk:(Z.map (·.1)).Perm (l.map (·.1)):=(hp.map (·.1)).symm
  have:=oF kI hpk (gN.keys kI h) (by rw [List.length_map];omega)
  rw [List.length_map] at this
  rw [ai this,yH]
  rfl
theorem HC {Z:Zs} {B:Nat} (h:CZ Z) (hb:BZ (B:Int) Z):Z.length≤2 * B+1:=by
 have hn:(Z.map (·.1)).Nodup:=by
  unfold List.Nodup
  rw [List.pairwise_map]
  exact List.Pairwise.imp (fun {a b} h e=>by rw [e,eo kI] at h;cases h) h
 have h2:((Z.map (·.1)).map fun z:Int=>(z+(B:Int)).toNat).Nodup:=by
  unfold List.Nodup
  rw [List.pairwise_map]
  refine List.Pairwise.imp_of_mem (fun {a b} ha hb' hab e=>hab ?_) hn
  obtain ⟨p,hp,rfl⟩:=List.mem_map.1 ha
  obtain ⟨q,hq,rfl⟩:=List.mem_map.1 hb'
  have h3:=hb p.1 hp
  have h4:=hb q.1 hq
  omega
 have:=List.Nodup.length_le_of_subset h2 (l₂:=List.range (2 * B+1)) fun z hz=>by
  obtain ⟨y,hy,rfl⟩:=List.mem_map.1 hz
  obtain ⟨p,hp,rfl⟩:=List.mem_map.1 hy
  have h3:=hb p.1 hp
  rw [List.mem_range];omega
 simpa using this
theorem kA67 {a:ByteArray} {nv:Nat} {w1 w2 n:Int} {pE jd:List ByteArray} {can nx:Zs} (hx:CZ nx) (hb:BZ 1000000 can) (hn : -1000≤n∧n≤1000):ah (gH67_0b_2 (nv,w1,w2,n,pE,bV c,bQ c,cF c,dc c,a,jd,can,nx,()))=some (nv,w1,w2,pE,bV c,bQ c,cF c,dc c,a,jd,can,me can n nx,()):=by
 unfold gH67_0b_2
 simp only [aA]
 refine bind_eq (Eq.trans Gm (gF (b:=(nv,w1,w2,can,bV c,bQ c,cF c,dc c,a,n,pE,jd,me can n nx,())) fun l hp=>?_)) rfl
 have key:∀(l:Zs) (nx:Zs),(∀e∈l,e∈can)→zU (fun e a=>run (fun _=>none) (gH67_0b_2i_0 e a)) l (nv,w1,w2,can,bV c,bQ c,cF c,dc c,a,n,pE,jd,nx,())=some (nv,w1,w2,can,bV c,bQ c,cF c,dc c,a,n,pE,jd,me l n nx,()):=by
  intro l
  induction l with
  |nil=>intro nx _;rfl
  |cons e l ih =>
   intro nx hm
   have hz:=hb e.1 (hm e (List.mem_cons_self ..))
   have hs:run (fun _=>none) (gH67_0b_2i_0 e (nv,w1,w2,can,bV c,bQ c,cF c,dc c,a,n,pE,jd,nx,()))=some (nv,w1,w2,can,bV c,bQ c,cF c,dc c,a,n,pE,jd,bg (.int .i64) nx (e.1+n) (),()):=by
    simp only [gH67_0b_2i_0,aJ,aA,aS,aa,JH,aF,dG,af]
    rw [iG (aH (by omega) (by omega))]
   simp only [zU,hs]
   exact ih _ fun e he=>hm e (List.mem_cons_of_mem _ he)
 rw [key l nx fun e he=>hp.mem_iff.1 he,AH hx hp]
theorem kB67 {a:ByteArray} {jd:List ByteArray} {can:Zs} {vs:List ByteArray} (hvl:vs.length<1000000) (hb:BZ 1000000 can) (hf:∀v∈vs,-1000≤fA c a v∧fA c a v≤1000) :
  iter (fun x=>ah (gH67_0b_1 x)) (vs.length,((vs.length:Nat):Int),(0:Int),vs,bV c,bQ c,cF c,dc c,a,jd,can,[],())=some (bV c,bQ c,cF c,dc c,a,jd,vs,can,mg (fA c a) can vs,()):=by
 refine aP vs (fun k (nx:Zs)=>(vs.length,((vs.length:Nat):Int),(k:Int),vs,bV c,bQ c,cF c,dc c,a,jd,can,nx,())) (fun nx r=>(bV c,bQ c,cF c,dc c,a,jd,vs,can,r.foldl (fun nx v=>me can (fA c a v) nx) nx,())) (fun _ nx=>CZ nx) ?_ ?_ (s:=[]) .nil
 ·intro pre v post nx hx Ik
  have hlen:vs.length=pre.length+(post.length+1):=by rw [hx];simp
  have hd:vs.getD pre.length (bs [])=v:=by rw [hx];exact aU rfl
  have i1:bZ (pre.length:Int) ((vs.length:Nat):Int)=true:=aR (by omega) (by omega)
  have r1:de .i64 ((pre.length:Int)+1)=true:=aH (by omega) (by omega)
  have d1:decide (pre.length<vs.length)=true:=decide_eq_true (by omega)
  left
  refine ⟨me can (fA c a v) nx,?_,(lz Ik).1,rfl⟩
  simp only [gH67_0b_1,ak,aN,aS,aJ,aA,aa,Int.toNat_natCast,Nat.zero_add,hd,i1,d1,af,aM,FH101,FH120,aF]
  rw [if_pos (by omega)]
  rw [ai (show ah (F68 ((az .str zM (bV c) v).1,(az .str zM (bV c) v).2.1,(az .str zM (bV c) v).2.2.1,(az .str zM (bV c) v).2.2.2.1,(az .str zM (bV c) v).2.2.2.2) a)=some (fA c a v,()) from k68 _ _)]
  rw [ai (kA67 Ik hb (hf v (by rw [hx];simp)))]
  simp only [r1,af]
  rfl
 ·intro nx _
  simp only [gH67_0b_1,ak,aa,aM]
  rw [if_neg (by omega)]
  rfl
theorem kC67 {a:ByteArray} (hs:SI c) (hl:c.length≤60) (hB:QS c (fA c a)):iter (fun x=>ah (gH67_0i_0 x)) (c.length,((c.length:Nat):Int),(0:Int),c.map (·.1),bV c,bQ c,cF c,dc c,a,cm,()) =
  some (bV c,bQ c,cF c,dc c,a,ic c (fA c a) (uH c) cm,()):=by
 have yH:(c.map (·.1)).length=c.length:=List.length_map ..
 refine aP c (fun k (can:Zs)=>(c.length,((c.length:Nat):Int),(k:Int),c.map (·.1),bV c,bQ c,cF c,dc c,a,can,())) (fun can r=>(bV c,bQ c,cF c,dc c,a,ic c (fA c a) ((r.filter fun m=>decide (m.2.1=1)).map (·.1)) can,())) (fun pre can=>CZ can∧BZ (1000 * (pre.length:Int)) can) ?_ ?_ (s:=cm) ⟨cI.1,fun z hz=>by rw [(cI.2 z).1 hz];simp⟩
 ·rintro pre m post can hx ⟨u7, hbz⟩
  have hlen:c.length=pre.length+(post.length+1):=by rw [hx];simp
  have hm:m∈c:=by rw [hx];simp
  have hd:(c.map (·.1)).getD pre.length (bs [])=m.1:=by rw [hx,List.map_append,List.map_cons];exact aU (by simp)
  have hg:az .str zM (bV c) m.1=m:=gy hs hm
  have i1:bZ (pre.length:Int) ((c.length:Nat):Int)=true:=aR (by omega) (by omega)
  have r1:de .i64 ((pre.length:Int)+1)=true:=aH (by omega) (by omega)
  have d1:decide (pre.length<(c.map (·.1)).length)=true:=decide_eq_true (by omega)
  have hpl:((pre++[m]).length:Int)=(pre.length:Int)+1:=by simp
  left
  by_cases hk:m.2.1=1
  ·have him : pF c m.1 = true := bT.2 (List.mem_map.2 ⟨m, hm, rfl⟩)
   have hkm:(msg c m.1).2.1=1:=by rw [gy hs hm];exact hk
   have hvl:(jo c m.1).length≤c.length:=ga hs (kQ hs him hkm) (bT.1 him) .zero
   refine ⟨mg (fA c a) can (jo c m.1),?_,⟨mh.1,?_⟩,?_⟩
   ·simp only [gH67_0i_0, ak, aN, aS, aJ, aA, bB, aa, Int.toNat_natCast, Nat.zero_add, hd, hg, i1, d1, af, aM, bh]
    rw [if_pos (by omega),if_pos hk,ai (Qf hs (by omega) (kQ hs him hkm) (bT.1 him))]
    rw [ai (kB67 (vs:=jo c m.1) (by omega) (fun z hz=>by have:=hbz z hz;omega) (fun v hv=>hB m.1 v him hkm hv))]
    simp only [r1,af]
    rfl
   ·have := pg (f := (fA c a)) (vs := jo c m.1) hbz fun v hv => hB m.1 v him hkm hv
    intro z hz
    have:=this z hz
    omega
   ·rw [List.filter_cons_of_pos (by simpa using hk)]
    rfl
  ·refine ⟨can, ?_, ⟨u7, fun z hz => by have := hbz z hz; omega⟩, ?_⟩
   ·simp only [gH67_0i_0, ak, aN, aS, aJ, aA, bB, aa, Int.toNat_natCast, Nat.zero_add, hd, hg, i1, d1, r1, af, aM, bh]
    rw [if_pos (by omega),if_neg hk]
    rfl
   ·rw [List.filter_cons_of_neg (by simpa using hk)]
 ·rintro can _
  simp only [gH67_0i_0,ak,aa,aM]
  rw [if_neg (by omega)]
  rfl
theorem kH67 {a:ByteArray} (hs:SI c) (hl:c.length≤60) (hB:QS c (fA c a)):ah (FH67 a (bV c) (bQ c) (cF c) (dc c))=some ((gJ c (fA c a)).length,gJ c (fA c a),bV c,bQ c,cF c,dc c,a,()):=by
 have u7:CZ (ic c (fA c a) (uH c) cm):=sx cI.1
 have hbz:BZ 1000000 (ic c (fA c a) (uH c) cm):=by
  have key:∀(ts:List ByteArray) (can:Zs) (B:Int),(∀t∈ts,pF c t=true∧(msg c t).2.1=1)→BZ B can→BZ (B+1000 * ts.length) (ic c (fA c a) ts can):=by
   intro ts
   induction ts with
   |nil=>intro can B _ h;simpa [ic] using h
   |cons t ts ih =>
    intro can B ht h
    have h1:=ht t (List.mem_cons_self ..)
    have:=ih (mg (fA c a) can (jo c t)) (B+1000) (fun t h=>ht t (List.mem_cons_of_mem _ h)) (pg h fun v hv=>hB t v h1.1 h1.2 hv)
    intro z hz
    have:=this z hz
    simp only [List.length_cons]
    omega
  have h1:=key (uH c) cm 0 (fun t ht=>by
   obtain ⟨m,hm,rfl⟩:=List.mem_map.1 ht
   obtain ⟨h1,h2⟩:=List.mem_filter.1 hm
   exact ⟨bT.2 (List.mem_map.2 ⟨m,h1,rfl⟩),by rw [gy hs h1];simpa using h2⟩) (fun z hz=>by rw [(cI.2 z).1 hz];simp)
  have hle:(uH c).length≤c.length:=by unfold uH;rw [List.length_map];exact List.length_filter_le ..
  intro z hz
  have:=h1 z hz
  omega
 have hlen:=HC (B:=1000000) u7 (by simpa using hbz)
 unfold FH67 gH67_0
 simp only [aA,JH,aF,FH79,FH95,aa,bB]
 rw [ai (UM hs (by omega))]
 refine bind_eq (bind_eq (kC67 hs hl hB) rfl) ?_
 simp only [aF,FH101,FH120,aA,aa]
 rw [ai (WW u7 (by omega))]
 unfold gJ
 rw [List.length_map]
theorem UW {nv:Nat} {w1 w2 n:Int} {pE jd:List ByteArray} {can nx:Zs} (hx:CZ nx) (hb:BZ 1000000 can) (hn : -1000≤n∧n≤1000):ah (gH67_v1_0b_2 (nv,w1,w2,n,pE,bV c,bQ c,cF c,dc c,jd,can,nx,()))=some (nv,w1,w2,pE,bV c,bQ c,cF c,dc c,jd,can,me can n nx,()):=by
 unfold gH67_v1_0b_2
 simp only [aA]
 refine bind_eq (Eq.trans Gm (gF (b:=(nv,w1,w2,can,bV c,bQ c,cF c,dc c,n,pE,jd,me can n nx,())) fun l hp=>?_)) rfl
 have key:∀(l:Zs) (nx:Zs),(∀e∈l,e∈can)→zU (fun e a=>run (fun _=>none) (gH67_v1_0b_2i_0 e a)) l (nv,w1,w2,can,bV c,bQ c,cF c,dc c,n,pE,jd,nx,())=some (nv,w1,w2,can,bV c,bQ c,cF c,dc c,n,pE,jd,me l n nx,()):=by
  intro l
  induction l with
  |nil=>intro nx _;rfl
  |cons e l ih =>
   intro nx hm
   have hz:=hb e.1 (hm e (List.mem_cons_self ..))
   have hs:run (fun _=>none) (gH67_v1_0b_2i_0 e (nv,w1,w2,can,bV c,bQ c,cF c,dc c,n,pE,jd,nx,()))=some (nv,w1,w2,can,bV c,bQ c,cF c,dc c,n,pE,jd,bg (.int .i64) nx (e.1+n) (),()):=by
    simp only [gH67_v1_0b_2i_0,aJ,aA,aS,aa,JH,aF,dG,af]
    rw [iG (aH (by omega) (by omega))]
   simp only [zU,hs]
   exact ih _ fun e he=>hm e (List.mem_cons_of_mem _ he)
 rw [key l nx fun e he=>hp.mem_iff.1 he,AH hx hp]
theorem UX {jd:List ByteArray} {can:Zs} {vs:List ByteArray} (hvl:vs.length<1000000) (hb:BZ 1000000 can) (hf:∀v∈vs,-1000≤fT c v∧fT c v≤1000) :
  iter (fun x=>ah (gH67_v1_0b_1 x)) (vs.length,((vs.length:Nat):Int),(0:Int),vs,bV c,bQ c,cF c,dc c,jd,can,[],())=some (bV c,bQ c,cF c,dc c,jd,vs,can,mg (fT c) can vs,()):=by
 refine aP vs (fun k (nx:Zs)=>(vs.length,((vs.length:Nat):Int),(k:Int),vs,bV c,bQ c,cF c,dc c,jd,can,nx,())) (fun nx r=>(bV c,bQ c,cF c,dc c,jd,vs,can,r.foldl (fun nx v=>me can (fT c v) nx) nx,())) (fun _ nx=>CZ nx) ?_ ?_ (s:=[]) .nil
 ·intro pre v post nx hx Ik
  have hlen:vs.length=pre.length+(post.length+1):=by rw [hx];simp
  have hd:vs.getD pre.length (bs [])=v:=by rw [hx];exact aU rfl
  have i1:bZ (pre.length:Int) ((vs.length:Nat):Int)=true:=aR (by omega) (by omega)
  have r1:de .i64 ((pre.length:Int)+1)=true:=aH (by omega) (by omega)
  have d1:decide (pre.length<vs.length)=true:=decide_eq_true (by omega)
  left
  refine ⟨me can (fT c v) nx,?_,(lz Ik).1,rfl⟩
  simp only [gH67_v1_0b_1,ak,aN,aS,aJ,aA,aa,Int.toNat_natCast,Nat.zero_add,hd,i1,d1,af,aM,FH101,FH120,aF]
  rw [if_pos (by omega)]
  rw [ai (show ah (F78 ((az .str zM (bV c) v).1,(az .str zM (bV c) v).2.1,(az .str zM (bV c) v).2.2.1,(az .str zM (bV c) v).2.2.2.1,(az .str zM (bV c) v).2.2.2.2))=some (fT c v,()) from k78 _)]
  rw [ai (UW Ik hb (hf v (by rw [hx];simp)))]
  simp only [r1,af]
  rfl
 ·intro nx _
  simp only [gH67_v1_0b_1,ak,aa,aM]
  rw [if_neg (by omega)]
  rfl
theorem UY (hs:SI c) (hl:c.length≤60) (hB:QS c (fT c)):iter (fun x=>ah (gH67_v1_0i_0 x)) (c.length,((c.length:Nat):Int),(0:Int),c.map (·.1),bV c,bQ c,cF c,dc c,cm,()) =
  some (bV c,bQ c,cF c,dc c,ic c (fT c) (uH c) cm,()):=by
 have yH:(c.map (·.1)).length=c.length:=List.length_map ..
 refine aP c (fun k (can:Zs)=>(c.length,((c.length:Nat):Int),(k:Int),c.map (·.1),bV c,bQ c,cF c,dc c,can,())) (fun can r=>(bV c,bQ c,cF c,dc c,ic c (fT c) ((r.filter fun m=>decide (m.2.1=1)).map (·.1)) can,())) (fun pre can=>CZ can∧BZ (1000 * (pre.length:Int)) can) ?_ ?_ (s:=cm) ⟨cI.1,fun z hz=>by rw [(cI.2 z).1 hz];simp⟩
 ·rintro pre m post can hx ⟨u7, hbz⟩
  have hlen:c.length=pre.length+(post.length+1):=by rw [hx];simp
  have hm:m∈c:=by rw [hx];simp
  have hd:(c.map (·.1)).getD pre.length (bs [])=m.1:=by rw [hx,List.map_append,List.map_cons];exact aU (by simp)
  have hg:az .str zM (bV c) m.1=m:=gy hs hm
  have i1:bZ (pre.length:Int) ((c.length:Nat):Int)=true:=aR (by omega) (by omega)
  have r1:de .i64 ((pre.length:Int)+1)=true:=aH (by omega) (by omega)
  have d1:decide (pre.length<(c.map (·.1)).length)=true:=decide_eq_true (by omega)
  have hpl:((pre++[m]).length:Int)=(pre.length:Int)+1:=by simp
  left
  by_cases hk:m.2.1=1
  ·have him : pF c m.1 = true := bT.2 (List.mem_map.2 ⟨m, hm, rfl⟩)
   have hkm:(msg c m.1).2.1=1:=by rw [gy hs hm];exact hk
   have hvl:(jo c m.1).length≤c.length:=ga hs (kQ hs him hkm) (bT.1 him) .zero
   refine ⟨mg (fT c) can (jo c m.1),?_,⟨mh.1,?_⟩,?_⟩
   ·simp only [gH67_v1_0i_0, ak, aN, aS, aJ, aA, bB, aa, Int.toNat_natCast, Nat.zero_add, hd, hg, i1, d1, af, aM, bh]
    rw [if_pos (by omega),if_pos hk,ai (Qf hs (by omega) (kQ hs him hkm) (bT.1 him))]
    rw [ai (UX (vs:=jo c m.1) (by omega) (fun z hz=>by have:=hbz z hz;omega) (fun v hv=>hB m.1 v him hkm hv))]
    simp only [r1,af]
    rfl
   ·have := pg (f := (fT c)) (vs := jo c m.1) hbz fun v hv => hB m.1 v him hkm hv
    intro z hz
    have:=this z hz
    omega
   ·rw [List.filter_cons_of_pos (by simpa using hk)]
    rfl
  ·refine ⟨can, ?_, ⟨u7, fun z hz => by have := hbz z hz; omega⟩, ?_⟩
   ·simp only [gH67_v1_0i_0, ak, aN, aS, aJ, aA, bB, aa, Int.toNat_natCast, Nat.zero_add, hd, hg, i1, d1, r1, af, aM, bh]
    rw [if_pos (by omega),if_neg hk]
    rfl
   ·rw [List.filter_cons_of_neg (by simpa using hk)]
 ·rintro can _
  simp only [gH67_v1_0i_0,ak,aa,aM]
  rw [if_neg (by omega)]
  rfl
theorem UZ (hs:SI c) (hl:c.length≤60) (hB:QS c (fT c)):ah (FH67_v1 (bV c) (bQ c) (cF c) (dc c))=some ((gJ c (fT c)).length,gJ c (fT c),bV c,bQ c,cF c,dc c,()):=by
 have u7:CZ (ic c (fT c) (uH c) cm):=sx cI.1
 have hbz:BZ 1000000 (ic c (fT c) (uH c) cm):=by
  have key:∀(ts:List ByteArray) (can:Zs) (B:Int),(∀t∈ts,pF c t=true∧(msg c t).2.1=1)→BZ B can→BZ (B+1000 * ts.length) (ic c (fT c) ts can):=by
   intro ts
   induction ts with
   |nil=>intro can B _ h;simpa [ic] using h
   |cons t ts ih =>
    intro can B ht h
    have h1:=ht t (List.mem_cons_self ..)
    have:=ih (mg (fT c) can (jo c t)) (B+1000) (fun t h=>ht t (List.mem_cons_of_mem _ h)) (pg h fun v hv=>hB t v h1.1 h1.2 hv)
    intro z hz
    have:=this z hz
    simp only [List.length_cons]
    omega
  have h1:=key (uH c) cm 0 (fun t ht=>by
   obtain ⟨m,hm,rfl⟩:=List.mem_map.1 ht
   obtain ⟨h1,h2⟩:=List.mem_filter.1 hm
   exact ⟨bT.2 (List.mem_map.2 ⟨m,h1,rfl⟩),by rw [gy hs h1];simpa using h2⟩) (fun z hz=>by rw [(cI.2 z).1 hz];simp)
  have hle:(uH c).length≤c.length:=by unfold uH;rw [List.length_map];exact List.length_filter_le ..
  intro z hz
  have:=h1 z hz
  omega
 have hlen:=HC (B:=1000000) u7 (by simpa using hbz)
 unfold FH67_v1 gH67_v1_0
 simp only [aA,JH,aF,FH79,FH95,aa,bB]
 rw [ai (UM hs (by omega))]
 refine bind_eq (bind_eq (UY hs hl hB) rfl) ?_
 simp only [aF,FH101,FH120,aA,aa]
 rw [ai (WW u7 (by omega))]
 unfold gJ
 rw [List.length_map]
def mj (c:List Mg) (a:ByteArray):List Int×Int:=if gx a=true then (gJ c (fA c a),0) else ([],8)
theorem nu {L:List Mg} (h:mB L):∀m∈cnt L,uF m=0:=fun m hm=>h.uF m (Cl hm)
theorem U0 {L:List Mg} (h:mB L) {a:ByteArray} (ha:Sh a):ah (FH23 a (bk L))=some ((mj (cnt L) a).1.length,(mj (cnt L) a).2,(mj (cnt L) a).1,bk L,()):=by
 unfold FH23
 simp only [aA,Hx,aF,ak,aY,k65 a ha,bA]
 rw [jA]
 unfold mj
 split
 ·rw [ai (Qe h)]
  simp only
  rw [ai (kH67 (fK L) (jJ h) (Qi (fK L) (nu h) a))]
  rfl
 ·rfl
end
end Go.Proofs.Tryz
end
section
namespace Go.Proofs.Tryz
open Go.AM
set_option maxRecDepth 100000
def JI (l:List Int):Int×Int:=(l.getD 0 0,l.getD (l.length - 1) 0)
theorem k72 {l:List Int} (h0:0<l.length) (hl:l.length<1000000000):ah (F72 l)=some (JI l,()):=by
 unfold F72
 simp only [aN,aJ,aa]
 rw [aR (by omega) (by omega),af,iG (aH (by omega) (by omega)),aR (by omega) (by omega),af]
 rw [show ((l.length:Int) - 1).toNat=l.length - 1 by omega]
 rfl
section
variable {c:List Mg}
theorem Qj {f:ByteArray→Int} {can:Zs} {vs:List ByteArray} (hc:∃z,sD can z) (hv:vs≠[]):∃z,sD (mg f can vs) z:=by
 obtain ⟨z,hz⟩:=hc
 cases vs with
 |nil=>exact absurd rfl hv
 |cons v vs=>exact ⟨z+f v,(mh.2 _).2 ⟨v,List.mem_cons_self ..,z,hz,rfl⟩⟩
def yC (c:List Mg) (a:ByteArray):(Int×Int)×Int:=if (mj c a).2=0 then (JI (mj c a).1,0) else ((0,0),(mj c a).2)
def sumL (c:List Mg):Int×Int:=JI (gJ c (fT c))
abbrev Ss:=List (ByteArray×Unit)
def HD (c:List Mg) (vs:List ByteArray) (m:Ss):Ss:=vs.foldl (fun m v=>bg .str m (msg c v).2.2.2.1 ()) m
def HE (c:List Mg) (ts:List ByteArray) (m:Ss):Ss:=ts.foldl (fun m t=>HD c (jo c t) m) m
def U1 (c:List Mg):List ByteArray:=(HE c (uH c) []).map (·.1)
theorem Qk {vs:List ByteArray}:∀{m:Ss},gN .str m→gN .str (HD c vs m):=by
 induction vs with
 |nil=>exact fun h=>h
 |cons v vs ih=>exact fun h=>ih (h.iw kS)
theorem Ql {ts:List ByteArray}:∀{m:Ss},gN .str m→gN .str (HE c ts m):=by
 induction ts with
 |nil=>exact fun h=>h
 |cons t ts ih=>exact fun h=>ih (Qk h)
theorem E9 : ∀ {m : Ss} {k : ByteArray}, (pI .str m k ()).length = m.length + 1
 |[],_=>rfl
 |e::m,k=>by
  unfold pI
  split
  ·simp
  ·rw [List.length_cons,E9];rfl
theorem Qm {m:Ss} {k:ByteArray}:(bg .str m k ()).length≤m.length+1:=by
 unfold bg
 split
 ·rw [List.length_map];omega
 ·rw [E9];exact Nat.le_refl _
theorem U2 {Z:Ss} (h:gN .str Z) (hl:Z.length<1000000000):ah (FH81_v1 Z)=some (Z.length,Z.map (·.1),Z,()):=by
 unfold FH81_v1
 refine Eq.trans BL (gF fun l hp=>?_)
 have yH:l.length=Z.length:=hp.length_eq
 simp only [aA,BM]
 refine bind_eq (sr (m:=Z) (l:=l) (by rw [yH];exact hl) fun e n b hn=>?_) ?_
 ·simp only [gH81_v1f107f126_0i_0, aS, aa, dG, af]
  rw [b7 (show _<bI by rw [ei];simp;omega)]
  rfl
 ·simp only [FH105, xA]
  have hpk:(Z.map (·.1)).Perm (l.map (·.1)):=(hp.map (·.1)).symm
  have:=oF kS hpk (gN.keys kS h) (by rw [List.length_map];omega)
  rw [List.length_map] at this
  rw [ai this,yH]
  rfl
theorem kB45 {m1:List (Mg×Bool)} {jd vs:List ByteArray} (hvl:vs.length<1000000) {m:Ss} :
  iter (fun x=>ah (gH45_0b_1 x)) (vs.length,((vs.length:Nat):Int),(0:Int),vs,bV c,bQ c,cF c,dc c,m1,jd,m,())=some (m1,bV c,bQ c,cF c,dc c,jd,vs,HD c vs m,()):=by
 refine aP vs (fun k (m:Ss)=>(vs.length,((vs.length:Nat):Int),(k:Int),vs,bV c,bQ c,cF c,dc c,m1,jd,m,())) (fun m r=>(m1,bV c,bQ c,cF c,dc c,jd,vs,HD c r m,())) (fun _ _=>True) ?_ ?_ (s:=m) trivial
 ·intro pre v post nx hx _
  have hlen:vs.length=pre.length+(post.length+1):=by rw [hx];simp
  have hd:vs.getD pre.length (bs [])=v:=by rw [hx];exact aU rfl
  have i1:bZ (pre.length:Int) ((vs.length:Nat):Int)=true:=aR (by omega) (by omega)
  have r1:de .i64 ((pre.length:Int)+1)=true:=aH (by omega) (by omega)
  have d1:decide (pre.length<vs.length)=true:=decide_eq_true (by omega)
  left
  refine ⟨bg .str nx (msg c v).2.2.2.1 (),?_,trivial,rfl⟩
  simp only [gH45_0b_1,ak,aN,aS,aJ,aA,aa,Int.toNat_natCast,Nat.zero_add,hd,i1,d1,r1,af,aM,FH80,aF]
  rw [if_pos (by omega)]
  rfl
 ·intro nx _
  simp only [gH45_0b_1,ak,aa,aM]
  rw [if_neg (by omega)]
  rfl
theorem kC45 {m1:List (Mg×Bool)} (hs:SI c) (hl:c.length≤60):iter (fun x=>ah (gH45_0i_0 x)) (c.length,((c.length:Nat):Int),(0:Int),c.map (·.1),bV c,bQ c,cF c,dc c,m1,[],()) =
  some (m1,bV c,bQ c,cF c,dc c,HE c (uH c) [],()):=by
 have yH:(c.map (·.1)).length=c.length:=List.length_map ..
 refine aP c (fun k (m:Ss)=>(c.length,((c.length:Nat):Int),(k:Int),c.map (·.1),bV c,bQ c,cF c,dc c,m1,m,())) (fun m r=>(m1,bV c,bQ c,cF c,dc c,HE c ((r.filter fun m=>decide (m.2.1=1)).map (·.1)) m,())) (fun _ _=>True) ?_ ?_ (s:=[]) trivial
 ·rintro pre m post can hx _
  have hlen:c.length=pre.length+(post.length+1):=by rw [hx];simp
  have hm:m∈c:=by rw [hx];simp
  have hd:(c.map (·.1)).getD pre.length (bs [])=m.1:=by rw [hx,List.map_append,List.map_cons];exact aU (by simp)
  have hg:az .str zM (bV c) m.1=m:=gy hs hm
  have i1:bZ (pre.length:Int) ((c.length:Nat):Int)=true:=aR (by omega) (by omega)
  have r1:de .i64 ((pre.length:Int)+1)=true:=aH (by omega) (by omega)
  have d1:decide (pre.length<(c.map (·.1)).length)=true:=decide_eq_true (by omega)
  left
  by_cases hk:m.2.1=1
  ·have him : pF c m.1 = true := bT.2 (List.mem_map.2 ⟨m, hm, rfl⟩)
   have hkm:(msg c m.1).2.1=1:=by rw [gy hs hm];exact hk
   have hvl:(jo c m.1).length≤c.length:=ga hs (kQ hs him hkm) (bT.1 him) .zero
   refine ⟨HD c (jo c m.1) can,?_,trivial,?_⟩
   ·simp only [gH45_0i_0, ak, aN, aS, aJ, aA, bB, aa, Int.toNat_natCast, Nat.zero_add, hd, hg, i1, d1, af, aM, bh]
    rw [if_pos (by omega),if_pos hk,ai (Qf hs (by omega) (kQ hs him hkm) (bT.1 him))]
    rw [ai (kB45 (vs:=jo c m.1) (by omega))]
    simp only [r1,af]
    rfl
   ·rw [List.filter_cons_of_pos (by simpa using hk)]
    rfl
  ·refine ⟨can, ?_, trivial, ?_⟩
   ·simp only [gH45_0i_0, ak, aN, aS, aJ, aA, bB, aa, Int.toNat_natCast, Nat.zero_add, hd, hg, i1, d1, r1, af, aM, bh]
    rw [if_pos (by omega),if_neg hk]
    rfl
   ·rw [List.filter_cons_of_neg (by simpa using hk)]
 ·rintro can _
  simp only [gH45_0i_0,ak,aa,aM]
  rw [if_neg (by omega)]
  rfl
theorem Qn {vs:List ByteArray}:∀{m:Ss},(HD c vs m).length≤m.length+vs.length:=by
 induction vs with
 |nil=>exact Nat.le_refl _
 |cons v vs ih =>
  intro m
  have h1:=ih (m:=bg .str m (msg c v).2.2.2.1 ())
  have h2:=Qm (m:=m) (k:=(msg c v).2.2.2.1)
  simp only [List.length_cons]
  exact Nat.le_trans h1 (by omega)
theorem HF (hs:SI c) {t:ByteArray} (ht:t∈uH c):pF c t=true∧(msg c t).2.1=1:=by
 obtain ⟨m,hm,rfl⟩:=List.mem_map.1 ht
 obtain ⟨h1,h2⟩:=List.mem_filter.1 hm
 exact ⟨bT.2 (List.mem_map.2 ⟨m,h1,rfl⟩),by rw [gy hs h1];simpa using h2⟩
theorem JJ:(uH c).length≤c.length:=by unfold uH;rw [List.length_map];exact List.length_filter_le ..
theorem U3 (hs:SI c) {t:ByteArray} (ht:pF c t=true) (hk:(msg c t).2.1=1):(jo c t).length≤c.length:=ga hs (kQ hs ht hk) (bT.1 ht) .zero
theorem Fa (hs : SI c) : ∀ {ts : List ByteArray} {m : Ss}, (∀ t ∈ ts, pF c t = true ∧ (msg c t).2.1 = 1) → (HE c ts m).length ≤ m.length + ts.length * c.length
 |[],m,_=>by simp [HE]
 |t::ts,m,h=>by
  have h1:=Fa hs (ts:=ts) (m:=HD c (jo c t) m) fun t h'=>h t (List.mem_cons_of_mem _ h')
  have h2:=Qn (c:=c) (vs:=jo c t) (m:=m)
  have h3:=U3 hs (h t (List.mem_cons_self ..)).1 (h t (List.mem_cons_self ..)).2
  have h4:(ts.length+1) * c.length=ts.length * c.length+c.length:=Nat.succ_mul ..
  simp only [List.length_cons,h4]
  exact Nat.le_trans h1 (by omega)
theorem kH45 {L:List Mg} (h:mB L):ah (FH45 (bk L))=some ((U1 (cnt L)).length,U1 (cnt L),bk L,()):=by
 have hs:=fK L
 have hc:=jJ h
 have hz:=Fa hs (ts:=uH (cnt L)) (m:=[]) fun t ht=>HF hs ht
 have hq:(uH (cnt L)).length * (cnt L).length≤60 * 60:=Nat.mul_le_mul (Nat.le_trans JJ hc) hc
 have hzl:(HE (cnt L) (uH (cnt L)) []).length<1000000000:=by simp only [List.length_nil] at hz;omega
 unfold FH45 gH45_0
 simp only [aA,Hx,aF,ak,aY]
 rw [ai (Qe h)]
 simp only [FH79,FH95,aa,aF,bB]
 rw [ai (UM hs (by omega))]
 refine bind_eq (bind_eq (kC45 hs hc) rfl) ?_
 simp only [FH82,FH108,aA,aa,aF]
 rw [ai (U2 (Ql .nil) hzl)]
 unfold U1
 rw [List.length_map]
theorem aar {Z:Zs} (h:∃z,sD Z z):0<Z.length:=by
 obtain ⟨z,hz⟩:=h
 exact List.length_pos_of_mem hz
theorem JK (hs : SI c) {t : ByteArray} (ht : UQ c t) (CB : t ∈ ids c) : ∀ {n d : Nat} {x : ByteArray}, jD c t d x → d + n = c.length → cC c (n + 1) x ≠ []
 |0,d,x,hp,hd=>by have:=hp.short hs ht CB;omega
 |n+1,d,x,hp,hd=>by
  unfold cC
  split
  ·simp
  ·rename_i k l hl
   intro h
   have h1:=(dI (t:=.str) ((k::l).flatMap (cC c (n+1)))).length_eq
   rw [show ot .str ((k::l).flatMap (cC c (n+1)))=[] from h] at h1
   have h2:=JK hs ht CB (n:=n) (hp.step (vK (by rw [hl];exact List.mem_cons_self ..))) (by omega)
   have h3:0<(cC c (n+1) k).length:=List.length_pos_iff.2 h2
   rw [List.flatMap_cons,List.length_append] at h1
   simp only [List.length_nil] at h1
   omega
theorem aas (hs:SI c) {t:ByteArray} (ht:pF c t=true∧(msg c t).2.1=1):jo c t≠[]:=JK hs (kQ hs ht.1 ht.2) (bT.1 ht.1) .zero (by omega)
theorem JL (hs : SI c) {f : ByteArray → Int} : ∀ {ts : List ByteArray} {can : Zs}, (∀ t ∈ ts, pF c t = true ∧ (msg c t).2.1 = 1) → (∃ z, sD can z) → ∃ z, sD (ic c f ts can) z
 |[],_,_,h=>h
 |t::ts,can,ht,h=>JL hs (ts:=ts) (fun t h=>ht t (List.mem_cons_of_mem _ h)) (Qj h (aas hs (ht t (List.mem_cons_self ..))))
theorem Cq (hs:SI c) {f:ByteArray→Int}:0<(gJ c f).length:=by
 unfold gJ
 rw [List.length_map]
 exact aar (JL hs (fun t ht=>HF hs ht) ⟨0,(cI.2 0).2 rfl⟩)
theorem JM (hs:SI c) (hl:c.length≤60) {f:ByteArray→Int} (hB:QS c f):BZ 60000 (ic c f (uH c) cm):=by
 have key:∀(ts:List ByteArray) (can:Zs) (B:Int),(∀t∈ts,pF c t=true∧(msg c t).2.1=1)→BZ B can→BZ (B+1000 * ts.length) (ic c f ts can):=by
  intro ts
  induction ts with
  |nil=>intro can B _ h;simpa [ic] using h
  |cons t ts ih =>
   intro can B ht h
   have h1:=ht t (List.mem_cons_self ..)
   have:=ih (mg f can (jo c t)) (B+1000) (fun t h=>ht t (List.mem_cons_of_mem _ h)) (pg h fun v hv=>hB t v h1.1 h1.2 hv)
   intro z hz
   have:=this z hz
   simp only [List.length_cons]
   omega
 have h1:=key (uH c) cm 0 (fun t ht=>HF hs ht) (fun z hz=>by rw [(cI.2 z).1 hz];simp)
 have hle:=JJ (c:=c)
 intro z hz
 have:=h1 z hz
 omega
theorem sy (hs:SI c) (hl:c.length≤60) {f:ByteArray→Int} (hB:QS c f):(gJ c f).length<1000000:=by
 have:=HC (B:=60000) (sx cI.1) (by simpa using JM hs hl hB)
 unfold gJ
 rw [List.length_map]
 omega
theorem kH37 {L:List Mg} (h:mB L):ah (FH37 (bk L))=some (sumL (cnt L),0,bk L,()):=by
 have hs:=fK L
 have hc:=jJ h
 have hB:=aaq hs (nu h)
 unfold FH37
 simp only [aA,Hx,aF,ak,aY]
 rw [ai (Qe h)]
 simp only
 rw [ai (UZ hs hc hB)]
 simp only [List.drop_zero,List.take_length]
 rw [ai (k72 (Cq hs) (by have:=sy hs hc hB;omega))]
 rfl
theorem kH25 {L:List Mg} (h:mB L) {a:ByteArray} (ha:Sh a):ah (FH25 a (bk L))=some ((yC (cnt L) a).1,(yC (cnt L) a).2,bk L,()):=by
 have hs:=fK L
 have hc:=jJ h
 have hB:=Qi hs (nu h) a
 unfold FH25
 simp only [aA]
 rw [ai (U0 h ha)]
 simp only [ak,bA,bh,aa,List.drop_zero,List.take_length]
 unfold yC
 by_cases h0:(mj (cnt L) a).2=0
 ·rw [if_pos h0, if_pos h0]
  have h1:(mj (cnt L) a).1=gJ (cnt L) (fA (cnt L) a):=by
   revert h0
   unfold mj
   split
   ·intro _;rfl
   ·intro h;cases h
  rw [h1,aA,ai (k72 (Cq hs) (by have:=sy hs hc hB;omega))]
  rfl
 ·rw [if_neg h0,if_neg h0]
theorem k36 {l l':List ByteArray} (hl:l.length<1000000000):ah (F36 l l')=some (decide (l=l'),()):=by
 by_cases hn:l.length=l'.length
 ·have hi:iter (fun a=>run (fun _=>none) (g36_0 a)) (l,l',(0:Int),())=some (if l=l'.drop 0 then Sum.inr () else Sum.inl ()):=by
   refine aP l (fun k (_:Nat)=>(l,l',(k:Int),())) (fun k r=>if r=l'.drop k then Sum.inr () else Sum.inl ()) (fun pre k=>k=pre.length) ?_ ?_ (s:=0) rfl
   ·rintro pre x post k hx rfl
    have hlen:l.length=pre.length+(post.length+1):=by rw [hx];simp
    have hlt:pre.length<l'.length:=by omega
    have hd:l.getD pre.length (bs [])=x:=by rw [hx];exact aU rfl
    have hd':l'.getD pre.length (bs [])=l'[pre.length]:=by rw [List.getD_eq_getElem?_getD,List.getElem?_eq_getElem hlt];rfl
    have i1:bZ (pre.length:Int) ((l.length:Nat):Int)=true:=aR (by omega) (by omega)
    have i2:bZ (pre.length:Int) ((l'.length:Nat):Int)=true:=aR (by omega) (by omega)
    have r1:de .i64 ((pre.length:Int)+1)=true:=aH (by omega) (by omega)
    simp only [g36_0,ak,aN,aJ,aa,Int.toNat_natCast,hd,hd',i1,i2,r1,af,aM,seq_eq,bA]
    rw [if_pos (by omega),List.drop_eq_getElem_cons hlt]
    by_cases h:x=l'[pre.length]
    ·left
     refine ⟨pre.length+1,?_,by simp,?_⟩
     ·rw [if_pos h];rfl
     ·rw [h];simp only [List.cons.injEq,true_and]
    ·right
     rw [if_neg h,if_neg (fun e=>h (List.cons.inj e).1)]
   ·rintro k rfl
    simp only [g36_0,ak,aM,aa]
    rw [if_neg (by omega),if_pos (by rw [hn,List.drop_length])]
  unfold F36
  simp only [ak,aA,bB,bA,bh]
  rw [if_pos (by omega),ai hi,List.drop_zero]
  by_cases h:l=l'
  ·rw [if_pos h];simp only [kn,aa,h,decide_true]
  ·rw [if_neg h];simp only [lJ,aa,h,decide_false]
 ·unfold F36
  simp only [ak,bA,bh,aa]
  rw [if_neg (by omega),decide_eq_false fun e=>hn (by rw [e])]
theorem k27 {l l':List Int} (hl:l.length<1000000000):ah (F27 l l')=some (decide (l=l'),()):=by
 by_cases hn:l.length=l'.length
 ·have hi:iter (fun a=>run (fun _=>none) (g27_0 a)) (l,l',(0:Int),())=some (if l=l'.drop 0 then Sum.inr () else Sum.inl ()):=by
   refine aP l (fun k (_:Nat)=>(l,l',(k:Int),())) (fun k r=>if r=l'.drop k then Sum.inr () else Sum.inl ()) (fun pre k=>k=pre.length) ?_ ?_ (s:=0) rfl
   ·rintro pre x post k hx rfl
    have hlen:l.length=pre.length+(post.length+1):=by rw [hx];simp
    have hlt:pre.length<l'.length:=by omega
    have hd:l.getD pre.length (0:Int)=x:=by rw [hx];exact aU rfl
    have hd':l'.getD pre.length (0:Int)=l'[pre.length]:=by rw [List.getD_eq_getElem?_getD,List.getElem?_eq_getElem hlt];rfl
    have i1:bZ (pre.length:Int) ((l.length:Nat):Int)=true:=aR (by omega) (by omega)
    have i2:bZ (pre.length:Int) ((l'.length:Nat):Int)=true:=aR (by omega) (by omega)
    have r1:de .i64 ((pre.length:Int)+1)=true:=aH (by omega) (by omega)
    simp only [g27_0,ak,aN,aJ,aa,Int.toNat_natCast,hd,hd',i1,i2,r1,af,aM,bA,bh]
    rw [if_pos (by omega),List.drop_eq_getElem_cons hlt]
    by_cases h:x=l'[pre.length]
    ·left
     refine ⟨pre.length+1,?_,by simp,?_⟩
     ·rw [if_pos h];rfl
     ·rw [h];simp only [List.cons.injEq,true_and]
    ·right
     rw [if_neg h,if_neg (fun e=>h (List.cons.inj e).1)]
   ·rintro k rfl
    simp only [g27_0,ak,aM,aa]
    rw [if_neg (by omega),if_pos (by rw [hn,List.drop_length])]
  unfold F27
  simp only [ak,aA,bB,bA,bh]
  rw [if_pos (by omega),ai hi,List.drop_zero]
  by_cases h:l=l'
  ·rw [if_pos h];simp only [kn,aa,h,decide_true]
  ·rw [if_neg h];simp only [lJ,aa,h,decide_false]
 ·unfold F27
  simp only [ak,bA,bh,aa]
  rw [if_neg (by omega),decide_eq_false fun e=>hn (by rw [e])]
end
end Go.Proofs.Tryz
end
section
namespace Go.Proofs.Tryz
open Go.AM
set_option maxRecDepth 100000
def XL:List Mg:=[(bs [116,49],1,bs [],bs [97,110,97],40),(bs [116,50],1,bs [],bs [98,101,110],25),(bs [99,49],2,bs [116,49],bs [97,110,97],42),(bs [99,50],2,bs [116,49],bs [99,121],40),(bs [99,51],2,bs [99,49],bs [97,110,97],41),(bs [119,49],2,bs [120,57],bs [98,101,110],5),(bs [114,49],3,bs [99,49],bs [],0),(bs [114,50],3,bs [99,50],bs [],0)]
theorem k46:ah F46=some (XL,()):=by
 unfold F46
 simp only [aA,F50,F42,F39,aa,aF]
 rfl
def L6:List Mg:=yq ((XL.drop (Int.toNat 0)).take (Int.toNat 6 - Int.toNat 0))
def L7:List Mg:=yq ((XL.drop (Int.toNat 0)).take (Int.toNat 7 - Int.toNat 0))
def L8:List Mg:=yq XL
theorem x1:AG (cnt L6) (bs [116,49])=([bs [99,50],bs [99,51]],0):=by kernel_rfl
theorem x2:mj (cnt L6) (bs [97,110,97])=([0,41],0):=by kernel_rfl
theorem x3:mj (cnt L7) (bs [97,110,97])=([41],0):=by kernel_rfl
theorem x4:sumL (cnt L6)=(65,66):=by kernel_rfl
theorem x5:yC (cnt L8) (bs [99,121])=((0,40),0):=by kernel_rfl
theorem x6:U1 (cnt L6)=[bs [97,110,97],bs [98,101,110],bs [99,121]]:=by kernel_rfl
theorem x7:gz (cnt L6) (bs [116,49])=(3,0):=by kernel_rfl
theorem x8:gz (cnt L6) (bs [116,50])=(4,0):=by kernel_rfl
theorem x9:gz (cnt L6) (bs [99,51])=(5,0):=by kernel_rfl
theorem x10:gz (cnt L6) (bs [119,49])=(1,0):=by kernel_rfl
theorem x11:gz (cnt L7) (bs [99,50])=(2,0):=by kernel_rfl
theorem x12:gz (cnt L7) (bs [99,51])=(4,0):=by kernel_rfl
theorem x13:gz (cnt L8) (bs [99,50])=(5,0):=by kernel_rfl
theorem x14:L8.length=8:=by kernel_rfl
instance (m:Mg):Decidable (P7 m):=by unfold P7 Sh;infer_instance
theorem agf:ah (FH29 ((XL.drop (Int.toNat 0)).take (Int.toNat 6 - Int.toNat 0)))=some (bk L6,()):=aal (by decide) (by decide +kernel)
theorem agh:ah (FH29 ((XL.drop (Int.toNat 0)).take (Int.toNat 7 - Int.toNat 0)))=some (bk L7,()):=aal (by decide) (by decide +kernel)
theorem agi:ah (FH29 XL)=some (bk L8,()):=aal (by decide) (by decide +kernel)
theorem o6:mB L6:=mB.told _
theorem o7:mB L7:=mB.told _
theorem o8:mB L8:=mB.told _
theorem xl:XL.length=8:=rfl
theorem Qo:Sh (bs [97,110,97]):=by unfold Sh;decide +kernel
theorem agj:Sh (bs [99,121]):=by unfold Sh;decide +kernel
theorem e1:ah (FH33 (bs [116,49]) (bk L6))=some (2,0,[bs [99,50],bs [99,51]],bk L6,()):=by rw [kH33 o6,x1];rfl
theorem e2:ah (FH23 (bs [97,110,97]) (bk L6))=some (2,0,[0,41],bk L6,()):=by rw [U0 o6 Qo,x2];rfl
theorem e3:ah (FH23 (bs [97,110,97]) (bk L7))=some (1,0,[41],bk L7,()):=by rw [U0 o7 Qo,x3];rfl
theorem e4:ah (FH37 (bk L6))=some ((65,66),0,bk L6,()):=by rw [kH37 o6,x4]
theorem e5:ah (FH25 (bs [99,121]) (bk L8))=some ((0,40),0,bk L8,()):=by rw [kH25 o8 agj,x5]
theorem e6:ah (FH45 (bk L6))=some (3,[bs [97,110,97],bs [98,101,110],bs [99,121]],bk L6,()):=by rw [kH45 o6,x6];rfl
theorem e7:ah (F36 (([bs [99,50],bs [99,51]].drop 0).take 2) (([bs [99,50],bs [99,51]].drop 0).take 2))=some (true,()):=by rw [k36 (by decide)];rfl
theorem e8:ah (F27 ((([0,41]:List Int).drop 0).take 2) ((([0,41]:List Int).drop 0).take 2))=some (true,()):=by rw [k27 (by decide)];rfl
theorem e9:ah (F27 ((([41]:List Int).drop 0).take 1) ((([41]:List Int).drop 0).take 1))=some (true,()):=by rw [k27 (by decide)];rfl
theorem e10:ah (F36 (([bs [97,110,97],bs [98,101,110],bs [99,121]].drop 0).take 3) (([bs [97,110,97],bs [98,101,110],bs [99,121]].drop 0).take 3))=some (true,()):=by rw [k36 (by decide)];rfl
theorem e11:ah (FH40 (bs [116,49]) 3 (bk L6))=some (true,bk L6,()):=by rw [HB o6,x7];rfl
theorem e12:ah (FH40 (bs [116,50]) 4 (bk L6))=some (true,bk L6,()):=by rw [HB o6,x8];rfl
theorem e13:ah (FH40 (bs [99,51]) 5 (bk L6))=some (true,bk L6,()):=by rw [HB o6,x9];rfl
theorem e14:ah (FH40 (bs [119,49]) 1 (bk L6))=some (true,bk L6,()):=by rw [HB o6,x10];rfl
theorem e15:ah (FH40 (bs [99,50]) 2 (bk L7))=some (true,bk L7,()):=by rw [HB o7,x11];rfl
theorem e16:ah (FH40 (bs [99,51]) 4 (bk L7))=some (true,bk L7,()):=by rw [HB o7,x12];rfl
theorem e17:ah (FH40 (bs [99,50]) 5 (bk L8))=some (true,bk L8,()):=by rw [HB o8,x13];rfl
theorem e18:ah (FH47 (bk L8))=some (8,L8,bk L8,()):=by rw [kH47 o8.s (by rw [x14];decide),x14]
theorem k17:ah F17=some (true,()):=by
 unfold F17
 simp only [aA,aS,ak,aa,k46,aF,agf,agh,agi,xl,e1,e2,e3,e4,e5,e6,e11,e12,e13,e14,e15,e16,e17,e18,bh]
 rw [b7 (by decide),b7 (by decide),b7 (by decide),b7 (by decide)]
 rw [if_pos trivial,if_pos trivial,if_pos trivial,if_pos trivial,if_pos trivial,ai e7]
 simp only [bM]
 rw [ai e8]
 simp only [bM]
 rw [ai e9]
 simp only [bM]
 rw [show (((65,66):Int×Int).1==65&&(((65,66):Int×Int).2==66&&true))=true from by decide,show (((0,40):Int×Int).1==0&&(((0,40):Int×Int).2==40&&true))=true from by decide]
 simp only [bM]
 rw [ai e10]
 simp only [bM]
 refine (b7 (by decide)).trans ?_
 refine (b7 (by decide)).trans ?_
 rfl
def mC:Mg:=(bs [99,49],2,bs [116,49],bs [97,110,97],43)
def L9:List Mg:=(gY L8 mC).2
theorem y1:(gY L8 mC).1=0:=by kernel_rfl
theorem y2:gz (cnt L9) (bs [114,49])=(0,18):=by kernel_rfl
theorem y3:AG (cnt L9) (bs [99,49])=([],18):=by kernel_rfl
theorem y4:gz (cnt L9) (bs [122,122])=(0,5):=by kernel_rfl
theorem y5:L9.length=9:=by kernel_rfl
theorem y6:gz (cnt L9) (bs [99,49])=(3,0):=by kernel_rfl
end Go.Proofs.Tryz
end
section
namespace Go.Proofs.Tryz
open Go.AM
set_option maxRecDepth 100000
end Go.Proofs.Tryz
end
section
namespace Go.Proofs.Tryz
open Go.AM
set_option maxRecDepth 100000
theorem U4 {L:List Mg} {m:Mg} (hc:uF m=0) (hl:L.length+1≤60):gY L m=(0,lM L m):=by
 unfold gY
 have:=P9 (L:=L) (m:=m)
 rw [if_pos hc,if_neg (by omega)]
def Gd (l:List Mg):Prop:=∀m∈l,uF m=0
theorem kT {L:List Mg} (h:mB L) {m:Mg} (hm:P7 m) (hc:uF m=0) (hl:L.length+1≤60):ah (FH20 (m.1,m.2.1,m.2.2.1,m.2.2.2.1,m.2.2.2.2) (bk L))=some (0,bk (lM L m),()):=by
 have:=aak h.s h.len hm
 rw [U4 hc hl] at this
 exact this
end Go.Proofs.Tryz
end
section
namespace Go.Proofs.Tryz
open Go.AM
set_option maxRecDepth 100000
theorem SL.nd {L:List Mg} (h:SL L):L.Nodup:=List.Pairwise.imp (fun {a b} h e=>by subst e;rw [eo kM] at h;cases h) h
def acc3:List ByteArray:=[bs [120],bs [121],bs [122]]
def id8:List ByteArray:=[bs [97],bs [98],bs [99],bs [100],bs [101],bs [102],bs [103],bs [104]]
theorem Qp {L:List Mg} (h:mB L) (a:ByteArray):(mj (cnt L) a).1.length<1000000000:=by
 unfold mj
 split
 ·have := sy (fK L) (jJ h) (Qi (fK L) (nu h) a)
  simp only;omega
 ·simp
abbrev B2:=List (Mg×Bool)×List (Mg×Bool)×Unit
end Go.Proofs.Tryz
end
section
namespace Go.Proofs.Tryz
open Go.AM
set_option maxRecDepth 100000
end Go.Proofs.Tryz
end
section
namespace Go.Proofs.Tryz
open Go.AM
set_option maxRecDepth 100000
end Go.Proofs.Tryz
end
section
namespace Go.Proofs.Tryz
open Go.AM
set_option maxRecDepth 100000
def sev (m:Mg):Mg:=if m.2.1=3 then m else (m.1,m.2.1,m.2.2.1,m.2.2.2.1,7)
structure KS where
 met:List (ByteArray×Bool)
 out:List Mg
 s:Int
def NC (z:KS) (m:Mg):KS:=if az .str false z.met m.1=true then z else ⟨bg .str z.met m.1 true,z.out++[sev m],if m.2.1=1 then z.s+7 else z.s⟩
structure KI (z:KS):Prop where
 cam:gN .str z.met
 met:∀x,az .str false z.met x=true↔x∈z.out.map (·.1)
 nd:(z.out.map (·.1)).Nodup
 gd:Gd z.out
 sh:∀m∈z.out,P7 m
 am:∀m∈z.out,m.2.1≠3→m.2.2.2.2=7
 s:z.s=7 * ((z.out.filter fun m=>decide (m.2.1=1)).length:Int)
def only (Z:Zs) (y:Int):Prop:=CZ Z∧∀z,sD Z z↔z=y
end Go.Proofs.Tryz
end
section
namespace Go.Proofs.Tryz
open Go.AM
set_option maxRecDepth 100000
section
variable {c:List Mg}
def LQ (c:List Mg) (x:ByteArray):Bool:=c.any fun m=>decide (m.1=x∧m.2.1≠3)
def qB (c:List Mg) (x:Mg):Bool:=LQ c x.2.2.1 && !eP c x.1&&decide ((c.filter fun m=>decide (m.2.1=2∧m.2.2.1=x.2.2.1∧m.1≠x.1∧eP c m.1=true)).length=1)
theorem U5 (hs:SI c) {x:ByteArray}:LQ c x=true↔pF c x=true∧(msg c x).2.1≠3:=by
 unfold LQ
 rw [List.any_eq_true]
 constructor
 ·rintro ⟨m, hm, h⟩
  obtain ⟨rfl,h3⟩:=of_decide_eq_true h
  exact ⟨bT.2 (List.mem_map.2 ⟨m,hm,rfl⟩),by rw [gy hs hm];exact h3⟩
 ·rintro ⟨h1, h3⟩
  obtain ⟨h4,h5⟩:=Cp hs h1
  exact ⟨msg c x,h4,decide_eq_true ⟨h5,h3⟩⟩
theorem U6 (hs:SI c) (x:ByteArray):UP c x=LQ c x:=by
 rw [Bool.eq_iff_iff,U5 hs]
 unfold UP
 rw [Bool.and_eq_true,Bool.not_eq_true',beq_eq_false_iff_ne]
 exact Iff.rfl
theorem tS {m:Mg} (hm:m∈c) (h:m.2.1=2):m.1∈kids c m.2.2.1:=kP.2 ⟨m,hm,rfl,h,rfl⟩
theorem Fb (hs:SI c) {x:Mg} (hx:x∈c) (hk:x.2.1=2):qB c x=true↔x.1∈dir c (x.2.2.1,kids c x.2.2.1):=by
 have hxk:=tS hx hk
 have hlen:eP c x.1=false→(c.filter fun m=>decide (m.2.1=2∧m.2.2.1=x.2.2.1∧m.1≠x.1∧eP c m.1=true)).map (·.1)=(kids c x.2.2.1).filter (eP c):=by
  intro hr
  unfold kids
  rw [List.filter_map,List.filter_filter]
  refine congrArg (List.map _) (List.filter_congr fun m hm=>?_)
  rw [Bool.eq_iff_iff]
  simp only [Function.comp_apply,Bool.and_eq_true,decide_eq_true_eq]
  constructor
  ·rintro ⟨h1,h2,_,h4⟩;exact ⟨h4,h1,h2⟩
  ·rintro ⟨h4, h1, h2⟩
   exact ⟨h1,h2,(fun e=>by rw [e,hr] at h4;cases h4),h4⟩
 unfold qB dir
 rw [←U6 hs]
 simp only [Bool.and_eq_true,Bool.not_eq_true',decide_eq_true_eq]
 constructor
 ·rintro ⟨⟨h1, h2⟩, h3⟩
  rw [if_pos h1]
  have h4:=hlen h2
  have h5:((kids c x.2.2.1).filter (eP c)).length=1:=by rw [←h4,List.length_map];exact h3
  obtain ⟨o,ho⟩:=List.length_eq_one_iff.1 h5
  rw [ho]
  refine List.mem_filter.2 ⟨hxk,?_⟩
  have h6:eP c o=true:=(List.mem_filter.1 (show o∈(kids c x.2.2.1).filter (eP c) by rw [ho];exact List.mem_singleton.2 rfl)).2
  simp only [Bool.not_eq_true',decide_eq_false_iff_not]
  intro e;rw [e,h6] at h2;cases h2
 ·intro h
  split at h
  ·rename_i h1
   split at h
   ·rename_i o ho
    obtain ⟨_,h2⟩:=List.mem_filter.1 h
    simp only [Bool.not_eq_true',decide_eq_false_iff_not] at h2
    have hr:eP c x.1=false:=by
     cases hr:eP c x.1 with
     |false=>rfl
     |true =>
      have:x.1∈(kids c x.2.2.1).filter (eP c):=List.mem_filter.2 ⟨hxk,hr⟩
      rw [ho,List.mem_singleton] at this
      exact absurd this h2
    have h4:=congrArg List.length (hlen hr)
    rw [List.length_map,ho] at h4
    exact ⟨⟨h1,hr⟩,h4⟩
   ·cases h
  ·cases h
def par (c:List Mg) (m:Mg):Option Mg:=c.find? fun x=>decide (x.1=m.2.2.1∧x.2.1≠3)
def way (c : List Mg) : Nat → Mg → List Mg
 |0,_=>[]
 |n+1,m=>m::(if m.2.1=1 then [] else match par c m with|some x=>way c n x|none=>[])
end
end Go.Proofs.Tryz
end
section
namespace Go.Proofs.Tryz
open Go.AM
set_option maxRecDepth 100000
set_option maxHeartbeats 1000000
end Go.Proofs.Tryz
end
section
namespace Go.Proofs.Tryz
open Go.AM
set_option maxRecDepth 100000
section
variable {c:List Mg}
def CH (c:List Mg):Prop:=∀m∈c,m.2.1=1∨m.2.1=2∨m.2.1=3
def Tk (c:List Mg) (t:ByteArray):Prop:=∃m∈c,m.1=t∧m.2.1=1
def NR (c:List Mg) (t:ByteArray):Prop:=∃m∈c,m.1=t∧m.2.1≠3
theorem JN (hs:SI c) {m:Mg} (hm:m∈c) {y:ByteArray} (h:m.1∈kids c y):m.2.1=2∧m.2.2.1=y:=by
  obtain ⟨m',hm',e,h2,h3⟩:=kP.1 h
  rw [hs.inj hm' hm e] at h2 h3;exact ⟨h2,h3⟩
theorem Tk.top (hs:SI c) {t:ByteArray} (h:Tk c t):UQ c t:=by
  obtain ⟨m,hm,rfl,h1⟩:=h
  intro x hx
  have:=(JN hs hm hx).1
  omega
theorem Tk.ids {t:ByteArray} (h:Tk c t):t∈ids c:=by obtain ⟨m,hm,rfl,_⟩:=h;exact List.mem_map.2 ⟨m,hm,rfl⟩
theorem Tk.nr {t:ByteArray} (h:Tk c t):NR c t:=by obtain ⟨m,hm,rfl,h1⟩:=h;exact ⟨m,hm,rfl,by omega⟩
theorem JO {x y:ByteArray} (h:y∈kids c x):NR c y:=by
  obtain ⟨m,hm,rfl,h2,_⟩:=kP.1 h;exact ⟨m,hm,rfl,by omega⟩
theorem ew {x z:ByteArray} {n:Nat} (h:jD c x n z):(n=0∧z=x)∨∃k y,n=k+1∧jD c x k y∧z∈kids c y:=by
  cases h with
  |zero=>exact .inl ⟨rfl,rfl⟩
  |step h hz=>exact .inr ⟨_,_,rfl,h,hz⟩
theorem Cr {n:Nat} {x y:ByteArray} (h:jD c x n y) (hx:x∈ids c):y∈ids c:=by
  rcases ew h with ⟨_,rfl⟩|⟨_,_,_,_,hz⟩
  · exact hx
  · exact gZ hz
theorem HG {n:Nat} {x y:ByteArray} (h:jD c x n y) (hx:NR c x):NR c y:=by
  rcases ew h with ⟨_,rfl⟩|⟨_,_,_,_,hz⟩
  · exact hx
  · exact JO hz
theorem vL {x : ByteArray} : ∀ {b a : Nat} {z : ByteArray}, jD c x (a + b) z → ∃ y, jD c x a y ∧ jD c y b z
  |0,_,z,h=>⟨z,h,.zero⟩
  |b+1,a,z,h=>by
    rcases ew h with ⟨h0,_⟩|⟨k,y,hk,h1,hz⟩
    · omega
    · obtain rfl : k = a + b := by omega
      obtain ⟨w,h2,h3⟩:=vL h1
      exact ⟨w,h2,.step h3 hz⟩
theorem LB {y x:ByteArray} (hy:y∈ids c) (d:Nat):jD c y d x→∃d',d'<c.length∧jD c y d' x:=by
  induction d using Nat.strongRecOn with
  |_ d ih =>
    intro h
    by_cases hd:d<c.length
    · exact ⟨d,hd,h⟩
    · have hex : ∀ i, i ≤ d → ∃ z, jD c y (d - i) z ∧ jD c z i x := fun i hi => vL (b := i) (a := d - i) (by rw [Nat.sub_add_cancel hi]; exact h)
      have hex2:∀i,∃z,i≤d→jD c y (d - i) z∧jD c z i x:=fun i=>by
        by_cases hi:i≤d
        · obtain ⟨z,hz⟩:=hex i hi;exact ⟨z,fun _=>hz⟩
        · exact ⟨y,fun h=>absurd h hi⟩
      obtain ⟨f,hf⟩:=Classical.axiomOfChoice hex2
      by_cases lH:∃i j,i<j∧j≤d∧f i=f j
      · obtain ⟨i, j, hij, hj, e⟩ := lH
        have h1:=(hf j hj).1
        have h2:=(hf i (by omega)).2
        rw [e] at h2
        exact ih (d - j+i) (by omega) (h1.add h2)
      · have hnd:((List.range (d+1)).map f).Nodup:=by
          unfold List.Nodup
          rw [List.pairwise_map]
          refine List.Pairwise.imp_of_mem ?_ List.pairwise_lt_range
          intro a b ha hb hab e
          exact lH ⟨a,b,hab,by have:=List.mem_range.1 hb;omega,e⟩
        have := List.Nodup.length_le_of_subset hnd (l₂ := ids c) (by
          intro z hz
          obtain ⟨i,hi,rfl⟩:=List.mem_map.1 hz
          exact Cr (hf i (by have:=List.mem_range.1 hi;omega)).1 hy)
        have hl:(ids c).length=c.length:=by simp [ids]
        simp at this
        omega
theorem Cs {t:ByteArray} (ht:UQ c t):cR c t=false:=by
  cases h:cR c t with
  |false=>rfl
  |true =>
    obtain ⟨p,y,hy,hd⟩:=yB.1 h
    obtain ⟨n,hp⟩:=hd.pth
    rcases ew hp with ⟨_,e⟩|⟨_,_,_,_,hz⟩
    · rw [←e] at hy;exact absurd (pe hy) (ht _)
    · exact absurd hz (ht _)
theorem Qq {x z:ByteArray} (h:cR c z=false) (hz:z∈kids c x):cR c x=false:=by
  cases h':cR c x with
  |false=>rfl
  |true=>rw [Cn h' hz] at h;cases h
theorem JP {n:Nat} {x z:ByteArray} (hp:jD c x n z) (h:cR c z=false):cR c x=false:=by
  induction hp with
  |zero=>exact h
  |step _ hz ih=>exact ih (Qq h hz)
theorem JQ (hs : SI c) (hk : CH c) : ∀ {n : Nat} {x t : ByteArray}, zk c n x = some t ↔ Tk c t ∧ cR c x = false ∧ ∃ d, d < n ∧ jD c t d x
  |0,x,t=>by simp [zk]
  |n+1,x,t=>by
    unfold zk
    by_cases hm:pF c x=true
    · rw [if_pos hm]
      obtain ⟨gj,hm2⟩:=Cp hs hm
      by_cases h3:(msg c x).2.1=3
      · rw [if_pos h3]
        simp only [reduceCtorEq,false_iff]
        rintro ⟨ht,_,d,_,hp⟩
        obtain ⟨m,hm',e,h3'⟩:=HG hp ht.nr
        have:=hs.inj hm' gj (by rw [e,hm2])
        rw [this] at h3'
        exact h3' h3
      · rw [if_neg h3]
        by_cases hst:cR c x=true
        · rw [if_pos hst]
          simp only [reduceCtorEq,false_iff]
          rintro ⟨_,h,_⟩
          rw [h] at hst;cases hst
        · rw [if_neg hst]
          have hst:cR c x=false:=by simpa using hst
          by_cases h1:(msg c x).2.1=1
          · rw [if_pos h1]
            have ht:Tk c x:=⟨_,gj,hm2,h1⟩
            constructor
            · intro e
              obtain rfl:=Option.some.inj e
              exact ⟨ht,hst,0,by omega,.zero⟩
            · rintro ⟨_, _, d, _, hp⟩
              rcases ew hp with ⟨_,e⟩|⟨_,_,_,_,hz⟩
              · rw [e]
              · exact absurd hz (ht.top hs _)
          · rw [if_neg h1, JQ hs hk]
            have h2:(msg c x).2.1=2:=by rcases hk _ gj with h|h|h<;>omega
            have pG:x∈kids c (msg c x).2.2.1:=by have:=tS gj h2;rwa [hm2] at this
            constructor
            · rintro ⟨ht, _, d, hd, hp⟩
              exact ⟨ht,hst,d+1,by omega,.step hp pG⟩
            · rintro ⟨ht, _, d, hd, hp⟩
              rcases ew hp with ⟨_,e⟩|⟨k,z,hk',h4,hz⟩
              · exact absurd (by rw [←e];exact pG) (ht.top hs _)
              · rw [JE hs hz pG] at h4
                exact ⟨ht,Qq hst pG,k,by omega,h4⟩
    · rw [if_neg hm]
      simp only [reduceCtorEq,false_iff]
      rintro ⟨ht,_,d,_,hp⟩
      exact hm (bT.2 (Cr hp ht.ids))
theorem fe (hs:SI c) (hk:CH c) {x t:ByteArray}:nt c x=some t↔Tk c t∧cR c x=false∧∃d,jD c t d x:=by
  rw [JQ hs hk]
  exact and_congr_right fun ht=>and_congr_right fun _=>⟨fun ⟨d,_,h⟩=>⟨d,h⟩,fun ⟨d,h⟩=>⟨d,h.short hs (ht.top hs) ht.ids,h⟩⟩
def tT (c:List Mg) (x:ByteArray):Option ByteArray:=if eu c x=[] then nt c x else none
theorem jQ {x t:ByteArray}:tT c x=some t↔eu c x=[]∧nt c x=some t:=by
  unfold tT;split<;>simp [*]
theorem sA {x y:ByteArray}:y∈eu c x↔y∈kids c x∧cR c y=false:=by
  unfold eu;rw [List.mem_filter];simp
theorem Cu (hs:SI c) (hk:CH c) {x y t:ByteArray} (hx:nt c x=some t) (hy:y∈kids c x):(nt c y).isSome = !cR c y:=by
  rw [Bool.eq_iff_iff,Option.isSome_iff_exists,Bool.not_eq_true']
  simp only [fe hs hk]
  obtain ⟨h1,_,d,h2⟩:=(fe hs hk).1 hx
  exact ⟨fun ⟨_,_,h,_⟩=>h,fun h=>⟨t,h1,h,d+1,.step h2 hy⟩⟩
theorem yD {y : ByteArray} : ∀ {n : Nat} {x : ByteArray}, cR c x = false → (y ∈ cC c n x ↔ eu c y = [] ∧ cR c y = false ∧ ∃ d, d < n ∧ jD c x d y)
  |0,x,_=>by simp [cC]
  |n+1,x,hx=>by
    unfold cC
    split
    · rename_i hl
      rw [List.mem_singleton]
      constructor
      · rintro rfl;exact ⟨hl,hx,0,by omega,.zero⟩
      · rintro ⟨_, h2, d, _, hp⟩
        cases d with
        | zero => rcases ew hp with ⟨_, e⟩ | ⟨_, _, h, _, _⟩
                  · exact e
                  · omega
        |succ d =>
          rw [Nat.add_comm] at hp
          obtain ⟨z,hz1,hz2⟩:=vL hp
          rcases ew hz1 with ⟨h,_⟩|⟨k,w,hk,hw,hzk⟩
          · omega
          · obtain rfl : k = 0 := by omega
            rcases ew hw with ⟨_,rfl⟩|⟨_,_,h,_,_⟩
            · have := sA.2 ⟨hzk, JP hz2 h2⟩
              rw [hl] at this;cases this
            · omega
    · rename_i k l hl
      rw [(dI (t:=.str) _).mem_iff,List.mem_flatMap,←hl]
      constructor
      · rintro ⟨z, hz, h⟩
        obtain ⟨h1,h2⟩:=sA.1 hz
        obtain ⟨h3,h4,d,hd,hp⟩:=(yD h2).1 h
        exact ⟨h3,h4,1+d,by omega,jD.add (.step .zero h1) hp⟩
      · rintro ⟨h3, h4, d, hd, hp⟩
        cases d with
        |zero =>
          rcases ew hp with ⟨_,e⟩|⟨_,_,h,_,_⟩
          · subst e;rw [hl] at h3;cases h3
          · omega
        |succ d =>
          rw [Nat.add_comm] at hp
          obtain ⟨z,hz1,hz2⟩:=vL hp
          rcases ew hz1 with ⟨h,_⟩|⟨k,w,hk,hw,hzk⟩
          · omega
          · obtain rfl : k = 0 := by omega
            rcases ew hw with ⟨_,rfl⟩|⟨_,_,h,_,_⟩
            · have hsz := JP hz2 h4
              exact ⟨z,sA.2 ⟨hzk,hsz⟩,(yD hsz).2 ⟨h3,h4,d,by omega,hz2⟩⟩
            · omega
theorem sB (hs:SI c) (hk:CH c) {t y:ByteArray} (ht:Tk c t):y∈jo c t↔tT c y=some t:=by
  unfold jo
  rw [yD (Cs (ht.top hs)),jQ,fe hs hk]
  refine and_congr_right fun _=>?_
  constructor
  · rintro ⟨h,d,_,hp⟩;exact ⟨ht,h,d,hp⟩
  · rintro ⟨_,h,d,hp⟩;exact ⟨h,d,by have:=hp.short hs (ht.top hs) ht.ids;omega,hp⟩
theorem sC (x:ByteArray):slt x x=false:=eo (t:=.str) kS x
theorem JR {x y:ByteArray} (h:slt x y=true) (h':slt y x=true):False:=cT (t:=.str) kS h h'
end
end Go.Proofs.Tryz
end
section
namespace Go.Proofs.Tryz
open Go.AM
set_option maxRecDepth 100000
set_option maxHeartbeats 1000000
theorem Qr {m:Mg} (h:uF m=0):m.2.1=1∨m.2.1=2∨m.2.1=3:=by
 unfold uF at h
 split at h
 ·cases h
 ·omega
theorem aat {c c':List Mg} (h:SI c) (h':SI c') (hm:∀m,m∈c↔m∈c'):c=c' :=
 kN (r:=fun a b:Mg=>slt a.1 b.1=true) (fun a h=>by rw [sC] at h;cases h) (fun a b h1 h2=>JR h1 h2) h h' hm
theorem JS {l:List ByteArray} {k:Nat} (h:k<l.length):l.getD k (bs [])∈l:=by
 rw [List.getD_eq_getElem?_getD,List.getElem?_eq_getElem h];exact List.getElem_mem h
structure ByN (m:Mg):Prop where
 uF:uF m=0
 id:m.1∈id8
 of:m.2.1≠1→m.2.2.1∈id8
 acc:m.2.1≠3→m.2.2.2.1∈acc3
 amt : -3≤m.2.2.2.2∧m.2.2.2.2≤8
structure CN (c:List Mg):Prop where
 si:SI c
 k3:CH c
 byN:∀m∈c,ByN m
 len:c.length≤8
end Go.Proofs.Tryz
end
section
namespace Go.Proofs.Tryz
open Go.AM
set_option maxRecDepth 100000
set_option maxHeartbeats 2000000
section
variable {c:List Mg}
end
end Go.Proofs.Tryz
end
section
namespace Go.Proofs.Tryz
open Go.AM
set_option maxRecDepth 100000
set_option maxHeartbeats 2000000
section
variable {c:List Mg}
theorem Qs {f:ByteArray→Int}:(gJ c f).Pairwise (· < ·):=by
 unfold gJ
 rw [List.pairwise_map]
 refine List.Pairwise.imp (fun {a b} h=>?_) (sx (c:=c) (f:=f) (ts:=uH c) cI.1)
 exact of_decide_eq_true h
end
end Go.Proofs.Tryz
end
section
namespace Go.Proofs.Tryz
open Go.AM
set_option maxRecDepth 100000
set_option maxHeartbeats 2000000
section
variable {c:List Mg}
theorem U7 {l l':List Int} (h:l.Pairwise (· < ·)) (h':l'.Pairwise (· < ·)) (hm:∀x,x∈l↔x∈l'):l=l' :=
 kN (r:=fun a b:Int=>a<b) (fun a h=>by omega) (fun a b h1 h2=>by omega) h h' hm
end
end Go.Proofs.Tryz
end
section
namespace Go.Proofs.Tryz
open Go.AM
set_option maxRecDepth 100000
section
variable {c c':List Mg} {n:Mg}
abbrev D (c:List Mg) (p:ByteArray):List ByteArray:=dir c (p,kids c p)
theorem Fc (hs:SI c) (hk:CH c) {t v:ByteArray} (ht:Tk c t) (hv:v∈jo c t):pF c v=true:=by
 obtain ⟨_,_,d,hp⟩:=(fe hs hk).1 (jQ.1 ((sB hs hk ht).1 hv)).2
 exact bT.2 (Cr hp ht.ids)
end
end Go.Proofs.Tryz
end
section
namespace Go.Proofs.Tryz
open Go.AM
set_option maxRecDepth 100000
set_option maxHeartbeats 2000000
section
variable {c:List Mg} {n m:Mg} {t:ByteArray}
end
end Go.Proofs.Tryz
end
section
namespace Go.Proofs.Tryz
open Go.AM
set_option maxRecDepth 100000
set_option maxHeartbeats 2000000
theorem k69 (s:ByteArray):ah (F69 s)=some (gx s,()):=by
 have hl:(eU s).length=s.size:=uw s
 unfold F69 gx
 simp only [ak,aa,aA,bB,bh,aM]
 by_cases h0:((s.size:Nat):Int)=0
 ·rw [if_pos h0,decide_eq_false (show ¬(0<s.size∧s.size≤10) by omega),Bool.and_false]
 rw [if_neg h0]
 by_cases h1:(10:Int)<((s.size:Nat):Int)
 ·rw [if_pos h1,decide_eq_false (show ¬(0<s.size∧s.size≤10) by omega),Bool.and_false]
 rw [if_neg h1,decide_eq_true (show 0<s.size∧s.size≤10 by omega),Bool.and_true]
 have hi:iter (fun a=>run (fun _=>none) (g69_0 a)) (s,(0:Int),())=some (if Jx 0 (eU s)=true then Sum.inr () else Sum.inl ()):=by
  refine aP (eU s) (fun k (_:Nat)=>(s,(k:Int),())) (fun k r=>if Jx k r=true then Sum.inr () else Sum.inl ()) (fun pre k=>k=pre.length) ?_ ?_ (s:=0) rfl
  ·rintro pre b post k hx rfl
   have hlen:(eU s).length=pre.length+(post.length+1):=by rw [hx];simp
   have hd:sG s pre.length=b:=by unfold sG;rw [hx];exact aU rfl
   have i1:bZ (pre.length:Int) ((s.size:Nat):Int)=true:=aR (by omega) (by omega)
   have r1:de .i64 ((pre.length:Int)+1)=true:=aH (by omega) (by omega)
   have hok:Jx pre.length (b::post)=(nk pre.length b&&Jx (pre.length+1) post):=rfl
   have hbo:nk pre.length b=(decide (97≤b∧b≤122)||decide (pre.length≠0∧48≤b∧b≤57)):=rfl
   have key:run (fun _=>none) (g69_0 (s,(pre.length:Int),()))=if nk pre.length b=true then some (.inl (s,((pre.length+1:Nat):Int),())) else some (.inr (.inl ())):=by
    rw [hbo]
    simp only [g69_0,ak,aN,aJ,aa,Int.toNat_natCast,hd,i1,r1,af,aM,bA,bh]
    rw [if_pos (by omega)]
    simp only [Bool.or_eq_true,decide_eq_true_eq]
    by_cases c1:97≤b
    ·rw [if_pos c1, if_pos (by omega)]
     by_cases c2:b≤122
     ·rw [if_pos c2,if_pos (by omega)];rfl
     ·rw [if_neg c2,if_neg (show ¬b≤57 by omega),if_neg (by omega)]
    ·rw [if_neg c1]
     by_cases c3:48≤b
     ·rw [if_pos c3]
      by_cases c4:b≤57
      ·rw [if_pos c4]
       by_cases c5:(pre.length:Int)=0
       ·rw [if_pos c5,if_neg (by omega)]
       ·rw [if_neg c5,if_pos (by omega)];rfl
      ·rw [if_neg c4,if_neg (by omega)]
     ·rw [if_neg c3,if_neg (by omega)]
   by_cases hb:nk pre.length b=true
   ·left
    exact ⟨pre.length+1,by rw [key,if_pos hb],by simp,by rw [hok,hb,Bool.true_and]⟩
   ·right
    rw [key,if_neg hb,hok,show nk pre.length b=false by simpa using hb,Bool.false_and]
    rfl
  ·rintro k _
   simp only [g69_0,ak,aa,aM]
   rw [if_neg (by omega)]
   simp [Jx]
 rw [ai hi]
 cases Jx 0 (eU s) with
 |true=>rw [if_pos rfl];simp only [kn,aa]
 |false=>rw [if_neg (by simp)];simp only [lJ,aa]
theorem k90 (a b c:Int):ah (F90 a b c)=some (decide (b≤a)&&decide (a≤c),()):=by
 unfold F90
 simp only [ak,aa,jA]
 cases decide (b≤a)<;>rfl
theorem k58 (m:Mg):ah (F58 m)=some (uF m,()):=by
 unfold F58 uF
 simp only [aA,k90,aF,ak,bA,aa]
 simp only [jA,Bool.and_eq_true,decide_eq_true_eq]
 by_cases h0:m.2.1<1∨3<m.2.1
 ·rw [if_neg (by omega),if_pos h0]
 ·rw [if_pos (by omega), if_neg h0]
  simp only [k69,aF,Gl,ak,aA,aa,bA,bh,seq_eq,aM]
  simp only [jA]
  by_cases h1:gx m.1=true
  ·rw [if_pos h1, if_pos h1]
   unfold uE pW
   by_cases k1:m.2.1=1
   ·rw [if_pos k1, if_pos k1]
    by_cases o1:m.2.2.1=bs []
    ·simp only [if_pos o1, aF, LM]
     rw [if_neg (show ¬m.2.1=3 by omega),if_neg (show ¬m.2.1=3 by omega)]
     by_cases a1:gx m.2.2.2.1=true
     ·simp only [if_pos a1, k90, aF, Bool.and_eq_true, decide_eq_true_eq]
      by_cases z : -1000≤m.2.2.2.2∧m.2.2.2.2≤1000
      ·rw [if_pos z,if_pos z];rfl
      ·rw [if_neg z,if_neg z];rfl
     ·rw [if_neg a1,if_neg a1];rfl
    ·simp only [if_neg o1, aF, LM]
     rfl
   ·rw [if_neg k1, if_neg k1]
    by_cases o1:gx m.2.2.1=true
    ·simp only [if_pos o1]
     by_cases o2:m.2.2.1=m.1
     ·simp only [if_pos o2,aF,LM];rfl
     ·simp only [if_neg o2, aF, LM]
      by_cases k3:m.2.1=3
      ·rw [if_pos k3, if_pos k3]
       by_cases a1:m.2.2.2.1=bs []
       ·by_cases z : m.2.2.2.2 = 0
        ·simp only [if_pos a1,if_pos z,if_pos (And.intro a1 z)];rfl
        ·rw [if_pos a1,if_neg z,if_neg fun h=>z h.2];rfl
       ·rw [if_neg a1,if_neg fun h=>a1 h.1];rfl
      ·rw [if_neg k3, if_neg k3]
       by_cases a1:gx m.2.2.2.1=true
       ·simp only [if_pos a1, k90, aF, Bool.and_eq_true, decide_eq_true_eq]
        by_cases z : -1000≤m.2.2.2.2∧m.2.2.2.2≤1000
        ·rw [if_pos z,if_pos z];rfl
        ·rw [if_neg z,if_neg z];rfl
       ·rw [if_neg a1,if_neg a1];rfl
    ·simp only [if_neg o1,aF,LM];rfl
  ·rw [if_neg h1,if_neg h1]
theorem k91 (a b:Mg):ah (F91 a b)=some (eS tM a b,()):=by
 have e:eS tM a b=(slt a.1 b.1||(dJ .str a.1 b.1&&(decide (a.2.1<b.2.1)||((a.2.1==b.2.1)&&(slt a.2.2.1 b.2.2.1||(dJ .str a.2.2.1 b.2.2.1&&(slt a.2.2.2.1 b.2.2.2.1||(dJ .str a.2.2.2.1 b.2.2.2.1&&decide (a.2.2.2.2<b.2.2.2.2))))))))):=rfl
 rw [e,sq,sq,sq]
 unfold F91
 simp only [ak,aa,bA,seq_eq,bh,aM]
 by_cases c1:a.1=b.1
 ·rw [if_pos c1, c1, sC, decide_eq_true rfl, Bool.false_or, Bool.true_and]
  by_cases c2:a.2.1=b.2.1
  ·rw [if_pos c2, c2, decide_eq_false (Int.lt_irrefl _), beq_self_eq_true, Bool.false_or, Bool.true_and]
   by_cases c3:a.2.2.1=b.2.2.1
   ·rw [if_pos c3, c3, sC, decide_eq_true rfl, Bool.false_or, Bool.true_and]
    by_cases c4:a.2.2.2.1=b.2.2.2.1
    ·rw [if_pos c4,c4,sC,decide_eq_true rfl,Bool.false_or,Bool.true_and]
    ·rw [if_neg c4,decide_eq_false c4,Bool.false_and,Bool.or_false]
   ·rw [if_neg c3,decide_eq_false c3,Bool.false_and,Bool.or_false]
  ·rw [if_neg c2,beq_eq_false_iff_ne.2 c2,Bool.false_and,Bool.or_false]
 ·rw [if_neg c1,decide_eq_false c1,Bool.false_and,Bool.or_false]
def Fe (m : Mg) : Nat → List Mg → Nat
 |k,[]=>k
 |k,x::r=>if eS tM x m=true then Fe m (k+1) r else k
theorem AJ (m : Mg) : ∀ (r : List Mg) (k : Nat), ∃ a b, r = a ++ b ∧ Fe m k r = k + a.length ∧ (∀ x ∈ a, eS tM x m = true) ∧ (b = [] ∨ ∃ x b', b = x :: b' ∧ eS tM x m = false)
 |[],k=>⟨[],[],rfl,rfl,(fun x h=>(by cases h)),.inl rfl⟩
 |x::r,k=>by
  by_cases h:eS tM x m=true
  ·obtain ⟨a, b, h1, h2, h3, h4⟩ := AJ m r (k + 1)
   refine ⟨x::a,b,by rw [h1];rfl,?_,fun y hy=>?_,h4⟩
   ·unfold Fe;rw [if_pos h,h2,List.length_cons];omega
   ·rcases List.mem_cons.1 hy with rfl | hy
    ·exact h
    ·exact h3 y hy
  ·exact ⟨[],x::r,rfl,by unfold Fe;rw [if_neg h];rfl,(fun y hy=>(by cases hy)),.inr ⟨x,r,rfl,by simpa using h⟩⟩
theorem k59 {L:List Mg} (h:SL L) (hl:L.length≤1000) (m:Mg):ah (F59 L m)=some (lM L m,()):=by
 obtain ⟨a,b,h1,h2,h3,h4⟩:=AJ m L 0
 have hi:iter (fun x=>ah (g59_0 x)) (L,(0:Int),m.1,m.2.1,m.2.2.1,m.2.2.2.1,m.2.2.2.2,())=some (L,((Fe m 0 L:Nat):Int),m.1,m.2.1,m.2.2.1,m.2.2.2.1,m.2.2.2.2,()):=by
  refine aP L (fun k (_:Nat)=>(L,(k:Int),m.1,m.2.1,m.2.2.1,m.2.2.2.1,m.2.2.2.2,())) (fun k r=>(L,((Fe m k r:Nat):Int),m.1,m.2.1,m.2.2.1,m.2.2.2.1,m.2.2.2.2,())) (fun pre k=>k=pre.length) ?_ ?_ (s:=0) rfl
  ·rintro pre x post k hx rfl
   have hlen:L.length=pre.length+(post.length+1):=by rw [hx];simp
   have hd:L.getD pre.length (bs [],(0:Int),bs [],bs [],(0:Int))=x:=by rw [hx];exact aU rfl
   have i1:bZ (pre.length:Int) ((L.length:Nat):Int)=true:=aR (by omega) (by omega)
   have r1:de .i64 ((pre.length:Int)+1)=true:=aH (by omega) (by omega)
   have h91:ah (F91 (x.1,x.2.1,x.2.2.1,x.2.2.2.1,x.2.2.2.2) (m.1,m.2.1,m.2.2.1,m.2.2.2.1,m.2.2.2.2))=_:=k91 x m
   by_cases hlt:eS tM x m=true
   ·left
    refine ⟨pre.length+1,?_,by simp,by simp only [Fe];rw [if_pos hlt]⟩
    simp only [g59_0,ak,aN,aJ,aA,aa,Int.toNat_natCast,hd,i1,af,aM]
    rw [if_pos (by omega),ai h91]
    simp only [hlt,bM,r1,af]
    rfl
   ·right
    simp only [g59_0,ak,aN,aJ,aA,aa,Int.toNat_natCast,hd,i1,af,aM]
    rw [if_pos (by omega),ai h91]
    simp only [show eS tM x m=false by simpa using hlt,aY]
    simp only [Fe];rw [if_neg hlt]
  ·rintro k rfl
   simp only [g59_0,ak,aa,aM]
   rw [if_neg (by omega)]
   rfl
 rw [h2,Nat.zero_add] at hi
 have aau:L.length=a.length+b.length:=by rw [h1,List.length_append]
 have eT:(L.drop 0).take (a.length - 0)=a:=by rw [List.drop_zero,Nat.sub_zero,h1,List.take_left]
 have eD:(L.drop a.length).take (L.length - a.length)=b:=by rw [h1,List.drop_left,List.take_of_length_le];rw [List.length_append];omega
 have ur:∀x,x∈lM L m↔x=m∨x∈L:=fun x=>yp h
 have hsa:SL (a++b):=by rw [←h1];exact h
 have hab:=List.pairwise_append.1 hsa
 unfold F59
 simp only [aA,bB]
 rw [ai hi]
 simp only [ak,aM]
 have e0:Int.toNat 0=0:=rfl
 have fin:lM L m≠L→a++m::b=lM L m:=fun hne=>by
  refine SL.ext (L:=a++m::b) ?_ h.ins fun x=>?_
  ·refine List.pairwise_append.2 ⟨hab.1, List.pairwise_cons.2 ⟨fun y hy => ?_, hab.2.1⟩, fun x hx y hy => ?_⟩
   ·rcases h4 with rfl | ⟨z, b', rfl, hz⟩
    ·cases hy
    ·have Fo:eS tM m z=true:=by
      cases Fo:eS tM m z with
      |true=>rfl
      |false =>
       have:=iI kM Fo hz
       exact absurd (Jz h (by rw [h1,this];simp)) hne
     rcases List.mem_cons.1 hy with rfl|hy
     ·exact Fo
     ·exact iJ kM Fo ((List.pairwise_cons.1 hab.2.1).1 y hy)
   ·rcases List.mem_cons.1 hy with rfl | hy
    ·exact h3 x hx
    ·exact hab.2.2 x hx y hy
  ·rw [ur, h1]
   simp only [List.mem_append,List.mem_cons]
   constructor
   ·rintro (h | h | h)
    ·exact .inr (.inl h)
    ·exact .inl h
    ·exact .inr (.inr h)
   ·rintro (h | h | h)
    ·exact .inr (.inl h)
    ·exact .inl h
    ·exact .inr (.inr h)
 have d0:decide ((0:Int)≤0)=true:=rfl
 have d1:decide ((0:Int)≤(a.length:Int))=true:=decide_eq_true (by omega)
 have d2:decide ((a.length:Int)≤((L.length:Nat):Int))=true:=decide_eq_true (by omega)
 have d3:decide (((L.length:Nat):Int)≤((L.length:Nat):Int))=true:=decide_eq_true (by omega)
 have d4:decide (0+a.length<bI)=true:=decide_eq_true (by rw [ei];omega)
 have d5:decide (0+a.length+1<bI)=true:=decide_eq_true (by rw [ei];omega)
 have d6:decide (0+a.length+1+b.length<bI)=true:=decide_eq_true (by rw [ei];omega)
 have e1:((([(m.1,m.2.1,m.2.2.1,m.2.2.2.1,m.2.2.2.2)]:List Mg).drop 0).take 1)=[m]:=rfl
 have eB:(((((((([]:List Mg).drop 0).take 0++a).drop 0).take (0+a.length)++[m]).drop 0).take (0+a.length+1)++b).drop 0).take (0+a.length+1+b.length)=a++m::b:=by
  simp only [List.drop_zero,List.take_zero,List.nil_append,Nat.zero_add,List.take_length]
  rw [List.take_of_length_le (l:=a++[m]) (by simp),List.take_of_length_le (by simp;omega)]
  simp
 rcases h4 with rfl|⟨z,b',rfl,hz⟩
 ·rw [if_neg (by simp at aau; omega)]
  simp only [aS,aa,Int.toNat_natCast,e0,eT,eD,e1,List.length_singleton,d0,d1,d2,d3,d4,d5,d6,af]
  rw [eB,fin]
  intro e
  have hm:m∈L:=by rw [←e];exact (ur m).2 (.inl rfl)
  rw [h1,List.append_nil] at hm
  have:=h3 m hm
  rw [eo kM] at this;cases this
 ·rw [if_pos (by simp at aau; omega)]
  have hd:L.getD a.length (bs [],(0:Int),bs [],bs [],(0:Int))=z:=by rw [h1];exact aU rfl
  have i1:bZ (a.length:Int) ((L.length:Nat):Int)=true:=aR (by omega) (by simp at aau;omega)
  simp only [aN,ak,aS,aa,Int.toNat_natCast,hd,i1,e0,eT,eD,e1,List.length_singleton,d0,d1,d2,d3,d4,d5,d6,af,seq_eq,jA,Bool.and_eq_true,decide_eq_true_eq,beq_iff_eq,and_true]
  by_cases hzm:z=m
  ·rw [if_pos (by rw [hzm];exact ⟨rfl,rfl,rfl,rfl,rfl⟩),Jz h (by rw [h1,hzm];simp)]
  ·rw [if_neg fun hh => hzm (Prod.ext hh.1 (Prod.ext hh.2.1 (Prod.ext hh.2.2.1 (Prod.ext hh.2.2.2.1 hh.2.2.2.2)))), eB, fin]
   intro e
   have hm:m∈a++z::b':=by rw [←h1,←e];exact (ur m).2 (.inl rfl)
   rcases List.mem_append.1 hm with hm|hm
   ·have := h3 m hm
    rw [eo kM] at this;cases this
   ·rcases List.mem_cons.1 hm with hm | hm
    ·exact hzm hm.symm
    ·have := (List.pairwise_cons.1 hab.2.1).1 m hm
     rw [hz] at this;cases this
theorem U8 {L:List Mg} (h:mB L) (m:Mg):ah (FH21_v1 m L)=some ((gY L m).1,(gY L m).2,()):=by
 have hl:=h.len
 unfold FH21_v1 FH57_v1 gY
 simp only [aA,aa,aF,ak,aY]
 rw [ai (show ah (F58 (m.1,m.2.1,m.2.2.1,m.2.2.2.1,m.2.2.2.2))=_ from k58 m)]
 simp only [bA,bh]
 by_cases hc:uF m=0
 ·rw [if_pos hc, if_pos hc]
  rw [ai (show ah (F59 L (m.1,m.2.1,m.2.2.1,m.2.2.2.1,m.2.2.2.2))=_ from k59 h.s (by omega) m)]
  simp only [aM]
  by_cases h60:60<(lM L m).length
  ·rw [if_pos (by omega),if_pos h60]
  ·rw [if_neg (by omega),if_neg h60]
 ·rw [if_neg hc,if_neg hc]
def oJ : Option ByteArray → List Mg → List Mg
 |_,[]=>[]
 |p,x::r=>if p=some x.1 then oJ (some x.1) r else x::oJ (some x.1) r
theorem SL.ids {a b:Mg} (h:eS tM a b=true):slt a.1 b.1=true∨a.1=b.1:=by
 have e:eS tM a b=(slt a.1 b.1||(dJ .str a.1 b.1&&eS (.prod (.int .i64) (.prod .str (.prod .str (.int .i64)))) a.2 b.2)):=rfl
 rw [e,Bool.or_eq_true,Bool.and_eq_true,sq,decide_eq_true_eq] at h
 rcases h with h|⟨h,_⟩
 ·exact .inl h
 ·exact .inr h
theorem Ff {m : Mg} : ∀ {r pre : List Mg}, SL (pre ++ r) → (m ∈ oJ (pre.getLast?.map (·.1)) r ↔ m ∈ r ∧ ∀ x ∈ pre ++ r, x.1 = m.1 → x = m ∨ eS tM m x = true)
 |[],pre,_=>by simp [oJ]
 |z::r,pre,h=>by
  have h':SL ((pre++[z])++r):=by simpa using h
  have ih:=Ff (m:=m) (r:=r) (pre:=pre++[z]) h'
  have e1:((pre++[z]).getLast?.map (·.1))=some z.1:=by simp
  have e2:pre++[z]++r=pre++z::r:=by simp
  rw [e1,e2] at ih
  have hp:=List.pairwise_append.1 h
  have hpz:=List.pairwise_cons.1 hp.2.1
  unfold oJ
  by_cases hc:pre.getLast?.map (·.1)=some z.1
  ·rw [if_pos hc, ih]
   obtain ⟨p,hp1,hp2⟩:=Option.map_eq_some_iff.1 hc
   have hpm:p∈pre:=List.mem_of_getLast? hp1
   constructor
   ·rintro ⟨h1,h2⟩;exact ⟨List.mem_cons_of_mem _ h1,h2⟩
   ·rintro ⟨h1, h2⟩
    refine ⟨?_,h2⟩
    rcases List.mem_cons.1 h1 with rfl|h1
    ·have hlt := hp.2.2 p hpm m (List.mem_cons_self ..)
     rcases h2 p (by simp [hpm]) hp2 with e|h3
     ·rw [e,eo kM] at hlt;cases hlt
     ·exact (cT kM h3 hlt).elim
    ·exact h1
  ·rw [if_neg hc, List.mem_cons, ih]
   constructor
   ·rintro (rfl | ⟨h1, h2⟩)
    ·refine ⟨List.mem_cons_self .., fun x hx e => ?_⟩
     rcases List.mem_append.1 hx with hx|hx
     ·exfalso
      have hx2:=hp.2.2 x hx m (List.mem_cons_self ..)
      cases hl:pre.getLast? with
      |none=>rw [List.getLast?_eq_none_iff.1 hl] at hx;cases hx
      |some p =>
       have hpm:p∈pre:=List.mem_of_getLast? hl
       have hpm2:=hp.2.2 p hpm m (List.mem_cons_self ..)
       have hne:p.1≠m.1:=fun e=>hc (by rw [hl,Option.map_some,e])
       have hp3:=(SL.ids hpm2).resolve_right hne
       have hxp:x=p∨eS tM x p=true:=by
        obtain ⟨l',hl'⟩:=List.getLast?_eq_some_iff.1 hl
        rw [hl'] at hx
        rcases List.mem_append.1 hx with hx|hx
        ·right
         have:=hp.1
         rw [hl'] at this
         exact (List.pairwise_append.1 this).2.2 x hx p (by simp)
        ·exact .inl (List.mem_singleton.1 hx)
       rcases hxp with rfl|hxp
       ·exact hne e
       ·rcases SL.ids hxp with h5 | h5
        ·rw [e] at h5;exact JR h5 hp3
        ·exact hne (h5.symm.trans e)
     ·rcases List.mem_cons.1 hx with rfl | hx
      ·exact .inl rfl
      ·exact .inr (hpz.1 x hx)
    ·exact ⟨List.mem_cons_of_mem _ h1,h2⟩
   ·rintro ⟨h1, h2⟩
    rcases List.mem_cons.1 h1 with rfl|h1
    ·exact .inl rfl
    ·exact .inr ⟨h1,h2⟩
theorem yE : ∀ {r : List Mg} {p : Option ByteArray}, (oJ p r).Sublist r
 |[],_=>.slnil
 |z::r,p=>by
  unfold oJ
  split
  ·exact .cons _ yE
  ·exact .cons_cons _ yE
theorem U9 {L:List Mg} (h:SL L):oJ none L=cnt L:=by
 have hm:=fun m=>Ff (m:=m) (r:=L) (pre:=[]) (by simpa using h)
 simp only [List.getLast?_nil,Option.map_none,List.nil_append] at hm
 refine aat ?_ (fK L) fun m=>?_
 ·have hs : SL (oJ none L) := List.Pairwise.sublist yE h
  refine List.Pairwise.imp_of_mem (fun {a b} ha hb hab=>?_) hs
  rcases SL.ids hab with h1|h1
  ·exact h1
  ·rcases ((hm b).1 hb).2 a ((hm a).1 ha).1 h1 with e | h2
   ·rw [e,eo kM] at hab;cases hab
   ·exact (cT kM hab h2).elim
 ·rw [hm,UL h]
theorem k71 {L:List Mg} (h:SL L) (hl:L.length≤1000):ah (F71 L)=some (cnt L,()):=by
 have hi:iter (fun x=>ah (g71_0 x)) (L,(0:Nat),(0:Int),[],())=some ((oJ none L).length,oJ none L,()):=by
  refine aP L (fun k (s:List Mg×Option ByteArray)=>(L,s.1.length,(k:Int),s.1,())) (fun s r=>((s.1++oJ s.2 r).length,s.1++oJ s.2 r,())) (fun pre s=>s.1.length≤pre.length∧s.2=pre.getLast?.map (·.1)) ?_ ?_ (s:=([],none)) ⟨Nat.le_refl _,rfl⟩
  ·rintro pre x post ⟨o, p⟩ hx ⟨ho, rfl⟩
   have hlen:L.length=pre.length+(post.length+1):=by rw [hx];simp
   have hd:L.getD pre.length (bs [],(0:Int),bs [],bs [],(0:Int))=x:=by rw [hx];exact aU rfl
   have i1:bZ (pre.length:Int) ((L.length:Nat):Int)=true:=aR (by omega) (by omega)
   have r1:de .i64 ((pre.length:Int)+1)=true:=aH (by omega) (by omega)
   have d1:decide (o.length+1<bI)=true:=decide_eq_true (by rw [ei];simp only at ho;omega)
   have e1:(([(x.1,x.2.1,x.2.2.1,x.2.2.2.1,x.2.2.2.2)]:List Mg).take 1)=[x]:=rfl
   have Qt:(pre++[x]).getLast?.map (·.1)=some x.1:=by simp
   left
   by_cases h0:pre=[]
   ·subst h0
    refine ⟨(o++[x],some x.1),?_,⟨by simp at ho ⊢;omega,Qt.symm⟩,by simp [oJ]⟩
    simp only [List.length_nil,Int.natCast_zero] at hd i1 r1 ho ⊢
    simp only [g71_0,ak,aN,aS,aJ,aa,aM,bh,reduceIte,Int.toNat_zero,hd,i1,r1,d1,e1,af,List.drop_zero,List.length_singleton,List.take_length,List.length_append]
    rw [if_pos (by simp only [List.length_nil] at hlen;omega)]
    rfl
   ·obtain ⟨p,hp⟩:∃p,pre.getLast?=some p:=by
     cases hl:pre.getLast? with
     |none=>exact absurd (List.getLast?_eq_none_iff.1 hl) h0
     |some p=>exact ⟨p,rfl⟩
    obtain ⟨l',hl'⟩:=List.getLast?_eq_some_iff.1 hp
    have hpl:pre.length=l'.length+1:=by rw [hl'];simp
    have hd2:L.getD (pre.length - 1) (bs [],(0:Int),bs [],bs [],(0:Int))=p:=by
     rw [hx,hl',List.append_assoc]
     exact aU (by simp)
    have i2:bZ ((pre.length:Int) - 1) ((L.length:Nat):Int)=true:=aR (by omega) (by omega)
    have r2:de .i64 ((pre.length:Int) - 1)=true:=aH (by omega) (by omega)
    have e2:Int.toNat ((pre.length:Int) - 1)=pre.length - 1:=by omega
    have hpp:pre.getLast?.map (·.1)=some p.1:=by rw [hp];rfl
    simp only [hpp]
    by_cases he:x.1=p.1
    ·refine ⟨(o, some x.1), ?_, ⟨by simp at ho ⊢; omega, Qt.symm⟩, by simp only [oJ]; rw [if_pos (by rw [he])]⟩
     simp only [g71_0,ak,aN,aS,aJ,aa,aM,bh,bA,seq_eq,Int.toNat_natCast,hd,e2,hd2,i1,i2,r1,r2,af]
     rw [if_pos (by omega),if_neg (by omega),if_pos he]
     rfl
    ·refine ⟨(o ++ [x], some x.1), ?_, ⟨by simp at ho ⊢; omega, Qt.symm⟩, by simp only [oJ]; rw [if_neg fun e => he (Option.some.inj e).symm]; simp⟩
     simp only [g71_0,ak,aN,aS,aJ,aa,aM,bh,bA,seq_eq,Int.toNat_natCast,hd,e2,hd2,i1,i2,r1,r2,d1,e1,af,List.drop_zero,List.length_singleton,List.take_length,List.length_append]
     rw [if_pos (by omega),if_neg (by omega),if_neg he]
     rfl
  ·rintro ⟨o, p⟩ _
   simp only [g71_0,ak,aa,aM]
   rw [if_neg (by omega)]
   simp [oJ]
 unfold F71
 simp only [aA,bB]
 rw [ai hi,U9 h]
 simp only [aa,List.drop_zero,List.take_length]
theorem k116 {c:List Mg} (hc:c.length<1000000) (x:ByteArray):ah (F116 c x)=some (LQ c x,()):=by
 have hi:iter (fun a=>ah (g116_0 a)) (c,x,(0:Int),())=some (if LQ c x=true then Sum.inl () else Sum.inr ()):=by
  refine aP c (fun k (_:Unit)=>(c,x,(k:Int),())) (fun _ r=>if LQ r x=true then Sum.inl () else Sum.inr ()) (fun _ _=>True) ?_ ?_ (s:=()) trivial
  ·intro pre z post _ hz _
   have hlen:c.length=pre.length+(post.length+1):=by rw [hz];simp
   have hd:c.getD pre.length (bs [],(0:Int),bs [],bs [],(0:Int))=z:=by rw [hz];exact aU rfl
   have i1:bZ (pre.length:Int) ((c.length:Nat):Int)=true:=aR (by omega) (by omega)
   have r1:de .i64 ((pre.length:Int)+1)=true:=aH (by omega) (by omega)
   by_cases h:z.1=x∧z.2.1≠3
   ·right
    rw [if_pos (by unfold LQ;rw [List.any_cons,decide_eq_true h];rfl)]
    simp only [g116_0,ak,aN,aJ,aa,Int.toNat_natCast,hd,i1,af,aM,bh,bA,seq_eq]
    rw [if_pos (by omega),if_pos h.1,if_neg h.2]
   ·left
    refine ⟨(),?_,trivial,by unfold LQ;rw [List.any_cons,decide_eq_false h,Bool.false_or]⟩
    simp only [g116_0,ak,aN,aJ,aa,Int.toNat_natCast,hd,i1,r1,af,aM,bh,bA,seq_eq]
    rw [if_pos (by omega)]
    by_cases h1:z.1=x
    ·rw [if_pos h1,if_pos (Classical.byContradiction fun h3=>h ⟨h1,h3⟩)];rfl
    ·rw [if_neg h1];rfl
  ·intro _ _
   simp only [g116_0,ak,aa,aM]
   rw [if_neg (by omega)]
   simp [LQ]
 unfold F116
 simp only [aA,bB]
 rw [ai hi]
 cases LQ c x with
 |true=>rw [if_pos rfl];simp only [lJ,aa]
 |false=>rw [if_neg (by simp)];simp only [kn,aa]
theorem k117 {c:List Mg} (hc:c.length<1000000) (x:ByteArray):ah (F117 c x)=some (eP c x,()):=by
 have hi:iter (fun a=>ah (g117_0 a)) (c,x,(0:Int),())=some (if eP c x=true then Sum.inl () else Sum.inr ()):=by
  refine aP c (fun k (_:Unit)=>(c,x,(k:Int),())) (fun _ r=>if eP r x=true then Sum.inl () else Sum.inr ()) (fun _ _=>True) ?_ ?_ (s:=()) trivial
  ·intro pre z post _ hz _
   have hlen:c.length=pre.length+(post.length+1):=by rw [hz];simp
   have hd:c.getD pre.length (bs [],(0:Int),bs [],bs [],(0:Int))=z:=by rw [hz];exact aU rfl
   have i1:bZ (pre.length:Int) ((c.length:Nat):Int)=true:=aR (by omega) (by omega)
   have r1:de .i64 ((pre.length:Int)+1)=true:=aH (by omega) (by omega)
   by_cases h:z.2.1=3∧z.2.2.1=x
   ·right
    rw [if_pos (by unfold eP;rw [List.any_cons,decide_eq_true h];rfl)]
    simp only [g117_0,ak,aN,aJ,aa,Int.toNat_natCast,hd,i1,af,aM,bh,seq_eq]
    rw [if_pos (by omega),if_pos h.1,if_pos h.2]
   ·left
    refine ⟨(),?_,trivial,by unfold eP;rw [List.any_cons,decide_eq_false h,Bool.false_or]⟩
    simp only [g117_0,ak,aN,aJ,aa,Int.toNat_natCast,hd,i1,r1,af,aM,bh,seq_eq]
    rw [if_pos (by omega)]
    by_cases h1:z.2.1=3
    ·rw [if_pos h1,if_neg fun h3=>h ⟨h1,h3⟩];rfl
    ·rw [if_neg h1];rfl
  ·intro _ _
   simp only [g117_0,ak,aa,aM]
   rw [if_neg (by omega)]
   simp [eP]
 unfold F117
 simp only [aA,bB]
 rw [ai hi]
 cases eP c x with
 |true=>rw [if_pos rfl];simp only [lJ,aa]
 |false=>rw [if_neg (by simp)];simp only [kn,aa]
end Go.Proofs.Tryz
end
