/- Maps that are kept in order: what stands in them. Plain Lean. Messages: names, what is wrong with them. Books: telling, all messages in order. DeleteFunc, Clone, the keys of maps. The messages that count, and what they say of each other. Striking: what is struck, and what corrects it. A book's desk. The versions of a ticket. The versions of a ticket: walked. States and versions. Sums. Spans, sums, accounts. The examples: what works() and Known come to. Messages by numbers. Books that were told good messages. Joins; books that answer the same. TicketOrder. TicketOrder: the row. TicketKept. Ways up to a ticket. Struck, the chain, versions: walked. Ways up: what they say. The messages that count: the first of each id. TicketStates. TicketExact. TicketExact: what the ways say. -/
import Derived.Test.YthemjfloiapaaaaGreatW61
set_option linter.unusedSectionVars false
set_option linter.unusedVariables false
set_option linter.unusedSimpArgs false
section
namespace Go.AM
theorem iE {α : Type} {r : α → α → Prop} (irr : ∀ a, ¬ r a a) (asy : ∀ a b, r a b → ¬ r b a) : ∀ {l l' : List α}, l.Pairwise r → l'.Pairwise r → (∀ x, x ∈ l ↔ x ∈ l') → l = l'
 |[],[],_,_,_=>rfl
 |[],b::s,_,_,h=>by have:=(h b).2 (List.mem_cons_self ..);cases this
 |a::r',[],_,_,h=>by have:=(h a).1 (List.mem_cons_self ..);cases this
 |a::l,b::s,h1,h2,h=>by
  rw [List.pairwise_cons] at h1 h2
  have e:a=b:=by
   rcases List.mem_cons.1 ((h a).1 (List.mem_cons_self ..)) with e|ha
   ·exact e
   rcases List.mem_cons.1 ((h b).2 (List.mem_cons_self ..)) with e|hb
   ·exact e.symm
   ·exact absurd (h2.1 a ha) (asy _ _ (h1.1 b hb))
  subst e
  rw [iE irr asy h1.2 h2.2 fun x=>?_]
  constructor
  ·intro hx
   rcases List.mem_cons.1 ((h x).1 (List.mem_cons_of_mem _ hx)) with e|hx'
   ·subst e;exact absurd (h1.1 x hx) (irr x)
   ·exact hx'
  ·intro hx
   rcases List.mem_cons.1 ((h x).2 (List.mem_cons_of_mem _ hx)) with e|hx'
   ·subst e;exact absurd (h2.1 x hx) (irr x)
   ·exact hx'
section
variable {t:Ty} {ks:List Kd} {β:Type}
theorem jK (hk:bC t=some ks) {x:t.den}:dI t x x=true:=kj x hk
theorem CB (hk:bC t=some ks) {x y:t.den}:dI t x y=true↔x=y:=⟨bH,fun h=>by subst h;exact jK hk⟩
theorem gU (hk:bC t=some ks) (x:t.den):fR t x x=false:=by
 cases h:fR t x x with
 |false=>rfl
 |true=>exact (dw hk h h).elim
theorem T1 (hk:bC t=some ks) {x y:t.den} (h:fR t x y=true):dI t x y=false:=by
 cases h':dI t x y with
 |false=>rfl
 |true=>rw [bH h',gU hk] at h;cases h
def gK (t:Ty) (es:List (t.den×β)):Prop:=es.Pairwise fun a b=>fR t a.1 b.1=true
theorem gK.kd (hk:bC t=some ks) {es:List (t.den×β)} (h:gK t es):KD t es:=List.Pairwise.imp (fun h=>T1 hk h) h
theorem EW {es:List (t.den×β)} {x:t.den} {v:β} {e:t.den×β}:e∈pS t es x v↔e=(x,v)∨e∈es:=by
 rw [jN.mem_iff];simp
theorem gK.mins (hk : bC t = some ks) {x : t.den} {v : β} : ∀ {es : List (t.den × β)}, gK t es → aM t es x = false → gK t (pS t es x v)
 |[],_,_=>by unfold gK;simp [pS]
 |e::r,h,hn=>by
  unfold gK at h
  rw [List.pairwise_cons] at h
  have hne:=th hn (List.mem_cons_self ..)
  have hnr:aM t r x=false:=by simpa [aM,hne] using hn
  unfold pS
  split
  ·rename_i hlt
   unfold gK
   rw [List.pairwise_cons]
   refine ⟨fun b hb=>?_,List.pairwise_cons.2 h⟩
   rcases List.mem_cons.1 hb with rfl|hb
   ·exact hlt
   ·exact iA hk hlt (h.1 b hb)
  ·rename_i hlt
   unfold gK
   rw [List.pairwise_cons]
   refine ⟨fun b hb=>?_,gK.mins hk h.2 hnr⟩
   rcases EW.1 hb with rfl|hb
   ·cases hlt':fR t e.1 x with
    |true=>rfl
    |false =>
     have:=gD hk (by simpa using hlt) hlt'
     rw [this,jK hk] at hne;cases hne
   ·exact h.1 b hb
theorem gK.ig (hk:bC t=some ks) {x:t.den} {v:β} {es:List (t.den×β)} (h:gK t es):gK t (aZ t es x v):=by
 unfold aZ
 split
 ·unfold gK
  rw [List.pairwise_map]
  refine List.Pairwise.imp ?_ h
  intro a b hab
  split<;>split
  ·rename_i h1 h2
   rw [←bH h1,←bH h2,gU hk] at hab;cases hab
  ·rename_i h1 h2
   rw [←bH h1] at hab;exact hab
  ·rename_i h1 h2
   rw [←bH h2] at hab;exact hab
  ·exact hab
 ·rename_i hn
  exact h.mins hk (by simpa using hn)
theorem dx (hk:bC t=some ks) {es:List (t.den×β)} {x:t.den}:aM t es x=true↔∃v,(x,v)∈es:=by
 unfold aM
 rw [List.any_eq_true]
 constructor
 ·rintro ⟨e,he,hx⟩;rw [bH hx];exact ⟨e.2,he⟩
 ·rintro ⟨v,hv⟩;exact ⟨_,hv,jK hk⟩
theorem fO (hk:bC t=some ks) {es:List (t.den×β)} {x:t.den} {v d:β} (h:gK t es) (hm:(x,v)∈es):ay t d es x=v:=mM (h.kd hk) hm (jK hk)
theorem fP (hk:bC t=some ks) {es:List (t.den×β)} {x:t.den} {v:β} (h:gK t es) {e:t.den×β}:e∈aZ t es x v↔e=(x,v)∨(e∈es∧e.1≠x):=by
 unfold aZ
 split
 ·rename_i hh
  obtain ⟨u,hu⟩:=(dx hk).1 hh
  rw [List.mem_map]
  constructor
  ·rintro ⟨e', he', rfl⟩
   split
   ·exact .inl rfl
   ·rename_i hne;exact .inr ⟨he',fun e=>hne (by rw [e];exact jK hk)⟩
  ·rintro (rfl | ⟨he, hne⟩)
   ·exact ⟨(x,u),hu,by simp [jK hk]⟩
   ·exact ⟨e,he,by rw [if_neg];intro h;exact hne (bH h).symm⟩
 ·rename_i hh
  rw [EW]
  constructor
  ·rintro (h | h)
   ·exact .inl h
   ·refine .inr ⟨h, fun e' => hh ?_⟩
    rw [←e'];exact (dx hk).2 ⟨_,h⟩
  ·rintro (h | h)
   ·exact .inl h
   ·exact .inr h.1
theorem Lh (hk:bC t=some ks) {es:List (t.den×β)} {x y:t.den} {v d:β} (h:gK t es):ay t d (aZ t es x v) y=if dI t y x=true then v else ay t d es y:=by
 have hc:=h.ig (x:=x) (v:=v) hk
 split
 ·rename_i e; have e := bH e; subst e
  exact fO hk hc ((fP hk h).2 (.inl rfl))
 ·rename_i e0
  have e:y≠x:=fun h=>e0 ((CB hk).2 h)
  cases hm:aM t es y with
  |true =>
   obtain ⟨u,hu⟩:=(dx hk).1 hm
   rw [fO hk h hu]
   exact fO hk hc ((fP hk h).2 (.inr ⟨hu,e⟩))
  |false =>
   rw [gx hm,gx]
   cases hm':aM t (aZ t es x v) y with
   |false=>rfl
   |true =>
    obtain ⟨u,hu⟩:=(dx hk).1 hm'
    rcases (fP hk h).1 hu with e'|⟨h',_⟩
    ·cases e';exact absurd rfl e
    ·rw [(dx hk).2 ⟨u,h'⟩] at hm;cases hm
theorem pH (hk:bC t=some ks) {es:List (t.den×β)} {x y:t.den} {v:β} (h:gK t es):aM t (aZ t es x v) y=(dI t y x||aM t es y):=by
 rw [Bool.eq_iff_iff,dx hk,Bool.or_eq_true,CB hk,dx hk]
 constructor
 ·rintro ⟨u, hu⟩
  rcases (fP hk h).1 hu with e|⟨h',_⟩
  ·cases e;exact .inl rfl
  ·exact .inr ⟨u,h'⟩
 ·by_cases e : y = x
  ·subst e;exact fun _=>⟨v,(fP hk h).2 (.inl rfl)⟩
  ·rintro (h' | ⟨u, hu⟩)
   ·exact absurd h' e
   ·exact ⟨u,(fP hk h).2 (.inr ⟨hu,e⟩)⟩
theorem Jj (hk:bC t=some ks) {es es':List (t.den×β)} (h:gK t es) (h':gK t es') (hm:∀e,e∈es↔e∈es'):es=es' :=
 iE (r:=fun a b:t.den×β=>fR t a.1 b.1=true) (fun a h=>by rw [gU hk] at h;cases h) (fun a b h1 h2=>dw hk h1 h2) h h' hm
theorem gK.keys (hk:bC t=some ks) {es:List (t.den×β)} (h:gK t es):AD t (es.map (·.1)):=by
 unfold AD
 rw [List.pairwise_map]
 refine List.Pairwise.imp (fun {a b} hab=>?_) h
 cases hba:fR t b.1 a.1 with
 |false=>rfl
 |true=>exact (dw hk hab hba).elim
theorem gK.nil:gK (β:=β) t []:=List.Pairwise.nil
theorem Pq {es:List (t.den×Bool)} (hk:bC t=some ks) (h:gK t es) (ht:∀e∈es,e.2=true) {x:t.den}:∀e∈aZ t es x true,e.2=true:=fun e he=>by
 rcases (fP hk h).1 he with rfl|⟨h',_⟩
 ·rfl
 ·exact ht e h'
theorem Pr {es:List (t.den×Bool)} (hk:bC t=some ks) (h:gK t es) (ht:∀e∈es,e.2=true) {x:t.den}:ay t false es x=aM t es x:=by
 cases hm:aM t es x with
 |false=>exact gx hm
 |true =>
  obtain ⟨u,hu⟩:=(dx hk).1 hm
  rw [fO hk h hu];exact ht _ hu
theorem Pt (hk:bC t=some ks) {es es':List (t.den×Bool)} (h:gK t es) (h':gK t es') (ht:∀e∈es,e.2=true) (ht':∀e∈es',e.2=true) (hm:∀x,aM t es x=aM t es' x):es=es':=by
 refine Jj hk h h' fun e=>?_
 have key:∀{es es':List (t.den×Bool)},(∀e∈es,e.2=true)→(∀e∈es',e.2=true)→(∀x,aM t es x=aM t es' x)→e∈es→e∈es':=fun {es es'} ht ht' hm he=>by
  have h1:aM t es' e.1=true:=by rw [←hm];exact (dx hk).2 ⟨e.2,he⟩
  obtain ⟨u,hu⟩:=(dx hk).1 h1
  have e1:=ht e he
  have e2:=ht' _ hu
  obtain ⟨a,b⟩:=e
  simp only at e1 e2;subst e1;subst e2;exact hu
 exact ⟨key ht ht' hm,key ht' ht fun x=>(hm x).symm⟩
end
end Go.AM
end
section
namespace Go.Proofs.Tryz
open Go.AM
set_option maxRecDepth 100000
abbrev Mg:=ByteArray×Int×ByteArray×ByteArray×Int
abbrev tM:Ty:=.prod .str (.prod (.int .i64) (.prod .str (.prod .str (.int .i64))))
abbrev kM:bC tM=some [.s,.i,.s,.s,.i]:=rfl
abbrev kS:bC .str=some [.s]:=rfl
theorem seq_eq (a b:ByteArray):seq a b=decide (a=b):=by
 unfold seq
 rw [Go.ByteArray.toList_eq,Go.ByteArray.toList_eq]
 by_cases h:a=b
 ·subst h;simp
 ·rw [decide_eq_false h, beq_eq_false_iff_ne]
  intro e;apply h
  obtain ⟨x⟩:=a;obtain ⟨y⟩:=b
  simp at e;rw [e]
theorem vJ (a b:ByteArray):dI .str a b=decide (a=b):=by
 rw [←seq_eq];simp only [dI,seq,Go.ByteArray.toList_eq]
def yy (i:Nat) (b:Int):Bool:=decide (97≤b∧b≤122)||decide (i≠0∧48≤b∧b≤57)
def T2 : Nat → List Int → Bool
 |_,[]=>true
 |i,b::r=>yy i b&&T2 (i+1) r
def iF (s:ByteArray):Bool:=T2 0 (eX s)&&decide (0<s.size∧s.size≤10)
theorem k65 (s:ByteArray) (hs:s.size<1000000000):ak (F65 s)=some (iF s,()):=by
 have hl:(eX s).length=s.size:=D5 s
 unfold F65
 simp only [aA,bw]
 refine bind_eq (aK (eX s) (fun k (_:Nat)=>(s,eX s,((eX s).length:Int),(k:Int),())) (fun i r=>if T2 i r=true then .inr (s,()) else .inl ()) (fun pre i=>i=pre.length) ?_ ?_ (s:=0) rfl) ?_
 ·intro pre x post i hx hi
  subst hi
  have hlen:(eX s).length=pre.length+(post.length+1):=by rw [hx];simp
  have hd:(eX s).getD pre.length 0=x:=by rw [hx];exact aR rfl
  have key:run (fun _=>none) (g65_0 (s,eX s,((eX s).length:Int),(pre.length:Int),()))=if yy pre.length x=true then some (.inl (s,eX s,((eX s).length:Int),((pre.length+1:Nat):Int),())) else some (.inr (.inl ())):=by
   simp only [g65_0,av,aU,aN,aY,aa,Int.toNat_natCast,hd,aX,bJ]
   rw [if_pos (by omega),Nx (by omega) (by omega)]
   unfold yy;simp only [Bool.or_eq_true,decide_eq_true_eq]
   by_cases h1:x<97
   ·rw [if_pos h1]
    by_cases h2:(pre.length:Int)=0
    ·rw [if_pos h2,if_neg (by omega)]
    ·rw [if_neg h2]
     by_cases h3:x<48
     ·rw [if_pos h3,if_neg (by omega)]
     ·rw [if_neg h3]
      by_cases h4:57<x
      ·rw [if_pos h4,if_neg (by omega)]
      ·rw [if_neg h4, if_pos, oC (by omega) (by omega)]; · rfl
       omega
   ·rw [if_neg h1]
    by_cases h5:122<x
    ·rw [if_pos h5]
     by_cases h2:(pre.length:Int)=0
     ·rw [if_pos h2,if_neg (by omega)]
     ·rw [if_neg h2]
      by_cases h3:x<48
      ·omega
      ·rw [if_neg h3,if_pos (by omega),if_neg (by omega)]
    ·rw [if_neg h5, if_pos, oC (by omega) (by omega)]; · rfl
     omega
  rw [key]
  by_cases hb:yy pre.length x=true
  ·left
   exact ⟨pre.length+1,by rw [if_pos hb],by simp,by simp [T2,hb]⟩
  ·right
   rw [if_neg hb]
   have:T2 pre.length (x::post)=false:=by simp [T2,hb]
   simp [this]
 ·intro i _
  simp only [g65_0,av,aX]
  rw [if_neg (by omega)]
  simp [T2,aa]
 ·unfold iF
  by_cases h:T2 0 (eX s)=true
  ·rw [if_pos h, h]
   simp only [lM,av,aa,aX]
   by_cases h0:(0:Int)<((s.size:Nat):Int)
   ·rw [if_pos h0, Bool.true_and]
    congr 2
    exact decide_eq_decide.2 (by omega)
   ·rw [if_neg h0]
    simp;omega
  ·rw [if_neg h]
   simp [h,oD,aa]
def CC (l:List Int):Int:=(l.find? (· != 0)).getD 0
theorem k86 (l:List Int) (hl:l.length<1000000000):ak (F86 l)=some (CC l,()):=by
 unfold F86
 simp only [aA,bw]
 refine bind_eq (aK l (fun k (_:Nat)=>((0:Int),l,((l.length:Nat):Int),(k:Int),())) (fun i r=>if (r.find? (· != 0)).isSome then .inl (CC r,()) else .inr (0,())) (fun pre i=>i=pre.length) ?_ ?_ (s:=0) rfl) ?_
 ·intro pre x post i hx hi
  subst hi
  have hlen:l.length=pre.length+(post.length+1):=by rw [hx];simp
  have hd:l.getD pre.length 0=x:=by rw [hx];exact aR rfl
  have hin:ew (pre.length:Int) (l.length:Int)=true:=bF (by omega) (by omega)
  have hni:eN .i64 ((pre.length:Int)+1)=true:=aH (by omega) (by omega)
  by_cases h:x=0
  ·left
   refine ⟨pre.length+1,?_,by simp,by simp [h,CC]⟩
   simp only [g86_0,av,aU,aN,aa,Int.toNat_natCast,hd,aX,bJ,b8,hin,hni,ah]
   rw [if_pos (by omega),if_pos h];rfl
  ·right
   simp only [g86_0,av,aU,aN,aa,Int.toNat_natCast,hd,aX,bJ,b8,hin,hni,ah]
   rw [if_pos (by omega),if_neg h]
   simp [h,CC]
 ·intro i _
  simp only [g86_0,av,aX]
  rw [if_neg (by omega)]
  simp [aa]
 ·cases h:(l.find? (· != 0)).isSome with
  |true=>rw [if_pos rfl];simp only [oD,aa]
  |false =>
   rw [if_neg (by simp)]
   have:CC l=0:=by
    unfold CC
    cases h':l.find? (· != 0) with
    |none=>rfl
    |some _=>rw [h'] at h;cases h
   rw [this];simp only [lM,aa]
def qf (m:Mg):Int:=if m.2.1=1 then (if m.2.2.1=bs [] then 0 else 22) else if iF m.2.2.1=true then (if m.2.2.1=m.1 then 22 else 0) else 8
def nM (m:Mg):Int:=if m.2.1=3 then (if m.2.2.2.1=bs []∧m.2.2.2.2=0 then 0 else 22) else if iF m.2.2.2.1=true then (if -1000≤m.2.2.2.2∧m.2.2.2.2≤1000 then 0 else 2) else 8
def uF (m:Mg):Int:=if m.2.1<1∨3<m.2.1 then 18 else if iF m.1=true then CC [qf m,nM m] else 8
def Sh (s:ByteArray):Prop:=s.size<1000000000
def Pu (m:Mg):Prop:=Sh m.1∧Sh m.2.2.1∧Sh m.2.2.2.1
theorem k87 (m:Mg) (h:Pu m):ak (F87 m)=some (qf m,()):=by
 unfold F87 qf
 simp only [av,aA,aa,bJ,k65 _ h.2.1,aP,b8,seq_eq,aX]
 split
 ·split<;>rfl
 ·rw [kq]
  split
  ·split<;>rfl
  ·rfl
theorem k88 (m:Mg) (h:Pu m):ak (F88 m)=some (nM m,()):=by
 unfold F88 nM
 simp only [av,aA,aa,bJ,k65 _ h.2.2,aP,b8,seq_eq,aX]
 split
 ·by_cases h1 : m.2.2.2.1 = bs []
  ·by_cases h2:m.2.2.2.2=0<;>simp [h1,h2]
  ·simp [h1]
 ·rw [kq]
  split
  ·by_cases h1 : m.2.2.2.2 < -1000
   ·rw [if_pos h1,if_neg (by omega)]
   ·rw [if_neg h1]
    by_cases h2:1000<m.2.2.2.2
    ·rw [if_pos h2,if_neg (by omega)]
    ·rw [if_neg h2,if_pos (by omega)]
  ·rfl
theorem k55 (m:Mg) (h:Pu m):ak (F55 m)=some (uF m,()):=by
 have h86:=k86 [qf m,nM m] (by simp)
 unfold F55 uF
 simp only [av,aA,aa,aX,k65 _ h.1,aP,b8,k87 m h,k88 m h]
 have hl:((qf m::nM m::[]).drop 0).take 2=[qf m,nM m]:=rfl
 simp only [hl,h86,aP]
 by_cases h1:m.2.1<1
 ·rw [if_pos h1,if_pos (.inl h1)]
 ·rw [if_neg h1]
  by_cases h2:3<m.2.1
  ·rw [if_pos h2,if_pos (.inr h2)]
  ·rw [if_neg h2, if_neg (by omega), kq]
   split<;>rfl
end Go.Proofs.Tryz
end
section
namespace Go.Proofs.Tryz
open Go.AM
set_option maxRecDepth 100000
def bk (L:List Mg):List (Mg×Bool):=L.map fun m=>(m,true)
def SL (L:List Mg):Prop:=L.Pairwise fun a b=>fR tM a b=true
theorem SL.can {L:List Mg} (h:SL L):gK tM (bk L):=by
 unfold gK bk;rw [List.pairwise_map];exact h
theorem bk_t {L:List Mg}:∀e∈bk L,e.2=true:=fun e he=>by
 obtain ⟨m,_,rfl⟩:=List.mem_map.1 he;rfl
theorem Hp {L:List Mg} {m:Mg} {b:Bool}:(m,b)∈bk L↔m∈L∧b=true:=by
 unfold bk;rw [List.mem_map]
 constructor
 ·rintro ⟨x,hx,h⟩;cases h;exact ⟨hx,rfl⟩
 ·rintro ⟨h,rfl⟩;exact ⟨m,h,rfl⟩
theorem Jk {L:List Mg}:(bk L).map (·.1)=L:=by simp [bk,List.map_map,Function.comp_def]
theorem Pv {L:List Mg}:(bk L).length=L.length:=by simp [bk]
theorem aex {es:List (Mg×Bool)} (h:∀e∈es,e.2=true):bk (es.map (·.1))=es:=by
 unfold bk;rw [List.map_map]
 conv=>rhs;rw [←List.map_id es]
 refine List.map_congr_left fun e he=>?_
 obtain ⟨a,b⟩:=e
 have:=h _ he
 simp only at this;subst this;rfl
def qH (L:List Mg) (m:Mg):List Mg:=(aZ tM (bk L) m true).map (·.1)
theorem Hq {L:List Mg} (h:SL L) {m:Mg}:bk (qH L m)=aZ tM (bk L) m true:=aex (Pq kM h.can bk_t)
theorem EX {L:List Mg} (h:SL L) {m x:Mg}:x∈qH L m↔x=m∨x∈L:=by
 have:x∈qH L m↔(x,true)∈bk (qH L m):=by rw [Hp];simp
 rw [this,Hq h,fP kM h.can]
 constructor
 ·rintro (e | ⟨h1, h2⟩)
  ·cases e;exact .inl rfl
  ·exact .inr (Hp.1 h1).1
 ·by_cases e : x = m
  ·subst e;exact fun _=>.inl rfl
  ·rintro (e' | h')
   ·exact absurd e' e
   ·exact .inr ⟨Hp.2 ⟨h',rfl⟩,e⟩
theorem SL.ins {L:List Mg} (h:SL L) {m:Mg}:SL (qH L m):=by
 have:=h.can.ig (x:=m) (v:=true) kM
 rw [←Hq h] at this
 unfold gK bk at this;rw [List.pairwise_map] at this;exact this
theorem SL.ext {L L':List Mg} (h:SL L) (h':SL L') (hm:∀x,x∈L↔x∈L'):L=L' :=
 iE (fun a h=>by rw [gU kM] at h;cases h) (fun a b h1 h2=>dw kM h1 h2) h h' hm
theorem EY {L:List Mg} {m:Mg}:(qH L m).length≤L.length+1:=by
 unfold qH aZ
 rw [List.length_map]
 split
 ·simp [bk]
 ·rw [jN.length_eq];simp [bk]
theorem Hr (m:List (Mg×Bool)):ak (FH54 m)=some (false,m,()):=rfl
def lB (L:List Mg) (m:Mg):Int×List Mg:=if uF m=0 then (if 60<(qH L m).length then (15,L) else (0,qH L m)) else (uF m,L)
theorem g56 {mm m1:List (Mg×Bool)} {b3:List Mg} {n:Nat} {k:Nat} (hn:n=b3.length) (hb:n<1000000000) (hk:k<n) :
  ak (gH56_0 (n,((n:Nat):Int),(k:Int),mm,b3,m1,()))=some (.inl (n,((n:Nat):Int),((k+1:Nat):Int),aZ tM mm (b3.getD k (bs [],(0:Int),bs [],bs [],(0:Int))) true,b3,m1,())):=by
 have hin:ew (k:Int) (n:Int)=true:=bF (by omega) (by omega)
 have hni:eN .i64 ((k:Int)+1)=true:=aH (by omega) (by omega)
 simp only [gH56_0,av,aU,aY,aN,aa,Int.toNat_natCast,Nat.zero_add,aX,hin,hni,ah]
 rw [if_pos (by omega),cm (by omega)]
 rfl
theorem g56e {mm m1:List (Mg×Bool)} {b3:List Mg} {n:Nat}:ak (gH56_0 (n,((n:Nat):Int),(n:Int),mm,b3,m1,()))=some (.inr (mm,m1,())):=by
 simp only [gH56_0,av,aa,aX]
 rw [if_neg (by omega)]
theorem kH56 {L:List Mg} (h:SL L) (hl:L.length≤60) (m:Mg):ak (FH56 m.1 m.2.1 m.2.2.1 m.2.2.2.1 m.2.2.2.2 (bk L))=some (if 60<(qH L m).length then (15,bk L,()) else (0,bk (qH L m),())):=by
 have hit:iter (fun x=>ak (gH56_0 x)) ((1:Nat),((1:Nat):Int),(0:Int),bk L,[m],bk L,())=some (bk (qH L m),bk L,()):=by
  rw [Hq h]
  exact j8 (g56 (b3:=[m]) (n:=1) (k:=0) rfl (by omega) (by omega)) (fJ g56e)
 unfold FH56
 simp only [aA,FH89,FH193,aa,aP,bw]
 refine bind_eq hit ?_
 simp only [av,aa,aX,Pv]
 by_cases hc:60<(qH L m).length
 ·rw [if_pos (by omega),if_pos hc]
 ·rw [if_neg (by omega),if_neg hc]
theorem kH20 {L:List Mg} (h:SL L) (hl:L.length≤60) {m:Mg} (hm:Pu m):ak (FH20 m (bk L))=some ((lB L m).1,bk (lB L m).2,()):=by
 have h55:=k55 m hm
 unfold FH20
 simp only [aA,Hr,aP,av,bK]
 rw [aq (show ak (F55 (m.1,m.2.1,m.2.2.1,m.2.2.2.1,m.2.2.2.2))=_ from h55)]
 simp only [b8,bJ]
 unfold lB
 by_cases hc:uF m=0
 ·rw [if_pos hc, if_pos hc]
  rw [aq (kH56 h hl m)]
  split<;>rfl
 ·rw [if_neg hc,if_neg hc];rfl
structure nT (L:List Mg):Prop where
 s:SL L
 len:L.length≤60
 uF:∀m∈L,uF m=0
theorem nT.nil:nT []:=⟨.nil,by simp,fun m h=>by cases h⟩
theorem nT.tell {L:List Mg} (h:nT L) (m:Mg):nT (lB L m).2:=by
 unfold lB
 split
 ·rename_i hc
  split
  ·exact h
  ·rename_i h60
   refine ⟨h.s.ins,by simp only;omega,fun x hx=>?_⟩
   rcases (EX h.s).1 hx with rfl|hx
   ·exact hc
   ·exact h.uF x hx
 ·exact h
def gG (l:List Mg):List Mg:=l.foldl (fun L m=>(lB L m).2) []
theorem nT.fold {L : List Mg} (h : nT L) : ∀ l : List Mg, nT (l.foldl (fun L m => (lB L m).2) L)
 |[]=>h
 |m::l=>nT.fold (h.tell m) l
theorem nT.told (l:List Mg):nT (gG l):=nT.nil.fold l
theorem T3 {l:List Mg} (hl:l.length<1000000000) (hs:∀m∈l,Pu m):ak (FH29 l)=some (bk (gG l),()):=by
 unfold FH29
 simp only [aA,FH18,aa,aP,bw]
 refine bind_eq (aK l (fun k (L:List Mg)=>(l,(k:Int),bk L,())) (fun L r=>(bk (r.foldl (fun L m=>(lB L m).2) L),())) (fun _ L=>nT L) ?_ ?_ (s:=[]) nT.nil) rfl
 ·intro pre x post L hx hL
  have hlen:l.length=pre.length+(post.length+1):=by rw [hx];simp
  have hd:l.getD pre.length (bs [],(0:Int),bs [],bs [],(0:Int))=x:=by rw [hx];exact aR rfl
  have hin:ew (pre.length:Int) (l.length:Int)=true:=bF (by omega) (by omega)
  have hni:eN .i64 ((pre.length:Int)+1)=true:=aH (by omega) (by omega)
  left
  refine ⟨(lB L x).2,?_,hL.tell x,rfl⟩
  simp only [gH29_0,av,aU,aN,aa,aA,Int.toNat_natCast,aX,hin,hni,ah]
  rw [if_pos (by omega)]
  have hk:=kH20 hL.s hL.len (hs x (by rw [hx];simp))
  rw [hd]
  rw [aq (show ak (FH20 (x.1,x.2.1,x.2.2.1,x.2.2.2.1,x.2.2.2.2) (bk L))=_ from hk)]
  rfl
 ·intro L _
  simp only [gH29_0,av,aa,aX]
  rw [if_neg (by omega)]
  rfl
theorem EZ {E A : Type} {step : E → A → Option A} (f : A → E → A) (I : A → Prop) : ∀ (l : List E) (x : A), I x → (∀ e ∈ l, ∀ x, I x → step e x = some (f x e) ∧ I (f x e)) → Ag step l x = some (l.foldl f x) ∧ I (l.foldl f x)
 |[],x,hx,_=>⟨rfl,hx⟩
 |e::l,x,hx,h=>by
  obtain ⟨h1,h2⟩:=h e (List.mem_cons_self ..) x hx
  obtain ⟨h3,h4⟩:=EZ f I l (f x e) h2 fun e he=>h e (List.mem_cons_of_mem _ he)
  exact ⟨by simp only [Ag,h1];exact h3,h4⟩
theorem sx {K V M : Type} {step : K × V → M × Nat × List K × Unit → Option (M × Nat × List K × Unit)} {m : M} {l : List (K × V)} (hl : l.length < 1000000000)
  (h:∀e n b,n<1000000000→step e (m,n,b,())=some (m,n+1,(b.drop 0).take n++[e.1],())):Ag step l (m,0,[],())=some (m,l.length,l.map (·.1),()):=by
 have key:∀(l:List (K×V)) (b:List K),b.length+l.length<1000000000→Ag step l (m,b.length,b,())=some (m,b.length+l.length,b++l.map (·.1),()):=by
  intro l
  induction l with
  |nil=>intro b _;simp [Ag]
  |cons e l ih =>
   intro b hb
   simp only [List.length_cons] at hb
   simp only [Ag,h e b.length b (by omega)]
   have:=ih (b++[e.1]) (by simp;omega)
   simp only [List.drop_zero,List.take_length]
   rw [List.length_append,List.length_singleton] at this
   rw [this]
   simp only [List.length_cons,List.map_cons,List.append_assoc,List.singleton_append]
   congr 3
   omega
 have:=key l [] (by simpa using hl)
 simpa using this
theorem oR {t:Ty} {ks:List Kd} (hk:bC t=some ks) {l s:List t.den} (hp:s.Perm l) (hs:AD t s) (hl:l.length<1000000000):uR t l l.length=some (s,()):=by
 unfold uR
 rw [if_pos ⟨Nat.le_refl _,by rw [fU];omega⟩,List.take_length,List.drop_length,List.append_nil,rT hk hp hs]
theorem SL.Z4 {L:List Mg} (h:SL L):AD tM L:=by
 have:=h.can.keys kM
 rwa [Jk] at this
theorem kH83 {L:List Mg} (h:SL L) (hl:L.length<1000000000):ak (FH83 (bk L))=some (L.length,L,bk L,()):=by
 unfold FH83
 refine Eq.trans B3 (gA fun l hp=>?_)
 have yP:l.length=L.length:=by rw [hp.length_eq,Pv]
 simp only [aA,B4]
 refine bind_eq (sx (m:=bk L) (l:=l) (by rw [yP];exact hl) fun e n b hn=>?_) ?_
 ·simp only [gH83f109f128_0i_0, aY, aa, dF, ah]
  rw [cm (show _<cg by rw [fU];simp;omega)]
  rfl
 ·simp only [FH110, xI]
  have hpk:L.Perm (l.map (·.1)):=by
   have:=(hp.map (·.1)).symm
   rwa [Jk] at this
  have:=oR kM hpk h.Z4 (by rw [List.length_map];omega)
  rw [List.length_map] at this
  rw [aq this,yP]
  rfl
theorem kH47 {L:List Mg} (h:SL L) (hl:L.length<1000000000):ak (FH47 (bk L))=some (L.length,L,bk L,()):=by
 unfold FH47
 simp only [aA,Hr,aP,av,bK,FH84,aa]
 rw [aq (kH83 h hl)]
end Go.Proofs.Tryz
end
section
namespace Go.Proofs.Tryz
open Go.AM
set_option maxRecDepth 100000
abbrev AO:=List (ByteArray×Mg)
abbrev Fx:=List (ByteArray×List ByteArray)
abbrev fD:=List (ByteArray×Bool)
theorem kH98 {l:List ByteArray} (hl:l.length<1000000000):ak (FH98 l)=some (l.length,l,()):=by
 simp only [FH98,av,Xv,aY,aa,bJ]
 rw [Eg (by omega)]
 split
 ·have : l = [] := List.length_eq_zero_iff.1 (by omega)
  subst this
  simp only [List.length_nil,List.drop_nil,List.take_nil,List.append_nil,Nat.add_zero]
  exact Ai
 ·simp
def eC (del : ByteArray → Bool) : Nat → List ByteArray → Option Nat
 |_,[]=>none
 |k,x::r=>if del x=true then some k else eC del (k+1) r
theorem lC (del : ByteArray → Bool) : ∀ (l : List ByteArray) (k : Nat), (∃ p x q, l = p ++ x :: q ∧ (∀ c ∈ p, del c = false) ∧ del x = true ∧ eC del k l = some (k + p.length)) ∨ ((∀ c ∈ l, del c = false) ∧ eC del k l = none)
 |[],k=>.inr ⟨by simp,rfl⟩
 |y::l,k=>by
  by_cases h:del y=true
  ·left
   exact ⟨[],y,l,rfl,by simp,h,by simp [eC,h]⟩
  ·rcases lC del l (k + 1) with ⟨p, x, q, h1, h2, h3, h4⟩ | ⟨h1, h2⟩
   ·left
    refine ⟨y::p,x,q,by rw [h1];rfl,fun c hc=>?_,h3,?_⟩
    ·rcases List.mem_cons.1 hc with rfl | hc
     ·simpa using h
     ·exact h2 c hc
    ·unfold eC;rw [if_neg h,h4,List.length_cons,show k+1+p.length=k+(p.length+1) by omega]
   ·right
    refine ⟨fun c hc=>?_,by unfold eC;rw [if_neg h,h2]⟩
    rcases List.mem_cons.1 hc with rfl|hc
    ·simpa using h
    ·exact h1 c hc
theorem sy {del:ByteArray→Bool} {l:List ByteArray} (h:∀c∈l,del c=false):l.filter (fun c => !del c)=l:=List.filter_eq_self.2 fun c hc=>by rw [h c hc];rfl
section
variable {m3:AO} {m4:Fx} {m5 m6:fD}
theorem kH99 (v:ByteArray):ak (FH99 v m3 m4 m5 m6)=some (!(ay .str false m5 v),m3,m4,m5,m6,()):=rfl
theorem aeC {l:List ByteArray} (hl:l.length<1000000000):ak (FH119 l.length l m3 m4 m5 m6)=some ((match eC (fun v => !(ay .str false m5 v)) 0 l with|some k=>((k:Nat):Int)|none => -1),m3,m4,m5,m6,l,()):=by
 have hi := aK (f := fun a => run (fun _ => none) (gH119_0 a)) l (fun k (_ : Nat) => (l.length, ((l.length : Nat) : Int), (k : Int), l, m3, m4, m5, m6, ())) (fun k r => match eC (fun v => !(ay .str false m5 v)) k r with | some k => .inl (((k : Nat) : Int), m3, m4, m5, m6, l, ()) | none => .inr (m3, m4, m5, m6, l, ())) (fun pre k => k = pre.length) (by
  rintro pre x post k hx rfl
  have hlen:l.length=pre.length+(post.length+1):=by rw [hx];simp
  have hd:l.getD pre.length (bs [])=x:=by rw [hx];exact aR rfl
  have i1:ew (pre.length:Int) ((l.length:Nat):Int)=true:=bF (by omega) (by omega)
  have r1:eN .i64 ((pre.length:Int)+1)=true:=aH (by omega) (by omega)
  have d1:decide (pre.length<l.length)=true:=decide_eq_true (by omega)
  simp only [gH119_0,av,aA,aU,aY,aN,aa,Int.toNat_natCast,Nat.zero_add,hd,kH99,aP,i1,r1,d1,ah,aX]
  rw [if_pos (by omega)]
  by_cases h:(!(ay .str false m5 x))=true
  ·right;rw [h,bO];simp only [eC,h,if_true]
  ·left
   refine ⟨pre.length+1,?_⟩
   rw [Gt (by simpa using h)]
   refine ⟨rfl,by simp,?_⟩
   simp only [eC,h,if_false];rfl) (by
  rintro k _
  simp only [gH119_0,av,aX,aa]
  rw [if_neg (by omega)];rfl) (s:=0) rfl
 simp only [FH119,aA,bw]
 refine bind_eq hi ?_
 split<;>rfl
theorem kH97 {l:List ByteArray} (hl:l.length<1000000000):∃b,b.length=l.length∧b.take (l.filter fun v => !(!(ay .str false m5 v))).length=l.filter (fun v => !(!(ay .str false m5 v)))∧ak (FH97 l.length l m3 m4 m5 m6)=some (0,(l.filter fun v => !(!(ay .str false m5 v))).length,b,m3,m4,m5,m6,()):=by
 have ZA:=aeC (m3:=m3) (m4:=m4) (m5:=m5) (m6:=m6) hl
 simp only [FH97,aA,bw,av,aa,aN,aY,bJ]
 rw [aq ZA]
 rcases lC (fun v => !(ay .str false m5 v)) l 0 with ⟨p,x,q,h1,h2,h3,h4⟩|⟨h1,h2⟩
 case inr =>
  rw [h2]
  simp only [if_true]
  rw [sy h1]
  exact ⟨l,rfl,List.take_length ..,rfl⟩
 rw [h4]
 simp only [Nat.zero_add]
 have hlen:l.length=p.length+(q.length+1):=by rw [h1];simp
 rw [if_neg (by omega),oC (by omega) (by omega)]
 have hk:l.filter (fun v => !(!(ay .str false m5 v)))=p++q.filter fun v => !(!(ay .str false m5 v)):=by
  have e1:=sy h2
  have e2:(x::q).filter (fun v => !(!(ay .str false m5 v)))=q.filter fun v => !(!(ay .str false m5 v)):=by rw [List.filter_cons_of_neg];simpa using h3
  rw [h1,List.filter_append,e2]
  rw [show p.filter (fun v => !(!(ay .str false m5 v)))=p from e1]
 obtain ⟨res, hres, m, b, rfl, hb, hm, ht⟩ := ID (step := fun a => run (fun _ => none) (gH97_0 a)) q.length
  (fun k x=>∃(i:Nat) (b:List ByteArray),x=(l.length,(i:Int),((p.length+1+k:Nat):Int),b,m3,m4,m5,m6,())∧b.length=l.length∧i≤p.length+k∧b.take i=p++(q.take k).filter (fun v => !(!(ay .str false m5 v)))∧b.drop (p.length+1+k)=q.drop k)
  (fun r => ∃ (m : Nat) (b : List ByteArray), r = (l.length, (m : Int), b, m3, m4, m5, m6, ()) ∧ b.length = l.length ∧ m ≤ l.length ∧ b.take m = p ++ q.filter fun v => !(!(ay .str false m5 v))) (by
   rintro k _ hk ⟨i,b,rfl,hb,hi,ht,hd⟩
   have hx:b.getD (p.length+1+k) (bs [])=q.getD k (bs []):=by
    have:=congrArg (fun l=>l.getD 0 (bs [])) hd
    simpa [List.getD_eq_getElem?_getD] using this
   have ZB:q.take (k+1)=q.take k++[q.getD k (bs [])]:=by
    rw [List.take_succ_eq_append_getElem hk];simp [List.getD_eq_getElem?_getD,List.getElem?_eq_getElem hk]
   generalize q.getD k (bs [])=y at hx ZB
   have i1:ew ((p.length+1+k:Nat):Int) ((l.length:Nat):Int)=true:=bF (by omega) (by omega)
   have i2:ew (i:Int) ((l.length:Nat):Int)=true:=bF (by omega) (by omega)
   have d1:decide (p.length+1+k<b.length)=true:=decide_eq_true (by omega)
   have d2:decide (i<b.length)=true:=decide_eq_true (by omega)
   have r1:eN .i64 ((i:Int)+1)=true:=aH (by omega) (by omega)
   have r2:eN .i64 (((p.length+1+k:Nat):Int)+1)=true:=aH (by omega) (by omega)
   simp only [gH97_0,av,aA,aU,aY,aN,aa,Int.toNat_natCast,Nat.zero_add,hx,kH99,aP,i1,i2,d1,d2,r1,r2,ah,aX]
   rw [if_pos (by omega)]
   by_cases hy:(!(ay .str false m5 y))=true
   ·refine ⟨_, by rw [Gt (by rw [hy]; rfl)], i, b, by rw [show ((p.length + 1 + (k + 1) : Nat) : Int) = ((p.length + 1 + k : Nat) : Int) + 1 by omega], hb, by omega, ?_, ?_⟩
    ·rw [ht,ZB,List.filter_append,List.filter_cons_of_neg (by rw [hy];simp)];simp
    ·have := congrArg (List.drop 1) hd
     simpa [List.drop_drop,Nat.add_assoc] using this
   ·refine ⟨_, by rw [Ny (by rw [Bool.eq_false_iff.2 hy]; rfl)], i + 1, b.set i y, by rw [show ((p.length + 1 + (k + 1) : Nat) : Int) = ((p.length + 1 + k : Nat) : Int) + 1 by omega, show ((i + 1 : Nat) : Int) = (i : Int) + 1 by omega], by simp [hb], by omega, ?_, ?_⟩
    ·have e:(b.set i y).take (i+1)=b.take i++[y]:=by
      rw [List.take_succ_eq_append_getElem (by simp;omega)]
      simp [List.take_set_of_le]
     rw [e,ht,ZB,List.filter_append,List.filter_cons_of_pos (by simpa using hy)];simp
    ·have := congrArg (List.drop 1) hd
     rw [List.drop_set_of_lt (by omega)]
     simpa [List.drop_drop,Nat.add_assoc] using this) (by
   rintro _ ⟨i,b,rfl,hb,hi,ht,hd⟩
   simp only [gH97_0,av,aa,aX]
   rw [if_neg (by omega)]
   exact ⟨_,rfl,i,b,rfl,hb,by omega,by rw [ht,List.take_length]⟩) (x:=(l.length,(p.length:Int),(p.length:Int)+1,l,m3,m4,m5,m6,())) ⟨p.length,l,by simp,rfl,by omega,by rw [h1];simp,by rw [h1];simp⟩
 rw [aq hres]
 have hml:m=(l.filter fun v => !(!(ay .str false m5 v))).length:=by rw [hk,←ht,List.length_take];omega
 simp only [Int.toNat_natCast,Nat.zero_add,AZ,Int.toNat_zero,Nat.sub_zero]
 rw [cm (by omega),cm (by omega),cm (by omega),cm (by omega),cm (by omega),cm (by omega)]
 refine ⟨b.take m++List.replicate (l.length - m) (bs [])++b.drop (m+(l.length - m)),?_,?_,by rw [←hml]⟩
 ·simp only [List.length_append,List.length_take,List.length_replicate,List.length_drop];omega
 ·rw [←hml,List.take_append_of_le_length (by simp;omega),List.take_append_of_le_length (by simp;omega),List.take_take,Nat.min_self,ht,hk]
theorem We (v:ByteArray):ak (FH123 v m3 m4 m5 m6)=some (ay .str false m6 v,m3,m4,m5,m6,()):=rfl
theorem Pw {l:List ByteArray} (hl:l.length<1000000000):ak (FH119_v1 l.length l m3 m4 m5 m6)=some ((match eC (fun v=>ay .str false m6 v) 0 l with|some k=>((k:Nat):Int)|none => -1),m3,m4,m5,m6,l,()):=by
 have hi := aK (f := fun a => run (fun _ => none) (gH119_v1_0 a)) l (fun k (_ : Nat) => (l.length, ((l.length : Nat) : Int), (k : Int), l, m3, m4, m5, m6, ())) (fun k r => match eC (fun v => ay .str false m6 v) k r with | some k => .inl (((k : Nat) : Int), m3, m4, m5, m6, l, ()) | none => .inr (m3, m4, m5, m6, l, ())) (fun pre k => k = pre.length) (by
  rintro pre x post k hx rfl
  have hlen:l.length=pre.length+(post.length+1):=by rw [hx];simp
  have hd:l.getD pre.length (bs [])=x:=by rw [hx];exact aR rfl
  have i1:ew (pre.length:Int) ((l.length:Nat):Int)=true:=bF (by omega) (by omega)
  have r1:eN .i64 ((pre.length:Int)+1)=true:=aH (by omega) (by omega)
  have d1:decide (pre.length<l.length)=true:=decide_eq_true (by omega)
  simp only [gH119_v1_0,av,aA,aU,aY,aN,aa,Int.toNat_natCast,Nat.zero_add,hd,We,aP,i1,r1,d1,ah,aX]
  rw [if_pos (by omega)]
  by_cases h:(ay .str false m6 x)=true
  ·right;rw [h,bO];simp only [eC,h,if_true]
  ·left
   refine ⟨pre.length+1,?_⟩
   rw [Gt (by simpa using h)]
   refine ⟨rfl,by simp,?_⟩
   simp only [eC,h,if_false];rfl) (by
  rintro k _
  simp only [gH119_v1_0,av,aX,aa]
  rw [if_neg (by omega)];rfl) (s:=0) rfl
 simp only [FH119_v1,aA,bw]
 refine bind_eq hi ?_
 split<;>rfl
theorem T4 {l:List ByteArray} (hl:l.length<1000000000):∃b,b.length=l.length∧b.take (l.filter fun v => !(ay .str false m6 v)).length=l.filter (fun v => !(ay .str false m6 v))∧ak (FH97_v1 l.length l m3 m4 m5 m6)=some (0,(l.filter fun v => !(ay .str false m6 v)).length,b,m3,m4,m5,m6,()):=by
 have ZA:=Pw (m3:=m3) (m4:=m4) (m5:=m5) (m6:=m6) hl
 simp only [FH97_v1,aA,bw,av,aa,aN,aY,bJ]
 rw [aq ZA]
 rcases lC (fun v=>ay .str false m6 v) l 0 with ⟨p,x,q,h1,h2,h3,h4⟩|⟨h1,h2⟩
 case inr =>
  rw [h2]
  simp only [if_true]
  rw [sy h1]
  exact ⟨l,rfl,List.take_length ..,rfl⟩
 rw [h4]
 simp only [Nat.zero_add]
 have hlen:l.length=p.length+(q.length+1):=by rw [h1];simp
 rw [if_neg (by omega),oC (by omega) (by omega)]
 have hk:l.filter (fun v => !(ay .str false m6 v))=p++q.filter fun v => !(ay .str false m6 v):=by
  have e1:=sy h2
  have e2:(x::q).filter (fun v => !(ay .str false m6 v))=q.filter fun v => !(ay .str false m6 v):=by rw [List.filter_cons_of_neg];simpa using h3
  rw [h1,List.filter_append,e2]
  rw [show p.filter (fun v => !(ay .str false m6 v))=p from e1]
 obtain ⟨res, hres, m, b, rfl, hb, hm, ht⟩ := ID (step := fun a => run (fun _ => none) (gH97_v1_0 a)) q.length
  (fun k x=>∃(i:Nat) (b:List ByteArray),x=(l.length,(i:Int),((p.length+1+k:Nat):Int),b,m3,m4,m5,m6,())∧b.length=l.length∧i≤p.length+k∧b.take i=p++(q.take k).filter (fun v => !(ay .str false m6 v))∧b.drop (p.length+1+k)=q.drop k)
  (fun r => ∃ (m : Nat) (b : List ByteArray), r = (l.length, (m : Int), b, m3, m4, m5, m6, ()) ∧ b.length = l.length ∧ m ≤ l.length ∧ b.take m = p ++ q.filter fun v => !(ay .str false m6 v)) (by
   rintro k _ hk ⟨i,b,rfl,hb,hi,ht,hd⟩
   have hx:b.getD (p.length+1+k) (bs [])=q.getD k (bs []):=by
    have:=congrArg (fun l=>l.getD 0 (bs [])) hd
    simpa [List.getD_eq_getElem?_getD] using this
   have ZB:q.take (k+1)=q.take k++[q.getD k (bs [])]:=by
    rw [List.take_succ_eq_append_getElem hk];simp [List.getD_eq_getElem?_getD,List.getElem?_eq_getElem hk]
   generalize q.getD k (bs [])=y at hx ZB
   have i1:ew ((p.length+1+k:Nat):Int) ((l.length:Nat):Int)=true:=bF (by omega) (by omega)
   have i2:ew (i:Int) ((l.length:Nat):Int)=true:=bF (by omega) (by omega)
   have d1:decide (p.length+1+k<b.length)=true:=decide_eq_true (by omega)
   have d2:decide (i<b.length)=true:=decide_eq_true (by omega)
   have r1:eN .i64 ((i:Int)+1)=true:=aH (by omega) (by omega)
   have r2:eN .i64 (((p.length+1+k:Nat):Int)+1)=true:=aH (by omega) (by omega)
   simp only [gH97_v1_0,av,aA,aU,aY,aN,aa,Int.toNat_natCast,Nat.zero_add,hx,We,aP,i1,i2,d1,d2,r1,r2,ah,aX]
   rw [if_pos (by omega)]
   by_cases hy:(ay .str false m6 y)=true
   ·refine ⟨_, by rw [Gt (by rw [hy]; rfl)], i, b, by rw [show ((p.length + 1 + (k + 1) : Nat) : Int) = ((p.length + 1 + k : Nat) : Int) + 1 by omega], hb, by omega, ?_, ?_⟩
    ·rw [ht,ZB,List.filter_append,List.filter_cons_of_neg (by rw [hy];simp)];simp
    ·have := congrArg (List.drop 1) hd
     simpa [List.drop_drop,Nat.add_assoc] using this
   ·refine ⟨_, by rw [Ny (by rw [Bool.eq_false_iff.2 hy]; rfl)], i + 1, b.set i y, by rw [show ((p.length + 1 + (k + 1) : Nat) : Int) = ((p.length + 1 + k : Nat) : Int) + 1 by omega, show ((i + 1 : Nat) : Int) = (i : Int) + 1 by omega], by simp [hb], by omega, ?_, ?_⟩
    ·have e:(b.set i y).take (i+1)=b.take i++[y]:=by
      rw [List.take_succ_eq_append_getElem (by simp;omega)]
      simp [List.take_set_of_le]
     rw [e,ht,ZB,List.filter_append,List.filter_cons_of_pos (by simpa using hy)];simp
    ·have := congrArg (List.drop 1) hd
     rw [List.drop_set_of_lt (by omega)]
     simpa [List.drop_drop,Nat.add_assoc] using this) (by
   rintro _ ⟨i,b,rfl,hb,hi,ht,hd⟩
   simp only [gH97_v1_0,av,aa,aX]
   rw [if_neg (by omega)]
   exact ⟨_,rfl,i,b,rfl,hb,by omega,by rw [ht,List.take_length]⟩) (x:=(l.length,(p.length:Int),(p.length:Int)+1,l,m3,m4,m5,m6,())) ⟨p.length,l,by simp,rfl,by omega,by rw [h1];simp,by rw [h1];simp⟩
 rw [aq hres]
 have hml:m=(l.filter fun v => !(ay .str false m6 v)).length:=by rw [hk,←ht,List.length_take];omega
 simp only [Int.toNat_natCast,Nat.zero_add,AZ,Int.toNat_zero,Nat.sub_zero]
 rw [cm (by omega),cm (by omega),cm (by omega),cm (by omega),cm (by omega),cm (by omega)]
 refine ⟨b.take m++List.replicate (l.length - m) (bs [])++b.drop (m+(l.length - m)),?_,?_,by rw [←hml]⟩
 ·simp only [List.length_append,List.length_take,List.length_replicate,List.length_drop];omega
 ·rw [←hml,List.take_append_of_le_length (by simp;omega),List.take_append_of_le_length (by simp;omega),List.take_take,Nat.min_self,ht,hk]
end
end Go.Proofs.Tryz
end
section
namespace Go.Proofs.Tryz
open Go.AM
set_option maxRecDepth 100000
abbrev zM:Mg:=(bs [],(0:Int),bs [],bs [],(0:Int))
def jo (es:AO) (m:Mg):AO:=if aM .str es m.1=true then es else aZ .str es m.1 m
def qg (L:List Mg):AO:=L.foldl jo []
def cnt (L:List Mg):List Mg:=(qg L).map (·.2)
theorem yz {es:AO} (h:gK .str es) (m:Mg):gK .str (jo es m):=by
 unfold jo;split
 ·exact h
 ·exact h.ig kS
theorem yA : ∀ {L : List Mg} {es : AO}, gK .str es → gK .str (L.foldl jo es)
 |[],_,h=>h
 |m::L,es,h=>yA (L:=L) (es:=jo es m) (yz h m)
theorem Li (L:List Mg):gK .str (qg L):=yA .nil
theorem yB : ∀ {L : List Mg} {es : AO} {e : ByteArray × Mg}, gK .str es → (e ∈ L.foldl jo es ↔ e ∈ es ∨ (aM .str es e.1 = false ∧ ∃ pre post, L = pre ++ e.2 :: post ∧ e.2.1 = e.1 ∧ ∀ x ∈ pre, x.1 ≠ e.1))
 |[],es,e,_=>by simp
 |m::L,es,e,h=>by
  rw [List.foldl_cons,yB (yz h m)]
  have hs:jo es m=es∧aM .str es m.1=true∨jo es m=aZ .str es m.1 m∧aM .str es m.1=false:=by
   unfold jo
   cases hm:aM .str es m.1
   ·right;simp
   ·left;simp
  rcases hs with ⟨hs,hm⟩|⟨hs,hm⟩
  ·rw [hs]
   refine or_congr_right ?_
   constructor
   ·rintro ⟨h1, pre, post, rfl, h2, h3⟩
    refine ⟨h1,m::pre,post,rfl,h2,fun x hx=>?_⟩
    rcases List.mem_cons.1 hx with rfl|hx
    ·intro e';rw [e'] at hm;rw [hm] at h1;cases h1
    ·exact h3 x hx
   ·rintro ⟨h1, pre, post, h2, h3, h4⟩
    cases pre with
    |nil =>
     simp only [List.nil_append,List.cons.injEq] at h2
     rw [h2.1] at hm;rw [h3] at hm;rw [hm] at h1;cases h1
    |cons p pre =>
     simp only [List.cons_append,List.cons.injEq] at h2
     exact ⟨h1,pre,post,h2.2,h3,fun x hx=>h4 x (List.mem_cons_of_mem _ hx)⟩
  ·rw [hs, fP kS h, pH kS h]
   have hk:∀{v:Mg},(m.1,v)∉es:=fun {v} hv=>by rw [(dx kS).2 ⟨v,hv⟩] at hm;cases hm
   constructor
   ·rintro ((h1 | ⟨h1, _⟩) | ⟨h1, pre, post, rfl, h2, h3⟩)
    ·subst h1
     exact .inr ⟨hm,[],L,rfl,rfl,by simp⟩
    ·exact .inl h1
    ·simp only [Bool.or_eq_false_iff] at h1
     have hne:e.1≠m.1:=fun e'=>by have:=h1.1;rw [e',jK kS] at this;cases this
     refine .inr ⟨h1.2,m::pre,post,rfl,h2,fun x hx=>?_⟩
     rcases List.mem_cons.1 hx with rfl|hx
     ·exact Ne.symm hne
     ·exact h3 x hx
   ·rintro (h1 | ⟨h1, pre, post, h2, h3, h4⟩)
    ·refine .inl (.inr ⟨h1, fun e' => ?_⟩)
     obtain ⟨a,b⟩:=e
     simp only at e';subst e';exact hk h1
    ·cases pre with
     |nil =>
      simp only [List.nil_append,List.cons.injEq] at h2
      obtain ⟨a,b⟩:=e
      simp only at h2 h3
      exact .inl (.inl (by rw [←h3,h2.1]))
     |cons p pre =>
      simp only [List.cons_append,List.cons.injEq] at h2
      have hne:e.1≠m.1:=fun e'=>by
       have:=h4 p (List.mem_cons_self ..)
       rw [←h2.1,e'] at this;exact this rfl
      refine .inr ⟨?_,pre,post,h2.2,h3,fun x hx=>h4 x (List.mem_cons_of_mem _ hx)⟩
      rw [Bool.or_eq_false_iff]
      refine ⟨?_,h1⟩
      cases hd:dI .str e.1 m.1 with
      |false=>rfl
      |true=>exact absurd (bH hd) hne
theorem tU {L:List Mg} {e:ByteArray×Mg}:e∈qg L↔∃pre post,L=pre++e.2::post∧e.2.1=e.1∧∀x∈pre,x.1≠e.1:=by
 unfold qg
 rw [yB .nil]
 simp [aM]
theorem E0 {L:List Mg} {e:ByteArray×Mg} (h:e∈qg L):e.2.1=e.1:=by
 obtain ⟨_,_,_,h,_⟩:=tU.1 h;exact h
theorem E1 (L:List Mg):qg L=(cnt L).map fun m=>(m.1,m):=by
 unfold cnt
 rw [List.map_map]
 conv=>lhs;rw [←List.map_id (qg L)]
 refine List.map_congr_left fun e he=>?_
 have:=E0 he
 obtain ⟨a,b⟩:=e
 simp only at this;subst this;rfl
theorem Jl {L:List Mg} {m:Mg}:m∈cnt L↔(m.1,m)∈qg L:=by
 unfold cnt
 rw [List.mem_map]
 constructor
 ·rintro ⟨e, he, rfl⟩
  have:=E0 he
  obtain ⟨a,b⟩:=e
  simp only at this;subst this;exact he
 ·intro h;exact ⟨_,h,rfl⟩
def SI (c:List Mg):Prop:=c.Pairwise fun a b=>slt a.1 b.1=true
theorem iG (L:List Mg):SI (cnt L):=by
 have h:=Li L
 rw [E1] at h
 unfold gK at h;rw [List.pairwise_map] at h;exact h
theorem SI.cam {c:List Mg} (h:SI c):gK .str (c.map fun m=>(m.1,m)):=by
 unfold gK;rw [List.pairwise_map];exact h
theorem SI.inj {c:List Mg} (h:SI c) {m m':Mg} (hm:m∈c) (hm':m'∈c) (e:m.1=m'.1):m=m':=by
 have h1:=fO (d:=zM) kS h.cam (List.mem_map.2 ⟨m,hm,rfl⟩)
 have h2:=fO (d:=zM) kS h.cam (List.mem_map.2 ⟨m',hm',rfl⟩)
 rw [←h1,←h2,e]
theorem vK {L:List Mg} {m:Mg} (h:m∈cnt L):m∈L:=by
 obtain ⟨pre,post,h,_⟩:=tU.1 (Jl.1 h)
 rw [h];simp
theorem T5 {L:List Mg} (hL:SL L) {m:Mg}:m∈cnt L↔m∈L∧∀x∈L,x.1=m.1→x=m∨fR tM m x=true:=by
 rw [Jl,tU]
 constructor
 ·rintro ⟨pre, post, h, _, h2⟩
  simp only at h h2
  subst h
  refine ⟨by simp,fun x hx e=>?_⟩
  rcases List.mem_append.1 hx with hx|hx
  ·exact absurd e (h2 x hx)
  ·rcases List.mem_cons.1 hx with rfl | hx
   ·exact .inl rfl
   ·unfold SL at hL
    rw [List.pairwise_append,List.pairwise_cons] at hL
    exact .inr (hL.2.1.1 x hx)
 ·rintro ⟨h1, h2⟩
  obtain ⟨pre,post,h⟩:=List.append_of_mem h1
  refine ⟨pre,post,h,rfl,fun x hx e=>?_⟩
  subst h
  unfold SL at hL
  rw [List.pairwise_append] at hL
  have h3:=hL.2.2 x hx m (List.mem_cons_self ..)
  rcases h2 x (by simp [hx]) e with rfl|h4
  ·rw [gU kM] at h3;cases h3
  ·exact dw kM h3 h4
theorem aeD {L:List Mg} {m1:List (Mg×Bool)} (hl:L.length<1000000000):iter (fun x=>ak (gH66_0 x)) (L.length,((L.length:Nat):Int),(0:Int),L,m1,[],[],[],[],())=some (m1,qg L,[],[],[],()):=by
 refine aK L (fun k (es:AO)=>(L.length,((L.length:Nat):Int),(k:Int),L,m1,es,[],[],[],())) (fun es r=>(m1,r.foldl jo es,[],[],[],())) (fun _ _=>True) ?_ ?_ (s:=[]) trivial
 ·intro pre x post es hx _
  have hlen:L.length=pre.length+(post.length+1):=by rw [hx];simp
  have hd:L.getD pre.length zM=x:=by rw [hx];exact aR rfl
  have i1:ew (pre.length:Int) ((L.length:Nat):Int)=true:=bF (by omega) (by omega)
  have r1:eN .i64 ((pre.length:Int)+1)=true:=aH (by omega) (by omega)
  have d1:decide (pre.length<L.length)=true:=decide_eq_true (by omega)
  left
  refine ⟨jo es x,?_,trivial,rfl⟩
  simp only [gH66_0,av,aU,aY,aN,aa,Int.toNat_natCast,Nat.zero_add,hd,i1,r1,d1,ah,aX]
  rw [if_pos (by omega)]
  unfold jo
  cases hm:aM .str es x.1
  ·rw [Ny (by rfl)];rfl
  ·rw [Gt (by rfl)];rfl
 ·intro es _
  simp only [gH66_0,av,aa,aX]
  rw [if_neg (by omega)]
  rfl
theorem T6 {c:List Mg} (h:SI c) (hl:c.length<1000000000):ak (FH81 (c.map fun m=>(m.1,m)))=some (c.length,c.map (·.1),c.map (fun m=>(m.1,m)),()):=by
 unfold FH81
 refine Eq.trans B3 (gA fun l hp=>?_)
 have yP:l.length=c.length:=by rw [hp.length_eq,List.length_map]
 simp only [aA,B4]
 refine bind_eq (sx (m:=c.map fun m=>(m.1,m)) (l:=l) (by rw [yP];exact hl) fun e n b hn=>?_) ?_
 ·simp only [gH81f107f126_0i_0, aY, aa, dF, ah]
  rw [cm (show _<cg by rw [fU];simp;omega)]
  rfl
 ·simp only [FH105, xI]
  have hpk:(c.map (·.1)).Perm (l.map (·.1)):=by
   have:=(hp.map (·.1)).symm
   rwa [List.map_map] at this
  have hs:AD .str (c.map (·.1)):=by
   have:=h.cam.keys kS
   rwa [List.map_map] at this
  have:=oR kS hpk hs (by rw [List.length_map];omega)
  rw [List.length_map] at this
  rw [aq this,yP]
  rfl
def kids (c:List Mg) (x:ByteArray):List ByteArray:=(c.filter fun m=>decide (m.2.1=2∧m.2.2.1=x)).map (·.1)
def fQ (c:List Mg) (x:ByteArray):Bool:=c.any fun m=>decide (m.2.1=3∧m.2.2.1=x)
def jq (t:Fx) (m:Mg):Fx:=if m.2.1=2 then aZ .str t m.2.2.1 (ay .str [] t m.2.2.1++[m.1]) else t
def jr (t:fD) (m:Mg):fD:=if m.2.1=3 then aZ .str t m.2.2.1 true else t
def bM (c:List Mg):Fx:=c.foldl jq []
def cD (c:List Mg):fD:=c.foldl jr []
theorem Hs {t:Fx} (h:gK .str t) (m:Mg):gK .str (jq t m):=by
 unfold jq;split
 ·exact h.ig kS
 ·exact h
theorem Hu {t:fD} (h:gK .str t) (m:Mg):gK .str (jr t m):=by
 unfold jr;split
 ·exact h.ig kS
 ·exact h
theorem yC : ∀ {c : List Mg} {t : Fx}, gK .str t → gK .str (c.foldl jq t) ∧ (∀ x, ay .str [] (c.foldl jq t) x = ay .str [] t x ++ kids c x) ∧ ∀ x, aM .str (c.foldl jq t) x = (aM .str t x || !(kids c x).isEmpty)
 |[],t,h=>⟨h,fun x=>by simp [kids],fun x=>by simp [kids]⟩
 |m::c,t,h=>by
  obtain ⟨h1,h2,h3⟩:=yC (c:=c) (Hs h m)
  refine ⟨h1,fun x=>?_,fun x=>?_⟩
  ·rw [List.foldl_cons, h2]
   unfold jq kids
   by_cases hk:m.2.1=2
   ·rw [if_pos hk, Lh kS h]
    by_cases hx:m.2.2.1=x
    ·subst hx
     rw [if_pos (jK kS),List.filter_cons_of_pos (by simp [hk])]
     simp
    ·rw [if_neg (fun h=>hx (bH h).symm),List.filter_cons_of_neg (by simp [hx])]
   ·rw [if_neg hk,List.filter_cons_of_neg (by simp [hk])]
  ·rw [List.foldl_cons, h3]
   unfold jq kids
   by_cases hk:m.2.1=2
   ·rw [if_pos hk, pH kS h]
    by_cases hx:m.2.2.1=x
    ·subst hx
     rw [jK kS,List.filter_cons_of_pos (by simp [hk])]
     simp
    ·have:dI .str x m.2.2.1=false:=by
      cases hd:dI .str x m.2.2.1 with
      |false=>rfl
      |true=>exact absurd (bH hd).symm hx
     rw [this,List.filter_cons_of_neg (by simp [hx]),Bool.false_or]
   ·rw [if_neg hk,List.filter_cons_of_neg (by simp [hk])]
theorem Jm (c:List Mg):gK .str (bM c):=(yC .nil).1
theorem vL (c:List Mg) (x:ByteArray):ay .str [] (bM c) x=kids c x:=by
 exact ((yC (c:=c) (t:=[]) .nil).2.1 x).trans (by simp [ay])
theorem Jn (c:List Mg) (x:ByteArray):aM .str (bM c) x = !(kids c x).isEmpty:=by
 exact ((yC (c:=c) (t:=[]) .nil).2.2 x).trans (by simp [aM])
theorem vM {c:List Mg} {e:ByteArray×List ByteArray}:e∈bM c↔e.2=kids c e.1∧kids c e.1≠[]:=by
 constructor
 ·intro h
  have h1:=fO (d:=[]) kS (Jm c) (show (e.1,e.2)∈bM c from h)
  rw [vL] at h1
  refine ⟨h1.symm,fun h2=>?_⟩
  have h3:=(dx kS).2 ⟨e.2,(show (e.1,e.2)∈bM c from h)⟩
  rw [Jn,h2] at h3;cases h3
 ·rintro ⟨h1, h2⟩
  have h3:aM .str (bM c) e.1=true:=by
   rw [Jn]
   cases hk:kids c e.1 with
   |nil=>exact absurd hk h2
   |cons _ _=>rfl
  obtain ⟨v,hv⟩:=(dx kS).1 h3
  have h4:=fO (d:=[]) kS (Jm c) hv
  rw [vL] at h4
  obtain ⟨a,b⟩:=e
  simp only at h1 h4 hv
  rw [h1,h4];exact hv
theorem Px : ∀ {c : List Mg} {t : fD}, gK .str t → (∀ e ∈ t, e.2 = true) → gK .str (c.foldl jr t) ∧ (∀ e ∈ c.foldl jr t, e.2 = true) ∧ ∀ x, aM .str (c.foldl jr t) x = (aM .str t x || fQ c x)
 |[],t,h,ht=>⟨h,ht,fun x=>by simp [fQ]⟩
 |m::c,t,h,ht=>by
  obtain ⟨h1, h0, h2⟩ := Px (c := c) (Hu h m) (by
   unfold jr;split
   ·exact Pq kS h ht
   ·exact ht)
  refine ⟨h1,h0,fun x=>?_⟩
  rw [List.foldl_cons,h2]
  unfold jr fQ
  by_cases hk:m.2.1=3
  ·rw [if_pos hk, pH kS h, List.any_cons]
   have:dI .str x m.2.2.1=decide (m.2.1=3∧m.2.2.1=x):=by
    rw [vJ];exact decide_eq_decide.2 ⟨fun e=>⟨hk,e.symm⟩,fun e=>e.2.symm⟩
   rw [this,Bool.or_comm (decide _) (aM .str t x),Bool.or_assoc]
  ·rw [if_neg hk, List.any_cons]
   simp [hk]
theorem T7 (c:List Mg) (x:ByteArray):ay .str false (cD c) x=fQ c x:=by
 have h:=Px (c:=c) (t:=[]) .nil (fun e h=>by cases h)
 rw [show cD c=c.foldl jr [] from rfl,Pr kS h.1 h.2.1,h.2.2]
 simp [aM]
theorem oS (c:List Mg) (x:ByteArray):(kids c x).length≤c.length:=by
 unfold kids;rw [List.length_map];exact List.length_filter_le ..
theorem aeE {c:List Mg} {m1:List (Mg×Bool)} (h:SI c) (hl:c.length<1000000):iter (fun x=>ak (gH66_1 x)) (c.length,((c.length:Nat):Int),(0:Int),c.map (·.1),m1,c.map (fun m=>(m.1,m)),[],[],[],()) =
  some (m1,c.map (fun m=>(m.1,m)),bM c,cD c,[],()):=by
 have yP:(c.map (·.1)).length=c.length:=List.length_map ..
 refine aK c (fun k (s : Fx × fD) => (c.length, ((c.length : Nat) : Int), (k : Int), c.map (·.1), m1, c.map (fun m => (m.1, m)), s.1, s.2, [], ())) (fun s r => (m1, c.map (fun m => (m.1, m)), r.foldl jq s.1, r.foldl jr s.2, [], ()))
  (fun pre s=>s.1=pre.foldl jq []) ?_ ?_ (s:=([],[])) rfl
 ·rintro pre x post ⟨t, r⟩ hx ht
  simp only at ht
  have hlen:c.length=pre.length+(post.length+1):=by rw [hx];simp
  have hd:(c.map (·.1)).getD pre.length (bs [])=x.1:=by rw [hx,List.map_append,List.map_cons];exact aR (by simp)
  have hg:ay .str zM (c.map fun m=>(m.1,m)) x.1=x:=fO kS h.cam (List.mem_map.2 ⟨x,by rw [hx];simp,rfl⟩)
  have i1:ew (pre.length:Int) ((c.length:Nat):Int)=true:=bF (by omega) (by omega)
  have r1:eN .i64 ((pre.length:Int)+1)=true:=aH (by omega) (by omega)
  have d1:decide (pre.length<(c.map (·.1)).length)=true:=decide_eq_true (by omega)
  left
  refine ⟨(jq t x,jr r x),?_,by simp only;rw [ht,List.foldl_append];rfl,rfl⟩
  simp only [gH66_1,av,aU,aY,aN,aa,Int.toNat_natCast,Nat.zero_add,hd,hg,i1,r1,d1,ah,aX,bJ]
  rw [if_pos (by omega)]
  unfold jq jr
  by_cases h3:x.2.1=3
  ·rw [if_pos h3,if_pos h3,if_neg (by omega)];rfl
  ·rw [if_neg h3, if_neg h3]
   by_cases h2:x.2.1=2
   ·rw [if_pos h2, if_pos h2]
    have hlt:(ay .str [] t x.2.2.1).length≤c.length:=by
     have:=(yC (c:=pre) (t:=[]) .nil).2.1 x.2.2.1
     rw [←ht] at this
     rw [this]
     have:=oS pre x.2.2.1
     simp only [ay,List.nil_append];omega
    rw [cm (show _<cg by rw [fU];omega)]
    rfl
   ·rw [if_neg h2,if_neg h2];rfl
 ·rintro ⟨t, r⟩ _
  simp only [gH66_1,av,aa,aX]
  rw [if_neg (by omega)]
  rfl
end Go.Proofs.Tryz
end
section
namespace Go.Proofs.Tryz
open Go.AM
set_option maxRecDepth 100000
theorem T8 {A B : Type} {F : (A → Option B) → A → Option B} (R : A → B → Prop) (m : A → Nat)
  (h:∀rec x y,R x y→(∀x' y',R x' y'→m x'<m x→rec x'=some y')→F rec x=some y):∀x y,R x y→xG F x=some y:=by
 have key:∀n x y,R x y→m x<n→Lx F n x=some y:=by
  intro n
  induction n with
  |zero=>intro x y _ hm;omega
  |succ n ih=>intro x y hx hm;exact h _ x y hx fun x' y' hx' hm'=>ih x' y' hx' (by omega)
 intro x y hx
 exact Iy (N:=m x+1) fun n hn=>key n x y hx (by omega)
structure oT (S:fD):Prop where
 c:gK .str S
 t:∀e∈S,e.2=true
theorem oT.nil:oT []:=⟨.nil,fun e h=>by cases h⟩
theorem oT.put {S:fD} (h:oT S) (x:ByteArray):oT (aZ .str S x true):=⟨h.c.ig kS,Pq kS h.c h.t⟩
abbrev has (S:fD) (x:ByteArray):Bool:=aM .str S x
def Sub (S S':fD):Prop:=∀x,has S x=true→has S' x=true
theorem Sub.rfl {S:fD}:Sub S S:=fun _ h=>h
theorem Sub.trans {S S' BT:fD} (h:Sub S S') (h':Sub S' BT):Sub S BT:=fun x hx=>h' x (h x hx)
theorem pI {S:fD} (h:oT S) {x y:ByteArray}:has (aZ .str S x true) y=true↔y=x∨has S y=true:=by
 unfold has
 rw [pH kS h.c,Bool.or_eq_true,CB kS]
theorem Sub.put {S:fD} (h:oT S) (x:ByteArray):Sub S (aZ .str S x true):=fun y hy=>(pI h).2 (.inr hy)
theorem oT.ext {S S':fD} (h:oT S) (h':oT S') (hx:∀x,has S x=true↔has S' x=true):S=S' :=
 Pt kS h.c h'.c h.t h'.t fun x=>by rw [Bool.eq_iff_iff];exact hx x
section
variable {c:List Mg}
inductive kL (c : List Mg) : ByteArray → ByteArray → Prop
 |refl (x):kL c x x
 |step {x y z} (h:kL c x y) (hz:z∈kids c y):kL c x z
theorem kL.trans {x y z:ByteArray} (h:kL c x y) (h':kL c y z):kL c x z:=by
 induction h' with
 |refl=>exact h
 |step _ hz ih=>exact .step ih hz
theorem kL.cons {x y z:ByteArray} (hy:y∈kids c x) (h:kL c y z):kL c x z:=(kL.step (.refl x) hy).trans h
def ids (c:List Mg):List ByteArray:=c.map (·.1)
theorem ja {x z:ByteArray} (h:z∈kids c x):z∈ids c:=by
 unfold kids at h
 obtain ⟨m,hm,rfl⟩:=List.mem_map.1 h
 exact List.mem_map.2 ⟨m,(List.mem_filter.1 hm).1,rfl⟩
def CW (c:List Mg) (S:fD):Nat:=((ids c).filter fun x => !has S x).length
theorem Py (S:fD):CW c S≤c.length:=by
 unfold CW ids;exact Nat.le_trans (List.length_filter_le ..) (by simp)
theorem nw {α : Type} {p q : α → Bool} : ∀ {l : List α}, (∀ x ∈ l, p x = true → q x = true) → (l.filter p).length ≤ (l.filter q).length
 |[],_=>by simp
 |a::l,h=>by
  have ih:=nw (l:=l) fun x hx=>h x (List.mem_cons_of_mem _ hx)
  by_cases hp:p a=true
  ·rw [List.filter_cons_of_pos hp, List.filter_cons_of_pos (h a (List.mem_cons_self ..) hp)]
   simp only [List.length_cons];omega
  ·rw [List.filter_cons_of_neg hp]
   by_cases hq:q a=true
   ·rw [List.filter_cons_of_pos hq];simp only [List.length_cons];omega
   ·rw [List.filter_cons_of_neg hq];exact ih
theorem sA {α : Type} {p q : α → Bool} : ∀ {l : List α}, (∀ x ∈ l, p x = true → q x = true) → ∀ {y : α}, y ∈ l → q y = true → p y = false → (l.filter p).length < (l.filter q).length
 |[],_,y,h,_,_=>by cases h
 |a::l,h,y,hy,hq,hp=>by
  have hl:∀x∈l,p x=true→q x=true:=fun x hx=>h x (List.mem_cons_of_mem _ hx)
  rcases List.mem_cons.1 hy with rfl|hy
  ·rw [List.filter_cons_of_neg (by rw [hp]; simp), List.filter_cons_of_pos hq]
   have:=nw hl
   simp only [List.length_cons];omega
  ·have ih := sA hl hy hq hp
   by_cases hpa:p a=true
   ·rw [List.filter_cons_of_pos hpa, List.filter_cons_of_pos (h a (List.mem_cons_self ..) hpa)]
    simp only [List.length_cons];omega
   ·rw [List.filter_cons_of_neg hpa]
    by_cases hqa:q a=true
    ·rw [List.filter_cons_of_pos hqa];simp only [List.length_cons];omega
    ·rw [List.filter_cons_of_neg hqa];exact ih
theorem yD {S S':fD} (h:Sub S S'):CW c S'≤CW c S:=nw fun x _ hx=>by
 cases hs:has S x with
 |false=>rfl
 |true=>rw [h x hs] at hx;cases hx
theorem Hv {S:fD} (h:oT S) {x:ByteArray} (hx:x∈ids c) (hn:has S x=false):CW c (aZ .str S x true)<CW c S:=by
 refine sA (fun y _ hy=>?_) hx (by rw [hn];rfl) (by rw [(pI h).2 (.inl rfl)];rfl)
 cases hs:has S y with
 |false=>rfl
 |true=>rw [(pI h).2 (.inr hs)] at hy;cases hy
def cS (c : List Mg) : Nat → ByteArray → fD → fD
 |0,_,S=>S
 |n+1,x,S=>if has S x=true then S else (kids c x).foldl (fun S k=>cS c n k S) (aZ .str S x true)
theorem iM : ∀ {n : Nat} {x : ByteArray} {S : fD}, oT S → oT (cS c n x S) ∧ Sub S (cS c n x S)
 |0,_,_,h=>⟨h,.rfl⟩
 |n+1,x,S,h=>by
  unfold cS
  split
  ·exact ⟨h,.rfl⟩
  ·have key:∀(l:List ByteArray) (S:fD),oT S→oT (l.foldl (fun S k=>cS c n k S) S)∧Sub S (l.foldl (fun S k=>cS c n k S) S):=by
    intro l
    induction l with
    |nil=>intro S h;exact ⟨h,.rfl⟩
    |cons k l ih =>
     intro S h
     obtain ⟨h1,h2⟩:=iM (n:=n) (x:=k) h
     obtain ⟨h3,h4⟩:=ih _ h1
     exact ⟨h3,h2.trans h4⟩
   obtain ⟨h1,h2⟩:=key (kids c x) _ (h.put x)
   exact ⟨h1,(Sub.put h x).trans h2⟩
theorem sB {n : Nat} : ∀ {l : List ByteArray} {S : fD}, oT S → oT (l.foldl (fun S k => cS c n k S) S) ∧ Sub S (l.foldl (fun S k => cS c n k S) S)
 |[],_,h=>⟨h,.rfl⟩
 |k::l,S,h=>by
  obtain ⟨h1,h2⟩:=iM (c:=c) (n:=n) (x:=k) h
  obtain ⟨h3,h4⟩:=sB (l:=l) h1
  exact ⟨h3,h2.trans h4⟩
theorem uG : ∀ {n n' : Nat} {x : ByteArray} {S : fD}, oT S → x ∈ ids c → CW c S < n → CW c S < n' → cS c n x S = cS c n' x S
 |0,_,_,_,_,_,h,_=>by omega
 |_+1,0,_,_,_,_,_,h=>by omega
 |n+1,n'+1,x,S,hS,hx,h,h'=>by
  unfold cS
  split
  ·rfl
  ·rename_i hn
   have hn:has S x=false:=by simpa using hn
   have hlt:=Hv hS hx hn
   have key:∀(l:List ByteArray) (S1:fD),(∀k∈l,k∈ids c)→oT S1→CW c S1<n→CW c S1<n'→l.foldl (fun S k=>cS c n k S) S1=l.foldl (fun S k=>cS c n' k S) S1:=by
    intro l
    induction l with
    |nil=>intro _ _ _ _ _;rfl
    |cons k l ih =>
     intro S1 hk h1 h2 h3
     simp only [List.foldl_cons]
     rw [uG (n:=n) (n':=n') h1 (hk k (List.mem_cons_self ..)) h2 h3]
     obtain ⟨h4,h5⟩:=iM (c:=c) (n:=n') (x:=k) h1
     have:=yD (c:=c) h5
     exact ih _ (fun k hk'=>hk k (List.mem_cons_of_mem _ hk')) h4 (by omega) (by omega)
   exact key _ _ (fun k hk=>ja hk) (hS.put x) (by omega) (by omega)
theorem E2 {n:Nat} {x:ByteArray} {S:fD} (h:oT S) (hn:CW c S<n):has (cS c n x S) x=true:=by
 cases n with
 |zero=>omega
 |succ n =>
  unfold cS
  split
  ·assumption
  ·exact (sB (h.put x)).2 x ((pI h).2 (.inl rfl))
theorem AP : ∀ {n : Nat} {x : ByteArray} {S : fD}, oT S → ∀ y, has (cS c n x S) y = true → has S y = true ∨ kL c x y
 |0,_,_,_,y,hy=>.inl hy
 |n+1,x,S,h,y,hy=>by
  unfold cS at hy
  split at hy
  ·exact .inl hy
  ·have key:∀(l:List ByteArray) (S1:fD),(∀k∈l,k∈kids c x)→oT S1→has (l.foldl (fun S k=>cS c n k S) S1) y=true→has S1 y=true∨kL c x y:=by
    intro l
    induction l with
    |nil=>intro S1 _ _ h;exact .inl h
    |cons k l ih =>
     intro S1 hk h1 h2
     simp only [List.foldl_cons] at h2
     rcases ih _ (fun k hk'=>hk k (List.mem_cons_of_mem _ hk')) (iM h1).1 h2 with h3|h3
     ·rcases AP h1 y h3 with h4 | h4
      ·exact .inl h4
      ·exact .inr (.cons (hk k (List.mem_cons_self ..)) h4)
     ·exact .inr h3
   rcases key _ _ (fun k hk=>hk) (h.put x) hy with h1|h1
   ·rcases (pI h).1 h1 with rfl | h2
    ·exact .inr (.refl _)
    ·exact .inl h2
   ·exact .inr h1
theorem AQ : ∀ {n : Nat} {x : ByteArray} {S : fD}, oT S → x ∈ ids c → CW c S < n → ∀ y, has (cS c n x S) y = true → has S y = false → ∀ z ∈ kids c y, has (cS c n x S) z = true
 |0,_,_,_,_,h,_,_,_=>by omega
 |n+1,x,S,hS,hx,hlt,y,hy,hyn=>by
  intro z hz
  unfold cS at hy ⊢
  split at hy
  ·rw [hyn] at hy;cases hy
  ·rename_i hn
   rw [if_neg hn]
   have hn:has S x=false:=by simpa using hn
   have hl:=Hv hS hx hn
   have key:∀(l:List ByteArray) (S1:fD),(∀k∈l,k∈kids c x)→oT S1→CW c S1<n→(∀k∈l,has (l.foldl (fun S k=>cS c n k S) S1) k=true) ∧
     (has (l.foldl (fun S k=>cS c n k S) S1) y=true→has S1 y=false→has (l.foldl (fun S k=>cS c n k S) S1) z=true):=by
    intro l
    induction l with
    |nil=>intro S1 _ _ _;exact ⟨(fun k hk=>by cases hk),(fun h h'=>by rw [List.foldl_nil,h'] at h;cases h)⟩
    |cons k l ih =>
     intro S1 hk h1 h2
     simp only [List.foldl_cons]
     obtain ⟨h3,h4⟩:=iM (c:=c) (n:=n) (x:=k) h1
     have h5:=yD (c:=c) h4
     obtain ⟨h6,h7⟩:=ih _ (fun k hk'=>hk k (List.mem_cons_of_mem _ hk')) h3 (by omega)
     have h8:=(sB (c:=c) (n:=n) (l:=l) h3).2
     refine ⟨fun k' hk'=>?_,fun h9 h10=>?_⟩
     ·rcases List.mem_cons.1 hk' with rfl | hk'
      ·exact h8 _ (E2 h1 (by omega))
      ·exact h6 k' hk'
     ·cases ZU:has (cS c n k S1) y with
      |false=>exact h7 h9 ZU
      |true=>exact h8 _ (AQ h1 (ja (hk k (List.mem_cons_self ..))) h2 y ZU h10 z hz)
   obtain ⟨h1,h2⟩:=key _ _ (fun k hk=>hk) (hS.put x) (by omega)
   by_cases he:y=x
   ·subst he;exact h1 z hz
   ·refine h2 hy ?_
    cases h3:has (aZ .str S x true) y with
    |false=>rfl
    |true =>
     rcases (pI hS).1 h3 with h4|h4
     ·exact absurd h4 he
     ·rw [hyn] at h4;cases h4
def Wg (c:List Mg) (S:fD):Prop:=∀y,has S y=true→∀z∈kids c y,has S z=true
theorem Wg.desc {S:fD} (h:Wg c S) {x y:ByteArray} (hx:has S x=true) (hd:kL c x y):has S y=true:=by
 induction hd with
 |refl=>exact hx
 |step _ hz ih=>exact h _ ih _ hz
theorem Pz {n:Nat} {x:ByteArray} {S:fD} (hS:oT S) (hC:Wg c S) (hx:x∈ids c) (hn:CW c S<n):Wg c (cS c n x S)∧∀y,has (cS c n x S) y=true↔has S y=true∨kL c x y:=by
 have hc:Wg c (cS c n x S):=fun y hy z hz=>by
  cases h:has S y with
  |true=>exact (iM hS).2 z (hC y h z hz)
  |false=>exact AQ hS hx hn y hy h z hz
 refine ⟨hc,fun y=>⟨AP hS y,?_⟩⟩
 rintro (h|h)
 ·exact (iM hS).2 y h
 ·exact hc.desc (E2 hS hn) h
theorem kH96 {m3:AO} {m5:fD} {x:ByteArray} {S:fD} (hc:c.length<1000000) (hS:oT S) (hx:x∈ids c):ak (FH96fix x m3 (bM c) m5 S)=some (m3,bM c,m5,cS c (c.length+1) x S,()):=by
 have h0:ak (FH96fix x m3 (bM c) m5 S)=xG (A:=ku.T) (B:=kA.T) (fun r y=>run r (FH96 y.1 y.2.1 y.2.2.1 y.2.2.2.1 y.2.2.2.2.1)) (x,m3,bM c,m5,S,()):=rfl
 refine h0.trans ?_
 refine T8 (A:=ku.T) (B:=kA.T) (fun a b=>∃x S,a=(x,m3,bM c,m5,S,())∧oT S∧x∈ids c∧b=(m3,bM c,m5,cS c (c.length+1) x S,())) (fun a=>CW c a.2.2.2.2.1) ?_ _ _ ⟨x,S,rfl,hS,hx,rfl⟩
 rintro rec _ _ ⟨x,S,rfl,hS,hx,rfl⟩ ih
 have e:(run rec (FH96 x m3 (bM c) m5 S):Option (AO×Fx×fD×fD×Unit))=vp (ay .str false S x) (some (m3,bM c,m5,S,())) (ic (iter (fun a=>run rec (gH96_0 a)) (ay .str [] (bM c) x,(((ay .str [] (bM c) x).length:Nat):Int),(0:Int),m3,bM c,m5,aZ .str S x true,())) fun z=>some (z.1,z.2.1,z.2.2.1,z.2.2.2.1,())):=rfl
 refine Eq.trans (α:=Option (AO×Fx×fD×fD×Unit)) e ?_
 rw [Pr kS hS.c hS.t,vL]
 by_cases hh:has S x=true
 ·rw [Ny hh]
  have:cS c (c.length+1) x S=S:=by unfold cS;rw [if_pos hh]
  rw [this];rfl
 ·rw [Gt (by simpa using hh)]
  have hn:has S x=false:=by simpa using hh
  have hlt:=Hv hS hx hn
  have hle:=Py (c:=c) S
  have Ql:=oS c x
  have he:cS c (c.length+1) x S=(kids c x).foldl (fun S k=>cS c (c.length+1) k S) (aZ .str S x true):=by
   have:cS c (c.length+1) x S=cS c (c.length+2) x S:=uG hS hx (by omega) (by omega)
   rw [this]
   conv=>lhs;unfold cS
   rw [if_neg hh]
  rw [he]
  refine bind_eq (aK (kids c x) (fun k (S:fD)=>(kids c x,(((kids c x).length:Nat):Int),(k:Int),m3,bM c,m5,S,())) (fun S r=>(m3,bM c,m5,r.foldl (fun S k=>cS c (c.length+1) k S) S,())) (fun _ S1=>oT S1∧CW c S1<CW c S) ?_ ?_ (s:=aZ .str S x true) ⟨hS.put x,hlt⟩) rfl
  ·rintro pre k post S1 hk ⟨h1, h2⟩
   have hlen:(kids c x).length=pre.length+(post.length+1):=by rw [hk];simp
   have hd:(kids c x).getD pre.length (bs [])=k:=by rw [hk];exact aR rfl
   have i1:ew (pre.length:Int) (((kids c x).length:Nat):Int)=true:=bF (by omega) (by omega)
   have r1:eN .i64 ((pre.length:Int)+1)=true:=aH (by omega) (by omega)
   have hki:k∈ids c:=ja (x:=x) (by rw [hk];simp)
   obtain ⟨h3,h4⟩:=iM (c:=c) (n:=c.length+1) (x:=k) h1
   have h5:=yD (c:=c) h4
   left
   refine ⟨cS c (c.length+1) k S1,?_,⟨h3,by omega⟩,rfl⟩
   simp only [gH96_0,av,aU,aN,aa,aA,Xw,Int.toNat_natCast,hd,i1,r1,ah,aX]
   rw [if_pos (by omega)]
   have hq:(run rec (Tr.rc (k,m3,bM c,m5,S1,())):Option (AO×Fx×fD×fD×Unit))=some (m3,bM c,m5,cS c (c.length+1) k S1,()):=ih (k,m3,bM c,m5,S1,()) _ ⟨k,S1,rfl,h1,hki,rfl⟩ h2
   exact bind_eq (A:=AO×Fx×fD×fD×Unit) hq rfl
  ·rintro S1 _
   simp only [gH96_0,av,aa,aX]
   rw [if_neg (by omega)]
   rfl
end
end Go.Proofs.Tryz
end
section
namespace Go.Proofs.Tryz
open Go.AM
set_option maxRecDepth 100000
def T9 (c:List Mg) (x:ByteArray):Bool:=aM .str (c.map fun m=>(m.1,m)) x && !((ay .str zM (c.map fun m=>(m.1,m)) x).2.1==3)
def dir (c:List Mg) (e:ByteArray×List ByteArray):List ByteArray:=if T9 c e.1=true then (match e.2.filter (fQ c) with|[o]=>e.2.filter (fun k => !decide (k=o))|_=>[]) else []
def oU (c:List Mg) (S:fD) (e:ByteArray×List ByteArray):fD:=(dir c e).foldl (fun S k=>cS c (c.length+1) k S) S
def cZ (c:List Mg):fD:=(bM c).foldl (oU c) []
abbrev bU (c:List Mg):AO:=c.map fun m=>(m.1,m)
section
variable {c:List Mg}
theorem ny {e:ByteArray×List ByteArray} {y:ByteArray} (h:y∈dir c e):y∈e.2:=by
 unfold dir at h
 split at h
 ·split at h
  ·exact (List.mem_filter.1 h).1
  ·cases h
 ·cases h
structure nN (c:List Mg) (l:List (ByteArray×List ByteArray)) (S:fD):Prop where
 ok:oT S
 Z5:Wg c S
 iff:∀x,has S x=true↔∃e∈l,∃y∈dir c e,kL c y x
theorem aeF {l:List ByteArray}:∀{S:fD},oT S→Wg c S→(∀k∈l,k∈ids c)→oT (l.foldl (fun S k=>cS c (c.length+1) k S) S)∧Wg c (l.foldl (fun S k=>cS c (c.length+1) k S) S) ∧
  ∀x,has (l.foldl (fun S k=>cS c (c.length+1) k S) S) x=true↔has S x=true∨∃y∈l,kL c y x:=by
 induction l with
 |nil=>intro S h1 h2 _;exact ⟨h1,h2,fun x=>by simp⟩
 |cons k l ih =>
  intro S h1 h2 h3
  have hn:CW c S<c.length+1:=by have:=Py (c:=c) S;omega
  have hk:=h3 k (List.mem_cons_self ..)
  obtain ⟨h4,h5⟩:=Pz h1 h2 hk hn
  obtain ⟨h6,h7,h8⟩:=ih (iM h1).1 h4 fun k hk=>h3 k (List.mem_cons_of_mem _ hk)
  refine ⟨h6,h7,fun x=>?_⟩
  rw [List.foldl_cons,h8,h5]
  simp only [List.mem_cons,exists_eq_or_imp,or_assoc]
theorem nN.step {l:List (ByteArray×List ByteArray)} {S:fD} (h:nN c l S) {e:ByteArray×List ByteArray} (he:∀k∈e.2,k∈ids c):nN c (l++[e]) (oU c S e):=by
 obtain ⟨h1,h2,h3⟩:=aeF (l:=dir c e) h.ok h.Z5 fun k hk=>he k (ny hk)
 refine ⟨h1,h2,fun x=>?_⟩
 unfold oU
 rw [h3,h.iff]
 constructor
 ·rintro (⟨e', he', h⟩ | h)
  ·exact ⟨e',by simp [he'],h⟩
  ·exact ⟨e,by simp,h⟩
 ·rintro ⟨e', he', h⟩
  rcases List.mem_append.1 he' with he'|he'
  ·exact .inl ⟨e',he',h⟩
  ·rw [List.mem_singleton] at he';subst he';exact .inr h
theorem nN.all : ∀ {r l : List (ByteArray × List ByteArray)} {S : fD}, nN c l S → (∀ e ∈ r, ∀ k ∈ e.2, k ∈ ids c) → nN c (l ++ r) (r.foldl (oU c) S)
 |[],l,S,h,_=>by simpa using h
 |e::r,l,S,h,hr=>by
  have:=nN.all (h.step (hr e (List.mem_cons_self ..))) fun e he=>hr e (List.mem_cons_of_mem _ he)
  simpa using this
theorem nN.nil:nN c [] []:=⟨.nil,fun y hy=>by simp [has,aM] at hy,fun x=>by simp [has,aM]⟩
theorem Jo:∀e∈bM c,∀k∈e.2,k∈ids c:=fun e he k hk=>by
 rw [(vM.1 he).1] at hk;exact ja hk
theorem yE {l:List (ByteArray×List ByteArray)} (hp:l.Perm (bM c)):nN c l (l.foldl (oU c) []):=by
 have:=nN.all (c:=c) (r:=l) (l:=[]) .nil fun e he=>Jo e (hp.mem_iff.1 he)
 simpa using this
theorem tV (c:List Mg):nN c (bM c) (cZ c):=yE (.refl _)
theorem ZC {l:List (ByteArray×List ByteArray)} (hp:l.Perm (bM c)):l.foldl (oU c) []=cZ c :=
 (yE hp).ok.ext (tV c).ok fun x=>by
  rw [(yE hp).iff,(tV c).iff]
  exact ⟨fun ⟨e,he,h⟩=>⟨e,hp.mem_iff.1 he,h⟩,fun ⟨e,he,h⟩=>⟨e,hp.mem_iff.2 he,h⟩⟩
def gV (c:List Mg) (x:ByteArray):Bool:=has (cZ c) x
theorem CD (x:ByteArray):ay .str false (cZ c) x=gV c x:=Pr kS (tV c).ok.c (tV c).ok.t
theorem E3 {x:ByteArray}:gV c x=true↔∃p y,y∈dir c (p,kids c p)∧kL c y x:=by
 unfold gV
 rw [(tV c).iff]
 constructor
 ·rintro ⟨⟨p, l⟩, he, y, hy, hd⟩
  have:=(vM.1 he).1
  simp only at this;subst this
  exact ⟨p,y,hy,hd⟩
 ·rintro ⟨p, y, hy, hd⟩
  refine ⟨(p,kids c p),vM.2 ⟨rfl,fun h=>?_⟩,y,hy,hd⟩
  have:=ny hy
  simp only at this h
  rw [h] at this;cases this
theorem Ua {x z:ByteArray} (h:gV c x=true) (hz:z∈kids c x):gV c z=true:=(tV c).Z5 x h z hz
theorem ZD {m1:List (Mg×Bool)} {m6:AO} {uU:Int} {kR:Bool} {l Qm:List ByteArray} {o:ByteArray} {m:Mg} {S:fD} (hc:c.length<1000000) (hl:l.length≤c.length) (QW:∀k∈l,k∈ids c) (hb:Qm.getD 0 (bs [])=o) (qM:0<Qm.length) (hS:oT S) :
  iter (fun x=>ak (gH66_2b_3 x)) (0,1,uU,kR,l,((l.length:Nat):Int),(0:Int),Qm,bM c,m.1,m.2.1,m.2.2.1,m.2.2.2.1,m.2.2.2.2,m6,cD c,S,m1,()) =
   some (uU,kR,bM c,m.1,m.2.1,m.2.2.1,m.2.2.2.1,m.2.2.2.2,m6,cD c,(l.filter fun k => !decide (k=o)).foldl (fun S k=>cS c (c.length+1) k S) S,m1,()):=by
 refine aK l (fun k (S : fD) => (0, 1, uU, kR, l, ((l.length : Nat) : Int), (k : Int), Qm, bM c, m.1, m.2.1, m.2.2.1, m.2.2.2.1, m.2.2.2.2, m6, cD c, S, m1, ()))
  (fun S r=>(uU,kR,bM c,m.1,m.2.1,m.2.2.1,m.2.2.2.1,m.2.2.2.2,m6,cD c,(r.filter fun k => !decide (k=o)).foldl (fun S k=>cS c (c.length+1) k S) S,m1,())) (fun _ S=>oT S) ?_ ?_ (s:=S) hS
 ·intro pre x post S hx hS
  have hlen:l.length=pre.length+(post.length+1):=by rw [hx];simp
  have hd:l.getD pre.length (bs [])=x:=by rw [hx];exact aR rfl
  have i1:ew (pre.length:Int) ((l.length:Nat):Int)=true:=bF (by omega) (by omega)
  have i2:ew (0:Int) ((1:Nat):Int)=true:=bF (by omega) (by omega)
  have r1:eN .i64 ((pre.length:Int)+1)=true:=aH (by omega) (by omega)
  have d1:decide (0<Qm.length)=true:=decide_eq_true qM
  left
  by_cases Lv:x=o
  ·refine ⟨S, ?_, hS, by rw [List.filter_cons_of_neg (by simp [Lv])]⟩
   simp only [gH66_2b_3,av,aU,aY,aN,aa,aA,Int.toNat_natCast,Int.toNat_zero,Nat.zero_add,Nat.add_zero,hd,hb,i1,i2,r1,d1,ah,aX,seq_eq,Lv]
   rw [if_pos (by omega),Gt (by simp)]
   rfl
  ·refine ⟨cS c (c.length + 1) x S, ?_, (iM hS).1, by rw [List.filter_cons_of_pos (by simp [Lv])]; rfl⟩
   simp only [gH66_2b_3,av,aU,aY,aN,aa,aA,Int.toNat_natCast,Int.toNat_zero,Nat.zero_add,Nat.add_zero,hd,hb,i1,i2,r1,d1,ah,aX,seq_eq]
   rw [if_pos (by omega),Ny (by simp [Lv])]
   rw [aq (kH96 hc hS (QW x (by rw [hx];simp)))]
   rfl
 ·intro S _
  simp only [gH66_2b_3,av,aa,aX]
  rw [if_neg (by omega)]
  rfl
theorem aeG {m1:List (Mg×Bool)} {e:ByteArray×List ByteArray} {S:fD} (hc:c.length<1000000) (he:e∈bM c) (hS:oT S):ak (gH66_2 e (bM c,m1,bU c,cD c,S,()))=some (bM c,m1,bU c,cD c,oU c S e,()):=by
 have Qb:=(vM.1 he).1
 have hl:e.2.length≤c.length:=by rw [Qb];exact oS c e.1
 simp only [gH66_2,av,aY,aa,aA,bw,dF,ah,b8]
 unfold oU dir T9
 cases hh:aM .str (bU c) e.1 with
 |false=>rw [bK];simp
 |true =>
  rw [bO]
  by_cases h3:(ay .str zM (bU c) e.1).2.1=3
  ·rw [bJ, if_pos h3, if_neg (by simp [h3])]
   rfl
  ·rw [bJ, if_neg h3, if_pos (by simp [h3])]
   rw [aq (kH98 (by omega))]
   obtain ⟨b,iU,eL,CQ⟩:=kH97 (m3:=bU c) (m4:=bM c) (m5:=cD c) (m6:=S) (l:=e.2) (by omega)
   rw [aq CQ]
   have hf:(e.2.filter fun v => !(!ay .str false (cD c) v))=e.2.filter (fQ c):=List.filter_congr fun v _=>by rw [T7];simp
   rw [hf] at eL ⊢
   simp only [dF,ah,bJ]
   by_cases h1:(e.2.filter (fQ c)).length=1
   ·rw [if_pos (by omega)]
    obtain ⟨o,ho⟩:=List.length_eq_one_iff.1 h1
    rw [ho] at eL h1 ⊢
    simp only [List.length_singleton] at eL ⊢
    have qM:0<b.length:=by
     cases b with
     |nil=>simp at eL
     |cons _ _=>simp
    have hbo:b.getD 0 (bs [])=o:=by
     cases b with
     |nil=>simp at eL
     |cons x r=>simp at eL;simp [eL]
    rw [aq (ZD (m:=ay .str zM (bU c) e.1) (o:=o) hc hl (Jo e he) hbo qM hS)]
    simp only [dF,ah]
   ·rw [if_neg (by omega)]
    have:(match e.2.filter (fQ c) with|[o]=>e.2.filter (fun k => !decide (k=o))|_=>[])=([]:List ByteArray):=by
     split
     ·rename_i o ho;rw [ho] at h1;simp at h1
     ·rfl
    rw [this]
    rfl
theorem PA {L:List Mg} (h:nT L):ak (FH66 (bk L))=some (bk L,bU (cnt L),bM (cnt L),cD (cnt L),cZ (cnt L),()):=by
 have hl:=h.len
 have yQ:(cnt L).length≤60:=by
  have:(cnt L).length≤L.length:=by
   have hn:(cnt L).Nodup:=List.Pairwise.imp (fun {a b} h e=>by subst e;rw [show slt a.1 a.1=false from gU (t:=.str) kS a.1] at h;cases h) (iG L)
   exact List.Nodup.length_le_of_subset hn fun m hm=>vK hm
  omega
 have hby:qg L=bU (cnt L):=E1 L
 unfold FH66
 simp only [aA,bw,aY]
 rw [aq (kH47 h.s (by omega))]
 simp only
 rw [aq (aeD (by omega))]
 simp only [FH95,aa,aP]
 rw [hby,aq (T6 (iG L) (by omega))]
 simp only [List.isEmpty_nil,ah]
 rw [aq (aeE (iG L) (by omega))]
 simp only
 have hmq:run (fun _=>none) (.mq gH66_2 (bM (cnt L)) (bM (cnt L),bk L,bU (cnt L),cD (cnt L),[],()))=some (bM (cnt L),bk L,bU (cnt L),cD (cnt L),cZ (cnt L),()):=by
  refine Eq.trans Gv (gA fun l hp=>?_)
  have := (EZ (step := fun e a => run (fun _ => none) (gH66_2 e a)) (fun (a : Fx × List (Mg × Bool) × AO × fD × fD × Unit) e => (bM (cnt L), bk L, bU (cnt L), cD (cnt L), oU (cnt L) a.2.2.2.2.1 e, ())) (fun a => ∃ S, a = (bM (cnt L), bk L, bU (cnt L), cD (cnt L), S, ()) ∧ oT S) l (bM (cnt L), bk L, bU (cnt L), cD (cnt L), [], ()) ⟨[], rfl, .nil⟩ (by
   rintro e he _ ⟨S,rfl,hS⟩
   refine ⟨aeG (by omega) (hp.mem_iff.1 he) hS,_,rfl,?_⟩
   exact (sB hS).1)).1
  rw [this]
  have key:∀(l:List (ByteArray×List ByteArray)) (S:fD),l.foldl (fun (a:Fx×List (Mg×Bool)×AO×fD×fD×Unit) e=>(bM (cnt L),bk L,bU (cnt L),cD (cnt L),oU (cnt L) a.2.2.2.2.1 e,())) (bM (cnt L),bk L,bU (cnt L),cD (cnt L),S,())=(bM (cnt L),bk L,bU (cnt L),cD (cnt L),l.foldl (oU (cnt L)) S,()):=by
   intro l
   induction l with
   |nil=>intro S;rfl
   |cons e l ih=>intro S;exact ih _
  rw [key,ZC hp]
 rw [aq hmq]
end
end Go.Proofs.Tryz
end
section
namespace Go.Proofs.Tryz
open Go.AM
set_option maxRecDepth 100000
theorem Ub {A B : Type} {F : (A → Option B) → A → Option B} (R : Nat → A → B → Prop)
  (h:∀rec n x y,R n x y→(∀n' x' y',n'<n→R n' x' y'→rec x'=some y')→F rec x=some y):∀n x y,R n x y→xG F x=some y:=by
 have key:∀k n x y,R n x y→n<k→Lx F k x=some y:=by
  intro k
  induction k with
  |zero=>intro n x y _ hm;omega
  |succ k ih=>intro n x y hx hm;exact h _ n x y hx fun n' x' y' hn' hx'=>ih n' x' y' hx' (by omega)
 intro n x y hx
 exact Iy (N:=n+1) fun k hk=>key k n x y hx (by omega)
section
variable {c:List Mg}
theorem jc {x y:ByteArray}:y∈kids c x↔∃m∈c,m.1=y∧m.2.1=2∧m.2.2.1=x:=by
 unfold kids
 rw [List.mem_map]
 constructor
 ·rintro ⟨m, hm, rfl⟩
  obtain ⟨h1,h2⟩:=List.mem_filter.1 hm
  simp only [decide_eq_true_eq] at h2
  exact ⟨m,h1,rfl,h2⟩
 ·rintro ⟨m, hm, rfl, h⟩
  exact ⟨m,List.mem_filter.2 ⟨hm,by simpa using h⟩,rfl⟩
theorem vN (hs:SI c) {x x' y:ByteArray} (h:y∈kids c x) (h':y∈kids c x'):x=x':=by
 obtain ⟨m,h1,h2,_,h3⟩:=jc.1 h
 obtain ⟨m',h1',h2',_,ZE⟩:=jc.1 h'
 have:=hs.inj h1 h1' (h2.trans h2'.symm)
 subst this
 exact h3.symm.trans ZE
inductive jE (c : List Mg) (x : ByteArray) : Nat → ByteArray → Prop
 |zero:jE c x 0 x
 |step {n y z} (h:jE c x n y) (hz:z∈kids c y):jE c x (n+1) z
theorem jE.add {n m:Nat} {x y z:ByteArray} (h:jE c x n y) (h':jE c y m z):jE c x (n+m) z:=by
 induction h' with
 |zero=>exact h
 |step _ hz ih=>exact .step ih hz
theorem jE.up (hs:SI c) {n:Nat} {x y:ByteArray} (h:jE c x n y):∀{m:Nat} {x':ByteArray},jE c x' m y→n≤m→jE c x' (m - n) x:=by
 induction h with
 |zero=>intro m x' h' _;exact h'
 |step h hz ih =>
  intro m x' h' hle
  cases h' with
  |zero=>omega
  |step h2 qj =>
   have e:=vN hs hz qj
   subst e
   have:=ih h2 (by omega)
   rwa [Nat.add_sub_add_right]
theorem jE.desc {n:Nat} {x y:ByteArray} (h:jE c x n y):kL c x y:=by
 induction h with
 |zero=>exact .refl _
 |step _ hz ih=>exact .step ih hz
theorem kL.pth {x y:ByteArray} (h:kL c x y):∃n,jE c x n y:=by
 induction h with
 |refl=>exact ⟨0,.zero⟩
 |step _ hz ih=>obtain ⟨n,h⟩:=ih;exact ⟨n+1,.step h hz⟩
def Qn (c:List Mg) (t:ByteArray):Prop:=∀x,t∉kids c x
theorem jE.deep (hs:SI c) {t:ByteArray} (ht:Qn c t) {n m:Nat} {y:ByteArray} (h:jE c t n y) (h':jE c t m y):n=m:=by
 have key:∀{n m:Nat},jE c t n y→jE c t m y→n≤m→n=m:=fun {n m} h h' hle=>by
  have:=h.up hs h' hle
  generalize hk:m - n=k at this
  cases this with
  |zero=>omega
  |step _ hz=>exact absurd hz (ht _)
 rcases Nat.le_total n m with hle|hle
 ·exact key h h' hle
 ·exact (key h' h hle).symm
theorem jE.short (hs:SI c) {t:ByteArray} (ht:Qn c t) (CT:t∈ids c) {n:Nat} {y:ByteArray} (h:jE c t n y):n<c.length:=by
 have key:∃l:List ByteArray,l.length=n+1∧l.Nodup∧∀a∈l,a∈ids c∧∃i,i≤n∧jE c t i a:=by
  induction h with
  |zero=>exact ⟨[t],rfl,by simp,fun a ha=>by rw [List.mem_singleton] at ha;subst ha;exact ⟨CT,0,Nat.le_refl _,.zero⟩⟩
  |step h hz ih =>
   rename_i n' y' z
   obtain ⟨l,h1,h2,h3⟩:=ih
   have hp:jE c t (n'+1) z:=.step h hz
   refine ⟨z::l,by simp [h1],List.nodup_cons.2 ⟨fun hzl=>?_,h2⟩,fun a ha=>?_⟩
   ·obtain ⟨_, i, hi, hpi⟩ := h3 z hzl
    have:=hpi.deep hs ht hp
    omega
   ·rcases List.mem_cons.1 ha with rfl | ha
    ·exact ⟨ja hz,n'+1,Nat.le_refl _,hp⟩
    ·obtain ⟨q1, i, hi, hpi⟩ := h3 a ha
     exact ⟨q1,i,by omega,hpi⟩
 obtain ⟨l,h1,h2,h3⟩:=key
 have:=List.Nodup.length_le_of_subset h2 (fun a ha=>(h3 a ha).1)
 have hl:(ids c).length=c.length:=by simp [ids]
 omega
def jd (c:List Mg) (x:ByteArray):List ByteArray:=(kids c x).filter fun k => !gV c k
theorem vO {x y:ByteArray} (h:y∈jd c x):y∈kids c x:=(List.mem_filter.1 h).1
theorem Uc (x:ByteArray):(jd c x).length≤c.length:=Nat.le_trans (List.length_filter_le ..) (oS c x)
def cA (c : List Mg) : Nat → ByteArray → List ByteArray
 |0,_=>[]
 |n+1,x=>match jd c x with
  |[]=>[x]
  |k::l=>oF .str ((k::l).flatMap (cA c n))
def lS (c:List Mg) (t:ByteArray):List ByteArray:=cA c (c.length+1) t
theorem Ud (hs:SI c) (x:ByteArray):(kids c x).Nodup:=by
 unfold kids List.Nodup
 rw [List.pairwise_map]
 refine List.Pairwise.imp (fun {a b} h e=>?_) (List.Pairwise.filter _ hs)
 rw [e,show slt b.1 b.1=false from gU (t:=.str) kS b.1] at h;cases h
theorem mw : ∀ {n : Nat} {x y : ByteArray}, y ∈ cA c n x → kL c x y
 |0,_,_,h=>by cases h
 |n+1,x,y,h=>by
  unfold cA at h
  split at h
  ·rw [List.mem_singleton] at h;subst h;exact .refl _
  ·rename_i k l hl
   rw [(ef (t:=.str) _).mem_iff,List.mem_flatMap] at h
   obtain ⟨a,ha,h⟩:=h
   exact .cons (vO (by rw [hl];exact ha)) (mw h)
theorem CE (hs : SI c) {t : ByteArray} (ht : Qn c t) : ∀ {n d : Nat} {x : ByteArray}, jE c t d x → (cA c n x).Nodup
 |0,_,_,_=>.nil
 |n+1,d,x,hp=>by
  unfold cA
  split
  ·simp
  ·rename_i k l hl
   refine (ef (t:=.str) _).nodup_iff.2 ?_
   have hn:(k::l).Nodup:=by rw [←hl];exact List.Pairwise.filter _ (Ud hs x)
   have hk:∀a∈k::l,a∈kids c x:=fun a ha=>vO (by rw [hl];exact ha)
   refine List.pairwise_flatMap.2 ⟨fun a ha=>CE hs ht (hp.step (hk a ha)),List.Pairwise.imp_of_mem (fun {a b} ha hb hab=>?_) hn⟩
   intro y hya y' hyb e
   subst e
   obtain ⟨i,hi⟩:=(mw hya).pth
   obtain ⟨j,hj⟩:=(mw hyb).pth
   have h1:=(hp.step (hk a ha)).add hi
   have h2:=(hp.step (hk b hb)).add hj
   have:=h1.deep hs ht h2
   have he:i=j:=by omega
   subst he
   have:=hi.up hs hj (Nat.le_refl _)
   rw [Nat.sub_self] at this
   cases this
   exact hab rfl
theorem mz (hs:SI c) {t:ByteArray} (ht:Qn c t) (CT:t∈ids c) {n d:Nat} {x:ByteArray} (hp:jE c t d x):(cA c n x).length≤c.length:=by
 have h:=List.Nodup.length_le_of_subset (CE hs ht (n:=n) hp) (l₂:=ids c) fun y hy=>by
  have hd:kL c t y:=hp.desc.trans (mw hy)
  cases hd with
  |refl=>exact CT
  |step _ hz=>exact ja hz
 have hl:(ids c).length=c.length:=by simp [ids]
 omega
end
end Go.Proofs.Tryz
end
section
namespace Go.Proofs.Tryz
open Go.AM
set_option maxRecDepth 100000
section
variable {c:List Mg}
theorem aeH (hc:c.length<1000000) (x:ByteArray):∃b,b.take (jd c x).length=jd c x∧(jd c x).length≤b.length∧ak (FH104 x (bU c) (bM c) (cD c) (cZ c))=some (0,(jd c x).length,b,bU c,bM c,cD c,cZ c,()):=by
 have hk:=oS c x
 obtain ⟨b,h1,h2,h3⟩:=T4 (m3:=bU c) (m4:=bM c) (m5:=cD c) (m6:=cZ c) (l:=kids c x) (by omega)
 have hf:(kids c x).filter (fun v => !(ay .str false (cZ c) v))=jd c x:=List.filter_congr fun v _=>by rw [CD]
 rw [hf] at h2 h3
 refine ⟨b,h2,by rw [h1];exact List.length_filter_le ..,?_⟩
 unfold FH104
 simp only [aA,vL]
 rw [aq (kH98 (by omega))]
 simp only
 rw [aq h3]
 rfl
abbrev D76:=Nat×List ByteArray×AO×Fx×fD×fD×Unit
theorem PB (hs:SI c) (hc:c.length<1000000) {t:ByteArray} (ht:Qn c t) (CT:t∈ids c):ak (FH76fix t (bU c) (bM c) (cD c) (cZ c))=some ((lS c t).length,lS c t,bU c,bM c,cD c,cZ c,()):=by
 have h0:ak (FH76fix t (bU c) (bM c) (cD c) (cZ c))=xG (A:=kB.T) (B:=kC.T) (fun r y=>run r (FH76 y.1 y.2.1 y.2.2.1 y.2.2.2.1 y.2.2.2.2.1)) (t,bU c,bM c,cD c,cZ c,()):=rfl
 refine h0.trans ?_
 refine Ub (A:=kB.T) (B:=kC.T) (fun n a b=>∃z d,a=(z,bU c,bM c,cD c,cZ c,())∧jE c t d z∧d+n=c.length∧b=((cA c (n+1) z).length,cA c (n+1) z,bU c,bM c,cD c,cZ c,())) ?_ c.length _ _ ⟨t,0,rfl,.zero,by omega,rfl⟩
 rintro rec n _ _ ⟨z,d,rfl,hp,hn,rfl⟩ ih
 have hshort:=hp.short hs ht CT
 obtain ⟨b,iU,eL,CQ⟩:=aeH hc z
 have yP:=Uc (c:=c) z
 have hvl:=mz hs ht CT (n:=n+1) hp
 have e : (run rec (FH76 z (bU c) (bM c) (cD c) (cZ c)) : Option D76) = ic (ak (FH104 z (bU c) (bM c) (cD c) (cZ c))) fun y0 => vp (((y0.2.1 : Nat) : Int) == 0) (some (1, [z], y0.2.2.2.1, y0.2.2.2.2.1, y0.2.2.2.2.2.1, y0.2.2.2.2.2.2.1, ()))
   (ic (iter (fun a=>run rec (gH76_0 a)) (0,y0.1,y0.2.1,((y0.2.1:Nat):Int),(0:Int),[],y0.2.2.1,y0.2.2.2.1,y0.2.2.2.2.1,y0.2.2.2.2.2.1,y0.2.2.2.2.2.2.1,())) fun z2=>ic (ak (FH105 z2.1 z2.2.1)) fun y3=>some (z2.1,y3.1,z2.2.2.1,z2.2.2.2.1,z2.2.2.2.2.1,z2.2.2.2.2.2.1,())):=rfl
 refine Eq.trans (α:=Option D76) e ?_
 rw [aq CQ]
 simp only [bJ]
 cases hl:jd c z with
 |nil =>
  have hv:cA c (n+1) z=[z]:=by unfold cA;rw [hl]
  rw [hv];rfl
 |cons k0 l0 =>
  have hlen:(jd c z).length=l0.length+1:=by rw [hl];rfl
  rw [←hl,if_neg (by omega)]
  have hv:cA c (n+1) z=oF .str ((jd c z).flatMap (cA c n)):=by
   conv=>lhs;unfold cA
   rw [hl]
  have hfl:((jd c z).flatMap (cA c n)).length≤c.length:=by
   have:=(ef (t:=.str) ((jd c z).flatMap (cA c n))).length_eq
   rw [←hv] at this
   omega
  have hit : iter (fun a => run rec (gH76_0 a)) (0, 0, (jd c z).length, (((jd c z).length : Nat) : Int), (0 : Int), [], b, bU c, bM c, cD c, cZ c, ()) = some (((jd c z).flatMap (cA c n)).length, (jd c z).flatMap (cA c n), bU c, bM c, cD c, cZ c, ()) := (aK (jd c z) (fun k (o : List ByteArray) => (o.length, 0, (jd c z).length, (((jd c z).length : Nat) : Int), (k : Int), o, b, bU c, bM c, cD c, cZ c, ())) (fun o r => ((o ++ r.flatMap (cA c n)).length, o ++ r.flatMap (cA c n), bU c, bM c, cD c, cZ c, ()))
   (fun pre o => o = pre.flatMap (cA c n)) (by
    rintro pre k post _ hx rfl
    have hlen:(jd c z).length=pre.length+(post.length+1):=by rw [hx];simp
    have hd:b.getD pre.length (bs [])=k:=by
     have:(b.take (jd c z).length).getD pre.length (bs [])=k:=by rw [iU,hx];exact aR rfl
     rw [getD_take (by omega)] at this;exact this
    have hkk:k∈kids c z:=vO (by rw [hx];simp)
    have i1:ew (pre.length:Int) (((jd c z).length:Nat):Int)=true:=bF (by omega) (by omega)
    have r1:eN .i64 ((pre.length:Int)+1)=true:=aH (by omega) (by omega)
    have d1:decide (pre.length<b.length)=true:=decide_eq_true (by omega)
    have Qc:=hp.step hkk
    have hsh:=Qc.short hs ht CT
    left
    refine ⟨pre.flatMap (cA c n)++cA c n k,?_,by simp,by simp [List.flatMap_cons]⟩
    have e2 : (run rec (gH76_0 ((pre.flatMap (cA c n)).length, 0, (jd c z).length, (((jd c z).length : Nat) : Int), (pre.length : Int), pre.flatMap (cA c n), b, bU c, bM c, cD c, cZ c, ()))) = vp (decide ((pre.length : Int) < (((jd c z).length : Nat) : Int))) (need (ew (pre.length : Int) (((jd c z).length : Nat) : Int)) (need (decide (0 + Int.toNat (pre.length : Int) < b.length))
      (ic (rec (b.getD (0 + Int.toNat (pre.length : Int)) (bs []), bU c, bM c, cD c, cZ c, ()) : Option D76) fun y1 => need (decide ((pre.flatMap (cA c n)).length + ((y1.2.1.drop 0).take y1.1).length < cg)) (need (eN .i64 ((pre.length : Int) + 1))
       (some (.inl ((pre.flatMap (cA c n)).length+((y1.2.1.drop 0).take y1.1).length,0,(jd c z).length,(((jd c z).length:Nat):Int),(pre.length:Int)+1,(((pre.flatMap (cA c n)).drop 0).take (pre.flatMap (cA c n)).length)++((y1.2.1.drop 0).take y1.1),b,y1.2.2.1,y1.2.2.2.1,y1.2.2.2.2.1,y1.2.2.2.2.2.1,())))))))
      (some (.inr ((pre.flatMap (cA c n)).length,pre.flatMap (cA c n),bU c,bM c,cD c,cZ c,()))):=rfl
    rw [e2,Int.toNat_natCast,Nat.zero_add,hd,i1,ah,d1,ah,aX,if_pos (by omega)]
    obtain ⟨n',rfl⟩:∃n',n=n'+1:=⟨n - 1,by omega⟩
    have hq:(rec (k,bU c,bM c,cD c,cZ c,()):Option D76)=some ((cA c (n'+1) k).length,cA c (n'+1) k,bU c,bM c,cD c,cZ c,()):=ih n' (k,bU c,bM c,cD c,cZ c,()) _ (by omega) ⟨k,d+1,rfl,Qc,by omega,rfl⟩
    refine bind_eq (A:=D76) hq ?_
    simp only [List.drop_zero,List.take_length,r1,ah]
    have hle:(pre.flatMap (cA c (n'+1))).length+(cA c (n'+1) k).length≤c.length:=by
     have:((jd c z).flatMap (cA c (n'+1))).length=(pre.flatMap (cA c (n'+1))).length+((cA c (n'+1) k).length+(post.flatMap (cA c (n'+1))).length):=by rw [hx];simp
     omega
    rw [cm (show _<cg by rw [fU];omega)]
    simp only [List.length_append]
    rfl) (by
    rintro o _
    have e2 : (run rec (gH76_0 (o.length, 0, (jd c z).length, (((jd c z).length : Nat) : Int), (((jd c z).length : Nat) : Int), o, b, bU c, bM c, cD c, cZ c, ()))) = vp (decide ((((jd c z).length : Nat) : Int) < (((jd c z).length : Nat) : Int))) (need (ew (((jd c z).length : Nat) : Int) (((jd c z).length : Nat) : Int)) (need (decide (0 + Int.toNat (((jd c z).length : Nat) : Int) < b.length))
      (ic (rec (b.getD (0 + Int.toNat (((jd c z).length : Nat) : Int)) (bs []), bU c, bM c, cD c, cZ c, ()) : Option D76) fun y1 => need (decide (o.length + ((y1.2.1.drop 0).take y1.1).length < cg)) (need (eN .i64 ((((jd c z).length : Nat) : Int) + 1))
       (some (.inl (o.length+((y1.2.1.drop 0).take y1.1).length,0,(jd c z).length,(((jd c z).length:Nat):Int),(((jd c z).length:Nat):Int)+1,((o.drop 0).take o.length)++((y1.2.1.drop 0).take y1.1),b,y1.2.2.1,y1.2.2.2.1,y1.2.2.2.2.1,y1.2.2.2.2.2.1,())))))))
      (some (.inr (o.length,o,bU c,bM c,cD c,cZ c,()))):=rfl
    rw [e2,aX,if_neg (by omega)]
    simp) (s:=[]) rfl)
  refine bind_eq (A:=Nat×List ByteArray×AO×Fx×fD×fD×Unit) hit ?_
  simp only [FH105,xI]
  have hsrt:uR .str ((jd c z).flatMap (cA c n)) ((jd c z).flatMap (cA c n)).length=some (oF .str ((jd c z).flatMap (cA c n)),()):=oR kS (ef _) (pG kS _) (by omega)
  refine bind_eq hsrt ?_
  rw [hv]
  have LC:=(ef (t:=.str) ((jd c z).flatMap (cA c n))).length_eq
  rw [LC]
  rfl
end
end Go.Proofs.Tryz
end
section
namespace Go.Proofs.Tryz
open Go.AM
set_option maxRecDepth 100000
def msg (c:List Mg) (x:ByteArray):Mg:=ay .str zM (bU c) x
def qI (c:List Mg) (x:ByteArray):Bool:=aM .str (bU c) x
section
variable {c:List Mg}
theorem cu {x:ByteArray}:qI c x=true↔x∈ids c:=by
 unfold qI ids
 rw [dx kS]
 constructor
 ·rintro ⟨v, hv⟩
  obtain ⟨m,hm,h⟩:=List.mem_map.1 hv
  exact List.mem_map.2 ⟨m,hm,congrArg Prod.fst h⟩
 ·intro h
  obtain ⟨m,hm,rfl⟩:=List.mem_map.1 h
  exact ⟨m,List.mem_map.2 ⟨m,hm,rfl⟩⟩
theorem gr (hs:SI c) {m:Mg} (hm:m∈c):msg c m.1=m:=fO kS hs.cam (List.mem_map.2 ⟨m,hm,rfl⟩)
theorem CF (hs:SI c) {x:ByteArray} (h:qI c x=true):msg c x∈c∧(msg c x).1=x:=by
 obtain ⟨m,hm,rfl⟩:=List.mem_map.1 (cu.1 h)
 rw [gr hs hm];exact ⟨hm,rfl⟩
theorem kN (hs:SI c) {x:ByteArray} (h:qI c x=true) (hk:(msg c x).2.1=1):Qn c x:=by
 intro y hy
 obtain ⟨m,hm,h1,h2,_⟩:=jc.1 hy
 subst h1
 rw [gr hs hm] at hk
 omega
def zB (c : List Mg) : Nat → ByteArray → Option ByteArray
 |0,_=>none
 |n+1,x=>if qI c x=true then (if (msg c x).2.1=3 then none else if gV c x=true then none else if (msg c x).2.1=1 then some x else zB c n (msg c x).2.2.1) else none
theorem E4 (hs : SI c) : ∀ {n : Nat} {x t : ByteArray}, zB c n x = some t → qI c t = true ∧ (msg c t).2.1 = 1 ∧ gV c t = false
 |0,_,_,h=>by cases h
 |n+1,x,t,h=>by
  unfold zB at h
  split at h<;>try (cases h;done)
  rename_i h1
  split at h<;>try (cases h;done)
  split at h<;>try (cases h;done)
  rename_i h3
  split at h
  ·rename_i h4;cases h;exact ⟨h1,h4,by simpa using h3⟩
  ·exact E4 hs h
abbrev pQ (c:List Mg) (x:ByteArray):Option ByteArray:=zB c c.length x
theorem kH74 (hs:SI c) (hc:c.length<1000000) (x:ByteArray):ak (FH74 x (bU c) (bM c) (cD c) (cZ c)) =
  some (match pQ c x with|some t=>((lS c t).length,true,lS c t,bU c,bM c,cD c,cZ c,())|none=>(0,false,[],bU c,bM c,cD c,cZ c,())):=by
 have key:∀(l:List (ByteArray×Mg)) (x:ByteArray),∃x',zi (fun e a=>run (fun _=>none) (gH74_0 e a)) l (x,bU c,bM c,cD c,cZ c,()) =
   some (match zB c l.length x with|some t=>.inr ((lS c t).length,true,lS c t,bU c,bM c,cD c,cZ c,())|none=>x') ∧
   (zB c l.length x=none→x' = .inr (0,false,[],bU c,bM c,cD c,cZ c,())∨∃y,x' = .inl (y,bU c,bM c,cD c,cZ c,())):=by
  intro l
  induction l with
  |nil=>intro x;exact ⟨.inl (x,bU c,bM c,cD c,cZ c,()),rfl,fun _=>.inr ⟨x,rfl⟩⟩
  |cons e l ih =>
   intro x
   have hg:run (fun _=>none) (gH74_0 e (x,bU c,bM c,cD c,cZ c,()))=if qI c x=true then (if (msg c x).2.1=3 then some (.inr (0,false,[],bU c,bM c,cD c,cZ c,())) else if gV c x=true then some (.inr (0,false,[],bU c,bM c,cD c,cZ c,())) else if (msg c x).2.1=1 then some (.inr ((lS c x).length,true,lS c x,bU c,bM c,cD c,cZ c,())) else some (.inl ((msg c x).2.2.1,bU c,bM c,cD c,cZ c,()))) else some (.inr (0,false,[],bU c,bM c,cD c,cZ c,())):=by
    simp only [gH74_0,av,aA,aY,aa,dF,ah,b8,bJ,CD]
    rw [show aM .str (bU c) x=qI c x from rfl,show ay .str zM (bU c) x=msg c x from rfl,kq]
    split
    ·rename_i h1
     split
     ·rfl
     ·rw [kq]
      split
      ·rfl
      ·split
       ·rename_i h4
        rw [aq (PB hs hc (kN hs h1 h4) (cu.1 h1))]
       ·rfl
    ·rfl
   simp only [zi,hg,List.length_cons,zB]
   by_cases h1:qI c x=true
   ·rw [if_pos h1, if_pos h1]
    by_cases h2:(msg c x).2.1=3
    ·rw [if_pos h2,if_pos h2];exact ⟨_,rfl,fun _=>.inl rfl⟩
    ·rw [if_neg h2, if_neg h2]
     by_cases h3:gV c x=true
     ·rw [if_pos h3,if_pos h3];exact ⟨_,rfl,fun _=>.inl rfl⟩
     ·rw [if_neg h3, if_neg h3]
      by_cases h4:(msg c x).2.1=1
      ·rw [if_pos h4,if_pos h4];exact ⟨.inr (0,false,[],bU c,bM c,cD c,cZ c,()),rfl,fun h=>by cases h⟩
      ·rw [if_neg h4,if_neg h4];exact ih _
   ·rw [if_neg h1,if_neg h1];exact ⟨_,rfl,fun _=>.inl rfl⟩
 unfold FH74
 simp only [aA]
 have hmp:∃x',run (fun _=>none) (.mp gH74_0 (bU c) (x,bU c,bM c,cD c,cZ c,()))=some (match pQ c x with|some t=>.inr ((lS c t).length,true,lS c t,bU c,bM c,cD c,cZ c,())|none=>x') ∧
   (pQ c x=none→x' = .inr (0,false,[],bU c,bM c,cD c,cZ c,())∨∃y,x' = .inl (y,bU c,bM c,cD c,cZ c,())):=by
  obtain ⟨x',h1,h2⟩:=key (bU c) x
  have hlen:(bU c).length=c.length:=List.length_map ..
  rw [hlen] at h1 h2
  refine ⟨x',Eq.trans Xx (gA fun l hp=>?_),h2⟩
  have yP:l.length=(bU c).length:=hp.length_eq
  have hany:∀(l l':List (ByteArray×Mg)) (a:ByteArray×AO×Fx×fD×fD×Unit),l.length=l'.length→zi (fun e a=>run (fun _=>none) (gH74_0 e a)) l a=zi (fun e a=>run (fun _=>none) (gH74_0 e a)) l' a:=by
   intro l
   induction l with
   |nil =>
    intro l' a h
    cases l' with
    |nil=>rfl
    |cons _ _=>simp at h
   |cons e l ih =>
    intro l' a h
    cases l' with
    |nil=>simp at h
    |cons e' l' =>
     have hs:run (fun _=>none) (gH74_0 e a)=run (fun _=>none) (gH74_0 e' a):=rfl
     simp only [zi,hs]
     split
     ·rfl
     ·exact ih l' _ (by simpa using h)
     ·rfl
  rw [hany l (bU c) _ yP]
  exact h1
 obtain ⟨x',h1,h2⟩:=hmp
 rw [aq h1]
 cases hst:pQ c x with
 |some t=>simp only [lM,aa]
 |none =>
  rcases h2 hst with rfl|⟨y,rfl⟩
  ·simp only [lM,aa]
  ·simp only [oD,aa]
def PC (x:ByteArray) (l:List ByteArray):Bool:=l.any fun y=>decide (y=x)
theorem E5 {x:ByteArray} {l:List ByteArray}:PC x l=true↔x∈l:=by
 unfold PC;rw [List.any_eq_true]
 constructor
 ·rintro ⟨y,hy,h⟩;have:=of_decide_eq_true h;subst this;exact hy
 ·intro h;exact ⟨x,h,decide_eq_true rfl⟩
theorem k75 {l:List ByteArray} (hl:l.length<1000000000) (x:ByteArray):ak (F75 l x)=some (PC x l,()):=by
 have hi:iter (fun a=>run (fun _=>none) (g103_0 a)) (l,x,((l.length:Nat):Int),(0:Int),())=some (match eC (fun y=>decide (y=x)) 0 l with|some k=>Sum.inl (((k:Nat):Int),())|none=>Sum.inr ()):=by
  refine aK l (fun k (_:Nat)=>(l,x,((l.length:Nat):Int),(k:Int),())) (fun k r=>match eC (fun y=>decide (y=x)) k r with|some k=>Sum.inl (((k:Nat):Int),())|none=>Sum.inr ()) (fun pre k=>k=pre.length) ?_ ?_ (s:=0) rfl
  ·rintro pre y post k hx rfl
   have hlen:l.length=pre.length+(post.length+1):=by rw [hx];simp
   have hd:l.getD pre.length (bs [])=y:=by rw [hx];exact aR rfl
   have i1:ew (pre.length:Int) ((l.length:Nat):Int)=true:=bF (by omega) (by omega)
   have r1:eN .i64 ((pre.length:Int)+1)=true:=aH (by omega) (by omega)
   simp only [g103_0,av,aU,aN,aa,Int.toNat_natCast,hd,i1,r1,ah,aX,seq_eq]
   rw [if_pos (by omega)]
   by_cases h:y=x
   ·right
    rw [if_pos h.symm]
    simp [eC,h]
   ·left
    refine ⟨pre.length+1,?_,by simp,?_⟩
    ·rw [if_neg (fun e=>h e.symm)];rfl
    ·simp [eC,h]
  ·rintro k _
   simp only [g103_0,av,aX,aa]
   rw [if_neg (by omega)];rfl
 unfold F75 F103
 simp only [aA,bw]
 rcases lC (fun y=>decide (y=x)) l 0 with ⟨p,y,q,h1,h2,h3,h4⟩|⟨h1,h2⟩
 ·rw [h4] at hi
  rw [aq hi]
  have hy:y=x:=by simpa using h3
  simp only [oD,aa,aP]
  congr 2
  rw [Bool.eq_iff_iff,decide_eq_true_eq,E5]
  exact ⟨fun _=>by rw [h1,hy];simp,fun _=>by omega⟩
 ·rw [h2] at hi
  rw [aq hi]
  simp only [lM,aa,aP]
  congr 2
  rw [Bool.eq_iff_iff,decide_eq_true_eq,E5]
  refine ⟨fun h=>by omega,fun h=>?_⟩
  have:=h1 x h
  simp at this
def gu (c:List Mg) (x:ByteArray):Int×Int :=
 if qI c x=true then (if (msg c x).2.1=3 then (0,18) else if gV c x=true then (2,0) else match pQ c x with
  |none=>(1,0)
  |some t=>if PC x (lS c t)=true then (if 1<(lS c t).length then (5,0) else (4,0)) else (3,0)) else (0,5)
def AR (c:List Mg) (x:ByteArray):List ByteArray×Int:=if qI c x=true then (if (msg c x).2.1=1 then (lS c x,0) else ([],18)) else ([],5)
theorem nA {L:List Mg} (h:nT L):(cnt L).length≤60:=by
 have hn:(cnt L).Nodup:=List.Pairwise.imp (fun {a b} h e=>by subst e;rw [show slt a.1 a.1=false from gU (t:=.str) kS a.1] at h;cases h) (iG L)
 have:=List.Nodup.length_le_of_subset hn (fun m hm=>vK hm)
 have:=h.len
 omega
theorem kH32 {L:List Mg} (h:nT L) (x:ByteArray):ak (FH32 x (bk L))=some ((gu (cnt L) x).1,(gu (cnt L) x).2,bk L,()):=by
 have hs:=iG L
 have hc:=nA h
 unfold FH32
 simp only [aA,Hr,aP,av,bK]
 rw [aq (PA h)]
 simp only [aa,b8,bJ,CD]
 rw [show aM .str (bU (cnt L)) x=qI (cnt L) x from rfl,show ay .str zM (bU (cnt L)) x=msg (cnt L) x from rfl,kq]
 unfold gu
 by_cases h1:qI (cnt L) x=true
 ·rw [if_pos h1, if_pos h1, if_pos trivial]
  by_cases h2:(msg (cnt L) x).2.1=3
  ·rw [if_pos h2,if_pos h2]
  ·rw [if_neg h2, if_neg h2, kq]
   by_cases h3:gV (cnt L) x=true
   ·rw [if_pos h3,if_pos h3]
   ·rw [if_neg h3, if_neg h3]
    rw [aq (kH74 hs (by omega) x)]
    cases hst:pQ (cnt L) x with
    |none=>simp
    |some t =>
     obtain ⟨ht1,ht2,_⟩:=E4 hs hst
     have hvl:(lS (cnt L) t).length≤(cnt L).length:=mz hs (kN hs ht1 ht2) (cu.1 ht1) .zero
     simp only [bO,List.drop_zero,List.take_length]
     rw [aq (k75 (by omega) x)]
     rw [kq]
     simp only [aX]
     by_cases h4:PC x (lS (cnt L) t)=true
     ·rw [if_pos h4, if_pos h4]
      by_cases h5:1<(lS (cnt L) t).length
      ·rw [if_pos (by omega),if_pos h5]
      ·rw [if_neg (by omega),if_neg h5]
     ·rw [if_neg h4,if_neg h4]
 ·rw [if_neg h1,if_neg h1,if_neg (by omega)]
theorem kH33 {L:List Mg} (h:nT L) (x:ByteArray):ak (FH33 x (bk L))=some ((AR (cnt L) x).1.length,(AR (cnt L) x).2,(AR (cnt L) x).1,bk L,()):=by
 have hs:=iG L
 have hc:=nA h
 unfold FH33
 simp only [aA,Hr,aP,av,bK]
 rw [aq (PA h)]
 simp only [aa,b8,bJ]
 rw [show aM .str (bU (cnt L)) x=qI (cnt L) x from rfl,show ay .str zM (bU (cnt L)) x=msg (cnt L) x from rfl,kq]
 unfold AR
 by_cases h1:qI (cnt L) x=true
 ·rw [if_pos h1, if_pos h1, if_pos trivial]
  by_cases h2:(msg (cnt L) x).2.1=1
  ·rw [if_pos h2,if_pos h2,aq (PB hs (by omega) (kN hs h1 h2) (cu.1 h1))]
  ·rw [if_neg h2,if_neg h2];rfl
 ·rw [if_neg h1,if_neg h1,if_neg (by omega)];rfl
theorem Hw {L:List Mg} (h:nT L) (x:ByteArray) (n:Int):ak (FH40 x n (bk L))=some (decide (gu (cnt L) x=(n,0)),bk L,()):=by
 unfold FH40
 simp only [aA]
 rw [aq (kH32 h x)]
 simp only [av,aa,bJ]
 by_cases h1:(gu (cnt L) x).2=0
 ·rw [if_pos h1]
  congr 2
  rw [Bool.eq_iff_iff,beq_iff_eq,decide_eq_true_eq]
  exact ⟨fun h=>Prod.ext h h1,fun h=>by rw [h]⟩
 ·rw [if_neg h1]
  congr 2
  exact (decide_eq_false fun h=>h1 (by rw [h])).symm
end
end Go.Proofs.Tryz
end
section
namespace Go.Proofs.Tryz
open Go.AM
set_option maxRecDepth 100000
abbrev Zs:=List (Int×Unit)
abbrev kI:bC (.int .i64)=some [.i]:=rfl
def mA (l:Zs) (n:Int) (nx:Zs):Zs:=l.foldl (fun nx e=>aZ (.int .i64) nx (e.1+n) ()) nx
def CZ (z:Zs):Prop:=gK (.int .i64) z
def sC (Z:Zs) (z:Int):Prop:=(z,())∈Z
theorem CZ.put {Z:Zs} (h:CZ Z) (z:Int):CZ (aZ (.int .i64) Z z ()):=gK.ig kI h
theorem Jp {Z:Zs} (h:CZ Z) {z y:Int}:sC (aZ (.int .i64) Z z ()) y↔y=z∨sC Z y:=by
 unfold sC
 rw [fP kI h]
 constructor
 ·rintro (e | ⟨h, _⟩)
  ·cases e;exact .inl rfl
  ·exact .inr h
 ·by_cases e : y = z
  ·subst e;exact fun _=>.inl rfl
  ·rintro (e' | h)
   ·exact absurd e' e
   ·exact .inr ⟨h,e⟩
theorem lD {n : Int} : ∀ {l nx : Zs}, CZ nx → CZ (mA l n nx) ∧ ∀ z, sC (mA l n nx) z ↔ sC nx z ∨ ∃ x, sC l x ∧ z = x + n
 |[],nx,h=>⟨h,fun z=>by simp [mA,sC]⟩
 |e::l,nx,h=>by
  obtain ⟨h1,h2⟩:=lD (n:=n) (l:=l) (h.put (e.1+n))
  refine ⟨h1,fun z=>?_⟩
  have h3:mA (e::l) n nx=mA l n (aZ (.int .i64) nx (e.1+n) ()):=rfl
  rw [h3,h2,Jp h]
  constructor
  ·rintro ((h | h) | ⟨x, hx, h⟩)
   ·exact .inr ⟨e.1,List.mem_cons_self ..,h⟩
   ·exact .inl h
   ·exact .inr ⟨x,List.mem_cons_of_mem _ hx,h⟩
  ·rintro (h | ⟨x, hx, h⟩)
   ·exact .inl (.inr h)
   ·rcases List.mem_cons.1 hx with e' | hx
    ·exact .inl (.inl (by rw [h,←e']))
    ·exact .inr ⟨x,hx,h⟩
theorem CZ.ext {Z Z':Zs} (h:CZ Z) (h':CZ Z') (hz:∀z,sC Z z↔sC Z' z):Z=Z':=Jj kI h h' fun e=>hz e.1
theorem AS {l l' nx:Zs} {n:Int} (h:CZ nx) (hp:l.Perm l'):mA l n nx=mA l' n nx :=
 (lD h).1.ext (lD h).1 fun z=>by
  rw [(lD h).2,(lD h).2]
  exact or_congr_right ⟨fun ⟨x,hx,e⟩=>⟨x,hp.mem_iff.1 hx,e⟩,fun ⟨x,hx,e⟩=>⟨x,hp.mem_iff.2 hx,e⟩⟩
def mB (f:ByteArray→Int) (can:Zs) (vs:List ByteArray):Zs:=vs.foldl (fun nx v=>mA can (f v) nx) []
theorem E6 {f : ByteArray → Int} {can : Zs} : ∀ {vs : List ByteArray} {nx : Zs}, CZ nx → CZ (vs.foldl (fun nx v => mA can (f v) nx) nx) ∧ ∀ z, sC (vs.foldl (fun nx v => mA can (f v) nx) nx) z ↔ sC nx z ∨ ∃ v ∈ vs, ∃ x, sC can x ∧ z = x + f v
 |[],nx,h=>⟨h,fun z=>by simp⟩
 |v::vs,nx,h=>by
  obtain ⟨h1,h2⟩:=lD (n:=f v) (l:=can) h
  obtain ⟨h3,h4⟩:=E6 (f:=f) (can:=can) (vs:=vs) h1
  refine ⟨h3,fun z=>?_⟩
  rw [List.foldl_cons,h4,h2]
  simp only [List.mem_cons,exists_eq_or_imp,or_assoc]
theorem mD {f:ByteArray→Int} {can:Zs} {vs:List ByteArray}:CZ (mB f can vs)∧∀z,sC (mB f can vs) z↔∃v∈vs,∃x,sC can x∧z=x+f v:=by
 obtain ⟨h1,h2⟩:=E6 (f:=f) (can:=can) (vs:=vs) (nx:=[]) .nil
 exact ⟨h1,fun z=>(h2 z).trans (by simp [sC])⟩
def sD (c:List Mg):List ByteArray:=(c.filter fun m=>decide (m.2.1=1)).map (·.1)
def nB (c:List Mg) (f:ByteArray→Int) (ts:List ByteArray) (can:Zs):Zs:=ts.foldl (fun can t=>mB f can (lS c t)) can
def eD:Zs:=aZ (.int .i64) [] 0 ()
def eu (c:List Mg) (f:ByteArray→Int):List Int:=(nB c f (sD c) eD).map (·.1)
theorem cQ:CZ eD∧∀z,sC eD z↔z=0:=⟨CZ.put .nil 0,fun z=>(Jp .nil).trans (by simp [sC])⟩
theorem sE {c : List Mg} {f : ByteArray → Int} : ∀ {ts : List ByteArray} {can : Zs}, CZ can → CZ (nB c f ts can)
 |[],_,h=>h
 |t::ts,can,_=>sE (ts:=ts) mD.1
def BZ (B:Int) (Z:Zs):Prop:=∀z,sC Z z → -B≤z∧z≤B
theorem sF {f:ByteArray→Int} {can:Zs} {vs:List ByteArray} {B:Int} (h:BZ B can) (hf:∀v∈vs,-1000≤f v∧f v≤1000):BZ (B+1000) (mB f can vs):=fun z hz=>by
 obtain ⟨v,hv,x,hx,rfl⟩:=(mD.2 z).1 hz
 have:=h x hx;have:=hf v hv;omega
section
variable {c:List Mg}
theorem Ue (hs:SI c) {t v:ByteArray} (ht:qI c t=true) (hk:(msg c t).2.1=1) (hv:v∈lS c t):qI c v=true∧((msg c v).2.1=1∨(msg c v).2.1=2):=by
 have hd:=mw hv
 cases hd with
 |refl=>exact ⟨ht,.inl hk⟩
 |step _ hz =>
  obtain ⟨m,hm,h1,h2,_⟩:=jc.1 hz
  subst h1
  exact ⟨cu.2 (List.mem_map.2 ⟨m,hm,rfl⟩),.inr (by rw [gr hs hm];exact h2)⟩
theorem Uf {m:Mg} (h:uF m=0) (hk:m.2.1=1∨m.2.1=2) : -1000≤m.2.2.2.2∧m.2.2.2.2≤1000:=by
 unfold uF at h
 split at h
 ·cases h
 split at h
 ·unfold CC at h
  have h3:nM m=0:=by
   by_cases h1:qf m=0
   ·by_cases h2 : nM m = 0
    ·exact h2
    ·simp [h1,h2] at h
   ·simp [h1] at h
  unfold nM at h3
  rw [if_neg (by omega)] at h3
  split at h3
  ·split at h3
   ·assumption
   ·cases h3
  ·cases h3
 ·cases h
def fA (c:List Mg) (a v:ByteArray):Int:=if (msg c v).2.2.2.1=a then (msg c v).2.2.2.2 else 0
def fT (c:List Mg) (v:ByteArray):Int:=(msg c v).2.2.2.2
def Wh (c:List Mg) (f:ByteArray→Int):Prop:=∀t v,qI c t=true→(msg c t).2.1=1→v∈lS c t → -1000≤f v∧f v≤1000
theorem bndT (hs:SI c) (hc:∀m∈c,uF m=0):Wh c (fT c):=fun t v h1 h2 h3=>by
 obtain ⟨h4,h5⟩:=Ue hs h1 h2 h3
 exact Uf (hc _ (CF hs h4).1) h5
theorem ZF (hs:SI c) (hc:∀m∈c,uF m=0) (a:ByteArray):Wh c (fA c a):=fun t v h1 h2 h3=>by
 have:=bndT hs hc t v h1 h2 h3
 unfold fA;unfold fT at this
 split<;>omega
theorem k68 (m:Mg) (a:ByteArray):ak (F68 m a)=some (if m.2.2.2.1=a then m.2.2.2.2 else 0,()):=by
 simp only [F68,av,aa,b8,seq_eq,aX]
 split<;>rfl
theorem k78 (m:Mg):ak (F78 m)=some (m.2.2.2.2,()):=rfl
theorem Jq (z:Int) (m:Zs):ak (FH100 z m)=some (aZ (.int .i64) m z (),()):=rfl
theorem Wi {Z:Zs} (h:CZ Z) (hl:Z.length<1000000000):ak (FH102 Z)=some (Z.length,Z.map (·.1),Z,()):=by
 unfold FH102
 refine Eq.trans B3 (gA fun l hp=>?_)
 have yP:l.length=Z.length:=hp.length_eq
 simp only [aA,B4]
 refine bind_eq (sx (m:=Z) (l:=l) (by rw [yP];exact hl) fun e n b hn=>?_) ?_
 ·simp only [gH102f121f133_0i_0, aY, aa, dF, ah]
  rw [cm (show _<cg by rw [fU];simp;omega)]
  rfl
 ·simp only [FH122, xI]
  have hpk:(Z.map (·.1)).Perm (l.map (·.1)):=(hp.map (·.1)).symm
  have:=oR kI hpk (gK.keys kI h) (by rw [List.length_map];omega)
  rw [List.length_map] at this
  rw [aq this,yP]
  rfl
theorem Hx {Z:Zs} {B:Nat} (h:CZ Z) (hb:BZ (B:Int) Z):Z.length≤2 * B+1:=by
 have hn:(Z.map (·.1)).Nodup:=by
  unfold List.Nodup
  rw [List.pairwise_map]
  exact List.Pairwise.imp (fun {a b} h e=>by rw [e,gU kI] at h;cases h) h
 have h2:((Z.map (·.1)).map fun z:Int=>(z+(B:Int)).toNat).Nodup:=by
  unfold List.Nodup
  rw [List.pairwise_map]
  refine List.Pairwise.imp_of_mem (fun {a b} ha hb' hab e=>hab ?_) hn
  obtain ⟨p,hp,rfl⟩:=List.mem_map.1 ha
  obtain ⟨q,hq,rfl⟩:=List.mem_map.1 hb'
  have h3:=hb p.1 hp
  have h4:=hb q.1 hq
  omega
 have:=List.Nodup.length_le_of_subset h2 (l₂:=List.range (2 * B+1)) fun z hz=>by
  obtain ⟨y,hy,rfl⟩:=List.mem_map.1 hz
  obtain ⟨p,hp,rfl⟩:=List.mem_map.1 hy
  have h3:=hb p.1 hp
  rw [List.mem_range];omega
 simpa using this
theorem kA67 {a:ByteArray} {nv:Nat} {w1 w2 n:Int} {pP jg:List ByteArray} {can nx:Zs} (hx:CZ nx) (hb:BZ 1000000 can) (hn : -1000≤n∧n≤1000):ak (gH67_0b_2 (nv,w1,w2,n,pP,bU c,bM c,cD c,cZ c,a,jg,can,nx,()))=some (nv,w1,w2,pP,bU c,bM c,cD c,cZ c,a,jg,can,mA can n nx,()):=by
 unfold gH67_0b_2
 simp only [aA]
 refine bind_eq (Eq.trans Gv (gA (b:=(nv,w1,w2,can,bU c,bM c,cD c,cZ c,a,n,pP,jg,mA can n nx,())) fun l hp=>?_)) rfl
 have key:∀(l:Zs) (nx:Zs),(∀e∈l,e∈can)→Ag (fun e a=>run (fun _=>none) (gH67_0b_2i_0 e a)) l (nv,w1,w2,can,bU c,bM c,cD c,cZ c,a,n,pP,jg,nx,())=some (nv,w1,w2,can,bU c,bM c,cD c,cZ c,a,n,pP,jg,mA l n nx,()):=by
  intro l
  induction l with
  |nil=>intro nx _;rfl
  |cons e l ih =>
   intro nx hm
   have hz:=hb e.1 (hm e (List.mem_cons_self ..))
   have hs:run (fun _=>none) (gH67_0b_2i_0 e (nv,w1,w2,can,bU c,bM c,cD c,cZ c,a,n,pP,jg,nx,()))=some (nv,w1,w2,can,bU c,bM c,cD c,cZ c,a,n,pP,jg,aZ (.int .i64) nx (e.1+n) (),()):=by
    simp only [gH67_0b_2i_0,aN,aA,aY,aa,Jq,aP,dF,ah]
    rw [c8 (aH (by omega) (by omega))]
   simp only [Ag,hs]
   exact ih _ fun e he=>hm e (List.mem_cons_of_mem _ he)
 rw [key l nx fun e he=>hp.mem_iff.1 he,AS hx hp]
theorem kB67 {a:ByteArray} {jg:List ByteArray} {can:Zs} {vs:List ByteArray} (hvl:vs.length<1000000) (hb:BZ 1000000 can) (hf:∀v∈vs,-1000≤fA c a v∧fA c a v≤1000) :
  iter (fun x=>ak (gH67_0b_1 x)) (vs.length,((vs.length:Nat):Int),(0:Int),vs,bU c,bM c,cD c,cZ c,a,jg,can,[],())=some (bU c,bM c,cD c,cZ c,a,jg,vs,can,mB (fA c a) can vs,()):=by
 refine aK vs (fun k (nx:Zs)=>(vs.length,((vs.length:Nat):Int),(k:Int),vs,bU c,bM c,cD c,cZ c,a,jg,can,nx,())) (fun nx r=>(bU c,bM c,cD c,cZ c,a,jg,vs,can,r.foldl (fun nx v=>mA can (fA c a v) nx) nx,())) (fun _ nx=>CZ nx) ?_ ?_ (s:=[]) .nil
 ·intro pre v post nx hx Ib
  have hlen:vs.length=pre.length+(post.length+1):=by rw [hx];simp
  have hd:vs.getD pre.length (bs [])=v:=by rw [hx];exact aR rfl
  have i1:ew (pre.length:Int) ((vs.length:Nat):Int)=true:=bF (by omega) (by omega)
  have r1:eN .i64 ((pre.length:Int)+1)=true:=aH (by omega) (by omega)
  have d1:decide (pre.length<vs.length)=true:=decide_eq_true (by omega)
  left
  refine ⟨mA can (fA c a v) nx,?_,(lD Ib).1,rfl⟩
  simp only [gH67_0b_1,av,aU,aY,aN,aA,aa,Int.toNat_natCast,Nat.zero_add,hd,i1,d1,ah,aX,FH101,FH120,aP]
  rw [if_pos (by omega)]
  rw [aq (show ak (F68 ((ay .str zM (bU c) v).1,(ay .str zM (bU c) v).2.1,(ay .str zM (bU c) v).2.2.1,(ay .str zM (bU c) v).2.2.2.1,(ay .str zM (bU c) v).2.2.2.2) a)=some (fA c a v,()) from k68 _ _)]
  rw [aq (kA67 Ib hb (hf v (by rw [hx];simp)))]
  simp only [r1,ah]
  rfl
 ·intro nx _
  simp only [gH67_0b_1,av,aa,aX]
  rw [if_neg (by omega)]
  rfl
theorem kC67 {a:ByteArray} (hs:SI c) (hl:c.length≤60) (hB:Wh c (fA c a)):iter (fun x=>ak (gH67_0i_0 x)) (c.length,((c.length:Nat):Int),(0:Int),c.map (·.1),bU c,bM c,cD c,cZ c,a,eD,()) =
  some (bU c,bM c,cD c,cZ c,a,nB c (fA c a) (sD c) eD,()):=by
 have yP:(c.map (·.1)).length=c.length:=List.length_map ..
 refine aK c (fun k (can:Zs)=>(c.length,((c.length:Nat):Int),(k:Int),c.map (·.1),bU c,bM c,cD c,cZ c,a,can,())) (fun can r=>(bU c,bM c,cD c,cZ c,a,nB c (fA c a) ((r.filter fun m=>decide (m.2.1=1)).map (·.1)) can,())) (fun pre can=>CZ can∧BZ (1000 * (pre.length:Int)) can) ?_ ?_ (s:=eD) ⟨cQ.1,fun z hz=>by rw [(cQ.2 z).1 hz];simp⟩
 ·rintro pre m post can hx ⟨Ug, hbz⟩
  have hlen:c.length=pre.length+(post.length+1):=by rw [hx];simp
  have hm:m∈c:=by rw [hx];simp
  have hd:(c.map (·.1)).getD pre.length (bs [])=m.1:=by rw [hx,List.map_append,List.map_cons];exact aR (by simp)
  have hg:ay .str zM (bU c) m.1=m:=gr hs hm
  have i1:ew (pre.length:Int) ((c.length:Nat):Int)=true:=bF (by omega) (by omega)
  have r1:eN .i64 ((pre.length:Int)+1)=true:=aH (by omega) (by omega)
  have d1:decide (pre.length<(c.map (·.1)).length)=true:=decide_eq_true (by omega)
  have LC:((pre++[m]).length:Int)=(pre.length:Int)+1:=by simp
  left
  by_cases hk:m.2.1=1
  ·have him : qI c m.1 = true := cu.2 (List.mem_map.2 ⟨m, hm, rfl⟩)
   have hkm:(msg c m.1).2.1=1:=by rw [gr hs hm];exact hk
   have hvl:(lS c m.1).length≤c.length:=mz hs (kN hs him hkm) (cu.1 him) .zero
   refine ⟨mB (fA c a) can (lS c m.1),?_,⟨mD.1,?_⟩,?_⟩
   ·simp only [gH67_0i_0, av, aU, aY, aN, aA, bw, aa, Int.toNat_natCast, Nat.zero_add, hd, hg, i1, d1, ah, aX, bJ]
    rw [if_pos (by omega),if_pos hk,aq (PB hs (by omega) (kN hs him hkm) (cu.1 him))]
    rw [aq (kB67 (vs:=lS c m.1) (by omega) (fun z hz=>by have:=hbz z hz;omega) (fun v hv=>hB m.1 v him hkm hv))]
    simp only [r1,ah]
    rfl
   ·have := sF (f := (fA c a)) (vs := lS c m.1) hbz fun v hv => hB m.1 v him hkm hv
    intro z hz
    have:=this z hz
    omega
   ·rw [List.filter_cons_of_pos (by simpa using hk)]
    rfl
  ·refine ⟨can, ?_, ⟨Ug, fun z hz => by have := hbz z hz; omega⟩, ?_⟩
   ·simp only [gH67_0i_0, av, aU, aY, aN, aA, bw, aa, Int.toNat_natCast, Nat.zero_add, hd, hg, i1, d1, r1, ah, aX, bJ]
    rw [if_pos (by omega),if_neg hk]
    rfl
   ·rw [List.filter_cons_of_neg (by simpa using hk)]
 ·rintro can _
  simp only [gH67_0i_0,av,aa,aX]
  rw [if_neg (by omega)]
  rfl
theorem kH67 {a:ByteArray} (hs:SI c) (hl:c.length≤60) (hB:Wh c (fA c a)):ak (FH67 a (bU c) (bM c) (cD c) (cZ c))=some ((eu c (fA c a)).length,eu c (fA c a),bU c,bM c,cD c,cZ c,a,()):=by
 have Ug:CZ (nB c (fA c a) (sD c) eD):=sE cQ.1
 have hbz:BZ 1000000 (nB c (fA c a) (sD c) eD):=by
  have key:∀(ts:List ByteArray) (can:Zs) (B:Int),(∀t∈ts,qI c t=true∧(msg c t).2.1=1)→BZ B can→BZ (B+1000 * ts.length) (nB c (fA c a) ts can):=by
   intro ts
   induction ts with
   |nil=>intro can B _ h;simpa [nB] using h
   |cons t ts ih =>
    intro can B ht h
    have h1:=ht t (List.mem_cons_self ..)
    have:=ih (mB (fA c a) can (lS c t)) (B+1000) (fun t h=>ht t (List.mem_cons_of_mem _ h)) (sF h fun v hv=>hB t v h1.1 h1.2 hv)
    intro z hz
    have:=this z hz
    simp only [List.length_cons]
    omega
  have h1:=key (sD c) eD 0 (fun t ht=>by
   obtain ⟨m,hm,rfl⟩:=List.mem_map.1 ht
   obtain ⟨h1,h2⟩:=List.mem_filter.1 hm
   exact ⟨cu.2 (List.mem_map.2 ⟨m,h1,rfl⟩),by rw [gr hs h1];simpa using h2⟩) (fun z hz=>by rw [(cQ.2 z).1 hz];simp)
  have hle:(sD c).length≤c.length:=by unfold sD;rw [List.length_map];exact List.length_filter_le ..
  intro z hz
  have:=h1 z hz
  omega
 have hlen:=Hx (B:=1000000) Ug (by simpa using hbz)
 unfold FH67 gH67_0
 simp only [aA,Jq,aP,FH79,FH95,aa,bw]
 rw [aq (T6 hs (by omega))]
 refine bind_eq (bind_eq (kC67 hs hl hB) rfl) ?_
 simp only [aP,FH101,FH120,aA,aa]
 rw [aq (Wi Ug (by omega))]
 unfold eu
 rw [List.length_map]
theorem Uh {nv:Nat} {w1 w2 n:Int} {pP jg:List ByteArray} {can nx:Zs} (hx:CZ nx) (hb:BZ 1000000 can) (hn : -1000≤n∧n≤1000):ak (gH67_v1_0b_2 (nv,w1,w2,n,pP,bU c,bM c,cD c,cZ c,jg,can,nx,()))=some (nv,w1,w2,pP,bU c,bM c,cD c,cZ c,jg,can,mA can n nx,()):=by
 unfold gH67_v1_0b_2
 simp only [aA]
 refine bind_eq (Eq.trans Gv (gA (b:=(nv,w1,w2,can,bU c,bM c,cD c,cZ c,n,pP,jg,mA can n nx,())) fun l hp=>?_)) rfl
 have key:∀(l:Zs) (nx:Zs),(∀e∈l,e∈can)→Ag (fun e a=>run (fun _=>none) (gH67_v1_0b_2i_0 e a)) l (nv,w1,w2,can,bU c,bM c,cD c,cZ c,n,pP,jg,nx,())=some (nv,w1,w2,can,bU c,bM c,cD c,cZ c,n,pP,jg,mA l n nx,()):=by
  intro l
  induction l with
  |nil=>intro nx _;rfl
  |cons e l ih =>
   intro nx hm
   have hz:=hb e.1 (hm e (List.mem_cons_self ..))
   have hs:run (fun _=>none) (gH67_v1_0b_2i_0 e (nv,w1,w2,can,bU c,bM c,cD c,cZ c,n,pP,jg,nx,()))=some (nv,w1,w2,can,bU c,bM c,cD c,cZ c,n,pP,jg,aZ (.int .i64) nx (e.1+n) (),()):=by
    simp only [gH67_v1_0b_2i_0,aN,aA,aY,aa,Jq,aP,dF,ah]
    rw [c8 (aH (by omega) (by omega))]
   simp only [Ag,hs]
   exact ih _ fun e he=>hm e (List.mem_cons_of_mem _ he)
 rw [key l nx fun e he=>hp.mem_iff.1 he,AS hx hp]
theorem Ui {jg:List ByteArray} {can:Zs} {vs:List ByteArray} (hvl:vs.length<1000000) (hb:BZ 1000000 can) (hf:∀v∈vs,-1000≤fT c v∧fT c v≤1000) :
  iter (fun x=>ak (gH67_v1_0b_1 x)) (vs.length,((vs.length:Nat):Int),(0:Int),vs,bU c,bM c,cD c,cZ c,jg,can,[],())=some (bU c,bM c,cD c,cZ c,jg,vs,can,mB (fT c) can vs,()):=by
 refine aK vs (fun k (nx:Zs)=>(vs.length,((vs.length:Nat):Int),(k:Int),vs,bU c,bM c,cD c,cZ c,jg,can,nx,())) (fun nx r=>(bU c,bM c,cD c,cZ c,jg,vs,can,r.foldl (fun nx v=>mA can (fT c v) nx) nx,())) (fun _ nx=>CZ nx) ?_ ?_ (s:=[]) .nil
 ·intro pre v post nx hx Ib
  have hlen:vs.length=pre.length+(post.length+1):=by rw [hx];simp
  have hd:vs.getD pre.length (bs [])=v:=by rw [hx];exact aR rfl
  have i1:ew (pre.length:Int) ((vs.length:Nat):Int)=true:=bF (by omega) (by omega)
  have r1:eN .i64 ((pre.length:Int)+1)=true:=aH (by omega) (by omega)
  have d1:decide (pre.length<vs.length)=true:=decide_eq_true (by omega)
  left
  refine ⟨mA can (fT c v) nx,?_,(lD Ib).1,rfl⟩
  simp only [gH67_v1_0b_1,av,aU,aY,aN,aA,aa,Int.toNat_natCast,Nat.zero_add,hd,i1,d1,ah,aX,FH101,FH120,aP]
  rw [if_pos (by omega)]
  rw [aq (show ak (F78 ((ay .str zM (bU c) v).1,(ay .str zM (bU c) v).2.1,(ay .str zM (bU c) v).2.2.1,(ay .str zM (bU c) v).2.2.2.1,(ay .str zM (bU c) v).2.2.2.2))=some (fT c v,()) from k78 _)]
  rw [aq (Uh Ib hb (hf v (by rw [hx];simp)))]
  simp only [r1,ah]
  rfl
 ·intro nx _
  simp only [gH67_v1_0b_1,av,aa,aX]
  rw [if_neg (by omega)]
  rfl
theorem Uj (hs:SI c) (hl:c.length≤60) (hB:Wh c (fT c)):iter (fun x=>ak (gH67_v1_0i_0 x)) (c.length,((c.length:Nat):Int),(0:Int),c.map (·.1),bU c,bM c,cD c,cZ c,eD,()) =
  some (bU c,bM c,cD c,cZ c,nB c (fT c) (sD c) eD,()):=by
 have yP:(c.map (·.1)).length=c.length:=List.length_map ..
 refine aK c (fun k (can:Zs)=>(c.length,((c.length:Nat):Int),(k:Int),c.map (·.1),bU c,bM c,cD c,cZ c,can,())) (fun can r=>(bU c,bM c,cD c,cZ c,nB c (fT c) ((r.filter fun m=>decide (m.2.1=1)).map (·.1)) can,())) (fun pre can=>CZ can∧BZ (1000 * (pre.length:Int)) can) ?_ ?_ (s:=eD) ⟨cQ.1,fun z hz=>by rw [(cQ.2 z).1 hz];simp⟩
 ·rintro pre m post can hx ⟨Ug, hbz⟩
  have hlen:c.length=pre.length+(post.length+1):=by rw [hx];simp
  have hm:m∈c:=by rw [hx];simp
  have hd:(c.map (·.1)).getD pre.length (bs [])=m.1:=by rw [hx,List.map_append,List.map_cons];exact aR (by simp)
  have hg:ay .str zM (bU c) m.1=m:=gr hs hm
  have i1:ew (pre.length:Int) ((c.length:Nat):Int)=true:=bF (by omega) (by omega)
  have r1:eN .i64 ((pre.length:Int)+1)=true:=aH (by omega) (by omega)
  have d1:decide (pre.length<(c.map (·.1)).length)=true:=decide_eq_true (by omega)
  have LC:((pre++[m]).length:Int)=(pre.length:Int)+1:=by simp
  left
  by_cases hk:m.2.1=1
  ·have him : qI c m.1 = true := cu.2 (List.mem_map.2 ⟨m, hm, rfl⟩)
   have hkm:(msg c m.1).2.1=1:=by rw [gr hs hm];exact hk
   have hvl:(lS c m.1).length≤c.length:=mz hs (kN hs him hkm) (cu.1 him) .zero
   refine ⟨mB (fT c) can (lS c m.1),?_,⟨mD.1,?_⟩,?_⟩
   ·simp only [gH67_v1_0i_0, av, aU, aY, aN, aA, bw, aa, Int.toNat_natCast, Nat.zero_add, hd, hg, i1, d1, ah, aX, bJ]
    rw [if_pos (by omega),if_pos hk,aq (PB hs (by omega) (kN hs him hkm) (cu.1 him))]
    rw [aq (Ui (vs:=lS c m.1) (by omega) (fun z hz=>by have:=hbz z hz;omega) (fun v hv=>hB m.1 v him hkm hv))]
    simp only [r1,ah]
    rfl
   ·have := sF (f := (fT c)) (vs := lS c m.1) hbz fun v hv => hB m.1 v him hkm hv
    intro z hz
    have:=this z hz
    omega
   ·rw [List.filter_cons_of_pos (by simpa using hk)]
    rfl
  ·refine ⟨can, ?_, ⟨Ug, fun z hz => by have := hbz z hz; omega⟩, ?_⟩
   ·simp only [gH67_v1_0i_0, av, aU, aY, aN, aA, bw, aa, Int.toNat_natCast, Nat.zero_add, hd, hg, i1, d1, r1, ah, aX, bJ]
    rw [if_pos (by omega),if_neg hk]
    rfl
   ·rw [List.filter_cons_of_neg (by simpa using hk)]
 ·rintro can _
  simp only [gH67_v1_0i_0,av,aa,aX]
  rw [if_neg (by omega)]
  rfl
theorem Uk (hs:SI c) (hl:c.length≤60) (hB:Wh c (fT c)):ak (FH67_v1 (bU c) (bM c) (cD c) (cZ c))=some ((eu c (fT c)).length,eu c (fT c),bU c,bM c,cD c,cZ c,()):=by
 have Ug:CZ (nB c (fT c) (sD c) eD):=sE cQ.1
 have hbz:BZ 1000000 (nB c (fT c) (sD c) eD):=by
  have key:∀(ts:List ByteArray) (can:Zs) (B:Int),(∀t∈ts,qI c t=true∧(msg c t).2.1=1)→BZ B can→BZ (B+1000 * ts.length) (nB c (fT c) ts can):=by
   intro ts
   induction ts with
   |nil=>intro can B _ h;simpa [nB] using h
   |cons t ts ih =>
    intro can B ht h
    have h1:=ht t (List.mem_cons_self ..)
    have:=ih (mB (fT c) can (lS c t)) (B+1000) (fun t h=>ht t (List.mem_cons_of_mem _ h)) (sF h fun v hv=>hB t v h1.1 h1.2 hv)
    intro z hz
    have:=this z hz
    simp only [List.length_cons]
    omega
  have h1:=key (sD c) eD 0 (fun t ht=>by
   obtain ⟨m,hm,rfl⟩:=List.mem_map.1 ht
   obtain ⟨h1,h2⟩:=List.mem_filter.1 hm
   exact ⟨cu.2 (List.mem_map.2 ⟨m,h1,rfl⟩),by rw [gr hs h1];simpa using h2⟩) (fun z hz=>by rw [(cQ.2 z).1 hz];simp)
  have hle:(sD c).length≤c.length:=by unfold sD;rw [List.length_map];exact List.length_filter_le ..
  intro z hz
  have:=h1 z hz
  omega
 have hlen:=Hx (B:=1000000) Ug (by simpa using hbz)
 unfold FH67_v1 gH67_v1_0
 simp only [aA,Jq,aP,FH79,FH95,aa,bw]
 rw [aq (T6 hs (by omega))]
 refine bind_eq (bind_eq (Uj hs hl hB) rfl) ?_
 simp only [aP,FH101,FH120,aA,aa]
 rw [aq (Wi Ug (by omega))]
 unfold eu
 rw [List.length_map]
def sG (c:List Mg) (a:ByteArray):List Int×Int:=if iF a=true then (eu c (fA c a),0) else ([],8)
theorem vP {L:List Mg} (h:nT L):∀m∈cnt L,uF m=0:=fun m hm=>h.uF m (vK hm)
theorem Ul {L:List Mg} (h:nT L) {a:ByteArray} (ha:Sh a):ak (FH23 a (bk L))=some ((sG (cnt L) a).1.length,(sG (cnt L) a).2,(sG (cnt L) a).1,bk L,()):=by
 unfold FH23
 simp only [aA,Hr,aP,av,bK,k65 a ha,b8]
 rw [kq]
 unfold sG
 split
 ·rw [aq (PA h)]
  simp only
  rw [aq (kH67 (iG L) (nA h) (ZF (iG L) (vP h) a))]
  rfl
 ·rfl
end
end Go.Proofs.Tryz
end
section
namespace Go.Proofs.Tryz
open Go.AM
set_option maxRecDepth 100000
def AU (l:List Int):Int×Int:=(l.getD 0 0,l.getD (l.length - 1) 0)
theorem k72 {l:List Int} (h0:0<l.length) (hl:l.length<1000000000):ak (F72 l)=some (AU l,()):=by
 unfold F72
 simp only [aU,aN,aa]
 rw [bF (by omega) (by omega),ah,c8 (aH (by omega) (by omega)),bF (by omega) (by omega),ah]
 rw [show ((l.length:Int) - 1).toNat=l.length - 1 by omega]
 rfl
section
variable {c:List Mg}
theorem PD {f:ByteArray→Int} {can:Zs} {vs:List ByteArray} (hc:∃z,sC can z) (hv:vs≠[]):∃z,sC (mB f can vs) z:=by
 obtain ⟨z,hz⟩:=hc
 cases vs with
 |nil=>exact absurd rfl hv
 |cons v vs=>exact ⟨z+f v,(mD.2 _).2 ⟨v,List.mem_cons_self ..,z,hz,rfl⟩⟩
def AV (c:List Mg) (a:ByteArray):(Int×Int)×Int:=if (sG c a).2=0 then (AU (sG c a).1,0) else ((0,0),(sG c a).2)
def Um (c:List Mg):Int×Int:=AU (eu c (fT c))
abbrev Ss:=List (ByteArray×Unit)
def Hy (c:List Mg) (vs:List ByteArray) (m:Ss):Ss:=vs.foldl (fun m v=>aZ .str m (msg c v).2.2.2.1 ()) m
def Hz (c:List Mg) (ts:List ByteArray) (m:Ss):Ss:=ts.foldl (fun m t=>Hy c (lS c t) m) m
def Un (c:List Mg):List ByteArray:=(Hz c (sD c) []).map (·.1)
theorem PE {vs:List ByteArray}:∀{m:Ss},gK .str m→gK .str (Hy c vs m):=by
 induction vs with
 |nil=>exact fun h=>h
 |cons v vs ih=>exact fun h=>ih (h.ig kS)
theorem PF {ts:List ByteArray}:∀{m:Ss},gK .str m→gK .str (Hz c ts m):=by
 induction ts with
 |nil=>exact fun h=>h
 |cons t ts ih=>exact fun h=>ih (PE h)
theorem E7 : ∀ {m : Ss} {k : ByteArray}, (pS .str m k ()).length = m.length + 1
 |[],_=>rfl
 |e::m,k=>by
  unfold pS
  split
  ·simp
  ·rw [List.length_cons,E7];rfl
theorem PG {m:Ss} {k:ByteArray}:(aZ .str m k ()).length≤m.length+1:=by
 unfold aZ
 split
 ·rw [List.length_map];omega
 ·rw [E7];exact Nat.le_refl _
theorem Uo {Z:Ss} (h:gK .str Z) (hl:Z.length<1000000000):ak (FH81_v1 Z)=some (Z.length,Z.map (·.1),Z,()):=by
 unfold FH81_v1
 refine Eq.trans B3 (gA fun l hp=>?_)
 have yP:l.length=Z.length:=hp.length_eq
 simp only [aA,B4]
 refine bind_eq (sx (m:=Z) (l:=l) (by rw [yP];exact hl) fun e n b hn=>?_) ?_
 ·simp only [gH81_v1f107f126_0i_0, aY, aa, dF, ah]
  rw [cm (show _<cg by rw [fU];simp;omega)]
  rfl
 ·simp only [FH105, xI]
  have hpk:(Z.map (·.1)).Perm (l.map (·.1)):=(hp.map (·.1)).symm
  have:=oR kS hpk (gK.keys kS h) (by rw [List.length_map];omega)
  rw [List.length_map] at this
  rw [aq this,yP]
  rfl
theorem kB45 {m1:List (Mg×Bool)} {jg vs:List ByteArray} (hvl:vs.length<1000000) {m:Ss} :
  iter (fun x=>ak (gH45_0b_1 x)) (vs.length,((vs.length:Nat):Int),(0:Int),vs,bU c,bM c,cD c,cZ c,m1,jg,m,())=some (m1,bU c,bM c,cD c,cZ c,jg,vs,Hy c vs m,()):=by
 refine aK vs (fun k (m:Ss)=>(vs.length,((vs.length:Nat):Int),(k:Int),vs,bU c,bM c,cD c,cZ c,m1,jg,m,())) (fun m r=>(m1,bU c,bM c,cD c,cZ c,jg,vs,Hy c r m,())) (fun _ _=>True) ?_ ?_ (s:=m) trivial
 ·intro pre v post nx hx _
  have hlen:vs.length=pre.length+(post.length+1):=by rw [hx];simp
  have hd:vs.getD pre.length (bs [])=v:=by rw [hx];exact aR rfl
  have i1:ew (pre.length:Int) ((vs.length:Nat):Int)=true:=bF (by omega) (by omega)
  have r1:eN .i64 ((pre.length:Int)+1)=true:=aH (by omega) (by omega)
  have d1:decide (pre.length<vs.length)=true:=decide_eq_true (by omega)
  left
  refine ⟨aZ .str nx (msg c v).2.2.2.1 (),?_,trivial,rfl⟩
  simp only [gH45_0b_1,av,aU,aY,aN,aA,aa,Int.toNat_natCast,Nat.zero_add,hd,i1,d1,r1,ah,aX,FH80,aP]
  rw [if_pos (by omega)]
  rfl
 ·intro nx _
  simp only [gH45_0b_1,av,aa,aX]
  rw [if_neg (by omega)]
  rfl
theorem kC45 {m1:List (Mg×Bool)} (hs:SI c) (hl:c.length≤60):iter (fun x=>ak (gH45_0i_0 x)) (c.length,((c.length:Nat):Int),(0:Int),c.map (·.1),bU c,bM c,cD c,cZ c,m1,[],()) =
  some (m1,bU c,bM c,cD c,cZ c,Hz c (sD c) [],()):=by
 have yP:(c.map (·.1)).length=c.length:=List.length_map ..
 refine aK c (fun k (m:Ss)=>(c.length,((c.length:Nat):Int),(k:Int),c.map (·.1),bU c,bM c,cD c,cZ c,m1,m,())) (fun m r=>(m1,bU c,bM c,cD c,cZ c,Hz c ((r.filter fun m=>decide (m.2.1=1)).map (·.1)) m,())) (fun _ _=>True) ?_ ?_ (s:=[]) trivial
 ·rintro pre m post can hx _
  have hlen:c.length=pre.length+(post.length+1):=by rw [hx];simp
  have hm:m∈c:=by rw [hx];simp
  have hd:(c.map (·.1)).getD pre.length (bs [])=m.1:=by rw [hx,List.map_append,List.map_cons];exact aR (by simp)
  have hg:ay .str zM (bU c) m.1=m:=gr hs hm
  have i1:ew (pre.length:Int) ((c.length:Nat):Int)=true:=bF (by omega) (by omega)
  have r1:eN .i64 ((pre.length:Int)+1)=true:=aH (by omega) (by omega)
  have d1:decide (pre.length<(c.map (·.1)).length)=true:=decide_eq_true (by omega)
  left
  by_cases hk:m.2.1=1
  ·have him : qI c m.1 = true := cu.2 (List.mem_map.2 ⟨m, hm, rfl⟩)
   have hkm:(msg c m.1).2.1=1:=by rw [gr hs hm];exact hk
   have hvl:(lS c m.1).length≤c.length:=mz hs (kN hs him hkm) (cu.1 him) .zero
   refine ⟨Hy c (lS c m.1) can,?_,trivial,?_⟩
   ·simp only [gH45_0i_0, av, aU, aY, aN, aA, bw, aa, Int.toNat_natCast, Nat.zero_add, hd, hg, i1, d1, ah, aX, bJ]
    rw [if_pos (by omega),if_pos hk,aq (PB hs (by omega) (kN hs him hkm) (cu.1 him))]
    rw [aq (kB45 (vs:=lS c m.1) (by omega))]
    simp only [r1,ah]
    rfl
   ·rw [List.filter_cons_of_pos (by simpa using hk)]
    rfl
  ·refine ⟨can, ?_, trivial, ?_⟩
   ·simp only [gH45_0i_0, av, aU, aY, aN, aA, bw, aa, Int.toNat_natCast, Nat.zero_add, hd, hg, i1, d1, r1, ah, aX, bJ]
    rw [if_pos (by omega),if_neg hk]
    rfl
   ·rw [List.filter_cons_of_neg (by simpa using hk)]
 ·rintro can _
  simp only [gH45_0i_0,av,aa,aX]
  rw [if_neg (by omega)]
  rfl
theorem PI {vs:List ByteArray}:∀{m:Ss},(Hy c vs m).length≤m.length+vs.length:=by
 induction vs with
 |nil=>exact Nat.le_refl _
 |cons v vs ih =>
  intro m
  have h1:=ih (m:=aZ .str m (msg c v).2.2.2.1 ())
  have h2:=PG (m:=m) (k:=(msg c v).2.2.2.1)
  simp only [List.length_cons]
  exact Nat.le_trans h1 (by omega)
theorem HA (hs:SI c) {t:ByteArray} (ht:t∈sD c):qI c t=true∧(msg c t).2.1=1:=by
 obtain ⟨m,hm,rfl⟩:=List.mem_map.1 ht
 obtain ⟨h1,h2⟩:=List.mem_filter.1 hm
 exact ⟨cu.2 (List.mem_map.2 ⟨m,h1,rfl⟩),by rw [gr hs h1];simpa using h2⟩
theorem vQ:(sD c).length≤c.length:=by unfold sD;rw [List.length_map];exact List.length_filter_le ..
theorem Uq (hs:SI c) {t:ByteArray} (ht:qI c t=true) (hk:(msg c t).2.1=1):(lS c t).length≤c.length:=mz hs (kN hs ht hk) (cu.1 ht) .zero
theorem E8 (hs : SI c) : ∀ {ts : List ByteArray} {m : Ss}, (∀ t ∈ ts, qI c t = true ∧ (msg c t).2.1 = 1) → (Hz c ts m).length ≤ m.length + ts.length * c.length
 |[],m,_=>by simp [Hz]
 |t::ts,m,h=>by
  have h1:=E8 hs (ts:=ts) (m:=Hy c (lS c t) m) fun t h'=>h t (List.mem_cons_of_mem _ h')
  have h2:=PI (c:=c) (vs:=lS c t) (m:=m)
  have h3:=Uq hs (h t (List.mem_cons_self ..)).1 (h t (List.mem_cons_self ..)).2
  have h4:(ts.length+1) * c.length=ts.length * c.length+c.length:=Nat.succ_mul ..
  simp only [List.length_cons,h4]
  exact Nat.le_trans h1 (by omega)
theorem kH45 {L:List Mg} (h:nT L):ak (FH45 (bk L))=some ((Un (cnt L)).length,Un (cnt L),bk L,()):=by
 have hs:=iG L
 have hc:=nA h
 have hz:=E8 hs (ts:=sD (cnt L)) (m:=[]) fun t ht=>HA hs ht
 have hq:(sD (cnt L)).length * (cnt L).length≤60 * 60:=Nat.mul_le_mul (Nat.le_trans vQ hc) hc
 have hzl:(Hz (cnt L) (sD (cnt L)) []).length<1000000000:=by simp only [List.length_nil] at hz;omega
 unfold FH45 gH45_0
 simp only [aA,Hr,aP,av,bK]
 rw [aq (PA h)]
 simp only [FH79,FH95,aa,aP,bw]
 rw [aq (T6 hs (by omega))]
 refine bind_eq (bind_eq (kC45 hs hc) rfl) ?_
 simp only [FH82,FH108,aA,aa,aP]
 rw [aq (Uo (PF .nil) hzl)]
 unfold Un
 rw [List.length_map]
theorem ZG {Z:Zs} (h:∃z,sC Z z):0<Z.length:=by
 obtain ⟨z,hz⟩:=h
 exact List.length_pos_of_mem hz
theorem Jr (hs : SI c) {t : ByteArray} (ht : Qn c t) (CT : t ∈ ids c) : ∀ {n d : Nat} {x : ByteArray}, jE c t d x → d + n = c.length → cA c (n + 1) x ≠ []
 |0,d,x,hp,hd=>by have:=hp.short hs ht CT;omega
 |n+1,d,x,hp,hd=>by
  unfold cA
  split
  ·simp
  ·rename_i k l hl
   intro h
   have h1:=(ef (t:=.str) ((k::l).flatMap (cA c (n+1)))).length_eq
   rw [show oF .str ((k::l).flatMap (cA c (n+1)))=[] from h] at h1
   have h2:=Jr hs ht CT (n:=n) (hp.step (vO (by rw [hl];exact List.mem_cons_self ..))) (by omega)
   have h3:0<(cA c (n+1) k).length:=List.length_pos_iff.2 h2
   rw [List.flatMap_cons,List.length_append] at h1
   simp only [List.length_nil] at h1
   omega
theorem ZH (hs:SI c) {t:ByteArray} (ht:qI c t=true∧(msg c t).2.1=1):lS c t≠[]:=Jr hs (kN hs ht.1 ht.2) (cu.1 ht.1) .zero (by omega)
theorem Js (hs : SI c) {f : ByteArray → Int} : ∀ {ts : List ByteArray} {can : Zs}, (∀ t ∈ ts, qI c t = true ∧ (msg c t).2.1 = 1) → (∃ z, sC can z) → ∃ z, sC (nB c f ts can) z
 |[],_,_,h=>h
 |t::ts,can,ht,h=>Js hs (ts:=ts) (fun t h=>ht t (List.mem_cons_of_mem _ h)) (PD h (ZH hs (ht t (List.mem_cons_self ..))))
theorem sH (hs:SI c) {f:ByteArray→Int}:0<(eu c f).length:=by
 unfold eu
 rw [List.length_map]
 exact ZG (Js hs (fun t ht=>HA hs ht) ⟨0,(cQ.2 0).2 rfl⟩)
theorem Ur (hs:SI c) (hl:c.length≤60) {f:ByteArray→Int} (hB:Wh c f):BZ 60000 (nB c f (sD c) eD):=by
 have key:∀(ts:List ByteArray) (can:Zs) (B:Int),(∀t∈ts,qI c t=true∧(msg c t).2.1=1)→BZ B can→BZ (B+1000 * ts.length) (nB c f ts can):=by
  intro ts
  induction ts with
  |nil=>intro can B _ h;simpa [nB] using h
  |cons t ts ih =>
   intro can B ht h
   have h1:=ht t (List.mem_cons_self ..)
   have:=ih (mB f can (lS c t)) (B+1000) (fun t h=>ht t (List.mem_cons_of_mem _ h)) (sF h fun v hv=>hB t v h1.1 h1.2 hv)
   intro z hz
   have:=this z hz
   simp only [List.length_cons]
   omega
 have h1:=key (sD c) eD 0 (fun t ht=>HA hs ht) (fun z hz=>by rw [(cQ.2 z).1 hz];simp)
 have hle:=vQ (c:=c)
 intro z hz
 have:=h1 z hz
 omega
theorem yF (hs:SI c) (hl:c.length≤60) {f:ByteArray→Int} (hB:Wh c f):(eu c f).length<1000000:=by
 have:=Hx (B:=60000) (sE cQ.1) (by simpa using Ur hs hl hB)
 unfold eu
 rw [List.length_map]
 omega
theorem kH37 {L:List Mg} (h:nT L):ak (FH37 (bk L))=some (Um (cnt L),0,bk L,()):=by
 have hs:=iG L
 have hc:=nA h
 have hB:=bndT hs (vP h)
 unfold FH37
 simp only [aA,Hr,aP,av,bK]
 rw [aq (PA h)]
 simp only
 rw [aq (Uk hs hc hB)]
 simp only [List.drop_zero,List.take_length]
 rw [aq (k72 (sH hs) (by have:=yF hs hc hB;omega))]
 rfl
theorem kH25 {L:List Mg} (h:nT L) {a:ByteArray} (ha:Sh a):ak (FH25 a (bk L))=some ((AV (cnt L) a).1,(AV (cnt L) a).2,bk L,()):=by
 have hs:=iG L
 have hc:=nA h
 have hB:=ZF hs (vP h) a
 unfold FH25
 simp only [aA]
 rw [aq (Ul h ha)]
 simp only [av,b8,bJ,aa,List.drop_zero,List.take_length]
 unfold AV
 by_cases h0:(sG (cnt L) a).2=0
 ·rw [if_pos h0, if_pos h0]
  have h1:(sG (cnt L) a).1=eu (cnt L) (fA (cnt L) a):=by
   revert h0
   unfold sG
   split
   ·intro _;rfl
   ·intro h;cases h
  rw [h1,aA,aq (k72 (sH hs) (by have:=yF hs hc hB;omega))]
  rfl
 ·rw [if_neg h0,if_neg h0]
theorem k36 {l l':List ByteArray} (hl:l.length<1000000000):ak (F36 l l')=some (decide (l=l'),()):=by
 by_cases hn:l.length=l'.length
 ·have hi:iter (fun a=>run (fun _=>none) (g36_0 a)) (l,l',(0:Int),())=some (if l=l'.drop 0 then Sum.inr () else Sum.inl ()):=by
   refine aK l (fun k (_:Nat)=>(l,l',(k:Int),())) (fun k r=>if r=l'.drop k then Sum.inr () else Sum.inl ()) (fun pre k=>k=pre.length) ?_ ?_ (s:=0) rfl
   ·rintro pre x post k hx rfl
    have hlen:l.length=pre.length+(post.length+1):=by rw [hx];simp
    have hlt:pre.length<l'.length:=by omega
    have hd:l.getD pre.length (bs [])=x:=by rw [hx];exact aR rfl
    have hd':l'.getD pre.length (bs [])=l'[pre.length]:=by rw [List.getD_eq_getElem?_getD,List.getElem?_eq_getElem hlt];rfl
    have i1:ew (pre.length:Int) ((l.length:Nat):Int)=true:=bF (by omega) (by omega)
    have i2:ew (pre.length:Int) ((l'.length:Nat):Int)=true:=bF (by omega) (by omega)
    have r1:eN .i64 ((pre.length:Int)+1)=true:=aH (by omega) (by omega)
    simp only [g36_0,av,aU,aN,aa,Int.toNat_natCast,hd,hd',i1,i2,r1,ah,aX,seq_eq,b8]
    rw [if_pos (by omega),List.drop_eq_getElem_cons hlt]
    by_cases h:x=l'[pre.length]
    ·left
     refine ⟨pre.length+1,?_,by simp,?_⟩
     ·rw [if_pos h];rfl
     ·rw [h];simp only [List.cons.injEq,true_and]
    ·right
     rw [if_neg h,if_neg (fun e=>h (List.cons.inj e).1)]
   ·rintro k rfl
    simp only [g36_0,av,aX,aa]
    rw [if_neg (by omega),if_pos (by rw [hn,List.drop_length])]
  unfold F36
  simp only [av,aA,bw,b8,bJ]
  rw [if_pos (by omega),aq hi,List.drop_zero]
  by_cases h:l=l'
  ·rw [if_pos h];simp only [lM,aa,h,decide_true]
  ·rw [if_neg h];simp only [oD,aa,h,decide_false]
 ·unfold F36
  simp only [av,b8,bJ,aa]
  rw [if_neg (by omega),decide_eq_false fun e=>hn (by rw [e])]
theorem k27 {l l':List Int} (hl:l.length<1000000000):ak (F27 l l')=some (decide (l=l'),()):=by
 by_cases hn:l.length=l'.length
 ·have hi:iter (fun a=>run (fun _=>none) (g27_0 a)) (l,l',(0:Int),())=some (if l=l'.drop 0 then Sum.inr () else Sum.inl ()):=by
   refine aK l (fun k (_:Nat)=>(l,l',(k:Int),())) (fun k r=>if r=l'.drop k then Sum.inr () else Sum.inl ()) (fun pre k=>k=pre.length) ?_ ?_ (s:=0) rfl
   ·rintro pre x post k hx rfl
    have hlen:l.length=pre.length+(post.length+1):=by rw [hx];simp
    have hlt:pre.length<l'.length:=by omega
    have hd:l.getD pre.length (0:Int)=x:=by rw [hx];exact aR rfl
    have hd':l'.getD pre.length (0:Int)=l'[pre.length]:=by rw [List.getD_eq_getElem?_getD,List.getElem?_eq_getElem hlt];rfl
    have i1:ew (pre.length:Int) ((l.length:Nat):Int)=true:=bF (by omega) (by omega)
    have i2:ew (pre.length:Int) ((l'.length:Nat):Int)=true:=bF (by omega) (by omega)
    have r1:eN .i64 ((pre.length:Int)+1)=true:=aH (by omega) (by omega)
    simp only [g27_0,av,aU,aN,aa,Int.toNat_natCast,hd,hd',i1,i2,r1,ah,aX,b8,bJ]
    rw [if_pos (by omega),List.drop_eq_getElem_cons hlt]
    by_cases h:x=l'[pre.length]
    ·left
     refine ⟨pre.length+1,?_,by simp,?_⟩
     ·rw [if_pos h];rfl
     ·rw [h];simp only [List.cons.injEq,true_and]
    ·right
     rw [if_neg h,if_neg (fun e=>h (List.cons.inj e).1)]
   ·rintro k rfl
    simp only [g27_0,av,aX,aa]
    rw [if_neg (by omega),if_pos (by rw [hn,List.drop_length])]
  unfold F27
  simp only [av,aA,bw,b8,bJ]
  rw [if_pos (by omega),aq hi,List.drop_zero]
  by_cases h:l=l'
  ·rw [if_pos h];simp only [lM,aa,h,decide_true]
  ·rw [if_neg h];simp only [oD,aa,h,decide_false]
 ·unfold F27
  simp only [av,b8,bJ,aa]
  rw [if_neg (by omega),decide_eq_false fun e=>hn (by rw [e])]
end
end Go.Proofs.Tryz
end
section
namespace Go.Proofs.Tryz
open Go.AM
set_option maxRecDepth 100000
def XL:List Mg:=[(bs [116,49],1,bs [],bs [97,110,97],40),(bs [116,50],1,bs [],bs [98,101,110],25),(bs [99,49],2,bs [116,49],bs [97,110,97],42),(bs [99,50],2,bs [116,49],bs [99,121],40),(bs [99,51],2,bs [99,49],bs [97,110,97],41),(bs [119,49],2,bs [120,57],bs [98,101,110],5),(bs [114,49],3,bs [99,49],bs [],0),(bs [114,50],3,bs [99,50],bs [],0)]
theorem k46:ak F46=some (XL,()):=by
 unfold F46
 simp only [aA,F50,F42,F39,aa,aP]
 rfl
def L6:List Mg:=gG ((XL.drop (Int.toNat 0)).take (Int.toNat 6 - Int.toNat 0))
def L7:List Mg:=gG ((XL.drop (Int.toNat 0)).take (Int.toNat 7 - Int.toNat 0))
def L8:List Mg:=gG XL
theorem x1:AR (cnt L6) (bs [116,49])=([bs [99,50],bs [99,51]],0):=by kernel_rfl
theorem x2:sG (cnt L6) (bs [97,110,97])=([0,41],0):=by kernel_rfl
theorem x3:sG (cnt L7) (bs [97,110,97])=([41],0):=by kernel_rfl
theorem x4:Um (cnt L6)=(65,66):=by kernel_rfl
theorem x5:AV (cnt L8) (bs [99,121])=((0,40),0):=by kernel_rfl
theorem x6:Un (cnt L6)=[bs [97,110,97],bs [98,101,110],bs [99,121]]:=by kernel_rfl
theorem x7:gu (cnt L6) (bs [116,49])=(3,0):=by kernel_rfl
theorem x8:gu (cnt L6) (bs [116,50])=(4,0):=by kernel_rfl
theorem x9:gu (cnt L6) (bs [99,51])=(5,0):=by kernel_rfl
theorem x10:gu (cnt L6) (bs [119,49])=(1,0):=by kernel_rfl
theorem x11:gu (cnt L7) (bs [99,50])=(2,0):=by kernel_rfl
theorem x12:gu (cnt L7) (bs [99,51])=(4,0):=by kernel_rfl
theorem x13:gu (cnt L8) (bs [99,50])=(5,0):=by kernel_rfl
theorem x14:L8.length=8:=by kernel_rfl
instance (m:Mg):Decidable (Pu m):=by unfold Pu Sh;infer_instance
theorem aeL:ak (FH29 ((XL.drop (Int.toNat 0)).take (Int.toNat 6 - Int.toNat 0)))=some (bk L6,()):=T3 (by decide) (by decide +kernel)
theorem aeM:ak (FH29 ((XL.drop (Int.toNat 0)).take (Int.toNat 7 - Int.toNat 0)))=some (bk L7,()):=T3 (by decide) (by decide +kernel)
theorem aeN:ak (FH29 XL)=some (bk L8,()):=T3 (by decide) (by decide +kernel)
theorem o6:nT L6:=nT.told _
theorem o7:nT L7:=nT.told _
theorem o8:nT L8:=nT.told _
theorem xl:XL.length=8:=rfl
theorem PJ:Sh (bs [97,110,97]):=by unfold Sh;decide +kernel
theorem aeO:Sh (bs [99,121]):=by unfold Sh;decide +kernel
theorem e1:ak (FH33 (bs [116,49]) (bk L6))=some (2,0,[bs [99,50],bs [99,51]],bk L6,()):=by rw [kH33 o6,x1];rfl
theorem e2:ak (FH23 (bs [97,110,97]) (bk L6))=some (2,0,[0,41],bk L6,()):=by rw [Ul o6 PJ,x2];rfl
theorem e3:ak (FH23 (bs [97,110,97]) (bk L7))=some (1,0,[41],bk L7,()):=by rw [Ul o7 PJ,x3];rfl
theorem e4:ak (FH37 (bk L6))=some ((65,66),0,bk L6,()):=by rw [kH37 o6,x4]
theorem e5:ak (FH25 (bs [99,121]) (bk L8))=some ((0,40),0,bk L8,()):=by rw [kH25 o8 aeO,x5]
theorem e6:ak (FH45 (bk L6))=some (3,[bs [97,110,97],bs [98,101,110],bs [99,121]],bk L6,()):=by rw [kH45 o6,x6];rfl
theorem e7:ak (F36 (([bs [99,50],bs [99,51]].drop 0).take 2) (([bs [99,50],bs [99,51]].drop 0).take 2))=some (true,()):=by rw [k36 (by decide)];rfl
theorem e8:ak (F27 ((([0,41]:List Int).drop 0).take 2) ((([0,41]:List Int).drop 0).take 2))=some (true,()):=by rw [k27 (by decide)];rfl
theorem e9:ak (F27 ((([41]:List Int).drop 0).take 1) ((([41]:List Int).drop 0).take 1))=some (true,()):=by rw [k27 (by decide)];rfl
theorem e10:ak (F36 (([bs [97,110,97],bs [98,101,110],bs [99,121]].drop 0).take 3) (([bs [97,110,97],bs [98,101,110],bs [99,121]].drop 0).take 3))=some (true,()):=by rw [k36 (by decide)];rfl
theorem e11:ak (FH40 (bs [116,49]) 3 (bk L6))=some (true,bk L6,()):=by rw [Hw o6,x7];rfl
theorem e12:ak (FH40 (bs [116,50]) 4 (bk L6))=some (true,bk L6,()):=by rw [Hw o6,x8];rfl
theorem e13:ak (FH40 (bs [99,51]) 5 (bk L6))=some (true,bk L6,()):=by rw [Hw o6,x9];rfl
theorem e14:ak (FH40 (bs [119,49]) 1 (bk L6))=some (true,bk L6,()):=by rw [Hw o6,x10];rfl
theorem e15:ak (FH40 (bs [99,50]) 2 (bk L7))=some (true,bk L7,()):=by rw [Hw o7,x11];rfl
theorem e16:ak (FH40 (bs [99,51]) 4 (bk L7))=some (true,bk L7,()):=by rw [Hw o7,x12];rfl
theorem e17:ak (FH40 (bs [99,50]) 5 (bk L8))=some (true,bk L8,()):=by rw [Hw o8,x13];rfl
theorem e18:ak (FH47 (bk L8))=some (8,L8,bk L8,()):=by rw [kH47 o8.s (by rw [x14];decide),x14]
theorem k17:ak F17=some (true,()):=by
 unfold F17
 simp only [aA,aY,av,aa,k46,aP,aeL,aeM,aeN,xl,e1,e2,e3,e4,e5,e6,e11,e12,e13,e14,e15,e16,e17,e18,bJ]
 rw [cm (by decide),cm (by decide),cm (by decide),cm (by decide)]
 rw [if_pos trivial,if_pos trivial,if_pos trivial,if_pos trivial,if_pos trivial,aq e7]
 simp only [bO]
 rw [aq e8]
 simp only [bO]
 rw [aq e9]
 simp only [bO]
 rw [show (((65,66):Int×Int).1==65&&(((65,66):Int×Int).2==66&&true))=true from by decide,show (((0,40):Int×Int).1==0&&(((0,40):Int×Int).2==40&&true))=true from by decide]
 simp only [bO]
 rw [aq e10]
 simp only [bO]
 refine (cm (by decide)).trans ?_
 refine (cm (by decide)).trans ?_
 rfl
def mC:Mg:=(bs [99,49],2,bs [116,49],bs [97,110,97],43)
def L9:List Mg:=(lB L8 mC).2
theorem y1:(lB L8 mC).1=0:=by kernel_rfl
theorem y2:gu (cnt L9) (bs [114,49])=(0,18):=by kernel_rfl
theorem y3:AR (cnt L9) (bs [99,49])=([],18):=by kernel_rfl
theorem y4:gu (cnt L9) (bs [122,122])=(0,5):=by kernel_rfl
theorem y5:L9.length=9:=by kernel_rfl
theorem y6:gu (cnt L9) (bs [99,49])=(3,0):=by kernel_rfl
end Go.Proofs.Tryz
end
section
namespace Go.Proofs.Tryz
open Go.AM
set_option maxRecDepth 100000
abbrev Nu:=Int×Int×Int×Int
def U8 (z:Int):Prop:=0≤z∧z≤255
def PK (x:Nu):Prop:=U8 x.1∧U8 x.2.1∧U8 x.2.2.1∧U8 x.2.2.2
theorem HB {z:Int} (h1:0≤z) (h2:z≤255):eN .u8 z=true:=by
 have e1:IntKind.u8.min=0:=by decide
 have e2:IntKind.u8.max=255:=by decide
 unfold eN
 rw [e1,e2]
 simp [h1,h2]
def sI (f n:Int):ByteArray:=uH [f+n]
theorem k43 {f n:Int} (h1:0≤f) (h2:0≤n) (h3:f+n≤255):ak (F43 f n)=some (sI f n,()):=by
 unfold F43
 simp only [aY,aa]
 rw [c8 (HB h2 (by omega)),c8 (HB (by omega) h3)]
 rfl
def Us (x:Nu):Int:=if Int.tmod x.1 8=Int.tmod x.2.1 8 then Int.tmod (Int.tmod x.2.1 8+1) 8 else Int.tmod x.2.1 8
def Fy (x:Nu):Mg :=
 let i:=sI 97 (Int.tmod x.1 8)
 let a:=sI 120 (Int.tmod x.2.2.1 3)
 let n:=Int.tmod (Int.tdiv x.2.2.1 3) 12 - 3
 let k:=Int.tmod x.2.2.2 8
 if k=0∨k=1∨k=2 then (i,1,bs [],a,n) else if k=3 then (i,3,sI 97 (Us x),bs [],0) else (i,2,sI 97 (Us x),a,n)
theorem HC {a:Int} (h:0≤a) (n:Int) (hn:0<n):0≤Int.tmod a n∧Int.tmod a n<n:=⟨Int.tmod_nonneg _ h,Int.tmod_lt_of_pos _ hn⟩
theorem ZI {a:Int} (h:0≤a) (h2:a≤255):0≤Int.tdiv a 3∧Int.tdiv a 3≤255:=by
 rw [Int.tdiv_eq_ediv_of_nonneg h];omega
theorem n83:(!((8:Int)==0))=true∧(!((3:Int)==0))=true∧(!((12:Int)==0))=true:=by decide
theorem ln4 {a b c d:Int}:decide (0<[a,b,c,d].length)=true∧decide (1<[a,b,c,d].length)=true∧decide (2<[a,b,c,d].length)=true∧decide (3<[a,b,c,d].length)=true:=⟨rfl,rfl,rfl,rfl⟩
theorem gd4 {a b c d:Int}:[a,b,c,d].getD 0 0=a∧[a,b,c,d].getD 1 0=b∧[a,b,c,d].getD 2 0=c∧[a,b,c,d].getD 3 0=d:=⟨rfl,rfl,rfl,rfl⟩
theorem k44 {x:Nu} (h:PK x):ak (F44 x)=some (Fy x,()):=by
 obtain ⟨a,b,c,d⟩:=x
 obtain ⟨⟨a1,a2⟩,⟨b1,b2⟩,⟨c1,c2⟩,d1,d2⟩:=h
 simp only at a1 a2 b1 b2 c1 c2 d1 d2
 have ta:=HC a1 8 (by omega)
 have tb:=HC b1 8 (by omega)
 have tc:=HC c1 3 (by omega)
 have td:=HC d1 8 (by omega)
 have te:=ZI c1 c2
 have tf:=HC te.1 12 (by omega)
 have tg:=HC (show 0≤Int.tmod b 8+1 by omega) 8 (by omega)
 have ra:=aH (z:=a) (by omega) (by omega)
 have rb:=aH (z:=b) (by omega) (by omega)
 have rc:=aH (z:=c) (by omega) (by omega)
 have rd:=aH (z:=d) (by omega) (by omega)
 have re:=aH (z:=Int.tdiv c 3) (by omega) (by omega)
 have rf:=aH (z:=Int.tmod (Int.tdiv c 3) 12 - 3) (by omega) (by omega)
 have rg:=aH (z:=Int.tmod b 8+1) (by omega) (by omega)
 unfold F44 Fy Us
 simp only [aY,aN,av,aA,aa,ln4.1,ln4.2.1,ln4.2.2.1,ln4.2.2.2,gd4.1,gd4.2.1,gd4.2.2.1,gd4.2.2.2,n83.1,n83.2.1,n83.2.2,ah,ra,rb,rc,rd,re,rf,rg,bJ]
 have q1:=k43 (f:=97) (n:=Int.tmod a 8) (by omega) (by omega) (by omega)
 have q2:=k43 (f:=97) (n:=Int.tmod b 8) (by omega) (by omega) (by omega)
 have q3:=k43 (f:=97) (n:=Int.tmod (Int.tmod b 8+1) 8) (by omega) (by omega) (by omega)
 have q4:=k43 (f:=120) (n:=Int.tmod c 3) (by omega) (by omega) (by omega)
 simp only [q1,q2,q3,q4,aP]
 by_cases e:Int.tmod a 8=Int.tmod b 8
 ·simp only [if_pos e]
  by_cases e0:Int.tmod d 8=0
  ·simp only [e0,if_true,true_or]
  ·by_cases e1 : Int.tmod d 8 = 1
   ·simp [e1]
   ·by_cases e2 : Int.tmod d 8 = 2
    ·simp [e2]
    ·by_cases e3 : Int.tmod d 8 = 3
     ·simp [e3]
     ·simp [e0,e1,e2,e3]
 ·simp only [if_neg e]
  by_cases e0:Int.tmod d 8=0
  ·simp only [e0,if_true,true_or]
  ·by_cases e1 : Int.tmod d 8 = 1
   ·simp [e1]
   ·by_cases e2 : Int.tmod d 8 = 2
    ·simp [e2]
    ·by_cases e3 : Int.tmod d 8 = 3
     ·simp [e3]
     ·simp [e0,e1,e2,e3]
def fh (p:List Nu):List Mg:=(p.take 10).map Fy
theorem tW (p:List Nu):(fh p).length≤10:=by unfold fh;rw [List.length_map,List.length_take];omega
theorem k28 {p:List Nu} (h:∀x∈p,PK x):ak (F28 p)=some (fh p,()):=by
 have hi:iter (fun a=>run (fun _=>none) (g28_0 a)) (p,0,(0:Int),[],())=some ((fh p).length,fh p,()):=by
  have:=aK (p.take 10) (fun k (o:List Mg)=>(p,o.length,(k:Int),o,())) (fun o r=>((o++r.map Fy).length,o++r.map Fy,())) (fun pre o=>o=pre.map Fy) (f:=fun a=>run (fun _=>none) (g28_0 a)) (s:=[]) ?_ ?_ rfl
  ·simpa [fh] using this
  ·rintro pre x post _ hx rfl
   have hlen:(p.take 10).length=pre.length+(post.length+1):=by rw [hx];simp
   rw [List.length_take] at hlen
   have hd:p.getD pre.length ((0:Int),(0:Int),(0:Int),(0:Int))=x:=by
    have:(p.take 10).getD pre.length ((0:Int),(0:Int),(0:Int),(0:Int))=x:=by rw [hx];exact aR rfl
    rw [getD_take (by omega)] at this;exact this
   have hxm:x∈p:=List.mem_of_mem_take (i:=10) (by rw [hx];simp)
   have i1:ew (pre.length:Int) ((p.length:Nat):Int)=true:=bF (by omega) (by omega)
   have r1:eN .i64 ((pre.length:Int)+1)=true:=aH (by omega) (by omega)
   left
   refine ⟨(pre++[x]).map Fy,?_,rfl,?_⟩
   ·simp only [g28_0, av, aU, aA, aY, aN, aa, Int.toNat_natCast, hd, i1, r1, ah, aX]
    rw [if_pos (by omega),if_pos (by omega),aq (k44 (x:=(x.1,x.2.1,x.2.2.1,x.2.2.2)) (h x hxm))]
    rw [cm (show _<cg by rw [fU];simp;omega)]
    simp
    exact List.take_of_length_le (by simp)
   ·simp
  ·rintro _ rfl
   simp only [g28_0,av,aa,aX]
   have:(p.take 10).length=min 10 p.length:=List.length_take
   by_cases h1:(((p.take 10).length:Nat):Int)<((p.length:Nat):Int)
   ·rw [if_pos h1,if_neg (by omega)];simp
   ·rw [if_neg h1];simp
 unfold F28
 simp only [aA,bw]
 rw [aq hi]
 simp only [aa,List.drop_zero,List.take_length]
theorem lt_size (f n:Int):(sI f n).size=1:=rfl
theorem yG (f n:Int):Sh (sI f n):=by unfold Sh;rw [lt_size];omega
theorem PL:Sh (bs []):=by unfold Sh;decide
theorem aeP (x:Nu):Pu (Fy x):=by
 unfold Fy
 simp only
 split
 ·exact ⟨yG _ _,PL,yG _ _⟩
 ·split
  ·exact ⟨yG _ _,yG _ _,PL⟩
  ·exact ⟨yG _ _,yG _ _,yG _ _⟩
end Go.Proofs.Tryz
end
section
namespace Go.Proofs.Tryz
open Go.AM
set_option maxRecDepth 100000
theorem PM {l:List Int} (h:∀z∈l,0≤z∧z≤255):eX (uH l)=l:=by
 unfold eX uH
 rw [List.map_map]
 conv=>rhs;rw [←List.map_id l]
 refine List.map_congr_left fun z hz=>?_
 have:=h z hz
 simp only [Function.comp_apply,id]
 rw [UInt8.toNat_ofNat']
 omega
theorem HD {f n:Int} (h1:0≤f+n) (h2:f+n≤255):eX (sI f n)=[f+n]:=PM fun z hz=>by
 rw [List.mem_singleton] at hz;subst hz;exact ⟨h1,h2⟩
theorem ZJ {f n m:Int} (h1:0≤f+n) (h2:f+n≤255) (h3:0≤f+m) (h4:f+m≤255) (e:sI f n=sI f m):n=m:=by
 have:=congrArg eX e
 rw [HD h1 h2,HD h3 h4] at this
 have:=(List.cons.inj this).1
 omega
theorem CG {f n:Int} (h1:97≤f+n) (h2:f+n≤122):iF (sI f n)=true:=by
 unfold iF
 rw [HD (by omega) (by omega),lt_size]
 simp [T2,yy,h1,h2]
theorem PN:CC [0,0]=0:=by decide
theorem Wj {x:Nu} (h:PK x):0≤Us x∧Us x<8∧Int.tmod x.1 8≠Us x:=by
 obtain ⟨⟨a1,a2⟩,⟨b1,b2⟩,_⟩:=h
 have ta:=HC a1 8 (by omega)
 have tb:=HC b1 8 (by omega)
 have tg:=HC (show 0≤Int.tmod x.2.1 8+1 by omega) 8 (by omega)
 unfold Us
 split
 ·rename_i e
  refine ⟨tg.1,tg.2,?_⟩
  rw [e,Int.tmod_eq_emod_of_nonneg (by omega:0≤Int.tmod x.2.1 8+1)]
  omega
 ·rename_i e
  exact ⟨tb.1,tb.2,e⟩
theorem PO {x:Nu} (h:PK x):uF (Fy x)=0:=by
 have ho:=Wj h
 obtain ⟨⟨a1,a2⟩,⟨b1,b2⟩,⟨c1,c2⟩,d1,d2⟩:=h
 have ta:=HC a1 8 (by omega)
 have tc:=HC c1 3 (by omega)
 have te:=ZI c1 c2
 have tf:=HC te.1 12 (by omega)
 have n1:iF (sI 97 (Int.tmod x.1 8))=true:=CG (by omega) (by omega)
 have n2:iF (sI 97 (Us x))=true:=CG (by omega) (by omega)
 have n3:iF (sI 120 (Int.tmod x.2.2.1 3))=true:=CG (by omega) (by omega)
 have n4:sI 97 (Us x)≠sI 97 (Int.tmod x.1 8):=fun e=>ho.2.2 (ZJ (by omega) (by omega) (by omega) (by omega) e).symm
 have n5 : -1000≤Int.tmod (Int.tdiv x.2.2.1 3) 12 - 3∧Int.tmod (Int.tdiv x.2.2.1 3) 12 - 3≤1000:=by omega
 unfold Fy
 simp only
 split
 ·simp [uF,qf,nM,n1,n3,n5,PN]
 ·split
  ·simp [uF,qf,nM,n1,n2,n4,PN]
  ·simp [uF,qf,nM,n1,n2,n3,n4,n5,PN]
theorem Jt {L:List Mg} {m:Mg} (hc:uF m=0) (hl:L.length+1≤60):lB L m=(0,qH L m):=by
 unfold lB
 have:=EY (L:=L) (m:=m)
 rw [if_pos hc,if_neg (by omega)]
def Gd (l:List Mg):Prop:=∀m∈l,uF m=0
theorem E9 : ∀ {l L : List Mg}, nT L → Gd l → L.length + l.length ≤ 60 → ∀ x, x ∈ l.foldl (fun L m => (lB L m).2) L ↔ x ∈ L ∨ x ∈ l
 |[],L,_,_,_,x=>by simp
 |m::l,L,h,hg,hl,x=>by
  rw [List.length_cons] at hl
  have hc:=hg m (List.mem_cons_self ..)
  have ht:=Jt (L:=L) hc (by omega)
  have h2:=h.tell m
  rw [ht] at h2
  have:=EY (L:=L) (m:=m)
  rw [List.foldl_cons,ht,E9 h2 (fun z hz=>hg z (List.mem_cons_of_mem _ hz)) (by simp only;omega)]
  simp only [EX h.s,List.mem_cons]
  constructor
  ·rintro ((h | h) | h)
   ·exact .inr (.inl h)
   ·exact .inl h
   ·exact .inr (.inr h)
  ·rintro (h | h | h)
   ·exact .inl (.inr h)
   ·exact .inl (.inl h)
   ·exact .inr h
theorem sJ {l:List Mg} (hg:Gd l) (hl:l.length≤60) (x:Mg):x∈gG l↔x∈l:=by
 have:=E9 nT.nil hg (by simpa using hl) x
 simpa [gG] using this
theorem CH {p:List Nu} (h:∀x∈p,PK x):Gd (fh p):=fun m hm=>by
 obtain ⟨x,hx,rfl⟩:=List.mem_map.1 hm
 exact PO (h x (List.mem_of_mem_take hx))
theorem Ut (p:List Nu):∀m∈fh p,Pu m:=fun m hm=>by
 obtain ⟨x,hx,rfl⟩:=List.mem_map.1 hm
 exact aeP x
theorem kT {L:List Mg} (h:nT L) {m:Mg} (hm:Pu m) (hc:uF m=0) (hl:L.length+1≤60):ak (FH20 (m.1,m.2.1,m.2.2.1,m.2.2.2.1,m.2.2.2.2) (bk L))=some (0,bk (qH L m),()):=by
 have:=kH20 h.s h.len hm
 rw [Jt hc hl] at this
 exact this
end Go.Proofs.Tryz
end
section
namespace Go.Proofs.Tryz
open Go.AM
set_option maxRecDepth 100000
theorem SL.nd {L:List Mg} (h:SL L):L.Nodup:=List.Pairwise.imp (fun {a b} h e=>by subst e;rw [gU kM] at h;cases h) h
def cU:List ByteArray:=[bs [120],bs [121],bs [122]]
def lP:List ByteArray:=[bs [97],bs [98],bs [99],bs [100],bs [101],bs [102],bs [103],bs [104]]
theorem Uu:∀a∈cU,Sh a:=by unfold cU Sh;decide
abbrev B2:=List (Mg×Bool)×List (Mg×Bool)×Unit
end Go.Proofs.Tryz
end
section
namespace Go.Proofs.Tryz
open Go.AM
set_option maxRecDepth 100000
end Go.Proofs.Tryz
end
section
namespace Go.Proofs.Tryz
open Go.AM
set_option maxRecDepth 100000
abbrev u8T:Ty:=.int .u8
abbrev nuT:Ty:=.prod u8T (.prod u8T (.prod u8T u8T))
theorem Ju {z:Int} (h:Wf u8T z):U8 z:=by
 have e1:IntKind.u8.min=0:=by decide
 have e2:IntKind.u8.max=255:=by decide
 simp only [Wf,e1,e2] at h
 exact h
theorem aeR {x:Nu} (h:Wf nuT x):PK x:=⟨Ju h.1,Ju h.2.1,Ju h.2.2.1,Ju h.2.2.2⟩
end Go.Proofs.Tryz
end
section
namespace Go.Proofs.Tryz
open Go.AM
set_option maxRecDepth 100000
def sev (m:Mg):Mg:=if m.2.1=3 then m else (m.1,m.2.1,m.2.2.1,m.2.2.2.1,7)
structure KS where
 met:List (ByteArray×Bool)
 out:List Mg
 s:Int
def Nj (z:KS) (m:Mg):KS:=if ay .str false z.met m.1=true then z else ⟨aZ .str z.met m.1 true,z.out++[sev m],if m.2.1=1 then z.s+7 else z.s⟩
structure KI (z:KS):Prop where
 cam:gK .str z.met
 met:∀x,ay .str false z.met x=true↔x∈z.out.map (·.1)
 nd:(z.out.map (·.1)).Nodup
 gd:Gd z.out
 sh:∀m∈z.out,Pu m
 am:∀m∈z.out,m.2.1≠3→m.2.2.2.2=7
 s:z.s=7 * ((z.out.filter fun m=>decide (m.2.1=1)).length:Int)
def only (Z:Zs) (y:Int):Prop:=CZ Z∧∀z,sC Z z↔z=y
end Go.Proofs.Tryz
end
section
namespace Go.Proofs.Tryz
open Go.AM
set_option maxRecDepth 100000
section
variable {c:List Mg}
def Wk (c:List Mg) (x:ByteArray):Bool:=c.any fun m=>decide (m.1=x∧m.2.1≠3)
def iH (c:List Mg) (x:Mg):Bool:=Wk c x.2.2.1 && !fQ c x.1&&decide ((c.filter fun m=>decide (m.2.1=2∧m.2.2.1=x.2.2.1∧m.1≠x.1∧fQ c m.1=true)).length=1)
theorem Uv (hs:SI c) {x:ByteArray}:Wk c x=true↔qI c x=true∧(msg c x).2.1≠3:=by
 unfold Wk
 rw [List.any_eq_true]
 constructor
 ·rintro ⟨m, hm, h⟩
  obtain ⟨rfl,h3⟩:=of_decide_eq_true h
  exact ⟨cu.2 (List.mem_map.2 ⟨m,hm,rfl⟩),by rw [gr hs hm];exact h3⟩
 ·rintro ⟨h1, h3⟩
  obtain ⟨h4,h5⟩:=CF hs h1
  exact ⟨msg c x,h4,decide_eq_true ⟨h5,h3⟩⟩
theorem Uw (hs:SI c) (x:ByteArray):T9 c x=Wk c x:=by
 rw [Bool.eq_iff_iff,Uv hs]
 unfold T9
 rw [Bool.and_eq_true,Bool.not_eq_true',beq_eq_false_iff_ne]
 exact Iff.rfl
theorem qJ {m:Mg} (hm:m∈c) (h:m.2.1=2):m.1∈kids c m.2.2.1:=jc.2 ⟨m,hm,rfl,h,rfl⟩
theorem PR (hs:SI c) {x:Mg} (hx:x∈c) (hk:x.2.1=2):iH c x=true↔x.1∈dir c (x.2.2.1,kids c x.2.2.1):=by
 have hxk:=qJ hx hk
 have hlen:fQ c x.1=false→(c.filter fun m=>decide (m.2.1=2∧m.2.2.1=x.2.2.1∧m.1≠x.1∧fQ c m.1=true)).map (·.1)=(kids c x.2.2.1).filter (fQ c):=by
  intro hr
  unfold kids
  rw [List.filter_map,List.filter_filter]
  refine congrArg (List.map _) (List.filter_congr fun m hm=>?_)
  rw [Bool.eq_iff_iff]
  simp only [Function.comp_apply,Bool.and_eq_true,decide_eq_true_eq]
  constructor
  ·rintro ⟨h1,h2,_,h4⟩;exact ⟨h4,h1,h2⟩
  ·rintro ⟨h4, h1, h2⟩
   exact ⟨h1,h2,(fun e=>by rw [e,hr] at h4;cases h4),h4⟩
 unfold iH dir
 rw [←Uw hs]
 simp only [Bool.and_eq_true,Bool.not_eq_true',decide_eq_true_eq]
 constructor
 ·rintro ⟨⟨h1, h2⟩, h3⟩
  rw [if_pos h1]
  have h4:=hlen h2
  have h5:((kids c x.2.2.1).filter (fQ c)).length=1:=by rw [←h4,List.length_map];exact h3
  obtain ⟨o,ho⟩:=List.length_eq_one_iff.1 h5
  rw [ho]
  refine List.mem_filter.2 ⟨hxk,?_⟩
  have h6:fQ c o=true:=(List.mem_filter.1 (show o∈(kids c x.2.2.1).filter (fQ c) by rw [ho];exact List.mem_singleton.2 rfl)).2
  simp only [Bool.not_eq_true',decide_eq_false_iff_not]
  intro e;rw [e,h6] at h2;cases h2
 ·intro h
  split at h
  ·rename_i h1
   split at h
   ·rename_i o ho
    obtain ⟨_,h2⟩:=List.mem_filter.1 h
    simp only [Bool.not_eq_true',decide_eq_false_iff_not] at h2
    have hr:fQ c x.1=false:=by
     cases hr:fQ c x.1 with
     |false=>rfl
     |true =>
      have:x.1∈(kids c x.2.2.1).filter (fQ c):=List.mem_filter.2 ⟨hxk,hr⟩
      rw [ho,List.mem_singleton] at this
      exact absurd this h2
    have h4:=congrArg List.length (hlen hr)
    rw [List.length_map,ho] at h4
    exact ⟨⟨h1,hr⟩,h4⟩
   ·cases h
  ·cases h
def par (c:List Mg) (m:Mg):Option Mg:=c.find? fun x=>decide (x.1=m.2.2.1∧x.2.1≠3)
def way (c : List Mg) : Nat → Mg → List Mg
 |0,_=>[]
 |n+1,m=>m::(if m.2.1=1 then [] else match par c m with|some x=>way c n x|none=>[])
theorem vR {m x:Mg} (h:par c m=some x):x∈c∧x.1=m.2.2.1∧x.2.1≠3:=by
 have h1:=List.find?_some h
 have h2:=List.mem_of_find?_eq_some h
 exact ⟨h2,(of_decide_eq_true h1).1,(of_decide_eq_true h1).2⟩
theorem PS (hs:SI c) {m x:Mg} (hx:x∈c) (h1:x.1=m.2.2.1) (h3:x.2.1≠3):par c m=some x:=by
 cases h:par c m with
 |none =>
  have:=List.find?_eq_none.1 h x hx
  exact absurd (decide_eq_true ⟨h1,h3⟩) this
 |some y =>
  obtain ⟨h4,h5,_⟩:=vR h
  rw [hs.inj h4 hx (by rw [h5,h1])]
end
end Go.Proofs.Tryz
end
section
namespace Go.Proofs.Tryz
open Go.AM
set_option maxRecDepth 100000
set_option maxHeartbeats 1000000
theorem aeS {c bf:List Mg} {v5 v6:Bool} {v7 kK aJ:Int} {v50 TS TT v59:ByteArray} {v53 v60:Bool} (hc:c.length<1000000000) (y x:Mg) :
  iter (fun a=>ak (g77_1 a)) (c,v5,v6,v7,false,bf,kK,aJ,v50,TS,v53,TT,v59,v60,c,((c.length:Nat):Int),(0:Int),y.1,y.2.1,y.2.2.1,y.2.2.2.1,y.2.2.2.2,x.1,x.2.1,x.2.2.1,x.2.2.2.1,x.2.2.2.2,()) =
   some (c,v5,v6,v7,fQ c x.1,bf,kK,aJ,v50,TS,v53,TT,v59,v60,y.1,y.2.1,y.2.2.1,y.2.2.2.1,y.2.2.2.2,()):=by
 refine aK c (fun k (b : Bool) => (c, v5, v6, v7, b, bf, kK, aJ, v50, TS, v53, TT, v59, v60, c, ((c.length : Nat) : Int), (k : Int), y.1, y.2.1, y.2.2.1, y.2.2.2.1, y.2.2.2.2, x.1, x.2.1, x.2.2.1, x.2.2.2.1, x.2.2.2.2, ()))
  (fun b r=>(c,v5,v6,v7,b||fQ r x.1,bf,kK,aJ,v50,TS,v53,TT,v59,v60,y.1,y.2.1,y.2.2.1,y.2.2.2.1,y.2.2.2.2,())) (fun _ _=>True) ?_ ?_ (s:=false) trivial
 ·intro pre z post b hz _
  have hlen:c.length=pre.length+(post.length+1):=by rw [hz];simp
  have hd:c.getD pre.length (bs [],(0:Int),bs [],bs [],(0:Int))=z:=by rw [hz];exact aR rfl
  have i1:ew (pre.length:Int) ((c.length:Nat):Int)=true:=bF (by omega) (by omega)
  have r1:eN .i64 ((pre.length:Int)+1)=true:=aH (by omega) (by omega)
  left
  refine ⟨b||decide (z.2.1=3∧z.2.2.1=x.1),?_,trivial,by simp only [fQ,List.any_cons,Bool.or_assoc]⟩
  simp only [g77_1,av,aU,aN,aa,Int.toNat_natCast,hd,i1,r1,ah,aX,bJ,seq_eq]
  rw [if_pos (by omega)]
  cases b
  ·rw [bK]
   by_cases h3:z.2.1=3
   ·rw [if_pos h3];simp [h3]
   ·rw [if_neg h3];simp [h3]
  ·rw [bO];simp
 ·intro b _
  simp only [g77_1,av,aa,aX]
  rw [if_neg (by omega)]
  simp [fQ]
def yH (c:List Mg) (y:Mg) (s:Bool×Bool×Nat) (z:Mg):Bool×Bool×Nat :=
 (s.1||decide (z.1=y.2.2.1∧z.2.1≠3),s.2.1||decide (z.2.1=3∧z.2.2.1=y.1),if z.2.1=2∧z.2.2.1=y.2.2.1∧z.1≠y.1∧fQ c z.1=true then s.2.2+1 else s.2.2)
theorem Fa (c : List Mg) (y : Mg) : ∀ (l : List Mg) (s : Bool × Bool × Nat), l.foldl (yH c y) s = (s.1 || Wk l y.2.2.1, s.2.1 || fQ l y.1, s.2.2 + (l.filter fun m => decide (m.2.1 = 2 ∧ m.2.2.1 = y.2.2.1 ∧ m.1 ≠ y.1 ∧ fQ c m.1 = true)).length)
 |[],s=>by simp [Wk,fQ]
 |z::l,s=>by
  rw [List.foldl_cons,Fa c y l]
  unfold yH Wk fQ
  simp only [List.any_cons,Bool.or_assoc,List.filter_cons,decide_eq_true_eq]
  congr 2
  split<;>simp<;>omega
theorem k77 {c:List Mg} (hc:c.length<1000000000) (y:Mg):ak (F77 c y)=some (iH c y,()):=by
 have hit:iter (fun a=>ak (g77_0 a)) (c,false,false,(0:Int),c,((c.length:Nat):Int),(0:Int),y.1,y.2.1,y.2.2.1,y.2.2.2.1,y.2.2.2.2,()) =
   some ((c.foldl (yH c y) (false,false,0)).1,(c.foldl (yH c y) (false,false,0)).2.1,(((c.foldl (yH c y) (false,false,0)).2.2:Nat):Int),()):=by
  refine aK c (fun k (s : Bool × Bool × Nat) => (c, s.1, s.2.1, ((s.2.2 : Nat) : Int), c, ((c.length : Nat) : Int), (k : Int), y.1, y.2.1, y.2.2.1, y.2.2.2.1, y.2.2.2.2, ()))
   (fun s r=>((r.foldl (yH c y) s).1,(r.foldl (yH c y) s).2.1,(((r.foldl (yH c y) s).2.2:Nat):Int),())) (fun pre s=>s.2.2≤pre.length) ?_ ?_ (s:=(false,false,0)) (Nat.le_refl _)
  ·rintro pre z post ⟨a, b, n⟩ hz hn
   have hlen:c.length=pre.length+(post.length+1):=by rw [hz];simp
   have hd:c.getD pre.length (bs [],(0:Int),bs [],bs [],(0:Int))=z:=by rw [hz];exact aR rfl
   have i1:ew (pre.length:Int) ((c.length:Nat):Int)=true:=bF (by omega) (by omega)
   have r1:eN .i64 ((pre.length:Int)+1)=true:=aH (by omega) (by omega)
   simp only at hn
   have r2:eN .i64 ((n:Int)+1)=true:=aH (by omega) (by omega)
   left
   refine ⟨yH c y (a,b,n) z,?_,?_,rfl⟩
   ·unfold yH
    simp only [g77_0,av,aU,aN,aa,aA,bw,Int.toNat_natCast,hd,i1,r1,ah,b8,seq_eq,aeS hc,aP,kq]
    rw [if_pos (show decide ((pre.length:Int)<((c.length:Nat):Int))=true from decide_eq_true (by omega))]
    generalize hk:z.2.1=k
    generalize hi:z.1=i
    generalize ho:z.2.2.1=o
    have hr0:fQ c z.1=fQ c i:=by rw [hi]
    by_cases h3:k=3
    ·have h2 : k ≠ 2 := by omega
     rcases Classical.propComplete (i=y.2.2.1) with h1|h1<;>cases a<;>cases b<;>simp [h3,h1]
    ·by_cases h2 : k = 2
     ·rcases Classical.propComplete (i=y.2.2.1) with h1|h1<;>rcases Classical.propComplete (o=y.2.2.1) with h4|h4<;>rcases Classical.propComplete (i=y.1) with h5|h5<;>cases hr:fQ c i<;>cases a<;>cases b<;>simp [h2,h1,h4,h5,r2]
     ·rcases Classical.propComplete (i=y.2.2.1) with h1|h1<;>cases a<;>cases b<;>simp [h2,h3,h1]
   ·have : (pre ++ [z]).length = pre.length + 1 := by simp
    rw [this]
    unfold yH
    simp only
    split<;>omega
  ·rintro s _
   simp only [g77_0,av,aa,aX]
   rw [if_neg (by omega)]
   rfl
 unfold F77
 simp only [aA,bw]
 rw [aq hit,Fa]
 simp only [av,aa,b8,kq,Bool.false_or,Nat.zero_add]
 have hN:∀n:Nat,(((n:Nat):Int)==1)=decide (n=1):=fun n=>by
  rw [Bool.eq_iff_iff,beq_iff_eq,decide_eq_true_eq];omega
 unfold iH
 rw [hN]
 cases Wk c y.2.2.1<;>cases fQ c y.1<;>simp
theorem aeT {c b1:List Mg} {zA:Nat} {v6:Bool} {v7:Int} (hc:c.length<1000000000) (y:Mg) :
  iter (fun a=>ak (g34_1 a)) (c,zA,v6,v7,c,((c.length:Nat):Int),(0:Int),y.1,y.2.1,y.2.2.1,y.2.2.2.1,y.2.2.2.2,b1,()) =
   some (match par c y with|some x=>(c,zA,v6,v7,true,x.1,x.2.1,x.2.2.1,x.2.2.2.1,x.2.2.2.2,b1,())|none=>(c,zA,v6,v7,false,y.1,y.2.1,y.2.2.1,y.2.2.2.1,y.2.2.2.2,b1,())):=by
 refine aK c (fun k (_ : Unit) => (c, zA, v6, v7, c, ((c.length : Nat) : Int), (k : Int), y.1, y.2.1, y.2.2.1, y.2.2.2.1, y.2.2.2.2, b1, ()))
  (fun _ r=>match par r y with|some x=>(c,zA,v6,v7,true,x.1,x.2.1,x.2.2.1,x.2.2.2.1,x.2.2.2.2,b1,())|none=>(c,zA,v6,v7,false,y.1,y.2.1,y.2.2.1,y.2.2.2.1,y.2.2.2.2,b1,())) (fun _ _=>True) ?_ ?_ (s:=()) trivial
 ·intro pre z post _ hz _
  have hlen:c.length=pre.length+(post.length+1):=by rw [hz];simp
  have hd:c.getD pre.length (bs [],(0:Int),bs [],bs [],(0:Int))=z:=by rw [hz];exact aR rfl
  have i1:ew (pre.length:Int) ((c.length:Nat):Int)=true:=bF (by omega) (by omega)
  have r1:eN .i64 ((pre.length:Int)+1)=true:=aH (by omega) (by omega)
  by_cases h:z.1=y.2.2.1∧z.2.1≠3
  ·right
   have hp:par (z::post) y=some z:=by unfold par;rw [List.find?_cons_of_pos];simpa using h
   rw [hp]
   simp only [g34_1,av,aU,aN,aa,Int.toNat_natCast,hd,i1,r1,ah,aX,bJ,b8,seq_eq]
   rw [if_pos (by omega),if_pos h.1,if_neg h.2]
  ·left
   have hp:par (z::post) y=par post y:=by unfold par;rw [List.find?_cons_of_neg];simpa using h
   refine ⟨(),?_,trivial,by rw [hp]⟩
   simp only [g34_1,av,aU,aN,aa,Int.toNat_natCast,hd,i1,r1,ah,aX,bJ,b8,seq_eq]
   rw [if_pos (by omega)]
   by_cases h1:z.1=y.2.2.1
   ·rw [if_pos h1,if_pos (Classical.byContradiction fun h3=>h ⟨h1,h3⟩)];rfl
   ·rw [if_neg h1];rfl
 ·intro _ _
  simp only [g34_1,av,aa,aX]
  rw [if_neg (by omega)]
  rfl
def dN (c : List Mg) : Nat → Mg → Bool → List Mg × Bool × Bool
 |0,_,o=>([],false,o)
 |n+1,m,o=>if m.2.1=1 then ([m],!o,o) else match par c m with
  |some x=>(m::(dN c n x (o||iH c m)).1,(dN c n x (o||iH c m)).2)
  |none=>([m],false,o||iH c m)
theorem Wl {c:List Mg} (hc:c.length<1000000):∀(n k:Nat) (m:Mg) (pre:List Mg) (o:Bool),k+n=9→pre.length≤k →
  (iter (fun a=>ak (g34_0 a)) (c,pre.length,o,(k:Int),m.1,m.2.1,m.2.2.1,m.2.2.2.1,m.2.2.2.2,pre,())=some (.inl ((pre++(dN c n m o).1).length,(dN c n m o).2.1,(dN c n m o).2.2,pre++(dN c n m o).1,()))) ∨
  (iter (fun a=>ak (g34_0 a)) (c,pre.length,o,(k:Int),m.1,m.2.1,m.2.2.1,m.2.2.2.1,m.2.2.2.2,pre,())=some (.inr ((pre++(dN c n m o).1).length,(dN c n m o).2.2,pre++(dN c n m o).1,()))∧(dN c n m o).2.1=false)
 |0,k,m,pre,o,hk,hp=>by
  right
  refine ⟨fJ ?_,rfl⟩
  simp only [g34_0,av,aa,aX]
  rw [if_neg (by omega)]
  simp [dN]
 |n+1,k,m,pre,o,hk,hp=>by
  have e1:((([(m.1,m.2.1,m.2.2.1,m.2.2.2.1,m.2.2.2.2)]:List Mg).drop 0).take 1)=[m]:=rfl
  have e2:(pre.drop 0).take pre.length=pre:=by simp
  have d1:decide (pre.length+1<cg)=true:=decide_eq_true (by rw [fU];omega)
  have r1:eN .i64 ((k:Int)+1)=true:=aH (by omega) (by omega)
  have LC:pre.length+1=(pre++[m]).length:=by simp
  have h77:=k77 (show c.length<1000000000 by omega) m
  have h341:=fun o=>aeT (c:=c) (b1:=pre++[m]) (zA:=pre.length+1) (v6:=o) (v7:=(k:Int)) (by omega) m
  by_cases h1:m.2.1=1
  ·left
   have LX:dN c (n+1) m o=([m],!o,o):=by unfold dN;rw [if_pos h1]
   rw [LX]
   refine fJ ?_
   simp only [g34_0,av,aY,aa,aX,bJ,e1,e2,List.length_singleton,d1,ah]
   rw [if_pos (by omega),if_pos h1,LC]
  ·have hs:∀o',o'=(o||iH c m)→ak (g34_0 (c,pre.length,o,(k:Int),m.1,m.2.1,m.2.2.1,m.2.2.2.1,m.2.2.2.2,pre,()))=(match par c m with
     |some x=>some (.inl (c,pre.length+1,o',((k+1:Nat):Int),x.1,x.2.1,x.2.2.1,x.2.2.2.1,x.2.2.2.2,pre++[m],()))
     |none=>some (.inr (.inl (pre.length+1,false,o',pre++[m],())))):=by
    rintro o' rfl
    simp only [g34_0,av,aY,aa,aA,bw,aN,aX,bJ,e1,e2,List.length_singleton,d1,ah]
    rw [if_pos (by omega),if_neg h1]
    cases o
    ·rw [bK, aq (show ak (F77 c (m.1, m.2.1, m.2.2.1, m.2.2.2.1, m.2.2.2.2)) = _ from h77)]
     simp only
     rw [aq (h341 (iH c m))]
     simp only [Bool.false_or]
     cases hp:par c m with
     |none=>simp only [Bool.not_false,bO]
     |some x=>simp only [Bool.not_true,bK,r1,ah];rfl
    ·rw [bO, aq (h341 true)]
     simp only [Bool.true_or]
     cases hp:par c m with
     |none=>simp only [Bool.not_false,bO]
     |some x=>simp only [Bool.not_true,bK,r1,ah];rfl
   have hs:=hs _ rfl
   cases Qc:par c m with
   |none =>
    rw [Qc] at hs
    left
    have LX:dN c (n+1) m o=([m],false,o||iH c m):=by conv=>lhs;unfold dN;rw [if_neg h1,Qc]
    rw [LX]
    refine fJ ?_
    rw [←LC];exact hs
   |some x =>
    rw [Qc] at hs
    have LX:dN c (n+1) m o=(m::(dN c n x (o||iH c m)).1,(dN c n x (o||iH c m)).2):=by conv=>lhs;unfold dN;rw [if_neg h1,Qc]
    rw [LX]
    have ih:=Wl hc n (k+1) x (pre++[m]) (o||iH c m) (by omega) (by simp;omega)
    rw [←LC] at ih
    simp only [List.append_assoc,List.singleton_append] at ih
    rcases ih with ih|⟨ih,h⟩
    ·left;exact j8 hs ih
    ·right;exact ⟨j8 hs ih,h⟩
theorem k34 {c:List Mg} (hc:c.length<1000000) (m:Mg):ak (F34 c m)=some ((dN c 9 m false).1,(dN c 9 m false).2.1,(dN c 9 m false).2.2,()):=by
 unfold F34
 simp only [aA,bw]
 rcases Wl hc 9 0 m [] false rfl (Nat.le_refl _) with h|⟨h,hf⟩
 ·refine Eq.trans (aq h) ?_
  simp only [oD,aa,List.nil_append,List.drop_zero,List.take_length]
 ·refine Eq.trans (aq h) ?_
  rw [hf]
  simp only [lM,aa,List.nil_append,List.drop_zero,List.take_length]
def PT (c:List Mg) (m:Mg):Bool:=c.any fun x=>decide (x.2.1=2∧x.2.2.1=m.1∧(dN c 9 x false).2.1=true)
theorem aeV {c w:List Mg} {s:Bool} (hc:c.length<1000000) (m:Mg) :
  iter (fun a=>ak (g35_0 a)) (c,w,s,c,((c.length:Nat):Int),(0:Int),m.1,m.2.1,m.2.2.1,m.2.2.2.1,m.2.2.2.2,())=some (if PT c m=true then Sum.inl (bs [],()) else Sum.inr (w,s,())):=by
 refine aK c (fun k (_ : Unit) => (c, w, s, c, ((c.length : Nat) : Int), (k : Int), m.1, m.2.1, m.2.2.1, m.2.2.2.1, m.2.2.2.2, ()))
  (fun _ r=>if (r.any fun x=>decide (x.2.1=2∧x.2.2.1=m.1∧(dN c 9 x false).2.1=true))=true then Sum.inl (bs [],()) else Sum.inr (w,s,())) (fun _ _=>True) ?_ ?_ (s:=()) trivial
 ·intro pre z post _ hz _
  have hlen:c.length=pre.length+(post.length+1):=by rw [hz];simp
  have hd:c.getD pre.length (bs [],(0:Int),bs [],bs [],(0:Int))=z:=by rw [hz];exact aR rfl
  have i1:ew (pre.length:Int) ((c.length:Nat):Int)=true:=bF (by omega) (by omega)
  have r1:eN .i64 ((pre.length:Int)+1)=true:=aH (by omega) (by omega)
  have h34:ak (F34 c (z.1,z.2.1,z.2.2.1,z.2.2.2.1,z.2.2.2.2))=_:=k34 hc z
  by_cases h:z.2.1=2∧z.2.2.1=m.1∧(dN c 9 z false).2.1=true
  ·right
   rw [if_pos (by rw [List.any_cons,decide_eq_true h];rfl)]
   simp only [g35_0,av,aU,aN,aa,aA,Int.toNat_natCast,hd,i1,r1,ah,aX,bJ,seq_eq]
   rw [if_pos (by omega),if_pos h.1,if_pos h.2.1,aq h34]
   simp only [h.2.2,bO]
  ·left
   refine ⟨(),?_,trivial,by rw [List.any_cons,decide_eq_false h,Bool.false_or]⟩
   simp only [g35_0,av,aU,aN,aa,aA,Int.toNat_natCast,hd,i1,r1,ah,aX,bJ,seq_eq]
   rw [if_pos (by omega)]
   by_cases h2:z.2.1=2
   ·rw [if_pos h2]
    by_cases h4:z.2.2.1=m.1
    ·rw [if_pos h4, aq h34]
     have:(dN c 9 z false).2.1=false:=by
      cases hh:(dN c 9 z false).2.1 with
      |false=>rfl
      |true=>exact absurd ⟨h2,h4,hh⟩ h
     simp only [this,bK]
     rfl
    ·rw [if_neg h4];rfl
   ·rw [if_neg h2];rfl
 ·intro _ _
  simp only [g35_0,av,aa,aX]
  rw [if_neg (by omega)]
  simp
theorem PU {c:List Mg} {n:Nat} {m:Mg} {o:Bool}:(dN c (n+1) m o).1≠[]:=by
 unfold dN
 split
 ·simp
 ·split<;>simp
theorem k35 {c:List Mg} (hc:c.length<1000000) (m:Mg):ak (F35 c m)=some (if m.2.1=3 then (bs [],false,()) else if PT c m=true then (bs [],false,()) else (((dN c 9 m false).1.getD ((dN c 9 m false).1.length - 1) zM).1,(dN c 9 m false).2.1,())):=by
 have h34:ak (F34 c (m.1,m.2.1,m.2.2.1,m.2.2.2.1,m.2.2.2.2))=_:=k34 hc m
 have hne:0<(dN c 9 m false).1.length:=List.length_pos_iff.2 PU
 have hle:∀(n:Nat) (m:Mg) (o:Bool),(dN c n m o).1.length≤n:=by
  intro n
  induction n with
  |zero=>intro m o;simp [dN]
  |succ n ih =>
   intro m o
   unfold dN
   split
   ·simp
   ·split
    ·simp only [List.length_cons];have:=ih ‹_› (o||iH c m);omega
    ·simp
 have hle:=hle 9 m false
 unfold F35
 simp only [av,aa,aA,bw,bJ]
 by_cases h3:m.2.1=3
 ·rw [if_pos h3,if_pos h3]
 ·rw [if_neg h3, if_neg h3, aq h34]
  simp only
  rw [aq (aeV hc m)]
  cases PT c m with
  |true=>simp only [if_true,oD,aa]
  |false =>
   simp only [Bool.false_eq_true,if_false,lM,aN,aU,aa]
   rw [oC (by omega) (by omega),bF (by omega) (by omega),ah,show Int.toNat (((dN c 9 m false).1.length:Int) - 1)=(dN c 9 m false).1.length - 1 by omega]
end Go.Proofs.Tryz
end
section
namespace Go.Proofs.Tryz
open Go.AM
set_option maxRecDepth 100000
section
variable {c:List Mg}
def Lk (c:List Mg):Prop:=∀m∈c,m.2.1=1∨m.2.1=2∨m.2.1=3
def Tk (c:List Mg) (t:ByteArray):Prop:=∃m∈c,m.1=t∧m.2.1=1
def NR (c:List Mg) (t:ByteArray):Prop:=∃m∈c,m.1=t∧m.2.1≠3
theorem vS (hs:SI c) {m:Mg} (hm:m∈c) {y:ByteArray} (h:m.1∈kids c y):m.2.1=2∧m.2.2.1=y:=by
  obtain ⟨m',hm',e,h2,h3⟩:=jc.1 h
  rw [hs.inj hm' hm e] at h2 h3;exact ⟨h2,h3⟩
theorem Tk.top (hs:SI c) {t:ByteArray} (h:Tk c t):Qn c t:=by
  obtain ⟨m,hm,rfl,h1⟩:=h
  intro x hx
  have:=(vS hs hm hx).1
  omega
theorem Tk.ids {t:ByteArray} (h:Tk c t):t∈ids c:=by obtain ⟨m,hm,rfl,_⟩:=h;exact List.mem_map.2 ⟨m,hm,rfl⟩
theorem Tk.nr {t:ByteArray} (h:Tk c t):NR c t:=by obtain ⟨m,hm,rfl,h1⟩:=h;exact ⟨m,hm,rfl,by omega⟩
theorem Jv {x y:ByteArray} (h:y∈kids c x):NR c y:=by
  obtain ⟨m,hm,rfl,h2,_⟩:=jc.1 h;exact ⟨m,hm,rfl,by omega⟩
theorem cN {x z:ByteArray} {n:Nat} (h:jE c x n z):(n=0∧z=x)∨∃k y,n=k+1∧jE c x k y∧z∈kids c y:=by
  cases h with
  |zero=>exact .inl ⟨rfl,rfl⟩
  |step h hz=>exact .inr ⟨_,_,rfl,h,hz⟩
theorem CI {n:Nat} {x y:ByteArray} (h:jE c x n y) (hx:x∈ids c):y∈ids c:=by
  rcases cN h with ⟨_,rfl⟩|⟨_,_,_,_,hz⟩
  · exact hx
  · exact ja hz
theorem yI {n:Nat} {x y:ByteArray} (h:jE c x n y) (hx:NR c x):NR c y:=by
  rcases cN h with ⟨_,rfl⟩|⟨_,_,_,_,hz⟩
  · exact hx
  · exact Jv hz
theorem vT {x : ByteArray} : ∀ {b a : Nat} {z : ByteArray}, jE c x (a + b) z → ∃ y, jE c x a y ∧ jE c y b z
  |0,_,z,h=>⟨z,h,.zero⟩
  |b+1,a,z,h=>by
    rcases cN h with ⟨h0,_⟩|⟨k,y,hk,h1,hz⟩
    · omega
    · obtain rfl : k = a + b := by omega
      obtain ⟨w,h2,h3⟩:=vT h1
      exact ⟨w,h2,.step h3 hz⟩
theorem Ll {y x:ByteArray} (hy:y∈ids c) (d:Nat):jE c y d x→∃d',d'<c.length∧jE c y d' x:=by
  induction d using Nat.strongRecOn with
  |_ d ih =>
    intro h
    by_cases hd:d<c.length
    · exact ⟨d,hd,h⟩
    · have hex : ∀ i, i ≤ d → ∃ z, jE c y (d - i) z ∧ jE c z i x := fun i hi => vT (b := i) (a := d - i) (by rw [Nat.sub_add_cancel hi]; exact h)
      have hex2:∀i,∃z,i≤d→jE c y (d - i) z∧jE c z i x:=fun i=>by
        by_cases hi:i≤d
        · obtain ⟨z,hz⟩:=hex i hi;exact ⟨z,fun _=>hz⟩
        · exact ⟨y,fun h=>absurd h hi⟩
      obtain ⟨f,hf⟩:=Classical.axiomOfChoice hex2
      by_cases lJ:∃i j,i<j∧j≤d∧f i=f j
      · obtain ⟨i, j, hij, hj, e⟩ := lJ
        have h1:=(hf j hj).1
        have h2:=(hf i (by omega)).2
        rw [e] at h2
        exact ih (d - j+i) (by omega) (h1.add h2)
      · have hnd:((List.range (d+1)).map f).Nodup:=by
          unfold List.Nodup
          rw [List.pairwise_map]
          refine List.Pairwise.imp_of_mem ?_ List.pairwise_lt_range
          intro a b ha hb hab e
          exact lJ ⟨a,b,hab,by have:=List.mem_range.1 hb;omega,e⟩
        have := List.Nodup.length_le_of_subset hnd (l₂ := ids c) (by
          intro z hz
          obtain ⟨i,hi,rfl⟩:=List.mem_map.1 hz
          exact CI (hf i (by have:=List.mem_range.1 hi;omega)).1 hy)
        have hl:(ids c).length=c.length:=by simp [ids]
        simp at this
        omega
theorem Jw (hs:SI c) (hk:Lk c):∀(n:Nat) {m:Mg} {o:Bool},m∈c→m.2.1≠3 →
    ((dN c n m o).2.2=true↔o=true∨∃d,d<n∧∃p y,y∈dir c (p,kids c p)∧jE c y d m.1)
  |0,m,o,_,_=>by simp [dN]
  |n+1,m,o,hm,h3=>by
    by_cases h1:m.2.1=1
    · have e : dN c (n + 1) m o = ([m], !o, o) := by unfold dN; rw [if_pos h1]
      rw [e]
      refine ⟨.inl,?_⟩
      rintro (h|⟨d,_,p,y,hy,hp⟩)
      · exact h
      · have ht : Qn c m.1 := Tk.top hs ⟨m, hm, rfl, h1⟩
        rcases cN hp with ⟨_,e⟩|⟨_,_,_,_,hz⟩
        · rw [←e] at hy;exact absurd (ny hy) (ht _)
        · exact absurd hz (ht _)
    · have h2 : m.2.1 = 2 := by rcases hk m hm with h | h | h <;> omega
      have hS:=PR hs hm h2
      have zR:∀p y,y∈dir c (p,kids c p)→m.1=y→iH c m=true:=fun p y hy e=>by
        have h4:=ny hy
        rw [←e] at h4 hy
        rw [hS,(vS hs hm h4).2];exact hy
      cases hp:par c m with
      |none =>
        have e:dN c (n+1) m o=([m],false,o||iH c m):=by conv=>lhs;unfold dN;rw [if_neg h1,hp]
        rw [e]
        simp only [Bool.or_eq_true]
        constructor
        · rintro (h | h)
          · exact .inl h
          · exact .inr ⟨0,by omega,_,_,hS.1 h,.zero⟩
        · rintro (h | ⟨d, hd, p, y, hy, hpt⟩)
          · exact .inl h
          · rcases cN hpt with ⟨_, e⟩ | ⟨k, z, _, h4, hz⟩
            · exact .inr (zR p y hy e)
            · obtain ⟨x, hx, h5, h6⟩ := yI h4 (Jv (ny hy))
              rw [PS hs hx (by rw [h5];exact (vS hs hm hz).2.symm) h6] at hp
              cases hp
      |some x =>
        have e:dN c (n+1) m o=(m::(dN c n x (o||iH c m)).1,(dN c n x (o||iH c m)).2):=by conv=>lhs;unfold dN;rw [if_neg h1,hp]
        rw [e]
        obtain ⟨hx,hx1,Ih⟩:=vR hp
        have ih:=Jw hs hk n (o:=o||iH c m) hx Ih
        rw [ih,Bool.or_eq_true]
        have vc:m.1∈kids c x.1:=by rw [hx1];exact qJ hm h2
        constructor
        · rintro ((h | h) | ⟨d, hd, p, y, hy, hpt⟩)
          · exact .inl h
          · exact .inr ⟨0,by omega,_,_,hS.1 h,.zero⟩
          · exact .inr ⟨d+1,by omega,p,y,hy,.step hpt vc⟩
        · rintro (h | ⟨d, hd, p, y, hy, hpt⟩)
          · exact .inl (.inl h)
          · rcases cN hpt with ⟨_, e⟩ | ⟨k, z, hk', h4, hz⟩
            · exact .inl (.inr (zR p y hy e))
            · rw [vN hs hz vc] at h4
              exact .inr ⟨k,by omega,p,y,hy,h4⟩
theorem Jx (hs:SI c) (hk:Lk c):∀(n:Nat) {m:Mg} {o:Bool},m∈c→m.2.1≠3 →
    ((dN c n m o).2.1=true↔(dN c n m o).2.2=false∧∃d,d<n∧∃t,Tk c t∧jE c t d m.1)
  |0,m,o,_,_=>by simp [dN]
  |n+1,m,o,hm,h3=>by
    by_cases h1:m.2.1=1
    · have e : dN c (n + 1) m o = ([m], !o, o) := by unfold dN; rw [if_pos h1]
      rw [e]
      simp only [Bool.not_eq_true']
      exact ⟨fun h=>⟨h,0,by omega,m.1,⟨m,hm,rfl,h1⟩,.zero⟩,fun h=>h.1⟩
    · have h2 : m.2.1 = 2 := by rcases hk m hm with h | h | h <;> omega
      have zR:∀t,Tk c t→m.1=t→False:=fun t ht e=>ht.top hs m.2.2.1 (show t∈kids c m.2.2.1 by rw [←e];exact qJ hm h2)
      cases hp:par c m with
      |none =>
        have e:dN c (n+1) m o=([m],false,o||iH c m):=by conv=>lhs;unfold dN;rw [if_neg h1,hp]
        rw [e]
        simp only [Bool.false_eq_true,false_iff]
        rintro ⟨_,d,hd,t,ht,hpt⟩
        rcases cN hpt with ⟨_,e⟩|⟨k,z,_,h4,hz⟩
        · exact zR t ht e
        · obtain ⟨x, hx, h5, h6⟩ := yI h4 ht.nr
          rw [PS hs hx (by rw [h5];exact (vS hs hm hz).2.symm) h6] at hp
          cases hp
      |some x =>
        have e:dN c (n+1) m o=(m::(dN c n x (o||iH c m)).1,(dN c n x (o||iH c m)).2):=by conv=>lhs;unfold dN;rw [if_neg h1,hp]
        rw [e]
        obtain ⟨hx,hx1,Ih⟩:=vR hp
        have vc:m.1∈kids c x.1:=by rw [hx1];exact qJ hm h2
        rw [Jx hs hk n (o:=o||iH c m) hx Ih]
        refine and_congr_right fun _=>?_
        constructor
        · rintro ⟨d, hd, t, ht, hpt⟩
          exact ⟨d+1,by omega,t,ht,.step hpt vc⟩
        · rintro ⟨d, hd, t, ht, hpt⟩
          rcases cN hpt with ⟨_,e⟩|⟨k,z,hk',h4,hz⟩
          · exact (zR t ht e).elim
          · rw [vN hs hz vc] at h4
            exact ⟨k,by omega,t,ht,h4⟩
theorem Lm {m:Mg} {l:List Mg} (h:l≠[]):(m::l).getD ((m::l).length - 1) zM=l.getD (l.length - 1) zM:=by
  cases l with
  |nil=>exact absurd rfl h
  |cons a l=>rfl
theorem Fb (hs:SI c) (hk:Lk c):∀(n:Nat) {m:Mg} {o:Bool},m∈c→m.2.1≠3→(dN c n m o).2.1=true →
    Tk c ((dN c n m o).1.getD ((dN c n m o).1.length - 1) zM).1∧∃d,jE c ((dN c n m o).1.getD ((dN c n m o).1.length - 1) zM).1 d m.1
  |0,m,o,_,_,h=>by simp [dN] at h
  |n+1,m,o,hm,h3,h=>by
    by_cases h1:m.2.1=1
    · have e : dN c (n + 1) m o = ([m], !o, o) := by unfold dN; rw [if_pos h1]
      rw [e]
      exact ⟨⟨m,hm,rfl,h1⟩,0,.zero⟩
    · have h2 : m.2.1 = 2 := by rcases hk m hm with h | h | h <;> omega
      cases hp:par c m with
      |none =>
        have e:dN c (n+1) m o=([m],false,o||iH c m):=by conv=>lhs;unfold dN;rw [if_neg h1,hp]
        rw [e] at h;cases h
      |some x =>
        have e:dN c (n+1) m o=(m::(dN c n x (o||iH c m)).1,(dN c n x (o||iH c m)).2):=by conv=>lhs;unfold dN;rw [if_neg h1,hp]
        rw [e] at h ⊢
        obtain ⟨hx,hx1,Ih⟩:=vR hp
        have vc:m.1∈kids c x.1:=by rw [hx1];exact qJ hm h2
        have hn:(dN c n x (o||iH c m)).1≠[]:=by
          cases n with
          |zero=>simp [dN] at h
          |succ n=>exact PU
        rw [Lm hn]
        obtain ⟨q1,d,q2⟩:=Fb hs hk n hx Ih h
        exact ⟨q1,d+1,.step q2 vc⟩
theorem Ux {t:ByteArray} (ht:Qn c t):gV c t=false:=by
  cases h:gV c t with
  |false=>rfl
  |true =>
    obtain ⟨p,y,hy,hd⟩:=E3.1 h
    obtain ⟨n,hp⟩:=hd.pth
    rcases cN hp with ⟨_,e⟩|⟨_,_,_,_,hz⟩
    · rw [←e] at hy;exact absurd (ny hy) (ht _)
    · exact absurd hz (ht _)
theorem PV {x z:ByteArray} (h:gV c z=false) (hz:z∈kids c x):gV c x=false:=by
  cases h':gV c x with
  |false=>rfl
  |true=>rw [Ua h' hz] at h;cases h
theorem Jy {n:Nat} {x z:ByteArray} (hp:jE c x n z) (h:gV c z=false):gV c x=false:=by
  induction hp with
  |zero=>exact h
  |step _ hz ih=>exact ih (PV h hz)
theorem Jz (hs : SI c) (hk : Lk c) : ∀ {n : Nat} {x t : ByteArray}, zB c n x = some t ↔ Tk c t ∧ gV c x = false ∧ ∃ d, d < n ∧ jE c t d x
  |0,x,t=>by simp [zB]
  |n+1,x,t=>by
    unfold zB
    by_cases hm:qI c x=true
    · rw [if_pos hm]
      obtain ⟨fH,hm2⟩:=CF hs hm
      by_cases h3:(msg c x).2.1=3
      · rw [if_pos h3]
        simp only [reduceCtorEq,false_iff]
        rintro ⟨ht,_,d,_,hp⟩
        obtain ⟨m,hm',e,ZE⟩:=yI hp ht.nr
        have:=hs.inj hm' fH (by rw [e,hm2])
        rw [this] at ZE
        exact ZE h3
      · rw [if_neg h3]
        by_cases hst:gV c x=true
        · rw [if_pos hst]
          simp only [reduceCtorEq,false_iff]
          rintro ⟨_,h,_⟩
          rw [h] at hst;cases hst
        · rw [if_neg hst]
          have hst:gV c x=false:=by simpa using hst
          by_cases h1:(msg c x).2.1=1
          · rw [if_pos h1]
            have ht:Tk c x:=⟨_,fH,hm2,h1⟩
            constructor
            · intro e
              obtain rfl:=Option.some.inj e
              exact ⟨ht,hst,0,by omega,.zero⟩
            · rintro ⟨_, _, d, _, hp⟩
              rcases cN hp with ⟨_,e⟩|⟨_,_,_,_,hz⟩
              · rw [e]
              · exact absurd hz (ht.top hs _)
          · rw [if_neg h1, Jz hs hk]
            have h2:(msg c x).2.1=2:=by rcases hk _ fH with h|h|h<;>omega
            have vc:x∈kids c (msg c x).2.2.1:=by have:=qJ fH h2;rwa [hm2] at this
            constructor
            · rintro ⟨ht, _, d, hd, hp⟩
              exact ⟨ht,hst,d+1,by omega,.step hp vc⟩
            · rintro ⟨ht, _, d, hd, hp⟩
              rcases cN hp with ⟨_,e⟩|⟨k,z,hk',h4,hz⟩
              · exact absurd (by rw [←e];exact vc) (ht.top hs _)
              · rw [vN hs hz vc] at h4
                exact ⟨ht,PV hst vc,k,by omega,h4⟩
    · rw [if_neg hm]
      simp only [reduceCtorEq,false_iff]
      rintro ⟨ht,_,d,_,hp⟩
      exact hm (cu.2 (CI hp ht.ids))
theorem je (hs:SI c) (hk:Lk c) {x t:ByteArray}:pQ c x=some t↔Tk c t∧gV c x=false∧∃d,jE c t d x:=by
  rw [Jz hs hk]
  exact and_congr_right fun ht=>and_congr_right fun _=>⟨fun ⟨d,_,h⟩=>⟨d,h⟩,fun ⟨d,h⟩=>⟨d,h.short hs (ht.top hs) ht.ids,h⟩⟩
theorem ZK (hs:SI c) {t t' x:ByteArray} {n m:Nat} (ht:Tk c t) (ht':Tk c t') (h:jE c t n x) (h':jE c t' m x):t=t':=by
  rcases Nat.le_total n m with hle|hle
  · rcases cN (h.up hs h' hle) with ⟨_, e⟩ | ⟨_, _, _, _, hz⟩
    · exact e
    · exact absurd hz (ht.top hs _)
  · rcases cN (h'.up hs h hle) with ⟨_, e⟩ | ⟨_, _, _, _, hz⟩
    · exact e.symm
    · exact absurd hz (ht'.top hs _)
theorem ZL (hs:SI c) (hk:Lk c) (hl:c.length≤9) {m:Mg} (hm:m∈c) (h3:m.2.1≠3) :
    (dN c 9 m false).2.2=gV c m.1∧(dN c 9 m false).2.1=(pQ c m.1).isSome∧∀t,pQ c m.1=some t→((dN c 9 m false).1.getD ((dN c 9 m false).1.length - 1) zM).1=t:=by
  have ho:(dN c 9 m false).2.2=gV c m.1:=by
    rw [Bool.eq_iff_iff,Jw hs hk 9 hm h3,E3]
    simp only [Bool.false_eq_true,false_or]
    constructor
    · rintro ⟨d,_,p,y,hy,hp⟩;exact ⟨p,y,hy,hp.desc⟩
    · rintro ⟨p, y, hy, hd⟩
      obtain ⟨n,hp⟩:=hd.pth
      obtain ⟨d,hd,hp⟩:=Ll (ja (ny hy)) n hp
      exact ⟨d,by omega,p,y,hy,hp⟩
  have hst:(dN c 9 m false).2.1=(pQ c m.1).isSome:=by
    rw [Bool.eq_iff_iff,Jx hs hk 9 hm h3,Option.isSome_iff_exists,ho]
    simp only [je hs hk]
    constructor
    · rintro ⟨h,d,_,t,ht,hp⟩;exact ⟨t,ht,h,d,hp⟩
    · rintro ⟨t, ht, h, d, hp⟩
      exact ⟨h,d,by have:=hp.short hs (ht.top hs) ht.ids;omega,t,ht,hp⟩
  refine ⟨ho,hst,fun t ht=>?_⟩
  obtain ⟨q1,d,q2⟩:=Fb hs hk 9 hm h3 (by rw [hst,ht];rfl)
  obtain ⟨h1,_,d',h2⟩:=(je hs hk).1 ht
  exact ZK hs q1 h1 q2 h2
def gv (c:List Mg) (x:ByteArray):Option ByteArray:=if jd c x=[] then pQ c x else none
theorem pJ {x t:ByteArray}:gv c x=some t↔jd c x=[]∧pQ c x=some t:=by
  unfold gv;split<;>simp [*]
theorem sK {x y:ByteArray}:y∈jd c x↔y∈kids c x∧gV c y=false:=by
  unfold jd;rw [List.mem_filter];simp
theorem JA (hs:SI c) (hk:Lk c) {x y t:ByteArray} (hx:pQ c x=some t) (hy:y∈kids c x):(pQ c y).isSome = !gV c y:=by
  rw [Bool.eq_iff_iff,Option.isSome_iff_exists,Bool.not_eq_true']
  simp only [je hs hk]
  obtain ⟨h1,_,d,h2⟩:=(je hs hk).1 hx
  exact ⟨fun ⟨_,_,h,_⟩=>h,fun h=>⟨t,h1,h,d+1,.step h2 hy⟩⟩
theorem k35' (hs:SI c) (hk:Lk c) (hl:c.length≤9) {m:Mg} (hm:m∈c):∃r,ak (F35 c m)=some (r,(gv c m.1).isSome,())∧∀t,gv c m.1=some t→r=t:=by
  rw [k35 (by omega)]
  by_cases h3:m.2.1=3
  · rw [if_pos h3]
    have hn:gv c m.1=none:=by
      cases h:gv c m.1 with
      |none=>rfl
      |some t =>
        obtain ⟨ht,_,d,hp⟩:=(je hs hk).1 (pJ.1 h).2
        obtain ⟨x,hx,e,ZE⟩:=yI hp ht.nr
        rw [hs.inj hx hm e] at ZE
        exact absurd h3 ZE
    rw [hn]
    exact ⟨_,rfl,fun t h=>by cases h⟩
  · rw [if_neg h3]
    obtain ⟨ho,hst,hla⟩:=ZL hs hk hl hm h3
    have hkS:PT c m=true↔∃y∈kids c m.1,(pQ c y).isSome=true:=by
      unfold PT
      rw [List.any_eq_true]
      constructor
      · rintro ⟨x, hx, h⟩
        obtain ⟨h2,h4,h5⟩:=of_decide_eq_true h
        exact ⟨x.1,by rw [←h4];exact qJ hx h2,by rw [←(ZL hs hk hl hx (by omega)).2.1];exact h5⟩
      · rintro ⟨y, hy, h⟩
        obtain ⟨x,hx,rfl,h2,h4⟩:=jc.1 hy
        exact ⟨x,hx,decide_eq_true ⟨h2,h4,by rw [(ZL hs hk hl hx (by omega)).2.1];exact h⟩⟩
    cases hs':pQ c m.1 with
    |none =>
      have hn:gv c m.1=none:=by unfold gv;rw [hs'];split<;>rfl
      rw [hn]
      split
      · exact ⟨_,rfl,fun t h=>by cases h⟩
      · exact ⟨_,by rw [hst,hs'],fun t h=>by cases h⟩
    |some t =>
      by_cases hlv:jd c m.1=[]
      · have hv : gv c m.1 = some t := by unfold gv; rw [if_pos hlv, hs']
        rw [hv,if_neg,hst,hs',hla t hs']
        · exact ⟨_,rfl,fun t h=>by cases h;rfl⟩
        · rw [hkS]
          rintro ⟨y,hy,h⟩
          rw [JA hs hk hs' hy,Bool.not_eq_true'] at h
          have:=sK.2 ⟨hy,h⟩
          rw [hlv] at this;cases this
      · have hv : gv c m.1 = none := by unfold gv; rw [if_neg hlv]
        rw [hv,if_pos]
        · exact ⟨_,rfl,fun t h=>by cases h⟩
        · obtain ⟨y, hy⟩ := List.exists_mem_of_ne_nil _ hlv
          obtain ⟨h1,h2⟩:=sK.1 hy
          exact hkS.2 ⟨y,h1,by rw [JA hs hk hs' h1,h2];rfl⟩
theorem yJ {y : ByteArray} : ∀ {n : Nat} {x : ByteArray}, gV c x = false → (y ∈ cA c n x ↔ jd c y = [] ∧ gV c y = false ∧ ∃ d, d < n ∧ jE c x d y)
  |0,x,_=>by simp [cA]
  |n+1,x,hx=>by
    unfold cA
    split
    · rename_i hl
      rw [List.mem_singleton]
      constructor
      · rintro rfl;exact ⟨hl,hx,0,by omega,.zero⟩
      · rintro ⟨_, h2, d, _, hp⟩
        cases d with
        | zero => rcases cN hp with ⟨_, e⟩ | ⟨_, _, h, _, _⟩
                  · exact e
                  · omega
        |succ d =>
          rw [Nat.add_comm] at hp
          obtain ⟨z,ZZ,hz2⟩:=vT hp
          rcases cN ZZ with ⟨h,_⟩|⟨k,w,hk,hw,hzk⟩
          · omega
          · obtain rfl : k = 0 := by omega
            rcases cN hw with ⟨_,rfl⟩|⟨_,_,h,_,_⟩
            · have := sK.2 ⟨hzk, Jy hz2 h2⟩
              rw [hl] at this;cases this
            · omega
    · rename_i k l hl
      rw [(ef (t:=.str) _).mem_iff,List.mem_flatMap,←hl]
      constructor
      · rintro ⟨z, hz, h⟩
        obtain ⟨h1,h2⟩:=sK.1 hz
        obtain ⟨h3,h4,d,hd,hp⟩:=(yJ h2).1 h
        exact ⟨h3,h4,1+d,by omega,jE.add (.step .zero h1) hp⟩
      · rintro ⟨h3, h4, d, hd, hp⟩
        cases d with
        |zero =>
          rcases cN hp with ⟨_,e⟩|⟨_,_,h,_,_⟩
          · subst e;rw [hl] at h3;cases h3
          · omega
        |succ d =>
          rw [Nat.add_comm] at hp
          obtain ⟨z,ZZ,hz2⟩:=vT hp
          rcases cN ZZ with ⟨h,_⟩|⟨k,w,hk,hw,hzk⟩
          · omega
          · obtain rfl : k = 0 := by omega
            rcases cN hw with ⟨_,rfl⟩|⟨_,_,h,_,_⟩
            · have hsz := Jy hz2 h4
              exact ⟨z,sK.2 ⟨hzk,hsz⟩,(yJ hsz).2 ⟨h3,h4,d,by omega,hz2⟩⟩
            · omega
theorem CJ (hs:SI c) (hk:Lk c) {t y:ByteArray} (ht:Tk c t):y∈lS c t↔gv c y=some t:=by
  unfold lS
  rw [yJ (Ux (ht.top hs)),pJ,je hs hk]
  refine and_congr_right fun _=>?_
  constructor
  · rintro ⟨h,d,_,hp⟩;exact ⟨ht,h,d,hp⟩
  · rintro ⟨_,h,d,hp⟩;exact ⟨h,d,by have:=hp.short hs (ht.top hs) ht.ids;omega,hp⟩
theorem CK (x:ByteArray):slt x x=false:=gU (t:=.str) kS x
theorem JB {x y:ByteArray} (h:slt x y=true) (h':slt y x=true):False:=dw (t:=.str) kS h h'
theorem Uy {l l':List ByteArray} (h:l.Pairwise fun a b=>slt a b=true) (h':l'.Pairwise fun a b=>slt a b=true) (hm:∀x,x∈l↔x∈l'):l=l' :=
  iE (r:=fun a b=>slt a b=true) (fun a h=>by rw [CK] at h;cases h) (fun a b h1 h2=>JB h1 h2) h h' hm
theorem HE {l:List ByteArray} (h:AD .str l) (hn:l.Nodup):l.Pairwise fun a b=>slt a b=true:=by
  refine List.Pairwise.imp₂ (fun a b h1 h2=>?_) h hn
  cases hlt:slt a b with
  |true=>rfl
  |false=>exact absurd (gD (t:=.str) kS hlt h1) h2
theorem PW : ∀ {n : Nat} {x : ByteArray}, AD .str (cA c n x)
  |0,_=>.nil
  |n+1,x=>by
    unfold cA
    split
    · exact List.pairwise_singleton _ _
    · exact pG (t:=.str) kS _
theorem ZM (hs:SI c) (hk:Lk c) {t:ByteArray} (ht:Tk c t):lS c t=(c.filter fun m=>decide (gv c m.1=some t)).map (·.1):=by
  refine Uy (HE PW (CE hs (ht.top hs) .zero)) ?_ fun y=>?_
  · rw [List.pairwise_map];exact List.Pairwise.filter _ hs
  · rw [CJ hs hk ht, List.mem_map]
    constructor
    · intro h
      obtain ⟨_,_,d,hp⟩:=(je hs hk).1 (pJ.1 h).2
      obtain ⟨m,hm,rfl⟩:=List.mem_map.1 (CI hp ht.ids)
      exact ⟨m,List.mem_filter.2 ⟨hm,by simpa using h⟩,rfl⟩
    · rintro ⟨m, hm, rfl⟩
      simpa using (List.mem_filter.1 hm).2
end
end Go.Proofs.Tryz
end
section
namespace Go.Proofs.Tryz
open Go.AM
set_option maxRecDepth 100000
set_option maxHeartbeats 1000000
def tX (x:ByteArray) (b z:Mg):Mg:=if z.1=x∧(b.2.1=0∨fR tM z b=true) then z else b
def gW (l:List Mg) (x:ByteArray):Mg:=l.foldl (tX x) zM
def kO (l:List Mg) (r:List ByteArray):List Mg:=(r.map (gW l)).filter fun m=>decide (0<m.2.1)
theorem dltM {z b:Mg} (h:z.1=b.1):fR tM z b=(decide (z.2.1<b.2.1)||(decide (z.2.1=b.2.1)&&(slt z.2.2.1 b.2.2.1||(decide (z.2.2.1=b.2.2.1)&&(slt z.2.2.2.1 b.2.2.2.1||(decide (z.2.2.2.1=b.2.2.2.1)&&decide (z.2.2.2.2<b.2.2.2.2))))))):=by
 have e:fR tM z b=(slt z.1 b.1||(dI .str z.1 b.1&&(decide (z.2.1<b.2.1)||((z.2.1==b.2.1)&&(slt z.2.2.1 b.2.2.1||(dI .str z.2.2.1 b.2.2.1&&(slt z.2.2.2.1 b.2.2.2.1||(dI .str z.2.2.2.1 b.2.2.2.1&&decide (z.2.2.2.2<b.2.2.2.2))))))))):=rfl
 rw [e,h,CK,vJ,vJ,vJ]
 simp only [decide_true,Bool.false_or,Bool.true_and]
 congr 2
theorem aeW {l b0:List Mg} {nv:Nat} {x:ByteArray} {v9:List ByteArray} {v10 v11:Int} (hl:l.length<1000000000) :
  iter (fun a=>ak (g30_1 a)) (l,nv,x,v9,v10,v11,l,((l.length:Nat):Int),(0:Int),b0,bs [],(0:Int),bs [],bs [],(0:Int),()) =
   some (l,nv,v9,v10,v11,b0,(gW l x).1,(gW l x).2.1,(gW l x).2.2.1,(gW l x).2.2.2.1,(gW l x).2.2.2.2,()):=by
 refine aK l (fun k (b : Mg) => (l, nv, x, v9, v10, v11, l, ((l.length : Nat) : Int), (k : Int), b0, b.1, b.2.1, b.2.2.1, b.2.2.2.1, b.2.2.2.2, ()))
  (fun b r=>(l,nv,v9,v10,v11,b0,(r.foldl (tX x) b).1,(r.foldl (tX x) b).2.1,(r.foldl (tX x) b).2.2.1,(r.foldl (tX x) b).2.2.2.1,(r.foldl (tX x) b).2.2.2.2,())) (fun _ b=>b.2.1=0∨b.1=x) ?_ ?_ (s:=zM) (.inl rfl)
 ·intro pre z post b hz hb
  have hlen:l.length=pre.length+(post.length+1):=by rw [hz];simp
  have hd:l.getD pre.length (bs [],(0:Int),bs [],bs [],(0:Int))=z:=by rw [hz];exact aR rfl
  have i1:ew (pre.length:Int) ((l.length:Nat):Int)=true:=bF (by omega) (by omega)
  have r1:eN .i64 ((pre.length:Int)+1)=true:=aH (by omega) (by omega)
  left
  refine ⟨tX x b z,?_,?_,rfl⟩
  ·simp only [g30_1, av, aU, aN, aa, Int.toNat_natCast, hd, i1, r1, ah, aX, bJ, seq_eq]
   rw [if_pos (by omega)]
   simp only [kq]
   unfold tX
   by_cases hx:z.1=x
   ·by_cases h0 : b.2.1 = 0
    ·rw [if_pos hx,if_pos h0,if_pos ⟨hx,.inl h0⟩];rfl
    ·have hbx : b.1 = x := hb.resolve_left h0
     rw [if_pos hx,if_neg h0]
     have hdl:=dltM (z:=z) (b:=b) (by rw [hx,hbx])
     by_cases k1:z.2.1<b.2.1
     ·rw [if_pos k1,if_pos ⟨hx,.inr (by rw [hdl];simp [k1])⟩];rfl
     ·rw [if_neg k1]
      by_cases k2:z.2.1=b.2.1
      ·rw [if_pos k2]
       cases k3:slt z.2.2.1 b.2.2.1 with
       |true=>rw [if_pos rfl,if_pos ⟨hx,.inr (by rw [hdl];simp [k2,k3])⟩];rfl
       |false =>
        rw [if_neg (by simp)]
        by_cases k4:z.2.2.1=b.2.2.1
        ·rw [if_pos k4]
         cases k5:slt z.2.2.2.1 b.2.2.2.1 with
         |true=>rw [if_pos rfl,if_pos ⟨hx,.inr (by rw [hdl];simp [k2,k4,k5])⟩];rfl
         |false =>
          rw [if_neg (by simp)]
          by_cases k6:z.2.2.2.1=b.2.2.2.1
          ·rw [if_pos k6]
           by_cases k7:z.2.2.2.2<b.2.2.2.2
           ·rw [if_pos k7,if_pos ⟨hx,.inr (by rw [hdl];simp [k2,k4,k6,k7])⟩];rfl
           ·rw [if_neg k7, if_neg]; · rfl
            rintro ⟨_,h|h⟩
            ·exact h0 h
            ·rw [hdl,k3,k5] at h;simp [k1,k7] at h
          ·rw [if_neg k6, if_neg]; · rfl
           rintro ⟨_,h|h⟩
           ·exact h0 h
           ·rw [hdl,k3,k5] at h;simp [k1,k6] at h
        ·rw [if_neg k4, if_neg]; · rfl
         rintro ⟨_,h|h⟩
         ·exact h0 h
         ·rw [hdl,k3] at h;simp [k1,k4] at h
      ·rw [if_neg k2, if_neg]; · rfl
       rintro ⟨_,h|h⟩
       ·exact h0 h
       ·rw [hdl] at h;simp [k1,k2] at h
   ·rw [if_neg hx,if_neg (fun h=>hx h.1)];rfl
  ·unfold tX
   split
   ·rename_i h;exact .inr h.1
   ·exact hb
 ·intro b _
  simp only [g30_1,av,aa,aX]
  rw [if_neg (by omega)]
  rfl
theorem aeX {l:List Mg} (hl:l.length<1000000000):iter (fun a=>ak (g30_0 a)) (l,(0:Nat),lP,((lP.length:Nat):Int),(0:Int),[],())=some ((kO l lP).length,kO l lP,()):=by
 refine aK lP (fun k (o:List Mg)=>(l,o.length,lP,((lP.length:Nat):Int),(k:Int),o,())) (fun o r=>((o++kO l r).length,o++kO l r,())) (fun pre o=>o.length≤pre.length) ?_ ?_ (s:=[]) (Nat.le_refl _)
 ·intro pre x post o hx ho
  have hlen:lP.length=pre.length+(post.length+1):=by rw [hx];simp
  have h8:lP.length=8:=rfl
  have hd:lP.getD pre.length (bs [])=x:=by rw [hx];exact aR rfl
  have i1:ew (pre.length:Int) ((lP.length:Nat):Int)=true:=bF (by omega) (by omega)
  have r1:eN .i64 ((pre.length:Int)+1)=true:=aH (by omega) (by omega)
  have d1:decide (o.length+1<cg)=true:=decide_eq_true (by rw [fU];omega)
  have e1:(([((gW l x).1,(gW l x).2.1,(gW l x).2.2.1,(gW l x).2.2.2.1,(gW l x).2.2.2.2)]:List Mg).take 1)=[gW l x]:=rfl
  have hk:=aeW (l:=l) (b0:=o) (nv:=o.length) (x:=x) (v9:=lP) (v10:=((lP.length:Nat):Int)) (v11:=(pre.length:Int)) hl
  left
  by_cases hb:0<(gW l x).2.1
  ·have hc : kO l (x :: post) = gW l x :: kO l post := by unfold kO; rw [List.map_cons, List.filter_cons_of_pos (by simpa using hb)]
   refine ⟨o++[gW l x],?_,by simp;omega,by rw [hc];simp⟩
   simp only [g30_0,av,aA,bw,aU,aY,aN,aa,Int.toNat_natCast,hd,i1,ah,aX]
   rw [if_pos (by omega),aq hk]
   simp only
   rw [if_pos hb]
   simp only [e1,List.length_singleton,d1,r1,ah,List.drop_zero,List.take_length,List.length_append]
   rfl
  ·have hc : kO l (x :: post) = kO l post := by unfold kO; rw [List.map_cons, List.filter_cons_of_neg (by simpa using hb)]
   refine ⟨o,?_,by simp;omega,by rw [hc]⟩
   simp only [g30_0,av,aA,bw,aU,aY,aN,aa,Int.toNat_natCast,hd,i1,ah,aX]
   rw [if_pos (by omega),aq hk]
   simp only
   rw [if_neg hb]
   simp only [r1,ah]
   rfl
 ·intro o _
  simp only [g30_0,av,aa,aX]
  rw [if_neg (by omega)]
  simp [kO]
theorem k31:ak F31=some (lP,()):=rfl
def BS (x:ByteArray) (l:List Mg) (b:Mg):Prop:=(b=zM∧∀m∈l,m.1≠x)∨(b∈l∧b.1=x∧∀m∈l,m.1=x→m=b∨fR tM b m=true)
theorem AW {x : ByteArray} : ∀ {l pre : List Mg} {b : Mg}, (∀ m ∈ pre ++ l, 1 ≤ m.2.1) → BS x pre b → BS x (pre ++ l) (l.foldl (tX x) b)
 |[],pre,b,_,h=>by simpa using h
 |z::l,pre,b,hk,h=>by
  have hn:BS x (pre++[z]) (tX x b z):=by
   unfold tX
   rcases h with ⟨rfl,h⟩|⟨h1,h2,h3⟩
   ·by_cases hx : z.1 = x
    ·rw [if_pos ⟨hx, .inl rfl⟩]
     refine .inr ⟨by simp,hx,fun m hm e=>?_⟩
     rcases List.mem_append.1 hm with hm|hm
     ·exact absurd e (h m hm)
     ·exact .inl (List.mem_singleton.1 hm)
    ·rw [if_neg (fun h => hx h.1)]
     refine .inl ⟨rfl,fun m hm=>?_⟩
     rcases List.mem_append.1 hm with hm|hm
     ·exact h m hm
     ·rw [List.mem_singleton.1 hm];exact hx
   ·have hb0 : ¬ b.2.1 = 0 := by have := hk b (by simp [h1]); omega
    by_cases hc:z.1=x∧(b.2.1=0∨fR tM z b=true)
    ·rw [if_pos hc]
     have Qa:=hc.2.resolve_left hb0
     refine .inr ⟨by simp,hc.1,fun m hm e=>?_⟩
     rcases List.mem_append.1 hm with hm|hm
     ·rcases h3 m hm e with rfl | h4
      ·exact .inr Qa
      ·exact .inr (iA kM Qa h4)
     ·exact .inl (List.mem_singleton.1 hm)
    ·rw [if_neg hc]
     refine .inr ⟨by simp [h1],h2,fun m hm e=>?_⟩
     rcases List.mem_append.1 hm with hm|hm
     ·exact h3 m hm e
     ·rw [List.mem_singleton.1 hm] at e ⊢
      cases h4:fR tM b z with
      |true=>exact .inr rfl
      |false =>
       cases h5:fR tM z b with
       |true=>exact absurd ⟨e,.inr h5⟩ hc
       |false=>exact .inl (gD kM h5 h4)
  have:=AW (l:=l) (pre:=pre++[z]) (b:=tX x b z) (by simpa using hk) hn
  simpa using this
theorem pK {l:List Mg} (hk:∀m∈l,1≤m.2.1) (x:ByteArray):BS x l (gW l x):=by
 have:=AW (x:=x) (l:=l) (pre:=[]) (b:=zM) (by simpa using hk) (.inl ⟨rfl,fun m h=>by cases h⟩)
 rw [List.nil_append] at this
 exact this
theorem Fc {m:Mg} (h:uF m=0):m.2.1=1∨m.2.1=2∨m.2.1=3:=by
 unfold uF at h
 split at h
 ·cases h
 ·omega
theorem Uz:lP.Pairwise fun a b=>slt a b=true:=of_decide_eq_true (by kernel_rfl)
theorem ZN {c c':List Mg} (h:SI c) (h':SI c') (hm:∀m,m∈c↔m∈c'):c=c' :=
 iE (r:=fun a b:Mg=>slt a.1 b.1=true) (fun a h=>by rw [CK] at h;cases h) (fun a b h1 h2=>JB h1 h2) h h' hm
theorem JC {l:List Mg} (hg:Gd l) (hl:l.length≤60) (hi:∀m∈l,m.1∈lP):kO l lP=cnt (gG l):=by
 have hk:∀m∈l,1≤m.2.1:=fun m hm=>by rcases Fc (hg m hm) with h|h|h<;>omega
 have key:∀r:List ByteArray,(r.Pairwise fun a b=>slt a b=true)→SI (kO l r)∧∀m,m∈kO l r↔∃x∈r,gW l x=m∧m.1=x∧m∈l:=by
  intro r
  have hmem:∀m,m∈kO l r↔∃x∈r,gW l x=m∧m.1=x∧m∈l:=fun m=>by
   unfold kO
   rw [List.mem_filter,List.mem_map]
   constructor
   ·rintro ⟨⟨x, hx, rfl⟩, h0⟩
    rcases pK hk x with ⟨e,_⟩|⟨h1,h2,_⟩
    ·rw [e] at h0;simp at h0
    ·exact ⟨x,hx,rfl,h2,h1⟩
   ·rintro ⟨x, hx, rfl, h2, h1⟩
    exact ⟨⟨x,hx,rfl⟩,by have:=hk _ h1;simp;omega⟩
  refine fun hr=>⟨?_,hmem⟩
  induction r with
  |nil=>exact .nil
  |cons x r ih =>
   rw [List.pairwise_cons] at hr
   have ih':SI (kO l r):=by
    refine ih (fun m=>?_) hr.2
    unfold kO
    rw [List.mem_filter,List.mem_map]
    constructor
    ·rintro ⟨⟨x, hx, rfl⟩, h0⟩
     rcases pK hk x with ⟨e,_⟩|⟨h1,h2,_⟩
     ·rw [e] at h0;simp at h0
     ·exact ⟨x,hx,rfl,h2,h1⟩
    ·rintro ⟨x, hx, rfl, h2, h1⟩
     exact ⟨⟨x,hx,rfl⟩,by have:=hk _ h1;simp;omega⟩
   unfold kO
   rw [List.map_cons]
   by_cases h0:0<(gW l x).2.1
   ·rw [List.filter_cons_of_pos (by simpa using h0)]
    refine List.pairwise_cons.2 ⟨fun m hm=>?_,ih'⟩
    obtain ⟨fH,hm2⟩:=List.mem_filter.1 hm
    obtain ⟨y,hy,rfl⟩:=List.mem_map.1 fH
    rcases pK hk x with ⟨e,_⟩|⟨_,h2,_⟩
    ·rw [e] at h0;simp at h0
    rcases pK hk y with ⟨e,_⟩|⟨_,h4,_⟩
    ·rw [e] at hm2;simp at hm2
    rw [h2,h4];exact hr.1 y hy
   ·rw [List.filter_cons_of_neg (by simpa using h0)]
    exact ih'
 obtain ⟨h1,h2⟩:=key lP Uz
 refine ZN h1 (iG _) fun m=>?_
 rw [h2,T5 (nT.told l).s,sJ hg hl]
 constructor
 ·rintro ⟨x, hx, hb, e, hm⟩
  refine ⟨hm,fun y hy e'=>?_⟩
  rcases pK hk x with ⟨q,_⟩|⟨_,_,h3⟩
  ·rw [hb] at q;rw [q] at hm;have:=hk _ hm;simp at this
  ·rw [hb] at h3
   exact h3 y ((sJ hg hl y).1 hy) (by rw [e',e])
 ·rintro ⟨hm, h3⟩
  refine ⟨m.1,hi m hm,?_,rfl,hm⟩
  rcases pK hk m.1 with ⟨_,q⟩|⟨q1,q2,q3⟩
  ·exact absurd rfl (q m hm)
  ·rcases q3 m hm rfl with e | h4
   ·exact e.symm
   ·rcases h3 _ ((sJ hg hl _).2 q1) q2 with e | h5
    ·exact e
    ·exact (dw kM h4 h5).elim
theorem k30 {l:List Mg} (hg:Gd l) (hl:l.length≤60) (hi:∀m∈l,m.1∈lP):ak (F30 l)=some (cnt (gG l),()):=by
 have hlen:(kO l lP).length<1000000:=by
  have:(kO l lP).length≤8:=by unfold kO;exact Nat.le_trans (List.length_filter_le ..) (by simp [lP])
  omega
 unfold F30
 simp only [aA,bw]
 rw [aq k31]
 simp only
 rw [aq (aeX (by omega))]
 simp only [aa,List.drop_zero,List.take_length]
 rw [JC hg hl hi]
theorem fW {l:List ByteArray} {k:Nat} (h:k<l.length):l.getD k (bs [])∈l:=by
 rw [List.getD_eq_getElem?_getD,List.getElem?_eq_getElem h];exact List.getElem_mem h
theorem PX {n:Int} (h:0≤n) (h2:n<8):sI 97 n∈lP:=by
 have h8:lP.length=8:=rfl
 have:n=0∨n=1∨n=2∨n=3∨n=4∨n=5∨n=6∨n=7:=by omega
 rcases this with rfl|rfl|rfl|rfl|rfl|rfl|rfl|rfl
 ·exact (show lP.getD 0 (bs [])=sI 97 0 by kernel_rfl)▸fW (l:=lP) (k:=0) (by omega)
 ·exact (show lP.getD 1 (bs [])=sI 97 1 by kernel_rfl)▸fW (l:=lP) (k:=1) (by omega)
 ·exact (show lP.getD 2 (bs [])=sI 97 2 by kernel_rfl)▸fW (l:=lP) (k:=2) (by omega)
 ·exact (show lP.getD 3 (bs [])=sI 97 3 by kernel_rfl)▸fW (l:=lP) (k:=3) (by omega)
 ·exact (show lP.getD 4 (bs [])=sI 97 4 by kernel_rfl)▸fW (l:=lP) (k:=4) (by omega)
 ·exact (show lP.getD 5 (bs [])=sI 97 5 by kernel_rfl)▸fW (l:=lP) (k:=5) (by omega)
 ·exact (show lP.getD 6 (bs [])=sI 97 6 by kernel_rfl)▸fW (l:=lP) (k:=6) (by omega)
 ·exact (show lP.getD 7 (bs [])=sI 97 7 by kernel_rfl)▸fW (l:=lP) (k:=7) (by omega)
theorem UA {n:Int} (h:0≤n) (h2:n<3):sI 120 n∈cU:=by
 have h8:cU.length=3:=rfl
 have:n=0∨n=1∨n=2:=by omega
 rcases this with rfl|rfl|rfl
 ·exact (show cU.getD 0 (bs [])=sI 120 0 by kernel_rfl)▸fW (l:=cU) (k:=0) (by omega)
 ·exact (show cU.getD 1 (bs [])=sI 120 1 by kernel_rfl)▸fW (l:=cU) (k:=1) (by omega)
 ·exact (show cU.getD 2 (bs [])=sI 120 2 by kernel_rfl)▸fW (l:=cU) (k:=2) (by omega)
structure ByN (m:Mg):Prop where
 uF:uF m=0
 id:m.1∈lP
 of:m.2.1≠1→m.2.2.1∈lP
 acc:m.2.1≠3→m.2.2.2.1∈cU
 amt : -3≤m.2.2.2.2∧m.2.2.2.2≤8
theorem ZO {x:Nu} (h:PK x):ByN (Fy x):=by
 have ho:=Wj h
 have hc:=PO h
 obtain ⟨⟨a1,a2⟩,⟨b1,b2⟩,⟨c1,c2⟩,d1,d2⟩:=h
 have ta:=HC a1 8 (by omega)
 have tc:=HC c1 3 (by omega)
 have te:=ZI c1 c2
 have tf:=HC te.1 12 (by omega)
 have n1:=PX ta.1 ta.2
 have n2:=PX ho.1 ho.2.1
 have n3:=UA tc.1 tc.2
 refine ⟨hc,?_,?_,?_,?_⟩
 ·unfold Fy; simp only; split
  ·exact n1
  ·split<;>exact n1
 ·unfold Fy; simp only; split
  ·intro h;exact absurd rfl h
  ·split<;>exact fun _=>n2
 ·unfold Fy; simp only; split
  ·exact fun _=>n3
  ·split
   ·intro h;exact absurd rfl h
   ·exact fun _=>n3
 ·unfold Fy; simp only; split
  ·simp only;omega
  ·split
   ·simp
   ·simp only;omega
theorem yK {p:List Nu} (hp:∀x∈p,PK x):∀m∈fh p,ByN m:=fun m hm=>by
 obtain ⟨x,hx,rfl⟩:=List.mem_map.1 hm
 exact ZO (hp x (List.mem_of_mem_take hx))
structure CN (c:List Mg):Prop where
 si:SI c
 k3:Lk c
 byN:∀m∈c,ByN m
 len:c.length≤8
theorem UB {p:List Nu} (hp:∀x∈p,PK x):CN (cnt (gG (fh p))):=by
 have hml:=tW p
 have hb:∀m∈cnt (gG (fh p)),ByN m:=fun m hm=>yK hp m ((sJ (CH hp) (by omega) m).1 (vK hm))
 refine ⟨iG _,fun m hm=>Fc (hb m hm).uF,hb,?_⟩
 rw [←JC (CH hp) (by omega) fun m hm=>(yK hp m hm).id]
 unfold kO
 exact Nat.le_trans (List.length_filter_le ..) (by simp [lP])
theorem PY {p:List Nu} (hp:∀x∈p,PK x):ak (F30 (fh p))=some (cnt (gG (fh p)),()) :=
 k30 (CH hp) (by have:=tW p;omega) fun m hm=>(yK hp m hm).id
end Go.Proofs.Tryz
end
section
namespace Go.Proofs.Tryz
open Go.AM
set_option maxRecDepth 100000
set_option maxHeartbeats 2000000
section
variable {c:List Mg}
theorem UC {x r:ByteArray} (t:ByteArray) (h:∀t,gv c x=some t→r=t):gv c x=some t↔(gv c x).isSome=true∧r=t:=by
 constructor
 ·intro e;rw [e];exact ⟨rfl,h t e⟩
 ·rintro ⟨h1, rfl⟩
  obtain ⟨t,ht⟩:=Option.isSome_iff_exists.1 h1
  rw [h t ht,ht]
end
end Go.Proofs.Tryz
end
section
namespace Go.Proofs.Tryz
open Go.AM
set_option maxRecDepth 100000
set_option maxHeartbeats 2000000
abbrev W3:=Int×Int×Int
def lQ (j:Nat) (w:W3):Int:=[w.1,w.2.1,w.2.2].getD j 0
def dH (w:W3):Int:=w.1+w.2.1+w.2.2
def nR (m:Mg):Nat:=Int.toNat (fF m.2.2.2.1 0 - 120)
def nS (m:Mg) (w:W3):W3:=(([w.1,w.2.1,w.2.2].set (nR m) ([w.1,w.2.1,w.2.2].getD (nR m) 0+m.2.2.2.2)).getD 0 0,([w.1,w.2.1,w.2.2].set (nR m) ([w.1,w.2.1,w.2.2].getD (nR m) 0+m.2.2.2.2)).getD 1 0,([w.1,w.2.1,w.2.2].set (nR m) ([w.1,w.2.1,w.2.2].getD (nR m) 0+m.2.2.2.2)).getD 2 0)
theorem JD {m:Mg} (h:m.2.2.2.1∈cU):nR m<3∧fF m.2.2.2.1 0 - 120=(nR m:Int)∧m.2.2.2.1.size=1∧cU.getD (nR m) (bs [])=m.2.2.2.1:=by
 unfold nR
 generalize m.2.2.2.1=a at h
 have h3:a=bs [120]∨a=bs [121]∨a=bs [122]:=by
  unfold cU at h
  simpa using h
 rcases h3 with rfl|rfl|rfl
 ·exact ⟨of_decide_eq_true (by kernel_rfl),by kernel_rfl,rfl,by kernel_rfl⟩
 ·exact ⟨of_decide_eq_true (by kernel_rfl),by kernel_rfl,rfl,by kernel_rfl⟩
 ·exact ⟨of_decide_eq_true (by kernel_rfl),by kernel_rfl,rfl,by kernel_rfl⟩
theorem PZ {i j:Nat} (hi:i<3) (hj:j<3) (e:cU.getD i (bs [])=cU.getD j (bs [])):i=j:=by
 have key:∀i<3,∀j<3,i≠j→cU.getD i (bs [])≠cU.getD j (bs []):=by decide
 exact Classical.byContradiction fun h=>key i hi j hj h e
theorem JE {m:Mg} (h:nR m<3) (w:W3) (j:Nat) (hj:j<3):lQ j (nS m w)=lQ j w+if nR m=j then m.2.2.2.2 else 0:=by
 unfold nS
 generalize nR m=i at h
 have hi:i=0∨i=1∨i=2:=by omega
 have hj:j=0∨j=1∨j=2:=by omega
 rcases hi with rfl|rfl|rfl<;>rcases hj with rfl|rfl|rfl<;>simp [lQ]
theorem UD {m:Mg} (h:nR m<3) (w:W3):dH (nS m w)=dH w+m.2.2.2.2:=by
 unfold nS
 generalize nR m=i at h
 have hi:i=0∨i=1∨i=2:=by omega
 rcases hi with rfl|rfl|rfl<;>simp [dH]<;>omega
theorem ZP {c:List Mg} (hs:SI c) {m:Mg} (hm:m∈c) (h:m.2.2.2.1∈cU) (w:W3) (j:Nat) (hj:j<3):lQ j (nS m w)=lQ j w+fA c (cU.getD j (bs [])) m.1:=by
 obtain ⟨h1,_,_,h4⟩:=JD h
 rw [JE h1 w j hj]
 unfold fA
 rw [gr hs hm]
 congr 1
 by_cases e:nR m=j
 ·rw [if_pos e,if_pos (by rw [←h4,e])]
 ·rw [if_neg e,if_neg fun e'=>e (PZ h1 hj (by rw [h4,e']))]
section
variable {c:List Mg}
def jF (c:List Mg) (t:ByteArray) (ws:List W3):List W3:=ws.flatMap fun w=>(c.filter fun m=>decide (gv c m.1=some t)).map fun m=>nS m w
def yL (c:List Mg) (ts:List ByteArray) (ws:List W3):List W3:=ts.foldl (fun ws t=>jF c t ws) ws
theorem yM {t:ByteArray} {ws:List W3} {w:W3}:w∈jF c t ws↔∃w'∈ws,∃m∈c,gv c m.1=some t∧w=nS m w':=by
 unfold jF
 rw [List.mem_flatMap]
 constructor
 ·rintro ⟨w', h1, h2⟩
  obtain ⟨m,hm,rfl⟩:=List.mem_map.1 h2
  obtain ⟨h3,h4⟩:=List.mem_filter.1 hm
  exact ⟨w',h1,m,h3,by simpa using h4,rfl⟩
 ·rintro ⟨w', h1, m, h3, h4, rfl⟩
  exact ⟨w',h1,List.mem_map.2 ⟨m,List.mem_filter.2 ⟨h3,by simpa using h4⟩,rfl⟩⟩
theorem tY {t : ByteArray} : ∀ {ws : List W3}, (jF c t ws).length ≤ ws.length * c.length
 |[]=>by simp [jF]
 |w::ws=>by
  have ih:=tY (t:=t) (ws:=ws)
  unfold jF at ih ⊢
  rw [List.flatMap_cons,List.length_append,List.length_map,List.length_cons,Nat.succ_mul]
  have:=List.length_filter_le (fun m:Mg=>decide (gv c m.1=some t)) c
  omega
theorem yN (hs:SI c) (hk:Lk c) {f:ByteArray→Int} {φ:W3→Int} (hf:∀m∈c,(gv c m.1).isSome=true→∀w,φ (nS m w)=φ w+f m.1) :
  ∀{ts:List ByteArray} {can:Zs} {ws:List W3},(∀t∈ts,Tk c t)→(∀z,sC can z↔∃w∈ws,φ w=z)→∀z,sC (nB c f ts can) z↔∃w∈yL c ts ws,φ w=z
 |[],_,_,_,h,z=>h z
 |t::ts,can,ws,ht,h,z=>by
  refine yN hs hk hf (ts:=ts) (can:=mB f can (lS c t)) (ws:=jF c t ws) (fun t h=>ht t (List.mem_cons_of_mem _ h)) (fun z=>?_) z
  have h1:=ht t (List.mem_cons_self ..)
  rw [mD.2]
  constructor
  ·rintro ⟨v, hv, x, hx, rfl⟩
   have pe:=(CJ hs hk h1).1 hv
   obtain ⟨w,hw,rfl⟩:=(h x).1 hx
   rw [ZM hs hk h1] at hv
   obtain ⟨m,hm,rfl⟩:=List.mem_map.1 hv
   have hm:=(List.mem_filter.1 hm).1
   exact ⟨nS m w,yM.2 ⟨w,hw,m,hm,pe,rfl⟩,hf m hm (by rw [pe];rfl) w⟩
  ·rintro ⟨w, hw, rfl⟩
   obtain ⟨w',CL,m,hm,hv,rfl⟩:=yM.1 hw
   exact ⟨m.1,(CJ hs hk h1).2 hv,φ w',(h _).2 ⟨w',CL,rfl⟩,hf m hm (by rw [hv];rfl) w'⟩
theorem P0 (hs:SI c):∀t∈sD c,Tk c t:=fun t ht=>by
 obtain ⟨m,hm,rfl⟩:=List.mem_map.1 ht
 obtain ⟨h1,h2⟩:=List.mem_filter.1 hm
 exact ⟨m,h1,rfl,by simpa using h2⟩
theorem pL (hs:SI c) (hk:Lk c) {m:Mg} (hm:m∈c) (h:(gv c m.1).isSome=true):m.2.1≠3:=by
 obtain ⟨t,ht⟩:=Option.isSome_iff_exists.1 h
 obtain ⟨h1,_,d,h2⟩:=(je hs hk).1 (pJ.1 ht).2
 obtain ⟨m',hm',e,h3⟩:=yI h2 h1.nr
 rw [hs.inj hm' hm e] at h3
 exact h3
def iI (c:List Mg):List W3:=yL c (sD c) [(0,0,0)]
theorem Fe (φ:W3→Int) (h0:φ (0,0,0)=0) (z:Int):sC eD z↔∃w∈[((0,0,0):W3)],φ w=z:=by
 rw [cQ.2]
 constructor
 ·rintro rfl;exact ⟨_,List.mem_singleton.2 rfl,h0⟩
 ·rintro ⟨w, hw, rfl⟩
  rw [List.mem_singleton.1 hw,h0]
theorem P3 (hC:CN c) (j:Nat) (hj:j<3) (z:Int):z∈eu c (fA c (cU.getD j (bs [])))↔∃w∈iI c,lQ j w=z:=by
 have h := yN hC.si hC.k3 (f := fA c (cU.getD j (bs []))) (φ := lQ j) (fun m hm hv w => ZP hC.si hm ((hC.byN m hm).acc (pL hC.si hC.k3 hm hv)) w j hj) (P0 hC.si) (Fe (lQ j) (by
  have hj:j=0∨j=1∨j=2:=by omega
  rcases hj with rfl|rfl|rfl<;>rfl)) z
 unfold iI
 rw [←h]
 unfold eu sC
 rw [List.mem_map]
 exact ⟨fun ⟨e,he,h⟩=>by rw [←h];exact he,fun h=>⟨_,h,rfl⟩⟩
theorem sL (hC:CN c) (z:Int):z∈eu c (fT c)↔∃w∈iI c,dH w=z:=by
 have h:=yN hC.si hC.k3 (f:=fT c) (φ:=dH) (fun m hm hv w=>by
  rw [UD (JD ((hC.byN m hm).acc (pL hC.si hC.k3 hm hv))).1]
  unfold fT
  rw [gr hC.si hm]) (P0 hC.si) (Fe dH rfl) z
 unfold iI
 rw [←h]
 unfold eu sC
 rw [List.mem_map]
 exact ⟨fun ⟨e,he,h⟩=>by rw [←h];exact he,fun h=>⟨_,h,rfl⟩⟩
theorem Ff {f:ByteArray→Int}:(eu c f).Pairwise (· < ·):=by
 unfold eu
 rw [List.pairwise_map]
 refine List.Pairwise.imp (fun {a b} h=>?_) (sE (c:=c) (f:=f) (ts:=sD c) cQ.1)
 exact of_decide_eq_true h
def Bw (B:Int) (ws:List W3):Prop:=∀w∈ws,∀j<3,-B≤lQ j w∧lQ j w≤B
theorem UE (hC:CN c) {m:Mg} (hm:m∈c) (hv:(gv c m.1).isSome=true) {w:W3} {B:Int} (hw:∀j<3,-B≤lQ j w∧lQ j w≤B):∀j<3,-(B+8)≤lQ j (nS m w)∧lQ j (nS m w)≤B+8:=fun j hj=>by
 have h1:=(JD ((hC.byN m hm).acc (pL hC.si hC.k3 hm hv))).1
 have h2:=hw j hj
 have h3:=(hC.byN m hm).amt
 rw [JE h1 w j hj]
 split<;>omega
theorem Fg (hC:CN c) {t:ByteArray} {ws:List W3} {B:Int} (h:Bw B ws):Bw (B+8) (jF c t ws):=fun w hw=>by
 obtain ⟨w',CL,m,hm,hv,rfl⟩:=yM.1 hw
 exact UE hC hm (by rw [hv];rfl) (h w' CL)
theorem JF (hC : CN c) : ∀ {ts : List ByteArray} {ws : List W3} {B : Int}, Bw B ws → Bw (B + 8 * (ts.length : Int)) (yL c ts ws)
 |[],ws,B,h=>by simpa [yL] using h
 |t::ts,ws,B,h=>by
  have:=JF hC (ts:=ts) (Fg hC (t:=t) h)
  rw [show B+8+8 * (ts.length:Int)=B+8 * ((t::ts).length:Int) by simp only [List.length_cons];omega] at this
  exact this
theorem JG:Bw 0 [((0,0,0):W3)]:=fun w hw j hj=>by
 rw [List.mem_singleton.1 hw]
 have hj:j=0∨j=1∨j=2:=by omega
 rcases hj with rfl|rfl|rfl<;>simp [lQ]
theorem CM (hC:CN c):Bw 64 (iI c):=fun w hw j hj=>by
 have:=JF hC (ts:=sD c) JG w hw j hj
 have h1:=vQ (c:=c)
 have h2:=hC.len
 omega
theorem JH (hC:CN c):iI c≠[]:=fun e=>by
 obtain ⟨z,hz⟩:=List.exists_mem_of_ne_nil _ (List.length_pos_iff.1 (sH hC.si (f:=fT c)))
 obtain ⟨w,hw,_⟩:=(sL hC z).1 hz
 rw [e] at hw;cases hw
theorem k6_2 (hC:CN c) {mb:Nat} {v44 v45 v53 v54:Int} {tT:List Mg} {u5:Nat} {t:Mg} {b2 b4:List W3} {m5:List (Mg×Bool)} {w:W3} (hw:∀j<3,-1000≤lQ j w∧lQ j w≤1000) (hn:b2.length≤900000000) :
  iter (fun a=>ak (g6_2 a)) (c,b2.length,tT,v44,v45,u5,v53,v54,c,((c.length:Nat):Int),(0:Int),t.1,t.2.1,t.2.2.1,t.2.2.2.1,t.2.2.2.2,b2,[w.1,w.2.1,w.2.2],b4,m5,()) =
   some (c,(b2++(c.filter fun m=>decide (gv c m.1=some t.1)).map fun m=>nS m w).length,tT,v44,v45,u5,v53,v54,t.1,t.2.1,t.2.2.1,t.2.2.2.1,t.2.2.2.2,b2++(c.filter fun m=>decide (gv c m.1=some t.1)).map fun m=>nS m w,b4,m5,()):=by
 have h8:=hC.len
 refine aK c (fun k (o : List W3) => (c, o.length, tT, v44, v45, u5, v53, v54, c, ((c.length : Nat) : Int), (k : Int), t.1, t.2.1, t.2.2.1, t.2.2.2.1, t.2.2.2.2, o, [w.1, w.2.1, w.2.2], b4, m5, ()))
  (fun o r=>(c,(o++(r.filter fun m=>decide (gv c m.1=some t.1)).map fun m=>nS m w).length,tT,v44,v45,u5,v53,v54,t.1,t.2.1,t.2.2.1,t.2.2.2.1,t.2.2.2.2,o++(r.filter fun m=>decide (gv c m.1=some t.1)).map fun m=>nS m w,b4,m5,())) (fun pre o=>o.length≤900000000+pre.length) ?_ ?_ (s:=b2) (by simpa using hn)
 ·intro pre z post o hz ho
  have hlen:c.length=pre.length+(post.length+1):=by rw [hz];simp
  have hd:c.getD pre.length (bs [],(0:Int),bs [],bs [],(0:Int))=z:=by rw [hz];exact aR rfl
  have i1:ew (pre.length:Int) ((c.length:Nat):Int)=true:=bF (by omega) (by omega)
  have r1:eN .i64 ((pre.length:Int)+1)=true:=aH (by omega) (by omega)
  have d1:decide (o.length+1<cg)=true:=decide_eq_true (by rw [fU];omega)
  have Lt:z∈c:=by rw [hz];simp
  obtain ⟨r,h35,hr⟩:=k35' hC.si hC.k3 (by omega) Lt
  have h35':ak (F35 c (z.1,z.2.1,z.2.2.1,z.2.2.2.1,z.2.2.2.2))=_:=h35
  have hv:=UC (c:=c) t.1 hr
  left
  by_cases hq:gv c z.1=some t.1
  ·obtain ⟨q1, q2⟩ := hv.1 hq
   refine ⟨o++[nS z w],?_,by simp;omega,by rw [List.filter_cons_of_pos (by simpa using hq)];simp⟩
   obtain ⟨a1,a2,a3,_⟩:=JD ((hC.byN z Lt).acc (pL hC.si hC.k3 Lt q1))
   have hu8:eN .u8 (fF z.2.2.2.1 0 - 120)=true:=HB (by omega) (by omega)
   have hi3:ew (fF z.2.2.2.1 0 - 120) 3=true:=bF (by omega) (by omega)
   have hdc:decide (nR z<3)=true:=decide_eq_true a1
   have UN:eN .i64 ([w.1,w.2.1,w.2.2].getD (nR z) 0+z.2.2.2.2)=true:=by
    have:=hw _ a1
    have h3:=(hC.byN z Lt).amt
    unfold lQ at this
    exact aH (by omega) (by omega)
   simp only [g6_2,av,aU,aY,aN,aa,aA,Int.toNat_natCast,hd,i1,ah,aX,seq_eq]
   rw [if_pos (by omega),aq h35']
   simp only [q1,bO,if_pos q2]
   refine (c8 (bF (by omega) (by rw [a3];omega))).trans ?_
   refine (c8 hu8).trans ?_
   refine (c8 hi3).trans ?_
   refine (c8 hdc).trans ?_
   refine (c8 UN).trans ?_
   refine (c8 hi3).trans ?_
   refine (c8 hdc).trans ?_
   refine (c8 d1).trans ?_
   refine (c8 r1).trans ?_
   have e2:(o.drop 0).take o.length=o:=by simp
   rw [e2,List.length_append]
   rfl
  ·refine ⟨o, ?_, by simp; omega, ?_⟩
   ·simp only [g6_2, av, aU, aY, aN, aa, aA, Int.toNat_natCast, hd, i1, ah, aX, seq_eq]
    rw [if_pos (by omega),aq h35']
    cases hi:(gv c z.1).isSome with
    |false=>simp only [bK,r1,ah];rfl
    |true =>
     simp only [bO]
     rw [if_neg fun e=>hq (hv.2 ⟨hi,e⟩),c8 r1]
     rfl
   ·rw [List.filter_cons_of_neg (by simpa using hq)]
 ·intro o _
  simp only [g6_2,av,aa,aX]
  rw [if_neg (by omega)]
  simp
theorem k6_1 (hC:CN c) {v44 v45:Int} {tT:List Mg} {t:Mg} {ws:List W3} {m4:List (Mg×Bool)} (hw:Bw 1000 ws) (hn:ws.length≤100000000) :
  iter (fun a=>ak (g6_1 a)) (c,(0:Nat),tT,v44,v45,ws.length,((ws.length:Nat):Int),(0:Int),t.1,t.2.1,t.2.2.1,t.2.2.2.1,t.2.2.2.2,[],ws,m4,()) =
   some (c,(jF c t.1 ws).length,tT,v44,v45,jF c t.1 ws,m4,()):=by
 have h8:=hC.len
 refine aK ws (fun k (o : List W3) => (c, o.length, tT, v44, v45, ws.length, ((ws.length : Nat) : Int), (k : Int), t.1, t.2.1, t.2.2.1, t.2.2.2.1, t.2.2.2.2, o, ws, m4, ()))
  (fun o r=>(c,(o++jF c t.1 r).length,tT,v44,v45,o++jF c t.1 r,m4,())) (fun pre o=>o.length≤8 * pre.length) ?_ ?_ (s:=[]) (by simp)
 ·intro pre w post o hz ho
  have hlen:ws.length=pre.length+(post.length+1):=by rw [hz];simp
  have hd:ws.getD pre.length ((0:Int),(0:Int),(0:Int))=w:=by rw [hz];exact aR rfl
  have i1:ew (pre.length:Int) ((ws.length:Nat):Int)=true:=bF (by omega) (by omega)
  have r1:eN .i64 ((pre.length:Int)+1)=true:=aH (by omega) (by omega)
  have d1:decide (pre.length<ws.length)=true:=decide_eq_true (by omega)
  have hfl:((c.filter fun m=>decide (gv c m.1=some t.1)).map fun m=>nS m w).length≤8:=by
   rw [List.length_map];exact Nat.le_trans (List.length_filter_le ..) h8
  left
  refine ⟨o++(c.filter fun m=>decide (gv c m.1=some t.1)).map fun m=>nS m w,?_,?_,by simp [jF]⟩
  ·simp only [g6_1, av, aU, aY, aN, aa, aA, bw, Int.toNat_natCast, Nat.zero_add, hd, i1, d1, ah, aX]
   rw [if_pos (by omega),aq (k6_2 (mb:=0) hC (hw w (by rw [hz];simp)) (by omega))]
   simp only [r1,ah]
   rfl
  ·have : (pre ++ [w]).length = pre.length + 1 := by simp
   rw [List.length_append,this];omega
 ·intro o _
  simp only [g6_1,av,aa,aX]
  rw [if_neg (by omega)]
  simp [jF]
theorem k6_0 (hC:CN c) {m2:List (Mg×Bool)}:iter (fun a=>ak (g6_0 a)) (c,(1:Nat),c,((c.length:Nat):Int),(0:Int),[((0,0,0):W3)],m2,())=some ((iI c).length,iI c,m2,()):=by
 have h8:=hC.len
 refine aK c (fun k (ws : List W3) => (c, ws.length, c, ((c.length : Nat) : Int), (k : Int), ws, m2, ()))
  (fun ws r=>((yL c ((r.filter fun m=>decide (m.2.1=1)).map (·.1)) ws).length,yL c ((r.filter fun m=>decide (m.2.1=1)).map (·.1)) ws,m2,())) (fun pre ws=>Bw (8 * (pre.length:Int)) ws∧ws.length≤8 ^ pre.length) ?_ ?_ (s:=[((0,0,0):W3)]) ⟨by simpa using JG,by simp⟩
 ·rintro pre z post ws hz ⟨hb, hl⟩
  have hlen:c.length=pre.length+(post.length+1):=by rw [hz];simp
  have hd:c.getD pre.length (bs [],(0:Int),bs [],bs [],(0:Int))=z:=by rw [hz];exact aR rfl
  have i1:ew (pre.length:Int) ((c.length:Nat):Int)=true:=bF (by omega) (by omega)
  have r1:eN .i64 ((pre.length:Int)+1)=true:=aH (by omega) (by omega)
  have LC:(pre++[z]).length=pre.length+1:=by simp
  have h7:8 ^ pre.length≤8 ^ 7:=Nat.pow_le_pow_right (by omega) (by omega)
  have e7:(8:Nat) ^ 7=2097152:=by decide
  left
  by_cases h1:z.2.1=1
  ·refine ⟨jF c z.1 ws, ?_, ⟨?_, ?_⟩, by rw [List.filter_cons_of_pos (by simpa using h1)]; rfl⟩
   ·simp only [g6_0, av, aU, aN, aa, aA, bw, Int.toNat_natCast, hd, i1, ah, aX, bJ, b8]
    rw [if_pos (by omega),if_pos h1,aq (k6_1 hC (fun w hw j hj=>by have:=hb w hw j hj;omega) (by omega))]
    simp only [r1,ah]
    rfl
   ·have := Fg hC (t := z.1) hb
    rw [LC,show 8 * ((pre.length+1:Nat):Int)=8 * (pre.length:Int)+8 by omega]
    exact this
   ·rw [LC, Nat.pow_succ]
    exact Nat.le_trans tY (Nat.mul_le_mul hl h8)
  ·refine ⟨ws, ?_, ⟨fun w hw j hj => ?_, ?_⟩, by rw [List.filter_cons_of_neg (by simpa using h1)]⟩
   ·simp only [g6_0, av, aU, aN, aa, aA, bw, Int.toNat_natCast, hd, i1, r1, ah, aX, bJ, b8]
    rw [if_pos (by omega),if_neg h1]
    rfl
   ·have := hb w hw j hj
    rw [LC];omega
   ·rw [LC,Nat.pow_succ];omega
 ·intro ws _
  simp only [g6_0,av,aa,aX]
  rw [if_neg (by omega)]
  rfl
end
end Go.Proofs.Tryz
end
section
namespace Go.Proofs.Tryz
open Go.AM
set_option maxRecDepth 100000
set_option maxHeartbeats 2000000
section
variable {c:List Mg}
def qK (j:Nat) (n:Int) (ws:List W3):Bool:=ws.any fun w=>lQ j w==n
theorem k6_5 {yx:Nat} {j:Nat} {v22:ByteArray} {n nu kU yS Fh Fi Fj Fk Fl:Int} {mo:List ByteArray} {ws:List W3} {b5:List Int} {m6:List (Mg×Bool)} (hj:j<3) (hn:ws.length<1000000000) :
  iter (fun a=>ak (g6_5 a)) (ws.length,(j:Int),v22,yx,n,false,mo,nu,kU,ws.length,((ws.length:Nat):Int),(0:Int),ws,yS,Fh,Fi,Fj,Fk,Fl,b5,m6,()) =
   some (ws.length,(j:Int),v22,yx,n,qK j n ws,mo,nu,kU,ws,yS,Fh,Fi,Fj,Fk,Fl,b5,m6,()):=by
 refine aK ws (fun k (b : Bool) => (ws.length, (j : Int), v22, yx, n, b, mo, nu, kU, ws.length, ((ws.length : Nat) : Int), (k : Int), ws, yS, Fh, Fi, Fj, Fk, Fl, b5, m6, ()))
  (fun b r=>(ws.length,(j:Int),v22,yx,n,b||qK j n r,mo,nu,kU,ws,yS,Fh,Fi,Fj,Fk,Fl,b5,m6,())) (fun _ _=>True) ?_ ?_ (s:=false) trivial
 ·intro pre w post b hz _
  have hlen:ws.length=pre.length+(post.length+1):=by rw [hz];simp
  have hd:ws.getD pre.length ((0:Int),(0:Int),(0:Int))=w:=by rw [hz];exact aR rfl
  have i1:ew (pre.length:Int) ((ws.length:Nat):Int)=true:=bF (by omega) (by omega)
  have i2:ew (j:Int) 3=true:=bF (by omega) (by omega)
  have r1:eN .i64 ((pre.length:Int)+1)=true:=aH (by omega) (by omega)
  have d1:decide (pre.length<ws.length)=true:=decide_eq_true (by omega)
  have d2:decide (j<[w.1,w.2.1,w.2.2].length)=true:=decide_eq_true (by simpa using hj)
  left
  refine ⟨b||(lQ j w==n),?_,trivial,by simp only [qK,List.any_cons,Bool.or_assoc]⟩
  simp only [g6_5,av,aU,aY,aN,aa,Int.toNat_natCast,Nat.zero_add,hd,i1,i2,r1,d1,d2,ah,aX]
  rw [if_pos (by omega)]
  cases b
  ·rw [bK];simp only [Bool.false_or];rfl
  ·rw [bO];simp only [Bool.true_or];rfl
 ·intro b _
  simp only [g6_5,av,aa,aX]
  rw [if_neg (by omega)]
  simp [qK]
def Fm : Nat → Int → List Int
 |0,_=>[]
 |n+1,z=>z::Fm n (z+1)
theorem CO {y : Int} : ∀ {n : Nat} {z : Int}, y ∈ Fm n z ↔ z ≤ y ∧ y < z + n
 |0,z=>by unfold Fm;simp only [List.not_mem_nil,false_iff];omega
 |n+1,z=>by
  unfold Fm
  rw [List.mem_cons,CO]
  omega
theorem JI : ∀ {n : Nat} {z : Int}, (Fm n z).Pairwise (· < ·)
 |0,_=>.nil
 |n+1,z=>by
  unfold Fm
  refine List.pairwise_cons.2 ⟨fun y hy=>?_,JI⟩
  have:=CO.1 hy;omega
theorem JJ : ∀ {n : Nat} {z : Int}, (Fm n z).length = n
 |0,_=>rfl
 |n+1,z=>by unfold Fm;rw [List.length_cons,JJ]
theorem P4 : ∀ {n k : Nat} {z d : Int}, k < n → (Fm n z).getD k d = z + k
 |0,k,z,d,h=>by omega
 |n+1,0,z,d,_=>by simp [Fm]
 |n+1,k+1,z,d,h=>by
  unfold Fm
  rw [List.getD_cons_succ,P4 (by omega)]
  omega
theorem k6_4 {j:Nat} {v22:ByteArray} {nu kU yS Fh Fi Fj Fk Fl:Int} {mo:List ByteArray} {ws:List W3} {m6:List (Mg×Bool)} (hj:j<3) (hn:ws.length<1000000000) :
  iter (fun a=>ak (g6_4 a)) (ws.length,(j:Int),v22,(0:Nat),(-200:Int),mo,nu,kU,ws,yS,Fh,Fi,Fj,Fk,Fl,[],m6,()) =
   some (ws.length,v22,((Fm 401 (-200)).filter fun n=>qK j n ws).length,mo,nu,kU,ws,yS,Fh,Fi,Fj,Fk,Fl,(Fm 401 (-200)).filter fun n=>qK j n ws,m6,()):=by
 have hup:=JJ (n:=401) (z := -200)
 refine aK (Fm 401 (-200)) (fun k (o : List Int) => (ws.length, (j : Int), v22, o.length, -200 + (k : Int), mo, nu, kU, ws, yS, Fh, Fi, Fj, Fk, Fl, o, m6, ()))
  (fun o r=>(ws.length,v22,(o++r.filter fun n=>qK j n ws).length,mo,nu,kU,ws,yS,Fh,Fi,Fj,Fk,Fl,o++r.filter fun n=>qK j n ws,m6,())) (fun pre o=>o.length≤pre.length) ?_ ?_ (s:=[]) (Nat.le_refl _)
 ·intro pre n post o hz ho
  have hlen:(Fm 401 (-200)).length=pre.length+(post.length+1):=by rw [hz];simp
  have UP:n = -200+(pre.length:Int):=by
   have h1:(Fm 401 (-200)).getD pre.length 0=n:=by rw [hz];exact aR rfl
   rw [←h1,P4 (by omega)]
  have r1:eN .i64 (-200+((pre.length+1:Nat):Int))=true:=aH (by omega) (by omega)
  have d1:decide (o.length+1<cg)=true:=decide_eq_true (by rw [fU];omega)
  have e2:(o.drop 0).take o.length=o:=by simp
  have e3:n+1 = -200+((pre.length+1:Nat):Int):=by omega
  left
  rw [←UP]
  by_cases hf:qK j n ws=true
  ·refine ⟨o ++ [n], ?_, by simp; omega, by rw [List.filter_cons_of_pos (p := fun n => qK j n ws) hf]; simp⟩
   simp only [g6_4,av,aA,bw,aX]
   rw [if_pos (by omega),aq (k6_5 hj hn)]
   simp only [hf,bO,aY,aN,aa,e2,List.drop_zero,List.take_succ_cons,List.take_zero,List.length_singleton,d1,r1,ah,e3,List.take_length,List.length_append]
  ·refine ⟨o, ?_, by simp; omega, by rw [List.filter_cons_of_neg (p := fun n => qK j n ws) hf]⟩
   simp only [g6_4,av,aA,bw,aX]
   rw [if_pos (by omega),aq (k6_5 hj hn)]
   simp only [show qK j n ws=false by simpa using hf,bK,aN,aa,r1,ah,e3]
 ·intro o _
  simp only [g6_4,av,aa,aX]
  rw [if_neg (by omega)]
  simp
theorem UF {l l':List Int} (h:l.Pairwise (· < ·)) (h':l'.Pairwise (· < ·)) (hm:∀x,x∈l↔x∈l'):l=l' :=
 iE (r:=fun a b:Int=>a<b) (fun a h=>by omega) (fun a b h1 h2=>by omega) h h' hm
theorem UG {j:Nat} {n:Int} {ws:List W3}:qK j n ws=true↔∃w∈ws,lQ j w=n:=by
 unfold qK
 rw [List.any_eq_true]
 simp only [beq_iff_eq]
theorem UH (hC:CN c) {j:Nat} (hj:j<3):((Fm 401 (-200)).filter fun n=>qK j n (iI c))=eu c (fA c (cU.getD j (bs []))):=by
 refine UF (List.Pairwise.filter _ JI) Ff fun z=>?_
 rw [List.mem_filter,CO,UG,P3 hC j hj]
 constructor
 ·exact fun h=>h.2
 ·rintro ⟨w, hw, rfl⟩
  have:=CM hC w hw j hj
  exact ⟨by omega,w,hw,rfl⟩
theorem k6_3 {L:List Mg} (hL:nT L) (hC:CN (cnt L)) (hn:(iI (cnt L)).length<1000000000) {yS Fh Fi Fj Fk Fl:Int} (j:Nat) (hj:j<3) :
  ak (g6_3 ((iI (cnt L)).length,cU,((cU.length:Nat):Int),(j:Int),iI (cnt L),yS,Fh,Fi,Fj,Fk,Fl,bk L,()))=some (.inl ((iI (cnt L)).length,cU,((cU.length:Nat):Int),((j+1:Nat):Int),iI (cnt L),yS,Fh,Fi,Fj,Fk,Fl,bk L,())):=by
 have h3:cU.length=3:=rfl
 have hin:cU.getD j (bs [])∈cU:=fW (by omega)
 have hsh:=Uu _ hin
 have h23:=Ul hL hsh
 have h25:=kH25 hL hsh
 have hnm:iF (cU.getD j (bs []))=true:=by
  have key:∀a∈cU,iF a=true:=by decide
  exact key _ hin
 have ht:sG (cnt L) (cU.getD j (bs []))=(eu (cnt L) (fA (cnt L) (cU.getD j (bs []))),0):=by unfold sG;rw [if_pos hnm]
 have hsp:AV (cnt L) (cU.getD j (bs []))=(AU (eu (cnt L) (fA (cnt L) (cU.getD j (bs [])))),0):=by unfold AV;rw [ht];rfl
 rw [ht] at h23
 rw [hsp] at h25
 have hw:=UH hC hj
 have hne:=sH hC.si (f:=fA (cnt L) (cU.getD j (bs [])))
 have hlt:=yF hC.si (nA hL) (ZF hC.si (vP hL) (cU.getD j (bs [])))
 generalize eu (cnt L) (fA (cnt L) (cU.getD j (bs [])))=S at *
 have i1:ew (j:Int) ((cU.length:Nat):Int)=true:=bF (by omega) (by omega)
 have i2:ew (0:Int) ((S.length:Nat):Int)=true:=bF (by omega) (by omega)
 have i3:ew (((S.length:Nat):Int) - 1) ((S.length:Nat):Int)=true:=bF (by omega) (by omega)
 have r1:eN .i64 ((j:Int)+1)=true:=aH (by omega) (by omega)
 have r2:eN .i64 (((S.length:Nat):Int) - 1)=true:=aH (by omega) (by omega)
 have d1:decide (0<S.length)=true:=decide_eq_true hne
 have d2:decide (S.length - 1<S.length)=true:=decide_eq_true (by omega)
 have e1:Int.toNat (((S.length:Nat):Int) - 1)=S.length - 1:=by omega
 simp only [g6_3,av,aU,aA,bw,Int.toNat_natCast,i1,ah,aX]
 rw [if_pos (by omega),aq (k6_4 hj hn)]
 simp only
 rw [aq h23]
 simp only
 rw [aq h25,hw]
 simp only [b8,bJ,reduceIte,List.drop_zero,List.take_length]
 rw [aq (k27 (by omega))]
 simp only [decide_true,bO,aU,aY,aN,av,aa,i2,i3,r1,r2,e1,Int.toNat_zero,Nat.zero_add,d1,d2,ah,AU,beq_self_eq_true,Bool.and_self,Bool.not_true,bK]
 rfl
theorem k6_6 {ws:List W3} (hw:Bw 1000 ws) (hn:ws.length<1000000000) {c00 c01 c11 yS:Int} :
  iter (fun a=>ak (g6_6 a)) (ws.length,((ws.length:Nat):Int),(0:Int),c00,c01,(1000:Int),c11,yS,(-1000:Int),ws,()) =
   some (c00,c01,ws.foldl (fun a w=>nO a (dH w)) 1000,c11,yS,ws.foldl (fun a w=>imax a (dH w)) (-1000),()):=by
 refine aK ws (fun k (s : Int × Int) => (ws.length, ((ws.length : Nat) : Int), (k : Int), c00, c01, s.1, c11, yS, s.2, ws, ()))
  (fun s r=>(c00,c01,r.foldl (fun a w=>nO a (dH w)) s.1,c11,yS,r.foldl (fun a w=>imax a (dH w)) s.2,())) (fun _ _=>True) ?_ ?_ (s:=(1000,-1000)) trivial
 ·rintro pre w post ⟨a, b⟩ hz _
  have hlen:ws.length=pre.length+(post.length+1):=by rw [hz];simp
  have hd:ws.getD pre.length ((0:Int),(0:Int),(0:Int))=w:=by rw [hz];exact aR rfl
  have i1:ew (pre.length:Int) ((ws.length:Nat):Int)=true:=bF (by omega) (by omega)
  have r1:eN .i64 ((pre.length:Int)+1)=true:=aH (by omega) (by omega)
  have d1:decide (pre.length<ws.length)=true:=decide_eq_true (by omega)
  have hb:=hw w (by rw [hz];simp)
  have b0 : -1000≤w.1∧w.1≤1000:=hb 0 (by omega)
  have b1 : -1000≤w.2.1∧w.2.1≤1000:=hb 1 (by omega)
  have b2 : -1000≤w.2.2∧w.2.2≤1000:=hb 2 (by omega)
  have e0:[w.1,w.2.1,w.2.2].getD 0 0=w.1:=rfl
  have e1:[w.1,w.2.1,w.2.2].getD 1 0=w.2.1:=rfl
  have e2:[w.1,w.2.1,w.2.2].getD 2 0=w.2.2:=rfl
  have l0:decide (0<[w.1,w.2.1,w.2.2].length)=true:=rfl
  have l1:decide (1<[w.1,w.2.1,w.2.2].length)=true:=rfl
  have l2:decide (2<[w.1,w.2.1,w.2.2].length)=true:=rfl
  have r2:eN .i64 (w.1+w.2.1)=true:=aH (by omega) (by omega)
  have r3:eN .i64 (w.1+w.2.1+w.2.2)=true:=aH (by omega) (by omega)
  left
  refine ⟨(nO a (dH w),imax b (dH w)),?_,trivial,rfl⟩
  simp only [g6_6,av,aU,aY,aN,aa,Int.toNat_natCast,Nat.zero_add,hd,i1,d1,e0,e1,e2,l0,l1,l2,r1,r2,r3,ah,aX]
  rw [if_pos (by omega)]
  rfl
 ·rintro s _
  simp only [g6_6,av,aa,aX]
  rw [if_neg (by omega)]
  rfl
theorem P5 {ws:List W3}:∀{a:Int},(ws.foldl (fun a w=>nO a (dH w)) a=a∨∃w∈ws,dH w=ws.foldl (fun a w=>nO a (dH w)) a)∧ws.foldl (fun a w=>nO a (dH w)) a≤a∧∀w∈ws,ws.foldl (fun a w=>nO a (dH w)) a≤dH w:=by
 induction ws with
 |nil=>intro a;simp
 |cons w ws ih =>
  intro a
  obtain ⟨h1,h2,h3⟩:=ih (a:=nO a (dH w))
  rw [List.foldl_cons]
  have hm:nO a (dH w)≤a∧nO a (dH w)≤dH w∧(nO a (dH w)=a∨nO a (dH w)=dH w):=by
   unfold nO;split<;>omega
  refine ⟨?_,by omega,fun w' CL=>?_⟩
  ·rcases h1 with h1 | ⟨w', CL, e⟩
   ·rcases hm.2.2 with h | h
    ·exact .inl (by rw [h1,h])
    ·exact .inr ⟨w,List.mem_cons_self ..,by rw [h1,h]⟩
   ·exact .inr ⟨w',List.mem_cons_of_mem _ CL,e⟩
  ·rcases List.mem_cons.1 CL with rfl | CL
   ·omega
   ·exact h3 w' CL
theorem P6 {ws:List W3}:∀{a:Int},(ws.foldl (fun a w=>imax a (dH w)) a=a∨∃w∈ws,dH w=ws.foldl (fun a w=>imax a (dH w)) a)∧a≤ws.foldl (fun a w=>imax a (dH w)) a∧∀w∈ws,dH w≤ws.foldl (fun a w=>imax a (dH w)) a:=by
 induction ws with
 |nil=>intro a;simp
 |cons w ws ih =>
  intro a
  obtain ⟨h1,h2,h3⟩:=ih (a:=imax a (dH w))
  rw [List.foldl_cons]
  have hm:a≤imax a (dH w)∧dH w≤imax a (dH w)∧(imax a (dH w)=a∨imax a (dH w)=dH w):=by
   unfold imax;split<;>omega
  refine ⟨?_,by omega,fun w' CL=>?_⟩
  ·rcases h1 with h1 | ⟨w', CL, e⟩
   ·rcases hm.2.2 with h | h
    ·exact .inl (by rw [h1,h])
    ·exact .inr ⟨w,List.mem_cons_self ..,by rw [h1,h]⟩
   ·exact .inr ⟨w',List.mem_cons_of_mem _ CL,e⟩
  ·rcases List.mem_cons.1 CL with rfl | CL
   ·omega
   ·exact h3 w' CL
theorem Fo {l:List Int} {k:Nat} (h:k<l.length):l.getD k 0∈l:=by
 rw [List.getD_eq_getElem?_getD,List.getElem?_eq_getElem h];exact List.getElem_mem h
theorem P7 {l:List Int} (h:l.Pairwise (· < ·)) (h0:0<l.length):∀z∈l,l.getD 0 0≤z∧z≤l.getD (l.length - 1) 0:=fun z hz=>by
 obtain ⟨k,hk,rfl⟩:=List.getElem_of_mem hz
 rw [List.pairwise_iff_getElem] at h
 rw [List.getD_eq_getElem?_getD,List.getD_eq_getElem?_getD,List.getElem?_eq_getElem h0,List.getElem?_eq_getElem (show l.length - 1<l.length by omega)]
 simp only [Option.getD_some]
 constructor
 ·by_cases e : k = 0
  ·subst e;exact Int.le_refl _
  ·exact Int.le_of_lt (h 0 k h0 hk (by omega))
 ·by_cases e : k = l.length - 1
  ·subst e;exact Int.le_refl _
  ·exact Int.le_of_lt (h k (l.length - 1) hk (by omega) (by omega))
theorem P8 (hC:CN c):Um c=((iI c).foldl (fun a w=>nO a (dH w)) 1000,(iI c).foldl (fun a w=>imax a (dH w)) (-1000)):=by
 have h0:=sH hC.si (f:=fT c)
 have he:=P7 Ff h0
 have hb:∀w∈iI c,-192≤dH w∧dH w≤192:=fun w hw=>by
  have h:=CM hC w hw
  have b0 : -64≤w.1∧w.1≤64:=h 0 (by omega)
  have b1 : -64≤w.2.1∧w.2.1≤64:=h 1 (by omega)
  have b2 : -64≤w.2.2∧w.2.2≤64:=h 2 (by omega)
  unfold dH;omega
 obtain ⟨w0,hw0⟩:=List.exists_mem_of_ne_nil _ (JH hC)
 obtain ⟨m1,m2,m3⟩:=P5 (ws:=iI c) (a:=1000)
 obtain ⟨x1,x2,x3⟩:=P6 (ws:=iI c) (a := -1000)
 have hb0:=hb w0 hw0
 have m4:=m3 w0 hw0
 have x4:=x3 w0 hw0
 unfold Um AU
 refine Prod.ext ?_ ?_
 ·simp only
  obtain ⟨w,hw,e⟩:=m1.resolve_left (by omega)
  obtain ⟨w',CL,e'⟩:=(sL hC _).1 (Fo h0)
  have h1:=(he _ ((sL hC _).2 ⟨w,hw,rfl⟩)).1
  have h2:=m3 w' CL
  omega
 ·simp only
  obtain ⟨w,hw,e⟩:=x1.resolve_left (by omega)
  obtain ⟨w',CL,e'⟩:=(sL hC _).1 (Fo (show (eu c (fT c)).length - 1<(eu c (fT c)).length by omega))
  have h1:=(he _ ((sL hC _).2 ⟨w,hw,rfl⟩)).2
  have h2:=x3 w' CL
  omega
theorem AX (hl : c.length ≤ 8) : ∀ {ts : List ByteArray} {ws : List W3} {k : Nat}, ws.length ≤ 8 ^ k → (yL c ts ws).length ≤ 8 ^ (k + ts.length)
 |[],ws,k,h=>h
 |t::ts,ws,k,h=>by
  have:=AX hl (ts:=ts) (ws:=jF c t ws) (k:=k+1) (by rw [Nat.pow_succ];exact Nat.le_trans tY (Nat.mul_le_mul h hl))
  rw [show k+1+ts.length=k+(t::ts).length by simp only [List.length_cons];omega] at this
  exact this
theorem P9 (hC:CN c):(iI c).length<100000000:=by
 have h1:=AX hC.len (ts:=sD c) (ws:=[((0,0,0):W3)]) (k:=0) (by simp)
 have h2:=vQ (c:=c)
 have h3:=hC.len
 have h4:8 ^ (0+(sD c).length)≤8 ^ 8:=Nat.pow_le_pow_right (by omega) (by omega)
 have h5:(8:Nat) ^ 8=16777216:=by decide
 unfold iI
 omega
end
theorem k38:ak F38=some (cU,()):=rfl
theorem k6 {p:List Nu} (hp:∀x∈p,PK x):ak (F6 p)=some (true,()):=by
 have hml:=tW p
 have hL:=nT.told (fh p)
 have hC:=UB hp
 have hn:=P9 hC
 have hne:=JH hC
 have h3:cU.length=3:=rfl
 have hse:=P8 hC
 have hit:∀{yS Fh Fi Fj Fk Fl:Int},iter (fun a=>ak (g6_3 a)) ((iI (cnt (gG (fh p)))).length,cU,((cU.length:Nat):Int),(0:Int),iI (cnt (gG (fh p))),yS,Fh,Fi,Fj,Fk,Fl,bk (gG (fh p)),())=some (.inr ((iI (cnt (gG (fh p)))).length,iI (cnt (gG (fh p))),yS,Fh,Fi,Fj,Fk,Fl,())):=by
  intro yS Fh Fi Fj Fk Fl
  refine Gu 3 (fun k=>((iI (cnt (gG (fh p)))).length,cU,((cU.length:Nat):Int),(k:Int),iI (cnt (gG (fh p))),yS,Fh,Fi,Fj,Fk,Fl,bk (gG (fh p)),())) (fun k hk=>k6_3 hL hC (by omega) k hk) ?_
  simp only [g6_3,av,aa,aX]
  rw [if_neg (by omega)]
 unfold F6
 simp only [aA]
 rw [aq (k28 hp)]
 simp only
 rw [aq (T3 (by omega) (Ut p))]
 simp only
 rw [aq (PY hp)]
 simp only [bw]
 rw [aq (k6_0 hC)]
 simp only
 rw [aq (kH37 hL)]
 simp only [av,bJ,b8,reduceIte]
 rw [if_neg (by have:=List.length_pos_iff.2 hne;omega),aA,aq k38]
 simp only [aA,bw]
 refine Eq.trans (aq hit) ?_
 simp only [lM,aA,bw]
 rw [aq (k6_6 (fun w hw j hj=>by have:=CM hC w hw j hj;omega) (by omega)),hse]
 simp only [av,beq_self_eq_true,Bool.and_self,bO,aA]
 rw [aq k17]
 rfl
theorem law6 (p:List Nu) (hW:D3 [.list nuT] (p,())):ak (F6 p)=some (true,()):=k6 fun x hx=>aeR (hW.1.2 x hx)
end Go.Proofs.Tryz
end
