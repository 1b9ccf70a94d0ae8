/- Maps that are kept in order: what stands in them. Plain Lean. Messages: names, what is wrong with them. Books: telling, all messages in order. DeleteFunc, Clone, the keys of maps. The messages that count, and what they say of each other. Striking: what is struck, and what corrects it. A book's desk. The versions of a ticket. The versions of a ticket: walked. States and versions. Sums. Spans, sums, accounts. The examples: what works() and Known come to. Messages by numbers. Books that were told good messages. Joins; books that answer the same. TicketOrder. TicketOrder: the row. TicketKept. Ways up to a ticket. Struck, the chain, versions: walked. Ways up: what they say. The messages that count: the first of each id. TicketStates. TicketExact. A book that was told one message more. TicketRuled. A correction more; TicketCorrected. TicketCorrected: the row. -/
import Derived.Test.YthemjfloiapaaaaGreatW91
set_option linter.unusedSectionVars false
set_option linter.unusedVariables false
set_option linter.unusedSimpArgs false
section
namespace Go.AM
theorem kJ {α : Type} {r : α → α → Prop} (irr : ∀ a, ¬ r a a) (asy : ∀ a b, r a b → ¬ r b a) : ∀ {l l' : List α}, l.Pairwise r → l'.Pairwise r → (∀ x, x ∈ l ↔ x ∈ l') → l = l'
 |[],[],_,_,_=>rfl
 |[],b::s,_,_,h=>by have:=(h b).2 (List.mem_cons_self ..);cases this
 |a::r',[],_,_,h=>by have:=(h a).1 (List.mem_cons_self ..);cases this
 |a::l,b::s,h1,h2,h=>by
  rw [List.pairwise_cons] at h1 h2
  have e:a=b:=by
   rcases List.mem_cons.1 ((h a).1 (List.mem_cons_self ..)) with e|ha
   ·exact e
   rcases List.mem_cons.1 ((h b).2 (List.mem_cons_self ..)) with e|hb
   ·exact e.symm
   ·exact absurd (h2.1 a ha) (asy _ _ (h1.1 b hb))
  subst e
  rw [kJ irr asy h1.2 h2.2 fun x=>?_]
  constructor
  ·intro hx
   rcases List.mem_cons.1 ((h x).1 (List.mem_cons_of_mem _ hx)) with e|hx'
   ·subst e;exact absurd (h1.1 x hx) (irr x)
   ·exact hx'
  ·intro hx
   rcases List.mem_cons.1 ((h x).2 (List.mem_cons_of_mem _ hx)) with e|hx'
   ·subst e;exact absurd (h2.1 x hx) (irr x)
   ·exact hx'
section
variable {t:Ty} {ks:List Kd} {β:Type}
theorem jJ (hk:bB t=some ks) {x:t.den}:dI t x x=true:=kf x hk
theorem Cc (hk:bB t=some ks) {x y:t.den}:dI t x y=true↔x=y:=⟨bF,fun h=>by subst h;exact jJ hk⟩
theorem gV (hk:bB t=some ks) (x:t.den):fU t x x=false:=by
 cases h:fU t x x with
 |false=>rfl
 |true=>exact (dw hk h h).elim
theorem Tt (hk:bB t=some ks) {x y:t.den} (h:fU t x y=true):dI t x y=false:=by
 cases h':dI t x y with
 |false=>rfl
 |true=>rw [bF h',gV hk] at h;cases h
def gK (t:Ty) (es:List (t.den×β)):Prop:=es.Pairwise fun a b=>fU t a.1 b.1=true
theorem gK.kd (hk:bB t=some ks) {es:List (t.den×β)} (h:gK t es):KD t es:=List.Pairwise.imp (fun h=>Tt hk h) h
theorem Eu {es:List (t.den×β)} {x:t.den} {v:β} {e:t.den×β}:e∈pK t es x v↔e=(x,v)∨e∈es:=by
 rw [jN.mem_iff];simp
theorem gK.mins (hk : bB t = some ks) {x : t.den} {v : β} : ∀ {es : List (t.den × β)}, gK t es → aK t es x = false → gK t (pK t es x v)
 |[],_,_=>by unfold gK;simp [pK]
 |e::r,h,hn=>by
  unfold gK at h
  rw [List.pairwise_cons] at h
  have hne:=sN hn (List.mem_cons_self ..)
  have hnr:aK t r x=false:=by simpa [aK,hne] using hn
  unfold pK
  split
  ·rename_i hlt
   unfold gK
   rw [List.pairwise_cons]
   refine ⟨fun b hb=>?_,List.pairwise_cons.2 h⟩
   rcases List.mem_cons.1 hb with rfl|hb
   ·exact hlt
   ·exact iH hk hlt (h.1 b hb)
  ·rename_i hlt
   unfold gK
   rw [List.pairwise_cons]
   refine ⟨fun b hb=>?_,gK.mins hk h.2 hnr⟩
   rcases Eu.1 hb with rfl|hb
   ·cases hlt':fU t e.1 x with
    |true=>rfl
    |false =>
     have:=gD hk (by simpa using hlt) hlt'
     rw [this,jJ hk] at hne;cases hne
   ·exact h.1 b hb
theorem gK.iy (hk:bB t=some ks) {x:t.den} {v:β} {es:List (t.den×β)} (h:gK t es):gK t (aV t es x v):=by
 unfold aV
 split
 ·unfold gK
  rw [List.pairwise_map]
  refine List.Pairwise.imp ?_ h
  intro a b hab
  split<;>split
  ·rename_i h1 h2
   rw [←bF h1,←bF h2,gV hk] at hab;cases hab
  ·rename_i h1 h2
   rw [←bF h1] at hab;exact hab
  ·rename_i h1 h2
   rw [←bF h2] at hab;exact hab
  ·exact hab
 ·rename_i hn
  exact h.mins hk (by simpa using hn)
theorem dx (hk:bB t=some ks) {es:List (t.den×β)} {x:t.den}:aK t es x=true↔∃v,(x,v)∈es:=by
 unfold aK
 rw [List.any_eq_true]
 constructor
 ·rintro ⟨e,he,hx⟩;rw [bF hx];exact ⟨e.2,he⟩
 ·rintro ⟨v,hv⟩;exact ⟨_,hv,jJ hk⟩
theorem fR (hk:bB t=some ks) {es:List (t.den×β)} {x:t.den} {v d:β} (h:gK t es) (hm:(x,v)∈es):ay t d es x=v:=mI (h.kd hk) hm (jJ hk)
theorem fS (hk:bB t=some ks) {es:List (t.den×β)} {x:t.den} {v:β} (h:gK t es) {e:t.den×β}:e∈aV t es x v↔e=(x,v)∨(e∈es∧e.1≠x):=by
 unfold aV
 split
 ·rename_i hh
  obtain ⟨u,hu⟩:=(dx hk).1 hh
  rw [List.mem_map]
  constructor
  ·rintro ⟨e', he', rfl⟩
   split
   ·exact .inl rfl
   ·rename_i hne;exact .inr ⟨he',fun e=>hne (by rw [e];exact jJ hk)⟩
  ·rintro (rfl | ⟨he, hne⟩)
   ·exact ⟨(x,u),hu,by simp [jJ hk]⟩
   ·exact ⟨e,he,by rw [if_neg];intro h;exact hne (bF h).symm⟩
 ·rename_i hh
  rw [Eu]
  constructor
  ·rintro (h | h)
   ·exact .inl h
   ·refine .inr ⟨h, fun e' => hh ?_⟩
    rw [←e'];exact (dx hk).2 ⟨_,h⟩
  ·rintro (h | h)
   ·exact .inl h
   ·exact .inr h.1
theorem KL (hk:bB t=some ks) {es:List (t.den×β)} {x y:t.den} {v d:β} (h:gK t es):ay t d (aV t es x v) y=if dI t y x=true then v else ay t d es y:=by
 have hc:=h.iy (x:=x) (v:=v) hk
 split
 ·rename_i e; have e := bF e; subst e
  exact fR hk hc ((fS hk h).2 (.inl rfl))
 ·rename_i e0
  have e:y≠x:=fun h=>e0 ((Cc hk).2 h)
  cases hm:aK t es y with
  |true =>
   obtain ⟨u,hu⟩:=(dx hk).1 hm
   rw [fR hk h hu]
   exact fR hk hc ((fS hk h).2 (.inr ⟨hu,e⟩))
  |false =>
   rw [gx hm,gx]
   cases hm':aK t (aV t es x v) y with
   |false=>rfl
   |true =>
    obtain ⟨u,hu⟩:=(dx hk).1 hm'
    rcases (fS hk h).1 hu with e'|⟨h',_⟩
    ·cases e';exact absurd rfl e
    ·rw [(dx hk).2 ⟨u,h'⟩] at hm;cases hm
theorem o9 (hk:bB t=some ks) {es:List (t.den×β)} {x y:t.den} {v:β} (h:gK t es):aK t (aV t es x v) y=(dI t y x||aK t es y):=by
 rw [Bool.eq_iff_iff,dx hk,Bool.or_eq_true,Cc hk,dx hk]
 constructor
 ·rintro ⟨u, hu⟩
  rcases (fS hk h).1 hu with e|⟨h',_⟩
  ·cases e;exact .inl rfl
  ·exact .inr ⟨u,h'⟩
 ·by_cases e : y = x
  ·subst e;exact fun _=>⟨v,(fS hk h).2 (.inl rfl)⟩
  ·rintro (h' | ⟨u, hu⟩)
   ·exact absurd h' e
   ·exact ⟨u,(fS hk h).2 (.inr ⟨hu,e⟩)⟩
theorem IJ (hk:bB t=some ks) {es es':List (t.den×β)} (h:gK t es) (h':gK t es') (hm:∀e,e∈es↔e∈es'):es=es' :=
 kJ (r:=fun a b:t.den×β=>fU t a.1 b.1=true) (fun a h=>by rw [gV hk] at h;cases h) (fun a b h1 h2=>dw hk h1 h2) h h' hm
theorem gK.keys (hk:bB t=some ks) {es:List (t.den×β)} (h:gK t es):Al t (es.map (·.1)):=by
 unfold Al
 rw [List.pairwise_map]
 refine List.Pairwise.imp (fun {a b} hab=>?_) h
 cases hba:fU t b.1 a.1 with
 |false=>rfl
 |true=>exact (dw hk hab hba).elim
theorem gK.nil:gK (β:=β) t []:=List.Pairwise.nil
theorem O2 {es:List (t.den×Bool)} (hk:bB t=some ks) (h:gK t es) (ht:∀e∈es,e.2=true) {x:t.den}:∀e∈aV t es x true,e.2=true:=fun e he=>by
 rcases (fS hk h).1 he with rfl|⟨h',_⟩
 ·rfl
 ·exact ht e h'
theorem O3 {es:List (t.den×Bool)} (hk:bB t=some ks) (h:gK t es) (ht:∀e∈es,e.2=true) {x:t.den}:ay t false es x=aK t es x:=by
 cases hm:aK t es x with
 |false=>exact gx hm
 |true =>
  obtain ⟨u,hu⟩:=(dx hk).1 hm
  rw [fR hk h hu];exact ht _ hu
theorem O4 (hk:bB t=some ks) {es es':List (t.den×Bool)} (h:gK t es) (h':gK t es') (ht:∀e∈es,e.2=true) (ht':∀e∈es',e.2=true) (hm:∀x,aK t es x=aK t es' x):es=es':=by
 refine IJ hk h h' fun e=>?_
 have key:∀{es es':List (t.den×Bool)},(∀e∈es,e.2=true)→(∀e∈es',e.2=true)→(∀x,aK t es x=aK t es' x)→e∈es→e∈es':=fun {es es'} ht ht' hm he=>by
  have h1:aK t es' e.1=true:=by rw [←hm];exact (dx hk).2 ⟨e.2,he⟩
  obtain ⟨u,hu⟩:=(dx hk).1 h1
  have e1:=ht e he
  have e2:=ht' _ hu
  obtain ⟨a,b⟩:=e
  simp only at e1 e2;subst e1;subst e2;exact hu
 exact ⟨key ht ht' hm,key ht' ht fun x=>(hm x).symm⟩
end
end Go.AM
end
section
namespace Go.Proofs.Tryz
open Go.AM
set_option maxRecDepth 100000
abbrev Mg:=ByteArray×Int×ByteArray×ByteArray×Int
abbrev tM:Ty:=.prod .str (.prod (.int .i64) (.prod .str (.prod .str (.int .i64))))
abbrev kM:bB tM=some [.s,.i,.s,.s,.i]:=rfl
abbrev kS:bB .str=some [.s]:=rfl
theorem seq_eq (a b:ByteArray):seq a b=decide (a=b):=by
 unfold seq
 rw [Go.ByteArray.toList_eq,Go.ByteArray.toList_eq]
 by_cases h:a=b
 ·subst h;simp
 ·rw [decide_eq_false h, beq_eq_false_iff_ne]
  intro e;apply h
  obtain ⟨x⟩:=a;obtain ⟨y⟩:=b
  simp at e;rw [e]
theorem vr (a b:ByteArray):dI .str a b=decide (a=b):=by
 rw [←seq_eq];simp only [dI,seq,Go.ByteArray.toList_eq]
def yd (i:Nat) (b:Int):Bool:=decide (97≤b∧b≤122)||decide (i≠0∧48≤b∧b≤57)
def Tu : Nat → List Int → Bool
 |_,[]=>true
 |i,b::r=>yd i b&&Tu (i+1) r
def eU (s:ByteArray):Bool:=Tu 0 (eX s)&&decide (0<s.size∧s.size≤10)
theorem k65 (s:ByteArray) (hs:s.size<1000000000):aq (F65 s)=some (eU s,()):=by
 have hl:(eX s).length=s.size:=DF s
 unfold F65
 simp only [aA,bG]
 refine bind_eq (aO (eX s) (fun k (_:Nat)=>(s,eX s,((eX s).length:Int),(k:Int),())) (fun i r=>if Tu i r=true then .inr (s,()) else .inl ()) (fun pre i=>i=pre.length) ?_ ?_ (s:=0) rfl) ?_
 ·intro pre x post i hx hi
  subst hi
  have hlen:(eX s).length=pre.length+(post.length+1):=by rw [hx];simp
  have hd:(eX s).getD pre.length 0=x:=by rw [hx];exact bg rfl
  have key:run (fun _=>none) (g65_0 (s,eX s,((eX s).length:Int),(pre.length:Int),()))=if yd pre.length x=true then some (.inl (s,eX s,((eX s).length:Int),((pre.length+1:Nat):Int),())) else some (.inr (.inl ())):=by
   simp only [g65_0,av,bf,aQ,aU,aa,Int.toNat_natCast,hd,bp,bI]
   rw [if_pos (by omega),DD (by omega) (by omega)]
   unfold yd;simp only [Bool.or_eq_true,decide_eq_true_eq]
   by_cases h1:x<97
   ·rw [if_pos h1]
    by_cases h2:(pre.length:Int)=0
    ·rw [if_pos h2,if_neg (by omega)]
    ·rw [if_neg h2]
     by_cases h3:x<48
     ·rw [if_pos h3,if_neg (by omega)]
     ·rw [if_neg h3]
      by_cases h4:57<x
      ·rw [if_pos h4,if_neg (by omega)]
      ·rw [if_neg h4, if_pos, fP (by omega) (by omega)]; · rfl
       omega
   ·rw [if_neg h1]
    by_cases h5:122<x
    ·rw [if_pos h5]
     by_cases h2:(pre.length:Int)=0
     ·rw [if_pos h2,if_neg (by omega)]
     ·rw [if_neg h2]
      by_cases h3:x<48
      ·omega
      ·rw [if_neg h3,if_pos (by omega),if_neg (by omega)]
    ·rw [if_neg h5, if_pos, fP (by omega) (by omega)]; · rfl
     omega
  rw [key]
  by_cases hb:yd pre.length x=true
  ·left
   exact ⟨pre.length+1,by rw [if_pos hb],by simp,by simp [Tu,hb]⟩
  ·right
   rw [if_neg hb]
   have:Tu pre.length (x::post)=false:=by simp [Tu,hb]
   simp [this]
 ·intro i _
  simp only [g65_0,av,bp]
  rw [if_neg (by omega)]
  simp [Tu,aa]
 ·unfold eU
  by_cases h:Tu 0 (eX s)=true
  ·rw [if_pos h, h]
   simp only [mW,av,aa,bp]
   by_cases h0:(0:Int)<((s.size:Nat):Int)
   ·rw [if_pos h0, Bool.true_and]
    congr 2
    exact decide_eq_decide.2 (by omega)
   ·rw [if_neg h0]
    simp;omega
  ·rw [if_neg h]
   simp [h,oh,aa]
def Cd (l:List Int):Int:=(l.find? (· != 0)).getD 0
theorem k86 (l:List Int) (hl:l.length<1000000000):aq (F86 l)=some (Cd l,()):=by
 unfold F86
 simp only [aA,bG]
 refine bind_eq (aO l (fun k (_:Nat)=>((0:Int),l,((l.length:Nat):Int),(k:Int),())) (fun i r=>if (r.find? (· != 0)).isSome then .inl (Cd r,()) else .inr (0,())) (fun pre i=>i=pre.length) ?_ ?_ (s:=0) rfl) ?_
 ·intro pre x post i hx hi
  subst hi
  have hlen:l.length=pre.length+(post.length+1):=by rw [hx];simp
  have hd:l.getD pre.length 0=x:=by rw [hx];exact bg rfl
  have hin:fh (pre.length:Int) (l.length:Int)=true:=bX (by omega) (by omega)
  have hni:gH .i64 ((pre.length:Int)+1)=true:=aJ (by omega) (by omega)
  by_cases h:x=0
  ·left
   refine ⟨pre.length+1,?_,by simp,by simp [h,Cd]⟩
   simp only [g86_0,av,bf,aQ,aa,Int.toNat_natCast,hd,bp,bI,bP,hin,hni,ak]
   rw [if_pos (by omega),if_pos h];rfl
  ·right
   simp only [g86_0,av,bf,aQ,aa,Int.toNat_natCast,hd,bp,bI,bP,hin,hni,ak]
   rw [if_pos (by omega),if_neg h]
   simp [h,Cd]
 ·intro i _
  simp only [g86_0,av,bp]
  rw [if_neg (by omega)]
  simp [aa]
 ·cases h:(l.find? (· != 0)).isSome with
  |true=>rw [if_pos rfl];simp only [oh,aa]
  |false =>
   rw [if_neg (by simp)]
   have:Cd l=0:=by
    unfold Cd
    cases h':l.find? (· != 0) with
    |none=>rfl
    |some _=>rw [h'] at h;cases h
   rw [this];simp only [mW,aa]
def oF (m:Mg):Int:=if m.2.1=1 then (if m.2.2.1=bs [] then 0 else 22) else if eU m.2.2.1=true then (if m.2.2.1=m.1 then 22 else 0) else 8
def mb (m:Mg):Int:=if m.2.1=3 then (if m.2.2.2.1=bs []∧m.2.2.2.2=0 then 0 else 22) else if eU m.2.2.2.1=true then (if -1000≤m.2.2.2.2∧m.2.2.2.2≤1000 then 0 else 2) else 8
def sj (m:Mg):Int:=if m.2.1<1∨3<m.2.1 then 18 else if eU m.1=true then Cd [oF m,mb m] else 8
def Sh (s:ByteArray):Prop:=s.size<1000000000
def K8 (m:Mg):Prop:=Sh m.1∧Sh m.2.2.1∧Sh m.2.2.2.1
theorem k87 (m:Mg) (h:K8 m):aq (F87 m)=some (oF m,()):=by
 unfold F87 oF
 simp only [av,aA,aa,bI,k65 _ h.2.1,aN,bP,seq_eq,bp]
 split
 ·split<;>rfl
 ·rw [ko]
  split
  ·split<;>rfl
  ·rfl
theorem k88 (m:Mg) (h:K8 m):aq (F88 m)=some (mb m,()):=by
 unfold F88 mb
 simp only [av,aA,aa,bI,k65 _ h.2.2,aN,bP,seq_eq,bp]
 split
 ·by_cases h1 : m.2.2.2.1 = bs []
  ·by_cases h2:m.2.2.2.2=0<;>simp [h1,h2]
  ·simp [h1]
 ·rw [ko]
  split
  ·by_cases h1 : m.2.2.2.2 < -1000
   ·rw [if_pos h1,if_neg (by omega)]
   ·rw [if_neg h1]
    by_cases h2:1000<m.2.2.2.2
    ·rw [if_pos h2,if_neg (by omega)]
    ·rw [if_neg h2,if_pos (by omega)]
  ·rfl
theorem k55 (m:Mg) (h:K8 m):aq (F55 m)=some (sj m,()):=by
 have h86:=k86 [oF m,mb m] (by simp)
 unfold F55 sj
 simp only [av,aA,aa,bp,k65 _ h.1,aN,bP,k87 m h,k88 m h]
 have hl:((oF m::mb m::[]).drop 0).take 2=[oF m,mb m]:=rfl
 simp only [hl,h86,aN]
 by_cases h1:m.2.1<1
 ·rw [if_pos h1,if_pos (.inl h1)]
 ·rw [if_neg h1]
  by_cases h2:3<m.2.1
  ·rw [if_pos h2,if_pos (.inr h2)]
  ·rw [if_neg h2, if_neg (by omega), ko]
   split<;>rfl
end Go.Proofs.Tryz
end
section
namespace Go.Proofs.Tryz
open Go.AM
set_option maxRecDepth 100000
def bk (L:List Mg):List (Mg×Bool):=L.map fun m=>(m,true)
def SL (L:List Mg):Prop:=L.Pairwise fun a b=>fU tM a b=true
theorem SL.can {L:List Mg} (h:SL L):gK tM (bk L):=by
 unfold gK bk;rw [List.pairwise_map];exact h
theorem bk_t {L:List Mg}:∀e∈bk L,e.2=true:=fun e he=>by
 obtain ⟨m,_,rfl⟩:=List.mem_map.1 he;rfl
theorem Gy {L:List Mg} {m:Mg} {b:Bool}:(m,b)∈bk L↔m∈L∧b=true:=by
 unfold bk;rw [List.mem_map]
 constructor
 ·rintro ⟨x,hx,h⟩;cases h;exact ⟨hx,rfl⟩
 ·rintro ⟨h,rfl⟩;exact ⟨m,h,rfl⟩
theorem IK {L:List Mg}:(bk L).map (·.1)=L:=by simp [bk,List.map_map,Function.comp_def]
theorem O5 {L:List Mg}:(bk L).length=L.length:=by simp [bk]
theorem ad5 {es:List (Mg×Bool)} (h:∀e∈es,e.2=true):bk (es.map (·.1))=es:=by
 unfold bk;rw [List.map_map]
 conv=>rhs;rw [←List.map_id es]
 refine List.map_congr_left fun e he=>?_
 obtain ⟨a,b⟩:=e
 have:=h _ he
 simp only at this;subst this;rfl
def oG (L:List Mg) (m:Mg):List Mg:=(aV tM (bk L) m true).map (·.1)
theorem Gz {L:List Mg} (h:SL L) {m:Mg}:bk (oG L m)=aV tM (bk L) m true:=ad5 (O2 kM h.can bk_t)
theorem mc {L:List Mg} (h:SL L) {m x:Mg}:x∈oG L m↔x=m∨x∈L:=by
 have:x∈oG L m↔(x,true)∈bk (oG L m):=by rw [Gy];simp
 rw [this,Gz h,fS kM h.can]
 constructor
 ·rintro (e | ⟨h1, h2⟩)
  ·cases e;exact .inl rfl
  ·exact .inr (Gy.1 h1).1
 ·by_cases e : x = m
  ·subst e;exact fun _=>.inl rfl
  ·rintro (e' | h')
   ·exact absurd e' e
   ·exact .inr ⟨Gy.2 ⟨h',rfl⟩,e⟩
theorem SL.ins {L:List Mg} (h:SL L) {m:Mg}:SL (oG L m):=by
 have:=h.can.iy (x:=m) (v:=true) kM
 rw [←Gz h] at this
 unfold gK bk at this;rw [List.pairwise_map] at this;exact this
theorem SL.ext {L L':List Mg} (h:SL L) (h':SL L') (hm:∀x,x∈L↔x∈L'):L=L' :=
 kJ (fun a h=>by rw [gV kM] at h;cases h) (fun a b h1 h2=>dw kM h1 h2) h h' hm
theorem ye {L:List Mg} {m:Mg}:(oG L m).length≤L.length+1:=by
 unfold oG aV
 rw [List.length_map]
 split
 ·simp [bk]
 ·rw [jN.length_eq];simp [bk]
theorem GA (m:List (Mg×Bool)):aq (FH54 m)=some (false,m,()):=rfl
def iw (L:List Mg) (m:Mg):Int×List Mg:=if sj m=0 then (if 60<(oG L m).length then (15,L) else (0,oG L m)) else (sj m,L)
theorem g56 {mm m1:List (Mg×Bool)} {b3:List Mg} {n:Nat} {k:Nat} (hn:n=b3.length) (hb:n<1000000000) (hk:k<n) :
  aq (gH56_0 (n,((n:Nat):Int),(k:Int),mm,b3,m1,()))=some (.inl (n,((n:Nat):Int),((k+1:Nat):Int),aV tM mm (b3.getD k (bs [],(0:Int),bs [],bs [],(0:Int))) true,b3,m1,())):=by
 have hin:fh (k:Int) (n:Int)=true:=bX (by omega) (by omega)
 have hni:gH .i64 ((k:Int)+1)=true:=aJ (by omega) (by omega)
 simp only [gH56_0,av,bf,aU,aQ,aa,Int.toNat_natCast,Nat.zero_add,bp,hin,hni,ak]
 rw [if_pos (by omega),b7 (by omega)]
 rfl
theorem g56e {mm m1:List (Mg×Bool)} {b3:List Mg} {n:Nat}:aq (gH56_0 (n,((n:Nat):Int),(n:Int),mm,b3,m1,()))=some (.inr (mm,m1,())):=by
 simp only [gH56_0,av,aa,bp]
 rw [if_neg (by omega)]
theorem kH56 {L:List Mg} (h:SL L) (hl:L.length≤60) (m:Mg):aq (FH56 m.1 m.2.1 m.2.2.1 m.2.2.2.1 m.2.2.2.2 (bk L))=some (if 60<(oG L m).length then (15,bk L,()) else (0,bk (oG L m),())):=by
 have hit:iter (fun x=>aq (gH56_0 x)) ((1:Nat),((1:Nat):Int),(0:Int),bk L,[m],bk L,())=some (bk (oG L m),bk L,()):=by
  rw [Gz h]
  exact lU (g56 (b3:=[m]) (n:=1) (k:=0) rfl (by omega) (by omega)) (gQ g56e)
 unfold FH56
 simp only [aA,FH89,FH193,aa,aN,bG]
 refine bind_eq hit ?_
 simp only [av,aa,bp,O5]
 by_cases hc:60<(oG L m).length
 ·rw [if_pos (by omega),if_pos hc]
 ·rw [if_neg (by omega),if_neg hc]
theorem kH20 {L:List Mg} (h:SL L) (hl:L.length≤60) {m:Mg} (hm:K8 m):aq (FH20 m (bk L))=some ((iw L m).1,bk (iw L m).2,()):=by
 have h55:=k55 m hm
 unfold FH20
 simp only [aA,GA,aN,av,b8]
 rw [aj (show aq (F55 (m.1,m.2.1,m.2.2.1,m.2.2.2.1,m.2.2.2.2))=_ from h55)]
 simp only [bP,bI]
 unfold iw
 by_cases hc:sj m=0
 ·rw [if_pos hc, if_pos hc]
  rw [aj (kH56 h hl m)]
  split<;>rfl
 ·rw [if_neg hc,if_neg hc];rfl
structure nF (L:List Mg):Prop where
 s:SL L
 len:L.length≤60
 sj:∀m∈L,sj m=0
theorem nF.nil:nF []:=⟨.nil,by simp,fun m h=>by cases h⟩
theorem nF.tell {L:List Mg} (h:nF L) (m:Mg):nF (iw L m).2:=by
 unfold iw
 split
 ·rename_i hc
  split
  ·exact h
  ·rename_i h60
   refine ⟨h.s.ins,by simp only;omega,fun x hx=>?_⟩
   rcases (mc h.s).1 hx with rfl|hx
   ·exact hc
   ·exact h.sj x hx
 ·exact h
def cR (l:List Mg):List Mg:=l.foldl (fun L m=>(iw L m).2) []
theorem nF.fold {L : List Mg} (h : nF L) : ∀ l : List Mg, nF (l.foldl (fun L m => (iw L m).2) L)
 |[]=>h
 |m::l=>nF.fold (h.tell m) l
theorem nF.told (l:List Mg):nF (cR l):=nF.nil.fold l
theorem O6 {l:List Mg} (hl:l.length<1000000000) (hs:∀m∈l,K8 m):aq (FH29 l)=some (bk (cR l),()):=by
 unfold FH29
 simp only [aA,FH18,aa,aN,bG]
 refine bind_eq (aO l (fun k (L:List Mg)=>(l,(k:Int),bk L,())) (fun L r=>(bk (r.foldl (fun L m=>(iw L m).2) L),())) (fun _ L=>nF L) ?_ ?_ (s:=[]) nF.nil) rfl
 ·intro pre x post L hx hL
  have hlen:l.length=pre.length+(post.length+1):=by rw [hx];simp
  have hd:l.getD pre.length (bs [],(0:Int),bs [],bs [],(0:Int))=x:=by rw [hx];exact bg rfl
  have hin:fh (pre.length:Int) (l.length:Int)=true:=bX (by omega) (by omega)
  have hni:gH .i64 ((pre.length:Int)+1)=true:=aJ (by omega) (by omega)
  left
  refine ⟨(iw L x).2,?_,hL.tell x,rfl⟩
  simp only [gH29_0,av,bf,aQ,aa,aA,Int.toNat_natCast,bp,hin,hni,ak]
  rw [if_pos (by omega)]
  have hk:=kH20 hL.s hL.len (hs x (by rw [hx];simp))
  rw [hd]
  rw [aj (show aq (FH20 (x.1,x.2.1,x.2.2.1,x.2.2.2.1,x.2.2.2.2) (bk L))=_ from hk)]
  rfl
 ·intro L _
  simp only [gH29_0,av,aa,bp]
  rw [if_neg (by omega)]
  rfl
theorem Ev {E A : Type} {step : E → A → Option A} (f : A → E → A) (I : A → Prop) : ∀ (l : List E) (x : A), I x → (∀ e ∈ l, ∀ x, I x → step e x = some (f x e) ∧ I (f x e)) → zR step l x = some (l.foldl f x) ∧ I (l.foldl f x)
 |[],x,hx,_=>⟨rfl,hx⟩
 |e::l,x,hx,h=>by
  obtain ⟨h1,h2⟩:=h e (List.mem_cons_self ..) x hx
  obtain ⟨h3,h4⟩:=Ev f I l (f x e) h2 fun e he=>h e (List.mem_cons_of_mem _ he)
  exact ⟨by simp only [zR,h1];exact h3,h4⟩
theorem sk {K V M : Type} {step : K × V → M × Nat × List K × Unit → Option (M × Nat × List K × Unit)} {m : M} {l : List (K × V)} (hl : l.length < 1000000000)
  (h:∀e n b,n<1000000000→step e (m,n,b,())=some (m,n+1,(b.drop 0).take n++[e.1],())):zR step l (m,0,[],())=some (m,l.length,l.map (·.1),()):=by
 have key:∀(l:List (K×V)) (b:List K),b.length+l.length<1000000000→zR step l (m,b.length,b,())=some (m,b.length+l.length,b++l.map (·.1),()):=by
  intro l
  induction l with
  |nil=>intro b _;simp [zR]
  |cons e l ih =>
   intro b hb
   simp only [List.length_cons] at hb
   simp only [zR,h e b.length b (by omega)]
   have:=ih (b++[e.1]) (by simp;omega)
   simp only [List.drop_zero,List.take_length]
   rw [List.length_append,List.length_singleton] at this
   rw [this]
   simp only [List.length_cons,List.map_cons,List.append_assoc,List.singleton_append]
   congr 3
   omega
 have:=key l [] (by simpa using hl)
 simpa using this
theorem oH {t:Ty} {ks:List Kd} (hk:bB t=some ks) {l s:List t.den} (hp:s.Perm l) (hs:Al t s) (hl:l.length<1000000000):uE t l l.length=some (s,()):=by
 unfold uE
 rw [if_pos ⟨Nat.le_refl _,by rw [fc];omega⟩,List.take_length,List.drop_length,List.append_nil,rL hk hp hs]
theorem SL.ZK {L:List Mg} (h:SL L):Al tM L:=by
 have:=h.can.keys kM
 rwa [IK] at this
theorem kH83 {L:List Mg} (h:SL L) (hl:L.length<1000000000):aq (FH83 (bk L))=some (L.length,L,bk L,()):=by
 unfold FH83
 refine Eq.trans BE (gA fun l hp=>?_)
 have yB:l.length=L.length:=by rw [hp.length_eq,O5]
 simp only [aA,BF]
 refine bind_eq (sk (m:=bk L) (l:=l) (by rw [yB];exact hl) fun e n b hn=>?_) ?_
 ·simp only [gH83f109f128_0i_0, aU, aa, dF, ak]
  rw [b7 (show _<cg by rw [fc];simp;omega)]
  rfl
 ·simp only [FH110, xu]
  have hpk:L.Perm (l.map (·.1)):=by
   have:=(hp.map (·.1)).symm
   rwa [IK] at this
  have:=oH kM hpk h.ZK (by rw [List.length_map];omega)
  rw [List.length_map] at this
  rw [aj this,yB]
  rfl
theorem kH47 {L:List Mg} (h:SL L) (hl:L.length<1000000000):aq (FH47 (bk L))=some (L.length,L,bk L,()):=by
 unfold FH47
 simp only [aA,GA,aN,av,b8,FH84,aa]
 rw [aj (kH83 h hl)]
end Go.Proofs.Tryz
end
section
namespace Go.Proofs.Tryz
open Go.AM
set_option maxRecDepth 100000
abbrev Aw:=List (ByteArray×Mg)
abbrev EW:=List (ByteArray×List ByteArray)
abbrev fF:=List (ByteArray×Bool)
theorem kH98 {l:List ByteArray} (hl:l.length<1000000000):aq (FH98 l)=some (l.length,l,()):=by
 simp only [FH98,av,WV,aU,aa,bI]
 rw [DQ (by omega)]
 split
 ·have : l = [] := List.length_eq_zero_iff.1 (by omega)
  subst this
  simp only [List.length_nil,List.drop_nil,List.take_nil,List.append_nil,Nat.add_zero]
  exact zT
 ·simp
def eD (del : ByteArray → Bool) : Nat → List ByteArray → Option Nat
 |_,[]=>none
 |k,x::r=>if del x=true then some k else eD del (k+1) r
theorem lz (del : ByteArray → Bool) : ∀ (l : List ByteArray) (k : Nat), (∃ p x q, l = p ++ x :: q ∧ (∀ c ∈ p, del c = false) ∧ del x = true ∧ eD del k l = some (k + p.length)) ∨ ((∀ c ∈ l, del c = false) ∧ eD del k l = none)
 |[],k=>.inr ⟨by simp,rfl⟩
 |y::l,k=>by
  by_cases h:del y=true
  ·left
   exact ⟨[],y,l,rfl,by simp,h,by simp [eD,h]⟩
  ·rcases lz del l (k + 1) with ⟨p, x, q, h1, h2, h3, h4⟩ | ⟨h1, h2⟩
   ·left
    refine ⟨y::p,x,q,by rw [h1];rfl,fun c hc=>?_,h3,?_⟩
    ·rcases List.mem_cons.1 hc with rfl | hc
     ·simpa using h
     ·exact h2 c hc
    ·unfold eD;rw [if_neg h,h4,List.length_cons,show k+1+p.length=k+(p.length+1) by omega]
   ·right
    refine ⟨fun c hc=>?_,by unfold eD;rw [if_neg h,h2]⟩
    rcases List.mem_cons.1 hc with rfl|hc
    ·simpa using h
    ·exact h1 c hc
theorem sn {del:ByteArray→Bool} {l:List ByteArray} (h:∀c∈l,del c=false):l.filter (fun c => !del c)=l:=List.filter_eq_self.2 fun c hc=>by rw [h c hc];rfl
section
variable {m3:Aw} {m4:EW} {m5 m6:fF}
theorem kH99 (v:ByteArray):aq (FH99 v m3 m4 m5 m6)=some (!(ay .str false m5 v),m3,m4,m5,m6,()):=rfl
theorem aea {l:List ByteArray} (hl:l.length<1000000000):aq (FH119 l.length l m3 m4 m5 m6)=some ((match eD (fun v => !(ay .str false m5 v)) 0 l with|some k=>((k:Nat):Int)|none => -1),m3,m4,m5,m6,l,()):=by
 have hi := aO (f := fun a => run (fun _ => none) (gH119_0 a)) l (fun k (_ : Nat) => (l.length, ((l.length : Nat) : Int), (k : Int), l, m3, m4, m5, m6, ())) (fun k r => match eD (fun v => !(ay .str false m5 v)) k r with | some k => .inl (((k : Nat) : Int), m3, m4, m5, m6, l, ()) | none => .inr (m3, m4, m5, m6, l, ())) (fun pre k => k = pre.length) (by
  rintro pre x post k hx rfl
  have hlen:l.length=pre.length+(post.length+1):=by rw [hx];simp
  have hd:l.getD pre.length (bs [])=x:=by rw [hx];exact bg rfl
  have i1:fh (pre.length:Int) ((l.length:Nat):Int)=true:=bX (by omega) (by omega)
  have r1:gH .i64 ((pre.length:Int)+1)=true:=aJ (by omega) (by omega)
  have d1:decide (pre.length<l.length)=true:=decide_eq_true (by omega)
  simp only [gH119_0,av,aA,bf,aU,aQ,aa,Int.toNat_natCast,Nat.zero_add,hd,kH99,aN,i1,r1,d1,ak,bp]
  rw [if_pos (by omega)]
  by_cases h:(!(ay .str false m5 x))=true
  ·right;rw [h,bM];simp only [eD,h,if_true]
  ·left
   refine ⟨pre.length+1,?_⟩
   rw [FJ (by simpa using h)]
   refine ⟨rfl,by simp,?_⟩
   simp only [eD,h,if_false];rfl) (by
  rintro k _
  simp only [gH119_0,av,bp,aa]
  rw [if_neg (by omega)];rfl) (s:=0) rfl
 simp only [FH119,aA,bG]
 refine bind_eq hi ?_
 split<;>rfl
theorem kH97 {l:List ByteArray} (hl:l.length<1000000000):∃b,b.length=l.length∧b.take (l.filter fun v => !(!(ay .str false m5 v))).length=l.filter (fun v => !(!(ay .str false m5 v)))∧aq (FH97 l.length l m3 m4 m5 m6)=some (0,(l.filter fun v => !(!(ay .str false m5 v))).length,b,m3,m4,m5,m6,()):=by
 have Y5:=aea (m3:=m3) (m4:=m4) (m5:=m5) (m6:=m6) hl
 simp only [FH97,aA,bG,av,aa,aQ,aU,bI]
 rw [aj Y5]
 rcases lz (fun v => !(ay .str false m5 v)) l 0 with ⟨p,x,q,h1,h2,h3,h4⟩|⟨h1,h2⟩
 case inr =>
  rw [h2]
  simp only [if_true]
  rw [sn h1]
  exact ⟨l,rfl,List.take_length ..,rfl⟩
 rw [h4]
 simp only [Nat.zero_add]
 have hlen:l.length=p.length+(q.length+1):=by rw [h1];simp
 rw [if_neg (by omega),fP (by omega) (by omega)]
 have hk:l.filter (fun v => !(!(ay .str false m5 v)))=p++q.filter fun v => !(!(ay .str false m5 v)):=by
  have e1:=sn h2
  have e2:(x::q).filter (fun v => !(!(ay .str false m5 v)))=q.filter fun v => !(!(ay .str false m5 v)):=by rw [List.filter_cons_of_neg];simpa using h3
  rw [h1,List.filter_append,e2]
  rw [show p.filter (fun v => !(!(ay .str false m5 v)))=p from e1]
 obtain ⟨res, hres, m, b, rfl, hb, hm, ht⟩ := HU (step := fun a => run (fun _ => none) (gH97_0 a)) q.length
  (fun k x=>∃(i:Nat) (b:List ByteArray),x=(l.length,(i:Int),((p.length+1+k:Nat):Int),b,m3,m4,m5,m6,())∧b.length=l.length∧i≤p.length+k∧b.take i=p++(q.take k).filter (fun v => !(!(ay .str false m5 v)))∧b.drop (p.length+1+k)=q.drop k)
  (fun r => ∃ (m : Nat) (b : List ByteArray), r = (l.length, (m : Int), b, m3, m4, m5, m6, ()) ∧ b.length = l.length ∧ m ≤ l.length ∧ b.take m = p ++ q.filter fun v => !(!(ay .str false m5 v))) (by
   rintro k _ hk ⟨i,b,rfl,hb,hi,ht,hd⟩
   have hx:b.getD (p.length+1+k) (bs [])=q.getD k (bs []):=by
    have:=congrArg (fun l=>l.getD 0 (bs [])) hd
    simpa [List.getD_eq_getElem?_getD] using this
   have Y6:q.take (k+1)=q.take k++[q.getD k (bs [])]:=by
    rw [List.take_succ_eq_append_getElem hk];simp [List.getD_eq_getElem?_getD,List.getElem?_eq_getElem hk]
   generalize q.getD k (bs [])=y at hx Y6
   have i1:fh ((p.length+1+k:Nat):Int) ((l.length:Nat):Int)=true:=bX (by omega) (by omega)
   have i2:fh (i:Int) ((l.length:Nat):Int)=true:=bX (by omega) (by omega)
   have d1:decide (p.length+1+k<b.length)=true:=decide_eq_true (by omega)
   have d2:decide (i<b.length)=true:=decide_eq_true (by omega)
   have r1:gH .i64 ((i:Int)+1)=true:=aJ (by omega) (by omega)
   have r2:gH .i64 (((p.length+1+k:Nat):Int)+1)=true:=aJ (by omega) (by omega)
   simp only [gH97_0,av,aA,bf,aU,aQ,aa,Int.toNat_natCast,Nat.zero_add,hx,kH99,aN,i1,i2,d1,d2,r1,r2,ak,bp]
   rw [if_pos (by omega)]
   by_cases hy:(!(ay .str false m5 y))=true
   ·refine ⟨_, by rw [FJ (by rw [hy]; rfl)], i, b, by rw [show ((p.length + 1 + (k + 1) : Nat) : Int) = ((p.length + 1 + k : Nat) : Int) + 1 by omega], hb, by omega, ?_, ?_⟩
    ·rw [ht,Y6,List.filter_append,List.filter_cons_of_neg (by rw [hy];simp)];simp
    ·have := congrArg (List.drop 1) hd
     simpa [List.drop_drop,Nat.add_assoc] using this
   ·refine ⟨_, by rw [M7 (by rw [Bool.eq_false_iff.2 hy]; rfl)], i + 1, b.set i y, by rw [show ((p.length + 1 + (k + 1) : Nat) : Int) = ((p.length + 1 + k : Nat) : Int) + 1 by omega, show ((i + 1 : Nat) : Int) = (i : Int) + 1 by omega], by simp [hb], by omega, ?_, ?_⟩
    ·have e:(b.set i y).take (i+1)=b.take i++[y]:=by
      rw [List.take_succ_eq_append_getElem (by simp;omega)]
      simp [List.take_set_of_le]
     rw [e,ht,Y6,List.filter_append,List.filter_cons_of_pos (by simpa using hy)];simp
    ·have := congrArg (List.drop 1) hd
     rw [List.drop_set_of_lt (by omega)]
     simpa [List.drop_drop,Nat.add_assoc] using this) (by
   rintro _ ⟨i,b,rfl,hb,hi,ht,hd⟩
   simp only [gH97_0,av,aa,bp]
   rw [if_neg (by omega)]
   exact ⟨_,rfl,i,b,rfl,hb,by omega,by rw [ht,List.take_length]⟩) (x:=(l.length,(p.length:Int),(p.length:Int)+1,l,m3,m4,m5,m6,())) ⟨p.length,l,by simp,rfl,by omega,by rw [h1];simp,by rw [h1];simp⟩
 rw [aj hres]
 have hml:m=(l.filter fun v => !(!(ay .str false m5 v))).length:=by rw [hk,←ht,List.length_take];omega
 simp only [Int.toNat_natCast,Nat.zero_add,AF,Int.toNat_zero,Nat.sub_zero]
 rw [b7 (by omega),b7 (by omega),b7 (by omega),b7 (by omega),b7 (by omega),b7 (by omega)]
 refine ⟨b.take m++List.replicate (l.length - m) (bs [])++b.drop (m+(l.length - m)),?_,?_,by rw [←hml]⟩
 ·simp only [List.length_append,List.length_take,List.length_replicate,List.length_drop];omega
 ·rw [←hml,List.take_append_of_le_length (by simp;omega),List.take_append_of_le_length (by simp;omega),List.take_take,Nat.min_self,ht,hk]
theorem VB (v:ByteArray):aq (FH123 v m3 m4 m5 m6)=some (ay .str false m6 v,m3,m4,m5,m6,()):=rfl
theorem O7 {l:List ByteArray} (hl:l.length<1000000000):aq (FH119_v1 l.length l m3 m4 m5 m6)=some ((match eD (fun v=>ay .str false m6 v) 0 l with|some k=>((k:Nat):Int)|none => -1),m3,m4,m5,m6,l,()):=by
 have hi := aO (f := fun a => run (fun _ => none) (gH119_v1_0 a)) l (fun k (_ : Nat) => (l.length, ((l.length : Nat) : Int), (k : Int), l, m3, m4, m5, m6, ())) (fun k r => match eD (fun v => ay .str false m6 v) k r with | some k => .inl (((k : Nat) : Int), m3, m4, m5, m6, l, ()) | none => .inr (m3, m4, m5, m6, l, ())) (fun pre k => k = pre.length) (by
  rintro pre x post k hx rfl
  have hlen:l.length=pre.length+(post.length+1):=by rw [hx];simp
  have hd:l.getD pre.length (bs [])=x:=by rw [hx];exact bg rfl
  have i1:fh (pre.length:Int) ((l.length:Nat):Int)=true:=bX (by omega) (by omega)
  have r1:gH .i64 ((pre.length:Int)+1)=true:=aJ (by omega) (by omega)
  have d1:decide (pre.length<l.length)=true:=decide_eq_true (by omega)
  simp only [gH119_v1_0,av,aA,bf,aU,aQ,aa,Int.toNat_natCast,Nat.zero_add,hd,VB,aN,i1,r1,d1,ak,bp]
  rw [if_pos (by omega)]
  by_cases h:(ay .str false m6 x)=true
  ·right;rw [h,bM];simp only [eD,h,if_true]
  ·left
   refine ⟨pre.length+1,?_⟩
   rw [FJ (by simpa using h)]
   refine ⟨rfl,by simp,?_⟩
   simp only [eD,h,if_false];rfl) (by
  rintro k _
  simp only [gH119_v1_0,av,bp,aa]
  rw [if_neg (by omega)];rfl) (s:=0) rfl
 simp only [FH119_v1,aA,bG]
 refine bind_eq hi ?_
 split<;>rfl
theorem Tv {l:List ByteArray} (hl:l.length<1000000000):∃b,b.length=l.length∧b.take (l.filter fun v => !(ay .str false m6 v)).length=l.filter (fun v => !(ay .str false m6 v))∧aq (FH97_v1 l.length l m3 m4 m5 m6)=some (0,(l.filter fun v => !(ay .str false m6 v)).length,b,m3,m4,m5,m6,()):=by
 have Y5:=O7 (m3:=m3) (m4:=m4) (m5:=m5) (m6:=m6) hl
 simp only [FH97_v1,aA,bG,av,aa,aQ,aU,bI]
 rw [aj Y5]
 rcases lz (fun v=>ay .str false m6 v) l 0 with ⟨p,x,q,h1,h2,h3,h4⟩|⟨h1,h2⟩
 case inr =>
  rw [h2]
  simp only [if_true]
  rw [sn h1]
  exact ⟨l,rfl,List.take_length ..,rfl⟩
 rw [h4]
 simp only [Nat.zero_add]
 have hlen:l.length=p.length+(q.length+1):=by rw [h1];simp
 rw [if_neg (by omega),fP (by omega) (by omega)]
 have hk:l.filter (fun v => !(ay .str false m6 v))=p++q.filter fun v => !(ay .str false m6 v):=by
  have e1:=sn h2
  have e2:(x::q).filter (fun v => !(ay .str false m6 v))=q.filter fun v => !(ay .str false m6 v):=by rw [List.filter_cons_of_neg];simpa using h3
  rw [h1,List.filter_append,e2]
  rw [show p.filter (fun v => !(ay .str false m6 v))=p from e1]
 obtain ⟨res, hres, m, b, rfl, hb, hm, ht⟩ := HU (step := fun a => run (fun _ => none) (gH97_v1_0 a)) q.length
  (fun k x=>∃(i:Nat) (b:List ByteArray),x=(l.length,(i:Int),((p.length+1+k:Nat):Int),b,m3,m4,m5,m6,())∧b.length=l.length∧i≤p.length+k∧b.take i=p++(q.take k).filter (fun v => !(ay .str false m6 v))∧b.drop (p.length+1+k)=q.drop k)
  (fun r => ∃ (m : Nat) (b : List ByteArray), r = (l.length, (m : Int), b, m3, m4, m5, m6, ()) ∧ b.length = l.length ∧ m ≤ l.length ∧ b.take m = p ++ q.filter fun v => !(ay .str false m6 v)) (by
   rintro k _ hk ⟨i,b,rfl,hb,hi,ht,hd⟩
   have hx:b.getD (p.length+1+k) (bs [])=q.getD k (bs []):=by
    have:=congrArg (fun l=>l.getD 0 (bs [])) hd
    simpa [List.getD_eq_getElem?_getD] using this
   have Y6:q.take (k+1)=q.take k++[q.getD k (bs [])]:=by
    rw [List.take_succ_eq_append_getElem hk];simp [List.getD_eq_getElem?_getD,List.getElem?_eq_getElem hk]
   generalize q.getD k (bs [])=y at hx Y6
   have i1:fh ((p.length+1+k:Nat):Int) ((l.length:Nat):Int)=true:=bX (by omega) (by omega)
   have i2:fh (i:Int) ((l.length:Nat):Int)=true:=bX (by omega) (by omega)
   have d1:decide (p.length+1+k<b.length)=true:=decide_eq_true (by omega)
   have d2:decide (i<b.length)=true:=decide_eq_true (by omega)
   have r1:gH .i64 ((i:Int)+1)=true:=aJ (by omega) (by omega)
   have r2:gH .i64 (((p.length+1+k:Nat):Int)+1)=true:=aJ (by omega) (by omega)
   simp only [gH97_v1_0,av,aA,bf,aU,aQ,aa,Int.toNat_natCast,Nat.zero_add,hx,VB,aN,i1,i2,d1,d2,r1,r2,ak,bp]
   rw [if_pos (by omega)]
   by_cases hy:(ay .str false m6 y)=true
   ·refine ⟨_, by rw [FJ (by rw [hy]; rfl)], i, b, by rw [show ((p.length + 1 + (k + 1) : Nat) : Int) = ((p.length + 1 + k : Nat) : Int) + 1 by omega], hb, by omega, ?_, ?_⟩
    ·rw [ht,Y6,List.filter_append,List.filter_cons_of_neg (by rw [hy];simp)];simp
    ·have := congrArg (List.drop 1) hd
     simpa [List.drop_drop,Nat.add_assoc] using this
   ·refine ⟨_, by rw [M7 (by rw [Bool.eq_false_iff.2 hy]; rfl)], i + 1, b.set i y, by rw [show ((p.length + 1 + (k + 1) : Nat) : Int) = ((p.length + 1 + k : Nat) : Int) + 1 by omega, show ((i + 1 : Nat) : Int) = (i : Int) + 1 by omega], by simp [hb], by omega, ?_, ?_⟩
    ·have e:(b.set i y).take (i+1)=b.take i++[y]:=by
      rw [List.take_succ_eq_append_getElem (by simp;omega)]
      simp [List.take_set_of_le]
     rw [e,ht,Y6,List.filter_append,List.filter_cons_of_pos (by simpa using hy)];simp
    ·have := congrArg (List.drop 1) hd
     rw [List.drop_set_of_lt (by omega)]
     simpa [List.drop_drop,Nat.add_assoc] using this) (by
   rintro _ ⟨i,b,rfl,hb,hi,ht,hd⟩
   simp only [gH97_v1_0,av,aa,bp]
   rw [if_neg (by omega)]
   exact ⟨_,rfl,i,b,rfl,hb,by omega,by rw [ht,List.take_length]⟩) (x:=(l.length,(p.length:Int),(p.length:Int)+1,l,m3,m4,m5,m6,())) ⟨p.length,l,by simp,rfl,by omega,by rw [h1];simp,by rw [h1];simp⟩
 rw [aj hres]
 have hml:m=(l.filter fun v => !(ay .str false m6 v)).length:=by rw [hk,←ht,List.length_take];omega
 simp only [Int.toNat_natCast,Nat.zero_add,AF,Int.toNat_zero,Nat.sub_zero]
 rw [b7 (by omega),b7 (by omega),b7 (by omega),b7 (by omega),b7 (by omega),b7 (by omega)]
 refine ⟨b.take m++List.replicate (l.length - m) (bs [])++b.drop (m+(l.length - m)),?_,?_,by rw [←hml]⟩
 ·simp only [List.length_append,List.length_take,List.length_replicate,List.length_drop];omega
 ·rw [←hml,List.take_append_of_le_length (by simp;omega),List.take_append_of_le_length (by simp;omega),List.take_take,Nat.min_self,ht,hk]
end
end Go.Proofs.Tryz
end
section
namespace Go.Proofs.Tryz
open Go.AM
set_option maxRecDepth 100000
abbrev zM:Mg:=(bs [],(0:Int),bs [],bs [],(0:Int))
def jo (es:Aw) (m:Mg):Aw:=if aK .str es m.1=true then es else aV .str es m.1 m
def pY (L:List Mg):Aw:=L.foldl jo []
def cnt (L:List Mg):List Mg:=(pY L).map (·.2)
theorem yf {es:Aw} (h:gK .str es) (m:Mg):gK .str (jo es m):=by
 unfold jo;split
 ·exact h
 ·exact h.iy kS
theorem yg : ∀ {L : List Mg} {es : Aw}, gK .str es → gK .str (L.foldl jo es)
 |[],_,h=>h
 |m::L,es,h=>yg (L:=L) (es:=jo es m) (yf h m)
theorem KM (L:List Mg):gK .str (pY L):=yg .nil
theorem yh : ∀ {L : List Mg} {es : Aw} {e : ByteArray × Mg}, gK .str es → (e ∈ L.foldl jo es ↔ e ∈ es ∨ (aK .str es e.1 = false ∧ ∃ pre post, L = pre ++ e.2 :: post ∧ e.2.1 = e.1 ∧ ∀ x ∈ pre, x.1 ≠ e.1))
 |[],es,e,_=>by simp
 |m::L,es,e,h=>by
  rw [List.foldl_cons,yh (yf h m)]
  have hs:jo es m=es∧aK .str es m.1=true∨jo es m=aV .str es m.1 m∧aK .str es m.1=false:=by
   unfold jo
   cases hm:aK .str es m.1
   ·right;simp
   ·left;simp
  rcases hs with ⟨hs,hm⟩|⟨hs,hm⟩
  ·rw [hs]
   refine or_congr_right ?_
   constructor
   ·rintro ⟨h1, pre, post, rfl, h2, h3⟩
    refine ⟨h1,m::pre,post,rfl,h2,fun x hx=>?_⟩
    rcases List.mem_cons.1 hx with rfl|hx
    ·intro e';rw [e'] at hm;rw [hm] at h1;cases h1
    ·exact h3 x hx
   ·rintro ⟨h1, pre, post, h2, h3, h4⟩
    cases pre with
    |nil =>
     simp only [List.nil_append,List.cons.injEq] at h2
     rw [h2.1] at hm;rw [h3] at hm;rw [hm] at h1;cases h1
    |cons p pre =>
     simp only [List.cons_append,List.cons.injEq] at h2
     exact ⟨h1,pre,post,h2.2,h3,fun x hx=>h4 x (List.mem_cons_of_mem _ hx)⟩
  ·rw [hs, fS kS h, o9 kS h]
   have hk:∀{v:Mg},(m.1,v)∉es:=fun {v} hv=>by rw [(dx kS).2 ⟨v,hv⟩] at hm;cases hm
   constructor
   ·rintro ((h1 | ⟨h1, _⟩) | ⟨h1, pre, post, rfl, h2, h3⟩)
    ·subst h1
     exact .inr ⟨hm,[],L,rfl,rfl,by simp⟩
    ·exact .inl h1
    ·simp only [Bool.or_eq_false_iff] at h1
     have hne:e.1≠m.1:=fun e'=>by have:=h1.1;rw [e',jJ kS] at this;cases this
     refine .inr ⟨h1.2,m::pre,post,rfl,h2,fun x hx=>?_⟩
     rcases List.mem_cons.1 hx with rfl|hx
     ·exact Ne.symm hne
     ·exact h3 x hx
   ·rintro (h1 | ⟨h1, pre, post, h2, h3, h4⟩)
    ·refine .inl (.inr ⟨h1, fun e' => ?_⟩)
     obtain ⟨a,b⟩:=e
     simp only at e';subst e';exact hk h1
    ·cases pre with
     |nil =>
      simp only [List.nil_append,List.cons.injEq] at h2
      obtain ⟨a,b⟩:=e
      simp only at h2 h3
      exact .inl (.inl (by rw [←h3,h2.1]))
     |cons p pre =>
      simp only [List.cons_append,List.cons.injEq] at h2
      have hne:e.1≠m.1:=fun e'=>by
       have:=h4 p (List.mem_cons_self ..)
       rw [←h2.1,e'] at this;exact this rfl
      refine .inr ⟨?_,pre,post,h2.2,h3,fun x hx=>h4 x (List.mem_cons_of_mem _ hx)⟩
      rw [Bool.or_eq_false_iff]
      refine ⟨?_,h1⟩
      cases hd:dI .str e.1 m.1 with
      |false=>rfl
      |true=>exact absurd (bF hd) hne
theorem tF {L:List Mg} {e:ByteArray×Mg}:e∈pY L↔∃pre post,L=pre++e.2::post∧e.2.1=e.1∧∀x∈pre,x.1≠e.1:=by
 unfold pY
 rw [yh .nil]
 simp [aK]
theorem Ew {L:List Mg} {e:ByteArray×Mg} (h:e∈pY L):e.2.1=e.1:=by
 obtain ⟨_,_,_,h,_⟩:=tF.1 h;exact h
theorem Ey (L:List Mg):pY L=(cnt L).map fun m=>(m.1,m):=by
 unfold cnt
 rw [List.map_map]
 conv=>lhs;rw [←List.map_id (pY L)]
 refine List.map_congr_left fun e he=>?_
 have:=Ew he
 obtain ⟨a,b⟩:=e
 simp only at this;subst this;rfl
theorem IL {L:List Mg} {m:Mg}:m∈cnt L↔(m.1,m)∈pY L:=by
 unfold cnt
 rw [List.mem_map]
 constructor
 ·rintro ⟨e, he, rfl⟩
  have:=Ew he
  obtain ⟨a,b⟩:=e
  simp only at this;subst this;exact he
 ·intro h;exact ⟨_,h,rfl⟩
def SI (c:List Mg):Prop:=c.Pairwise fun a b=>slt a.1 b.1=true
theorem gv (L:List Mg):SI (cnt L):=by
 have h:=KM L
 rw [Ey] at h
 unfold gK at h;rw [List.pairwise_map] at h;exact h
theorem SI.ZT {c:List Mg} (h:SI c):gK .str (c.map fun m=>(m.1,m)):=by
 unfold gK;rw [List.pairwise_map];exact h
theorem SI.inj {c:List Mg} (h:SI c) {m m':Mg} (hm:m∈c) (hm':m'∈c) (e:m.1=m'.1):m=m':=by
 have h1:=fR (d:=zM) kS h.ZT (List.mem_map.2 ⟨m,hm,rfl⟩)
 have h2:=fR (d:=zM) kS h.ZT (List.mem_map.2 ⟨m',hm',rfl⟩)
 rw [←h1,←h2,e]
theorem sq {L:List Mg} {m:Mg} (h:m∈cnt L):m∈L:=by
 obtain ⟨pre,post,h,_⟩:=tF.1 (IL.1 h)
 rw [h];simp
theorem Ce {L:List Mg} (hL:SL L) {m:Mg}:m∈cnt L↔m∈L∧∀x∈L,x.1=m.1→x=m∨fU tM m x=true:=by
 rw [IL,tF]
 constructor
 ·rintro ⟨pre, post, h, _, h2⟩
  simp only at h h2
  subst h
  refine ⟨by simp,fun x hx e=>?_⟩
  rcases List.mem_append.1 hx with hx|hx
  ·exact absurd e (h2 x hx)
  ·rcases List.mem_cons.1 hx with rfl | hx
   ·exact .inl rfl
   ·unfold SL at hL
    rw [List.pairwise_append,List.pairwise_cons] at hL
    exact .inr (hL.2.1.1 x hx)
 ·rintro ⟨h1, h2⟩
  obtain ⟨pre,post,h⟩:=List.append_of_mem h1
  refine ⟨pre,post,h,rfl,fun x hx e=>?_⟩
  subst h
  unfold SL at hL
  rw [List.pairwise_append] at hL
  have h3:=hL.2.2 x hx m (List.mem_cons_self ..)
  rcases h2 x (by simp [hx]) e with rfl|h4
  ·rw [gV kM] at h3;cases h3
  ·exact dw kM h3 h4
theorem aeb {L:List Mg} {m1:List (Mg×Bool)} (hl:L.length<1000000000):iter (fun x=>aq (gH66_0 x)) (L.length,((L.length:Nat):Int),(0:Int),L,m1,[],[],[],[],())=some (m1,pY L,[],[],[],()):=by
 refine aO L (fun k (es:Aw)=>(L.length,((L.length:Nat):Int),(k:Int),L,m1,es,[],[],[],())) (fun es r=>(m1,r.foldl jo es,[],[],[],())) (fun _ _=>True) ?_ ?_ (s:=[]) trivial
 ·intro pre x post es hx _
  have hlen:L.length=pre.length+(post.length+1):=by rw [hx];simp
  have hd:L.getD pre.length zM=x:=by rw [hx];exact bg rfl
  have i1:fh (pre.length:Int) ((L.length:Nat):Int)=true:=bX (by omega) (by omega)
  have r1:gH .i64 ((pre.length:Int)+1)=true:=aJ (by omega) (by omega)
  have d1:decide (pre.length<L.length)=true:=decide_eq_true (by omega)
  left
  refine ⟨jo es x,?_,trivial,rfl⟩
  simp only [gH66_0,av,bf,aU,aQ,aa,Int.toNat_natCast,Nat.zero_add,hd,i1,r1,d1,ak,bp]
  rw [if_pos (by omega)]
  unfold jo
  cases hm:aK .str es x.1
  ·rw [M7 (by rfl)];rfl
  ·rw [FJ (by rfl)];rfl
 ·intro es _
  simp only [gH66_0,av,aa,bp]
  rw [if_neg (by omega)]
  rfl
theorem Tw {c:List Mg} (h:SI c) (hl:c.length<1000000000):aq (FH81 (c.map fun m=>(m.1,m)))=some (c.length,c.map (·.1),c.map (fun m=>(m.1,m)),()):=by
 unfold FH81
 refine Eq.trans BE (gA fun l hp=>?_)
 have yB:l.length=c.length:=by rw [hp.length_eq,List.length_map]
 simp only [aA,BF]
 refine bind_eq (sk (m:=c.map fun m=>(m.1,m)) (l:=l) (by rw [yB];exact hl) fun e n b hn=>?_) ?_
 ·simp only [gH81f107f126_0i_0, aU, aa, dF, ak]
  rw [b7 (show _<cg by rw [fc];simp;omega)]
  rfl
 ·simp only [FH105, xu]
  have hpk:(c.map (·.1)).Perm (l.map (·.1)):=by
   have:=(hp.map (·.1)).symm
   rwa [List.map_map] at this
  have hs:Al .str (c.map (·.1)):=by
   have:=h.ZT.keys kS
   rwa [List.map_map] at this
  have:=oH kS hpk hs (by rw [List.length_map];omega)
  rw [List.length_map] at this
  rw [aj this,yB]
  rfl
def kids (c:List Mg) (x:ByteArray):List ByteArray:=(c.filter fun m=>decide (m.2.1=2∧m.2.2.1=x)).map (·.1)
def dH (c:List Mg) (x:ByteArray):Bool:=c.any fun m=>decide (m.2.1=3∧m.2.2.1=x)
def jq (t:EW) (m:Mg):EW:=if m.2.1=2 then aV .str t m.2.2.1 (ay .str [] t m.2.2.1++[m.1]) else t
def jr (t:fF) (m:Mg):fF:=if m.2.1=3 then aV .str t m.2.2.1 true else t
def bK (c:List Mg):EW:=c.foldl jq []
def cE (c:List Mg):fF:=c.foldl jr []
theorem GB {t:EW} (h:gK .str t) (m:Mg):gK .str (jq t m):=by
 unfold jq;split
 ·exact h.iy kS
 ·exact h
theorem GC {t:fF} (h:gK .str t) (m:Mg):gK .str (jr t m):=by
 unfold jr;split
 ·exact h.iy kS
 ·exact h
theorem yj : ∀ {c : List Mg} {t : EW}, gK .str t → gK .str (c.foldl jq t) ∧ (∀ x, ay .str [] (c.foldl jq t) x = ay .str [] t x ++ kids c x) ∧ ∀ x, aK .str (c.foldl jq t) x = (aK .str t x || !(kids c x).isEmpty)
 |[],t,h=>⟨h,fun x=>by simp [kids],fun x=>by simp [kids]⟩
 |m::c,t,h=>by
  obtain ⟨h1,h2,h3⟩:=yj (c:=c) (GB h m)
  refine ⟨h1,fun x=>?_,fun x=>?_⟩
  ·rw [List.foldl_cons, h2]
   unfold jq kids
   by_cases hk:m.2.1=2
   ·rw [if_pos hk, KL kS h]
    by_cases hx:m.2.2.1=x
    ·subst hx
     rw [if_pos (jJ kS),List.filter_cons_of_pos (by simp [hk])]
     simp
    ·rw [if_neg (fun h=>hx (bF h).symm),List.filter_cons_of_neg (by simp [hx])]
   ·rw [if_neg hk,List.filter_cons_of_neg (by simp [hk])]
  ·rw [List.foldl_cons, h3]
   unfold jq kids
   by_cases hk:m.2.1=2
   ·rw [if_pos hk, o9 kS h]
    by_cases hx:m.2.2.1=x
    ·subst hx
     rw [jJ kS,List.filter_cons_of_pos (by simp [hk])]
     simp
    ·have:dI .str x m.2.2.1=false:=by
      cases hd:dI .str x m.2.2.1 with
      |false=>rfl
      |true=>exact absurd (bF hd).symm hx
     rw [this,List.filter_cons_of_neg (by simp [hx]),Bool.false_or]
   ·rw [if_neg hk,List.filter_cons_of_neg (by simp [hk])]
theorem IM (c:List Mg):gK .str (bK c):=(yj .nil).1
theorem vu (c:List Mg) (x:ByteArray):ay .str [] (bK c) x=kids c x:=by
 exact ((yj (c:=c) (t:=[]) .nil).2.1 x).trans (by simp [ay])
theorem IP (c:List Mg) (x:ByteArray):aK .str (bK c) x = !(kids c x).isEmpty:=by
 exact ((yj (c:=c) (t:=[]) .nil).2.2 x).trans (by simp [aK])
theorem vw {c:List Mg} {e:ByteArray×List ByteArray}:e∈bK c↔e.2=kids c e.1∧kids c e.1≠[]:=by
 constructor
 ·intro h
  have h1:=fR (d:=[]) kS (IM c) (show (e.1,e.2)∈bK c from h)
  rw [vu] at h1
  refine ⟨h1.symm,fun h2=>?_⟩
  have h3:=(dx kS).2 ⟨e.2,(show (e.1,e.2)∈bK c from h)⟩
  rw [IP,h2] at h3;cases h3
 ·rintro ⟨h1, h2⟩
  have h3:aK .str (bK c) e.1=true:=by
   rw [IP]
   cases hk:kids c e.1 with
   |nil=>exact absurd hk h2
   |cons _ _=>rfl
  obtain ⟨v,hv⟩:=(dx kS).1 h3
  have h4:=fR (d:=[]) kS (IM c) hv
  rw [vu] at h4
  obtain ⟨a,b⟩:=e
  simp only at h1 h4 hv
  rw [h1,h4];exact hv
theorem O8 : ∀ {c : List Mg} {t : fF}, gK .str t → (∀ e ∈ t, e.2 = true) → gK .str (c.foldl jr t) ∧ (∀ e ∈ c.foldl jr t, e.2 = true) ∧ ∀ x, aK .str (c.foldl jr t) x = (aK .str t x || dH c x)
 |[],t,h,ht=>⟨h,ht,fun x=>by simp [dH]⟩
 |m::c,t,h,ht=>by
  obtain ⟨h1, h0, h2⟩ := O8 (c := c) (GC h m) (by
   unfold jr;split
   ·exact O2 kS h ht
   ·exact ht)
  refine ⟨h1,h0,fun x=>?_⟩
  rw [List.foldl_cons,h2]
  unfold jr dH
  by_cases hk:m.2.1=3
  ·rw [if_pos hk, o9 kS h, List.any_cons]
   have:dI .str x m.2.2.1=decide (m.2.1=3∧m.2.2.1=x):=by
    rw [vr];exact decide_eq_decide.2 ⟨fun e=>⟨hk,e.symm⟩,fun e=>e.2.symm⟩
   rw [this,Bool.or_comm (decide _) (aK .str t x),Bool.or_assoc]
  ·rw [if_neg hk, List.any_cons]
   simp [hk]
theorem Tx (c:List Mg) (x:ByteArray):ay .str false (cE c) x=dH c x:=by
 have h:=O8 (c:=c) (t:=[]) .nil (fun e h=>by cases h)
 rw [show cE c=c.foldl jr [] from rfl,O3 kS h.1 h.2.1,h.2.2]
 simp [aK]
theorem oI (c:List Mg) (x:ByteArray):(kids c x).length≤c.length:=by
 unfold kids;rw [List.length_map];exact List.length_filter_le ..
theorem aec {c:List Mg} {m1:List (Mg×Bool)} (h:SI c) (hl:c.length<1000000):iter (fun x=>aq (gH66_1 x)) (c.length,((c.length:Nat):Int),(0:Int),c.map (·.1),m1,c.map (fun m=>(m.1,m)),[],[],[],()) =
  some (m1,c.map (fun m=>(m.1,m)),bK c,cE c,[],()):=by
 have yB:(c.map (·.1)).length=c.length:=List.length_map ..
 refine aO c (fun k (s : EW × fF) => (c.length, ((c.length : Nat) : Int), (k : Int), c.map (·.1), m1, c.map (fun m => (m.1, m)), s.1, s.2, [], ())) (fun s r => (m1, c.map (fun m => (m.1, m)), r.foldl jq s.1, r.foldl jr s.2, [], ()))
  (fun pre s=>s.1=pre.foldl jq []) ?_ ?_ (s:=([],[])) rfl
 ·rintro pre x post ⟨t, r⟩ hx ht
  simp only at ht
  have hlen:c.length=pre.length+(post.length+1):=by rw [hx];simp
  have hd:(c.map (·.1)).getD pre.length (bs [])=x.1:=by rw [hx,List.map_append,List.map_cons];exact bg (by simp)
  have hg:ay .str zM (c.map fun m=>(m.1,m)) x.1=x:=fR kS h.ZT (List.mem_map.2 ⟨x,by rw [hx];simp,rfl⟩)
  have i1:fh (pre.length:Int) ((c.length:Nat):Int)=true:=bX (by omega) (by omega)
  have r1:gH .i64 ((pre.length:Int)+1)=true:=aJ (by omega) (by omega)
  have d1:decide (pre.length<(c.map (·.1)).length)=true:=decide_eq_true (by omega)
  left
  refine ⟨(jq t x,jr r x),?_,by simp only;rw [ht,List.foldl_append];rfl,rfl⟩
  simp only [gH66_1,av,bf,aU,aQ,aa,Int.toNat_natCast,Nat.zero_add,hd,hg,i1,r1,d1,ak,bp,bI]
  rw [if_pos (by omega)]
  unfold jq jr
  by_cases h3:x.2.1=3
  ·rw [if_pos h3,if_pos h3,if_neg (by omega)];rfl
  ·rw [if_neg h3, if_neg h3]
   by_cases h2:x.2.1=2
   ·rw [if_pos h2, if_pos h2]
    have hlt:(ay .str [] t x.2.2.1).length≤c.length:=by
     have:=(yj (c:=pre) (t:=[]) .nil).2.1 x.2.2.1
     rw [←ht] at this
     rw [this]
     have:=oI pre x.2.2.1
     simp only [ay,List.nil_append];omega
    rw [b7 (show _<cg by rw [fc];omega)]
    rfl
   ·rw [if_neg h2,if_neg h2];rfl
 ·rintro ⟨t, r⟩ _
  simp only [gH66_1,av,aa,bp]
  rw [if_neg (by omega)]
  rfl
end Go.Proofs.Tryz
end
section
namespace Go.Proofs.Tryz
open Go.AM
set_option maxRecDepth 100000
theorem Tz {A B : Type} {F : (A → Option B) → A → Option B} (R : A → B → Prop) (m : A → Nat)
  (h:∀rec x y,R x y→(∀x' y',R x' y'→m x'<m x→rec x'=some y')→F rec x=some y):∀x y,R x y→xk F x=some y:=by
 have key:∀n x y,R x y→m x<n→K3 F n x=some y:=by
  intro n
  induction n with
  |zero=>intro x y _ hm;omega
  |succ n ih=>intro x y hx hm;exact h _ x y hx fun x' y' hx' hm'=>ih x' y' hx' (by omega)
 intro x y hx
 exact HP (N:=m x+1) fun n hn=>key n x y hx (by omega)
structure oJ (S:fF):Prop where
 c:gK .str S
 t:∀e∈S,e.2=true
theorem oJ.nil:oJ []:=⟨.nil,fun e h=>by cases h⟩
theorem oJ.put {S:fF} (h:oJ S) (x:ByteArray):oJ (aV .str S x true):=⟨h.c.iy kS,O2 kS h.c h.t⟩
abbrev has (S:fF) (x:ByteArray):Bool:=aK .str S x
def Sub (S S':fF):Prop:=∀x,has S x=true→has S' x=true
theorem Sub.rfl {S:fF}:Sub S S:=fun _ h=>h
theorem Sub.trans {S S' Bx:fF} (h:Sub S S') (h':Sub S' Bx):Sub S Bx:=fun x hx=>h' x (h x hx)
theorem pe {S:fF} (h:oJ S) {x y:ByteArray}:has (aV .str S x true) y=true↔y=x∨has S y=true:=by
 unfold has
 rw [o9 kS h.c,Bool.or_eq_true,Cc kS]
theorem Sub.put {S:fF} (h:oJ S) (x:ByteArray):Sub S (aV .str S x true):=fun y hy=>(pe h).2 (.inr hy)
theorem oJ.ext {S S':fF} (h:oJ S) (h':oJ S') (hx:∀x,has S x=true↔has S' x=true):S=S' :=
 O4 kS h.c h'.c h.t h'.t fun x=>by rw [Bool.eq_iff_iff];exact hx x
section
variable {c:List Mg}
inductive kK (c : List Mg) : ByteArray → ByteArray → Prop
 |refl (x):kK c x x
 |step {x y z} (h:kK c x y) (hz:z∈kids c y):kK c x z
theorem kK.trans {x y z:ByteArray} (h:kK c x y) (h':kK c y z):kK c x z:=by
 induction h' with
 |refl=>exact h
 |step _ hz ih=>exact .step ih hz
theorem kK.cons {x y z:ByteArray} (hy:y∈kids c x) (h:kK c y z):kK c x z:=(kK.step (.refl x) hy).trans h
def ids (c:List Mg):List ByteArray:=c.map (·.1)
theorem gW {x z:ByteArray} (h:z∈kids c x):z∈ids c:=by
 unfold kids at h
 obtain ⟨m,hm,rfl⟩:=List.mem_map.1 h
 exact List.mem_map.2 ⟨m,(List.mem_filter.1 hm).1,rfl⟩
def Cr (c:List Mg) (S:fF):Nat:=((ids c).filter fun x => !has S x).length
theorem O9 (S:fF):Cr c S≤c.length:=by
 unfold Cr ids;exact Nat.le_trans (List.length_filter_le ..) (by simp)
theorem nj {α : Type} {p q : α → Bool} : ∀ {l : List α}, (∀ x ∈ l, p x = true → q x = true) → (l.filter p).length ≤ (l.filter q).length
 |[],_=>by simp
 |a::l,h=>by
  have ih:=nj (l:=l) fun x hx=>h x (List.mem_cons_of_mem _ hx)
  by_cases hp:p a=true
  ·rw [List.filter_cons_of_pos hp, List.filter_cons_of_pos (h a (List.mem_cons_self ..) hp)]
   simp only [List.length_cons];omega
  ·rw [List.filter_cons_of_neg hp]
   by_cases hq:q a=true
   ·rw [List.filter_cons_of_pos hq];simp only [List.length_cons];omega
   ·rw [List.filter_cons_of_neg hq];exact ih
theorem sr {α : Type} {p q : α → Bool} : ∀ {l : List α}, (∀ x ∈ l, p x = true → q x = true) → ∀ {y : α}, y ∈ l → q y = true → p y = false → (l.filter p).length < (l.filter q).length
 |[],_,y,h,_,_=>by cases h
 |a::l,h,y,hy,hq,hp=>by
  have hl:∀x∈l,p x=true→q x=true:=fun x hx=>h x (List.mem_cons_of_mem _ hx)
  rcases List.mem_cons.1 hy with rfl|hy
  ·rw [List.filter_cons_of_neg (by rw [hp]; simp), List.filter_cons_of_pos hq]
   have:=nj hl
   simp only [List.length_cons];omega
  ·have ih := sr hl hy hq hp
   by_cases hpa:p a=true
   ·rw [List.filter_cons_of_pos hpa, List.filter_cons_of_pos (h a (List.mem_cons_self ..) hpa)]
    simp only [List.length_cons];omega
   ·rw [List.filter_cons_of_neg hpa]
    by_cases hqa:q a=true
    ·rw [List.filter_cons_of_pos hqa];simp only [List.length_cons];omega
    ·rw [List.filter_cons_of_neg hqa];exact ih
theorem ym {S S':fF} (h:Sub S S'):Cr c S'≤Cr c S:=nj fun x _ hx=>by
 cases hs:has S x with
 |false=>rfl
 |true=>rw [h x hs] at hx;cases hx
theorem GD {S:fF} (h:oJ S) {x:ByteArray} (hx:x∈ids c) (hn:has S x=false):Cr c (aV .str S x true)<Cr c S:=by
 refine sr (fun y _ hy=>?_) hx (by rw [hn];rfl) (by rw [(pe h).2 (.inl rfl)];rfl)
 cases hs:has S y with
 |false=>rfl
 |true=>rw [(pe h).2 (.inr hs)] at hy;cases hy
def cT (c : List Mg) : Nat → ByteArray → fF → fF
 |0,_,S=>S
 |n+1,x,S=>if has S x=true then S else (kids c x).foldl (fun S k=>cT c n k S) (aV .str S x true)
theorem iQ : ∀ {n : Nat} {x : ByteArray} {S : fF}, oJ S → oJ (cT c n x S) ∧ Sub S (cT c n x S)
 |0,_,_,h=>⟨h,.rfl⟩
 |n+1,x,S,h=>by
  unfold cT
  split
  ·exact ⟨h,.rfl⟩
  ·have key:∀(l:List ByteArray) (S:fF),oJ S→oJ (l.foldl (fun S k=>cT c n k S) S)∧Sub S (l.foldl (fun S k=>cT c n k S) S):=by
    intro l
    induction l with
    |nil=>intro S h;exact ⟨h,.rfl⟩
    |cons k l ih =>
     intro S h
     obtain ⟨h1,h2⟩:=iQ (n:=n) (x:=k) h
     obtain ⟨h3,h4⟩:=ih _ h1
     exact ⟨h3,h2.trans h4⟩
   obtain ⟨h1,h2⟩:=key (kids c x) _ (h.put x)
   exact ⟨h1,(Sub.put h x).trans h2⟩
theorem su {n : Nat} : ∀ {l : List ByteArray} {S : fF}, oJ S → oJ (l.foldl (fun S k => cT c n k S) S) ∧ Sub S (l.foldl (fun S k => cT c n k S) S)
 |[],_,h=>⟨h,.rfl⟩
 |k::l,S,h=>by
  obtain ⟨h1,h2⟩:=iQ (c:=c) (n:=n) (x:=k) h
  obtain ⟨h3,h4⟩:=su (l:=l) h1
  exact ⟨h3,h2.trans h4⟩
theorem ur : ∀ {n n' : Nat} {x : ByteArray} {S : fF}, oJ S → x ∈ ids c → Cr c S < n → Cr c S < n' → cT c n x S = cT c n' x S
 |0,_,_,_,_,_,h,_=>by omega
 |_+1,0,_,_,_,_,_,h=>by omega
 |n+1,n'+1,x,S,hS,hx,h,h'=>by
  unfold cT
  split
  ·rfl
  ·rename_i hn
   have hn:has S x=false:=by simpa using hn
   have hlt:=GD hS hx hn
   have key:∀(l:List ByteArray) (S1:fF),(∀k∈l,k∈ids c)→oJ S1→Cr c S1<n→Cr c S1<n'→l.foldl (fun S k=>cT c n k S) S1=l.foldl (fun S k=>cT c n' k S) S1:=by
    intro l
    induction l with
    |nil=>intro _ _ _ _ _;rfl
    |cons k l ih =>
     intro S1 hk h1 h2 h3
     simp only [List.foldl_cons]
     rw [ur (n:=n) (n':=n') h1 (hk k (List.mem_cons_self ..)) h2 h3]
     obtain ⟨h4,h5⟩:=iQ (c:=c) (n:=n') (x:=k) h1
     have:=ym (c:=c) h5
     exact ih _ (fun k hk'=>hk k (List.mem_cons_of_mem _ hk')) h4 (by omega) (by omega)
   exact key _ _ (fun k hk=>gW hk) (hS.put x) (by omega) (by omega)
theorem Ez {n:Nat} {x:ByteArray} {S:fF} (h:oJ S) (hn:Cr c S<n):has (cT c n x S) x=true:=by
 cases n with
 |zero=>omega
 |succ n =>
  unfold cT
  split
  ·assumption
  ·exact (su (h.put x)).2 x ((pe h).2 (.inl rfl))
theorem Ay : ∀ {n : Nat} {x : ByteArray} {S : fF}, oJ S → ∀ y, has (cT c n x S) y = true → has S y = true ∨ kK c x y
 |0,_,_,_,y,hy=>.inl hy
 |n+1,x,S,h,y,hy=>by
  unfold cT at hy
  split at hy
  ·exact .inl hy
  ·have key:∀(l:List ByteArray) (S1:fF),(∀k∈l,k∈kids c x)→oJ S1→has (l.foldl (fun S k=>cT c n k S) S1) y=true→has S1 y=true∨kK c x y:=by
    intro l
    induction l with
    |nil=>intro S1 _ _ h;exact .inl h
    |cons k l ih =>
     intro S1 hk h1 h2
     simp only [List.foldl_cons] at h2
     rcases ih _ (fun k hk'=>hk k (List.mem_cons_of_mem _ hk')) (iQ h1).1 h2 with h3|h3
     ·rcases Ay h1 y h3 with h4 | h4
      ·exact .inl h4
      ·exact .inr (.cons (hk k (List.mem_cons_self ..)) h4)
     ·exact .inr h3
   rcases key _ _ (fun k hk=>hk) (h.put x) hy with h1|h1
   ·rcases (pe h).1 h1 with rfl | h2
    ·exact .inr (.refl _)
    ·exact .inl h2
   ·exact .inr h1
theorem Az : ∀ {n : Nat} {x : ByteArray} {S : fF}, oJ S → x ∈ ids c → Cr c S < n → ∀ y, has (cT c n x S) y = true → has S y = false → ∀ z ∈ kids c y, has (cT c n x S) z = true
 |0,_,_,_,_,h,_,_,_=>by omega
 |n+1,x,S,hS,hx,hlt,y,hy,hyn=>by
  intro z hz
  unfold cT at hy ⊢
  split at hy
  ·rw [hyn] at hy;cases hy
  ·rename_i hn
   rw [if_neg hn]
   have hn:has S x=false:=by simpa using hn
   have hl:=GD hS hx hn
   have key:∀(l:List ByteArray) (S1:fF),(∀k∈l,k∈kids c x)→oJ S1→Cr c S1<n→(∀k∈l,has (l.foldl (fun S k=>cT c n k S) S1) k=true) ∧
     (has (l.foldl (fun S k=>cT c n k S) S1) y=true→has S1 y=false→has (l.foldl (fun S k=>cT c n k S) S1) z=true):=by
    intro l
    induction l with
    |nil=>intro S1 _ _ _;exact ⟨(fun k hk=>by cases hk),(fun h h'=>by rw [List.foldl_nil,h'] at h;cases h)⟩
    |cons k l ih =>
     intro S1 hk h1 h2
     simp only [List.foldl_cons]
     obtain ⟨h3,h4⟩:=iQ (c:=c) (n:=n) (x:=k) h1
     have h5:=ym (c:=c) h4
     obtain ⟨h6,h7⟩:=ih _ (fun k hk'=>hk k (List.mem_cons_of_mem _ hk')) h3 (by omega)
     have h8:=(su (c:=c) (n:=n) (l:=l) h3).2
     refine ⟨fun k' hk'=>?_,fun h9 Z1=>?_⟩
     ·rcases List.mem_cons.1 hk' with rfl | hk'
      ·exact h8 _ (Ez h1 (by omega))
      ·exact h6 k' hk'
     ·cases Zy:has (cT c n k S1) y with
      |false=>exact h7 h9 Zy
      |true=>exact h8 _ (Az h1 (gW (hk k (List.mem_cons_self ..))) h2 y Zy Z1 z hz)
   obtain ⟨h1,h2⟩:=key _ _ (fun k hk=>hk) (hS.put x) (by omega)
   by_cases he:y=x
   ·subst he;exact h1 z hz
   ·refine h2 hy ?_
    cases h3:has (aV .str S x true) y with
    |false=>rfl
    |true =>
     rcases (pe hS).1 h3 with h4|h4
     ·exact absurd h4 he
     ·rw [hyn] at h4;cases h4
def VC (c:List Mg) (S:fF):Prop:=∀y,has S y=true→∀z∈kids c y,has S z=true
theorem VC.desc {S:fF} (h:VC c S) {x y:ByteArray} (hx:has S x=true) (hd:kK c x y):has S y=true:=by
 induction hd with
 |refl=>exact hx
 |step _ hz ih=>exact h _ ih _ hz
theorem Pa {n:Nat} {x:ByteArray} {S:fF} (hS:oJ S) (hC:VC c S) (hx:x∈ids c) (hn:Cr c S<n):VC c (cT c n x S)∧∀y,has (cT c n x S) y=true↔has S y=true∨kK c x y:=by
 have hc:VC c (cT c n x S):=fun y hy z hz=>by
  cases h:has S y with
  |true=>exact (iQ hS).2 z (hC y h z hz)
  |false=>exact Az hS hx hn y hy h z hz
 refine ⟨hc,fun y=>⟨Ay hS y,?_⟩⟩
 rintro (h|h)
 ·exact (iQ hS).2 y h
 ·exact hc.desc (Ez hS hn) h
theorem kH96 {m3:Aw} {m5:fF} {x:ByteArray} {S:fF} (hc:c.length<1000000) (hS:oJ S) (hx:x∈ids c):aq (FH96fix x m3 (bK c) m5 S)=some (m3,bK c,m5,cT c (c.length+1) x S,()):=by
 have h0:aq (FH96fix x m3 (bK c) m5 S)=xk (A:=kr.T) (B:=ku.T) (fun r y=>run r (FH96 y.1 y.2.1 y.2.2.1 y.2.2.2.1 y.2.2.2.2.1)) (x,m3,bK c,m5,S,()):=rfl
 refine h0.trans ?_
 refine Tz (A:=kr.T) (B:=ku.T) (fun a b=>∃x S,a=(x,m3,bK c,m5,S,())∧oJ S∧x∈ids c∧b=(m3,bK c,m5,cT c (c.length+1) x S,())) (fun a=>Cr c a.2.2.2.2.1) ?_ _ _ ⟨x,S,rfl,hS,hx,rfl⟩
 rintro rec _ _ ⟨x,S,rfl,hS,hx,rfl⟩ ih
 have e:(run rec (FH96 x m3 (bK c) m5 S):Option (Aw×EW×fF×fF×Unit))=u5 (ay .str false S x) (some (m3,bK c,m5,S,())) (iu (iter (fun a=>run rec (gH96_0 a)) (ay .str [] (bK c) x,(((ay .str [] (bK c) x).length:Nat):Int),(0:Int),m3,bK c,m5,aV .str S x true,())) fun z=>some (z.1,z.2.1,z.2.2.1,z.2.2.2.1,())):=rfl
 refine Eq.trans (α:=Option (Aw×EW×fF×fF×Unit)) e ?_
 rw [O3 kS hS.c hS.t,vu]
 by_cases hh:has S x=true
 ·rw [M7 hh]
  have:cT c (c.length+1) x S=S:=by unfold cT;rw [if_pos hh]
  rw [this];rfl
 ·rw [FJ (by simpa using hh)]
  have hn:has S x=false:=by simpa using hh
  have hlt:=GD hS hx hn
  have hle:=O9 (c:=c) S
  have PW:=oI c x
  have he:cT c (c.length+1) x S=(kids c x).foldl (fun S k=>cT c (c.length+1) k S) (aV .str S x true):=by
   have:cT c (c.length+1) x S=cT c (c.length+2) x S:=ur hS hx (by omega) (by omega)
   rw [this]
   conv=>lhs;unfold cT
   rw [if_neg hh]
  rw [he]
  refine bind_eq (aO (kids c x) (fun k (S:fF)=>(kids c x,(((kids c x).length:Nat):Int),(k:Int),m3,bK c,m5,S,())) (fun S r=>(m3,bK c,m5,r.foldl (fun S k=>cT c (c.length+1) k S) S,())) (fun _ S1=>oJ S1∧Cr c S1<Cr c S) ?_ ?_ (s:=aV .str S x true) ⟨hS.put x,hlt⟩) rfl
  ·rintro pre k post S1 hk ⟨h1, h2⟩
   have hlen:(kids c x).length=pre.length+(post.length+1):=by rw [hk];simp
   have hd:(kids c x).getD pre.length (bs [])=k:=by rw [hk];exact bg rfl
   have i1:fh (pre.length:Int) (((kids c x).length:Nat):Int)=true:=bX (by omega) (by omega)
   have r1:gH .i64 ((pre.length:Int)+1)=true:=aJ (by omega) (by omega)
   have hki:k∈ids c:=gW (x:=x) (by rw [hk];simp)
   obtain ⟨h3,h4⟩:=iQ (c:=c) (n:=c.length+1) (x:=k) h1
   have h5:=ym (c:=c) h4
   left
   refine ⟨cT c (c.length+1) k S1,?_,⟨h3,by omega⟩,rfl⟩
   simp only [gH96_0,av,bf,aQ,aa,aA,WW,Int.toNat_natCast,hd,i1,r1,ak,bp]
   rw [if_pos (by omega)]
   have hq:(run rec (Tr.rc (k,m3,bK c,m5,S1,())):Option (Aw×EW×fF×fF×Unit))=some (m3,bK c,m5,cT c (c.length+1) k S1,()):=ih (k,m3,bK c,m5,S1,()) _ ⟨k,S1,rfl,h1,hki,rfl⟩ h2
   exact bind_eq (A:=Aw×EW×fF×fF×Unit) hq rfl
  ·rintro S1 _
   simp only [gH96_0,av,aa,bp]
   rw [if_neg (by omega)]
   rfl
end
end Go.Proofs.Tryz
end
section
namespace Go.Proofs.Tryz
open Go.AM
set_option maxRecDepth 100000
def TA (c:List Mg) (x:ByteArray):Bool:=aK .str (c.map fun m=>(m.1,m)) x && !((ay .str zM (c.map fun m=>(m.1,m)) x).2.1==3)
def dir (c:List Mg) (e:ByteArray×List ByteArray):List ByteArray:=if TA c e.1=true then (match e.2.filter (dH c) with|[o]=>e.2.filter (fun k => !decide (k=o))|_=>[]) else []
def oK (c:List Mg) (S:fF) (e:ByteArray×List ByteArray):fF:=(dir c e).foldl (fun S k=>cT c (c.length+1) k S) S
def c7 (c:List Mg):fF:=(bK c).foldl (oK c) []
abbrev bU (c:List Mg):Aw:=c.map fun m=>(m.1,m)
section
variable {c:List Mg}
theorem jK {e:ByteArray×List ByteArray} {y:ByteArray} (h:y∈dir c e):y∈e.2:=by
 unfold dir at h
 split at h
 ·split at h
  ·exact (List.mem_filter.1 h).1
  ·cases h
 ·cases h
structure nG (c:List Mg) (l:List (ByteArray×List ByteArray)) (S:fF):Prop where
 ok:oJ S
 ZL:VC c S
 iff:∀x,has S x=true↔∃e∈l,∃y∈dir c e,kK c y x
theorem aed {l:List ByteArray}:∀{S:fF},oJ S→VC c S→(∀k∈l,k∈ids c)→oJ (l.foldl (fun S k=>cT c (c.length+1) k S) S)∧VC c (l.foldl (fun S k=>cT c (c.length+1) k S) S) ∧
  ∀x,has (l.foldl (fun S k=>cT c (c.length+1) k S) S) x=true↔has S x=true∨∃y∈l,kK c y x:=by
 induction l with
 |nil=>intro S h1 h2 _;exact ⟨h1,h2,fun x=>by simp⟩
 |cons k l ih =>
  intro S h1 h2 h3
  have hn:Cr c S<c.length+1:=by have:=O9 (c:=c) S;omega
  have hk:=h3 k (List.mem_cons_self ..)
  obtain ⟨h4,h5⟩:=Pa h1 h2 hk hn
  obtain ⟨h6,h7,h8⟩:=ih (iQ h1).1 h4 fun k hk=>h3 k (List.mem_cons_of_mem _ hk)
  refine ⟨h6,h7,fun x=>?_⟩
  rw [List.foldl_cons,h8,h5]
  simp only [List.mem_cons,exists_eq_or_imp,or_assoc]
theorem nG.step {l:List (ByteArray×List ByteArray)} {S:fF} (h:nG c l S) {e:ByteArray×List ByteArray} (he:∀k∈e.2,k∈ids c):nG c (l++[e]) (oK c S e):=by
 obtain ⟨h1,h2,h3⟩:=aed (l:=dir c e) h.ok h.ZL fun k hk=>he k (jK hk)
 refine ⟨h1,h2,fun x=>?_⟩
 unfold oK
 rw [h3,h.iff]
 constructor
 ·rintro (⟨e', he', h⟩ | h)
  ·exact ⟨e',by simp [he'],h⟩
  ·exact ⟨e,by simp,h⟩
 ·rintro ⟨e', he', h⟩
  rcases List.mem_append.1 he' with he'|he'
  ·exact .inl ⟨e',he',h⟩
  ·rw [List.mem_singleton] at he';subst he';exact .inr h
theorem nG.all : ∀ {r l : List (ByteArray × List ByteArray)} {S : fF}, nG c l S → (∀ e ∈ r, ∀ k ∈ e.2, k ∈ ids c) → nG c (l ++ r) (r.foldl (oK c) S)
 |[],l,S,h,_=>by simpa using h
 |e::r,l,S,h,hr=>by
  have:=nG.all (h.step (hr e (List.mem_cons_self ..))) fun e he=>hr e (List.mem_cons_of_mem _ he)
  simpa using this
theorem nG.nil:nG c [] []:=⟨.nil,fun y hy=>by simp [has,aK] at hy,fun x=>by simp [has,aK]⟩
theorem IQ:∀e∈bK c,∀k∈e.2,k∈ids c:=fun e he k hk=>by
 rw [(vw.1 he).1] at hk;exact gW hk
theorem yp {l:List (ByteArray×List ByteArray)} (hp:l.Perm (bK c)):nG c l (l.foldl (oK c) []):=by
 have:=nG.all (c:=c) (r:=l) (l:=[]) .nil fun e he=>IQ e (hp.mem_iff.1 he)
 simpa using this
theorem tH (c:List Mg):nG c (bK c) (c7 c):=yp (.refl _)
theorem Y7 {l:List (ByteArray×List ByteArray)} (hp:l.Perm (bK c)):l.foldl (oK c) []=c7 c :=
 (yp hp).ok.ext (tH c).ok fun x=>by
  rw [(yp hp).iff,(tH c).iff]
  exact ⟨fun ⟨e,he,h⟩=>⟨e,hp.mem_iff.1 he,h⟩,fun ⟨e,he,h⟩=>⟨e,hp.mem_iff.2 he,h⟩⟩
def dP (c:List Mg) (x:ByteArray):Bool:=has (c7 c) x
theorem Cf (x:ByteArray):ay .str false (c7 c) x=dP c x:=O3 kS (tH c).ok.c (tH c).ok.t
theorem je {x:ByteArray}:dP c x=true↔∃p y,y∈dir c (p,kids c p)∧kK c y x:=by
 unfold dP
 rw [(tH c).iff]
 constructor
 ·rintro ⟨⟨p, l⟩, he, y, hy, hd⟩
  have:=(vw.1 he).1
  simp only at this;subst this
  exact ⟨p,y,hy,hd⟩
 ·rintro ⟨p, y, hy, hd⟩
  refine ⟨(p,kids c p),vw.2 ⟨rfl,fun h=>?_⟩,y,hy,hd⟩
  have:=jK hy
  simp only at this h
  rw [h] at this;cases this
theorem TB {x z:ByteArray} (h:dP c x=true) (hz:z∈kids c x):dP c z=true:=(tH c).ZL x h z hz
theorem Y8 {m1:List (Mg×Bool)} {m6:Aw} {DY:Int} {DZ:Bool} {l PX:List ByteArray} {o:ByteArray} {m:Mg} {S:fF} (hc:c.length<1000000) (hl:l.length≤c.length) (Qx:∀k∈l,k∈ids c) (hb:PX.getD 0 (bs [])=o) (qE:0<PX.length) (hS:oJ S) :
  iter (fun x=>aq (gH66_2b_3 x)) (0,1,DY,DZ,l,((l.length:Nat):Int),(0:Int),PX,bK c,m.1,m.2.1,m.2.2.1,m.2.2.2.1,m.2.2.2.2,m6,cE c,S,m1,()) =
   some (DY,DZ,bK c,m.1,m.2.1,m.2.2.1,m.2.2.2.1,m.2.2.2.2,m6,cE c,(l.filter fun k => !decide (k=o)).foldl (fun S k=>cT c (c.length+1) k S) S,m1,()):=by
 refine aO l (fun k (S : fF) => (0, 1, DY, DZ, l, ((l.length : Nat) : Int), (k : Int), PX, bK c, m.1, m.2.1, m.2.2.1, m.2.2.2.1, m.2.2.2.2, m6, cE c, S, m1, ()))
  (fun S r=>(DY,DZ,bK c,m.1,m.2.1,m.2.2.1,m.2.2.2.1,m.2.2.2.2,m6,cE c,(r.filter fun k => !decide (k=o)).foldl (fun S k=>cT c (c.length+1) k S) S,m1,())) (fun _ S=>oJ S) ?_ ?_ (s:=S) hS
 ·intro pre x post S hx hS
  have hlen:l.length=pre.length+(post.length+1):=by rw [hx];simp
  have hd:l.getD pre.length (bs [])=x:=by rw [hx];exact bg rfl
  have i1:fh (pre.length:Int) ((l.length:Nat):Int)=true:=bX (by omega) (by omega)
  have i2:fh (0:Int) ((1:Nat):Int)=true:=bX (by omega) (by omega)
  have r1:gH .i64 ((pre.length:Int)+1)=true:=aJ (by omega) (by omega)
  have d1:decide (0<PX.length)=true:=decide_eq_true qE
  left
  by_cases K1:x=o
  ·refine ⟨S, ?_, hS, by rw [List.filter_cons_of_neg (by simp [K1])]⟩
   simp only [gH66_2b_3,av,bf,aU,aQ,aa,aA,Int.toNat_natCast,Int.toNat_zero,Nat.zero_add,Nat.add_zero,hd,hb,i1,i2,r1,d1,ak,bp,seq_eq,K1]
   rw [if_pos (by omega),FJ (by simp)]
   rfl
  ·refine ⟨cT c (c.length + 1) x S, ?_, (iQ hS).1, by rw [List.filter_cons_of_pos (by simp [K1])]; rfl⟩
   simp only [gH66_2b_3,av,bf,aU,aQ,aa,aA,Int.toNat_natCast,Int.toNat_zero,Nat.zero_add,Nat.add_zero,hd,hb,i1,i2,r1,d1,ak,bp,seq_eq]
   rw [if_pos (by omega),M7 (by simp [K1])]
   rw [aj (kH96 hc hS (Qx x (by rw [hx];simp)))]
   rfl
 ·intro S _
  simp only [gH66_2b_3,av,aa,bp]
  rw [if_neg (by omega)]
  rfl
theorem aee {m1:List (Mg×Bool)} {e:ByteArray×List ByteArray} {S:fF} (hc:c.length<1000000) (he:e∈bK c) (hS:oJ S):aq (gH66_2 e (bK c,m1,bU c,cE c,S,()))=some (bK c,m1,bU c,cE c,oK c S e,()):=by
 have PL:=(vw.1 he).1
 have hl:e.2.length≤c.length:=by rw [PL];exact oI c e.1
 simp only [gH66_2,av,aU,aa,aA,bG,dF,ak,bP]
 unfold oK dir TA
 cases hh:aK .str (bU c) e.1 with
 |false=>rw [b8];simp
 |true =>
  rw [bM]
  by_cases h3:(ay .str zM (bU c) e.1).2.1=3
  ·rw [bI, if_pos h3, if_neg (by simp [h3])]
   rfl
  ·rw [bI, if_neg h3, if_pos (by simp [h3])]
   rw [aj (kH98 (by omega))]
   obtain ⟨b,iq,eB,Cl⟩:=kH97 (m3:=bU c) (m4:=bK c) (m5:=cE c) (m6:=S) (l:=e.2) (by omega)
   rw [aj Cl]
   have hf:(e.2.filter fun v => !(!ay .str false (cE c) v))=e.2.filter (dH c):=List.filter_congr fun v _=>by rw [Tx];simp
   rw [hf] at eB ⊢
   simp only [dF,ak,bI]
   by_cases h1:(e.2.filter (dH c)).length=1
   ·rw [if_pos (by omega)]
    obtain ⟨o,ho⟩:=List.length_eq_one_iff.1 h1
    rw [ho] at eB h1 ⊢
    simp only [List.length_singleton] at eB ⊢
    have qE:0<b.length:=by
     cases b with
     |nil=>simp at eB
     |cons _ _=>simp
    have hbo:b.getD 0 (bs [])=o:=by
     cases b with
     |nil=>simp at eB
     |cons x r=>simp at eB;simp [eB]
    rw [aj (Y8 (m:=ay .str zM (bU c) e.1) (o:=o) hc hl (IQ e he) hbo qE hS)]
    simp only [dF,ak]
   ·rw [if_neg (by omega)]
    have:(match e.2.filter (dH c) with|[o]=>e.2.filter (fun k => !decide (k=o))|_=>[])=([]:List ByteArray):=by
     split
     ·rename_i o ho;rw [ho] at h1;simp at h1
     ·rfl
    rw [this]
    rfl
theorem Pb {L:List Mg} (h:nF L):aq (FH66 (bk L))=some (bk L,bU (cnt L),bK (cnt L),cE (cnt L),c7 (cnt L),()):=by
 have hl:=h.len
 have yC:(cnt L).length≤60:=by
  have:(cnt L).length≤L.length:=by
   have hn:(cnt L).Nodup:=List.Pairwise.imp (fun {a b} h e=>by subst e;rw [show slt a.1 a.1=false from gV (t:=.str) kS a.1] at h;cases h) (gv L)
   exact List.Nodup.length_le_of_subset hn fun m hm=>sq hm
  omega
 have hby:pY L=bU (cnt L):=Ey L
 unfold FH66
 simp only [aA,bG,aU]
 rw [aj (kH47 h.s (by omega))]
 simp only
 rw [aj (aeb (by omega))]
 simp only [FH95,aa,aN]
 rw [hby,aj (Tw (gv L) (by omega))]
 simp only [List.isEmpty_nil,ak]
 rw [aj (aec (gv L) (by omega))]
 simp only
 have hmq:run (fun _=>none) (.mq gH66_2 (bK (cnt L)) (bK (cnt L),bk L,bU (cnt L),cE (cnt L),[],()))=some (bK (cnt L),bk L,bU (cnt L),cE (cnt L),c7 (cnt L),()):=by
  refine Eq.trans FK (gA fun l hp=>?_)
  have := (Ev (step := fun e a => run (fun _ => none) (gH66_2 e a)) (fun (a : EW × List (Mg × Bool) × Aw × fF × fF × Unit) e => (bK (cnt L), bk L, bU (cnt L), cE (cnt L), oK (cnt L) a.2.2.2.2.1 e, ())) (fun a => ∃ S, a = (bK (cnt L), bk L, bU (cnt L), cE (cnt L), S, ()) ∧ oJ S) l (bK (cnt L), bk L, bU (cnt L), cE (cnt L), [], ()) ⟨[], rfl, .nil⟩ (by
   rintro e he _ ⟨S,rfl,hS⟩
   refine ⟨aee (by omega) (hp.mem_iff.1 he) hS,_,rfl,?_⟩
   exact (su hS).1)).1
  rw [this]
  have key:∀(l:List (ByteArray×List ByteArray)) (S:fF),l.foldl (fun (a:EW×List (Mg×Bool)×Aw×fF×fF×Unit) e=>(bK (cnt L),bk L,bU (cnt L),cE (cnt L),oK (cnt L) a.2.2.2.2.1 e,())) (bK (cnt L),bk L,bU (cnt L),cE (cnt L),S,())=(bK (cnt L),bk L,bU (cnt L),cE (cnt L),l.foldl (oK (cnt L)) S,()):=by
   intro l
   induction l with
   |nil=>intro S;rfl
   |cons e l ih=>intro S;exact ih _
  rw [key,Y7 hp]
 rw [aj hmq]
end
end Go.Proofs.Tryz
end
section
namespace Go.Proofs.Tryz
open Go.AM
set_option maxRecDepth 100000
theorem TC {A B : Type} {F : (A → Option B) → A → Option B} (R : Nat → A → B → Prop)
  (h:∀rec n x y,R n x y→(∀n' x' y',n'<n→R n' x' y'→rec x'=some y')→F rec x=some y):∀n x y,R n x y→xk F x=some y:=by
 have key:∀k n x y,R n x y→n<k→K3 F k x=some y:=by
  intro k
  induction k with
  |zero=>intro n x y _ hm;omega
  |succ k ih=>intro n x y hx hm;exact h _ n x y hx fun n' x' y' hn' hx'=>ih n' x' y' hx' (by omega)
 intro n x y hx
 exact HP (N:=n+1) fun k hk=>key k n x y hx (by omega)
section
variable {c:List Mg}
theorem gX {x y:ByteArray}:y∈kids c x↔∃m∈c,m.1=y∧m.2.1=2∧m.2.2.1=x:=by
 unfold kids
 rw [List.mem_map]
 constructor
 ·rintro ⟨m, hm, rfl⟩
  obtain ⟨h1,h2⟩:=List.mem_filter.1 hm
  simp only [decide_eq_true_eq] at h2
  exact ⟨m,h1,rfl,h2⟩
 ·rintro ⟨m, hm, rfl, h⟩
  exact ⟨m,List.mem_filter.2 ⟨hm,by simpa using h⟩,rfl⟩
theorem pg (hs:SI c) {x x' y:ByteArray} (h:y∈kids c x) (h':y∈kids c x'):x=x':=by
 obtain ⟨m,h1,h2,_,h3⟩:=gX.1 h
 obtain ⟨m',h1',h2',_,Y9⟩:=gX.1 h'
 have:=hs.inj h1 h1' (h2.trans h2'.symm)
 subst this
 exact h3.symm.trans Y9
inductive gY (c : List Mg) (x : ByteArray) : Nat → ByteArray → Prop
 |zero:gY c x 0 x
 |step {n y z} (h:gY c x n y) (hz:z∈kids c y):gY c x (n+1) z
theorem gY.add {n m:Nat} {x y z:ByteArray} (h:gY c x n y) (h':gY c y m z):gY c x (n+m) z:=by
 induction h' with
 |zero=>exact h
 |step _ hz ih=>exact .step ih hz
theorem gY.up (hs:SI c) {n:Nat} {x y:ByteArray} (h:gY c x n y):∀{m:Nat} {x':ByteArray},gY c x' m y→n≤m→gY c x' (m - n) x:=by
 induction h with
 |zero=>intro m x' h' _;exact h'
 |step h hz ih =>
  intro m x' h' hle
  cases h' with
  |zero=>omega
  |step h2 qd =>
   have e:=pg hs hz qd
   subst e
   have:=ih h2 (by omega)
   rwa [Nat.add_sub_add_right]
theorem gY.desc {n:Nat} {x y:ByteArray} (h:gY c x n y):kK c x y:=by
 induction h with
 |zero=>exact .refl _
 |step _ hz ih=>exact .step ih hz
theorem kK.KN {x y:ByteArray} (h:kK c x y):∃n,gY c x n y:=by
 induction h with
 |refl=>exact ⟨0,.zero⟩
 |step _ hz ih=>obtain ⟨n,h⟩:=ih;exact ⟨n+1,.step h hz⟩
def PY (c:List Mg) (t:ByteArray):Prop:=∀x,t∉kids c x
theorem gY.deep (hs:SI c) {t:ByteArray} (ht:PY c t) {n m:Nat} {y:ByteArray} (h:gY c t n y) (h':gY c t m y):n=m:=by
 have key:∀{n m:Nat},gY c t n y→gY c t m y→n≤m→n=m:=fun {n m} h h' hle=>by
  have:=h.up hs h' hle
  generalize hk:m - n=k at this
  cases this with
  |zero=>omega
  |step _ hz=>exact absurd hz (ht _)
 rcases Nat.le_total n m with hle|hle
 ·exact key h h' hle
 ·exact (key h' h hle).symm
theorem gY.short (hs:SI c) {t:ByteArray} (ht:PY c t) (Co:t∈ids c) {n:Nat} {y:ByteArray} (h:gY c t n y):n<c.length:=by
 have key:∃l:List ByteArray,l.length=n+1∧l.Nodup∧∀a∈l,a∈ids c∧∃i,i≤n∧gY c t i a:=by
  induction h with
  |zero=>exact ⟨[t],rfl,by simp,fun a ha=>by rw [List.mem_singleton] at ha;subst ha;exact ⟨Co,0,Nat.le_refl _,.zero⟩⟩
  |step h hz ih =>
   rename_i n' y' z
   obtain ⟨l,h1,h2,h3⟩:=ih
   have hp:gY c t (n'+1) z:=.step h hz
   refine ⟨z::l,by simp [h1],List.nodup_cons.2 ⟨fun hzl=>?_,h2⟩,fun a ha=>?_⟩
   ·obtain ⟨_, i, hi, hpi⟩ := h3 z hzl
    have:=hpi.deep hs ht hp
    omega
   ·rcases List.mem_cons.1 ha with rfl | ha
    ·exact ⟨gW hz,n'+1,Nat.le_refl _,hp⟩
    ·obtain ⟨q1, i, hi, hpi⟩ := h3 a ha
     exact ⟨q1,i,by omega,hpi⟩
 obtain ⟨l,h1,h2,h3⟩:=key
 have:=List.Nodup.length_le_of_subset h2 (fun a ha=>(h3 a ha).1)
 have hl:(ids c).length=c.length:=by simp [ids]
 omega
def fZ (c:List Mg) (x:ByteArray):List ByteArray:=(kids c x).filter fun k => !dP c k
theorem vz {x y:ByteArray} (h:y∈fZ c x):y∈kids c x:=(List.mem_filter.1 h).1
theorem TD (x:ByteArray):(fZ c x).length≤c.length:=Nat.le_trans (List.length_filter_le ..) (oI c x)
def cA (c : List Mg) : Nat → ByteArray → List ByteArray
 |0,_=>[]
 |n+1,x=>match fZ c x with
  |[]=>[x]
  |k::l=>ot .str ((k::l).flatMap (cA c n))
def ga (c:List Mg) (t:ByteArray):List ByteArray:=cA c (c.length+1) t
theorem TE (hs:SI c) (x:ByteArray):(kids c x).Nodup:=by
 unfold kids List.Nodup
 rw [List.pairwise_map]
 refine List.Pairwise.imp (fun {a b} h e=>?_) (List.Pairwise.filter _ hs)
 rw [e,show slt b.1 b.1=false from gV (t:=.str) kS b.1] at h;cases h
theorem me : ∀ {n : Nat} {x y : ByteArray}, y ∈ cA c n x → kK c x y
 |0,_,_,h=>by cases h
 |n+1,x,y,h=>by
  unfold cA at h
  split at h
  ·rw [List.mem_singleton] at h;subst h;exact .refl _
  ·rename_i k l hl
   rw [(ej (t:=.str) _).mem_iff,List.mem_flatMap] at h
   obtain ⟨a,ha,h⟩:=h
   exact .cons (vz (by rw [hl];exact ha)) (me h)
theorem vA (hs : SI c) {t : ByteArray} (ht : PY c t) : ∀ {n d : Nat} {x : ByteArray}, gY c t d x → (cA c n x).Nodup
 |0,_,_,_=>.nil
 |n+1,d,x,hp=>by
  unfold cA
  split
  ·simp
  ·rename_i k l hl
   refine (ej (t:=.str) _).nodup_iff.2 ?_
   have hn:(k::l).Nodup:=by rw [←hl];exact List.Pairwise.filter _ (TE hs x)
   have hk:∀a∈k::l,a∈kids c x:=fun a ha=>vz (by rw [hl];exact ha)
   refine List.pairwise_flatMap.2 ⟨fun a ha=>vA hs ht (hp.step (hk a ha)),List.Pairwise.imp_of_mem (fun {a b} ha hb hab=>?_) hn⟩
   intro y hya y' hyb e
   subst e
   obtain ⟨i,hi⟩:=(me hya).KN
   obtain ⟨j,hj⟩:=(me hyb).KN
   have h1:=(hp.step (hk a ha)).add hi
   have h2:=(hp.step (hk b hb)).add hj
   have:=h1.deep hs ht h2
   have he:i=j:=by omega
   subst he
   have:=hi.up hs hj (Nat.le_refl _)
   rw [Nat.sub_self] at this
   cases this
   exact hab rfl
theorem kL (hs:SI c) {t:ByteArray} (ht:PY c t) (Co:t∈ids c) {n d:Nat} {x:ByteArray} (hp:gY c t d x):(cA c n x).length≤c.length:=by
 have h:=List.Nodup.length_le_of_subset (vA hs ht (n:=n) hp) (l₂:=ids c) fun y hy=>by
  have hd:kK c t y:=hp.desc.trans (me hy)
  cases hd with
  |refl=>exact Co
  |step _ hz=>exact gW hz
 have hl:(ids c).length=c.length:=by simp [ids]
 omega
end
end Go.Proofs.Tryz
end
section
namespace Go.Proofs.Tryz
open Go.AM
set_option maxRecDepth 100000
section
variable {c:List Mg}
theorem aef (hc:c.length<1000000) (x:ByteArray):∃b,b.take (fZ c x).length=fZ c x∧(fZ c x).length≤b.length∧aq (FH104 x (bU c) (bK c) (cE c) (c7 c))=some (0,(fZ c x).length,b,bU c,bK c,cE c,c7 c,()):=by
 have hk:=oI c x
 obtain ⟨b,h1,h2,h3⟩:=Tv (m3:=bU c) (m4:=bK c) (m5:=cE c) (m6:=c7 c) (l:=kids c x) (by omega)
 have hf:(kids c x).filter (fun v => !(ay .str false (c7 c) v))=fZ c x:=List.filter_congr fun v _=>by rw [Cf]
 rw [hf] at h2 h3
 refine ⟨b,h2,by rw [h1];exact List.length_filter_le ..,?_⟩
 unfold FH104
 simp only [aA,vu]
 rw [aj (kH98 (by omega))]
 simp only
 rw [aj h3]
 rfl
abbrev ZU:=Nat×List ByteArray×Aw×EW×fF×fF×Unit
theorem Pc (hs:SI c) (hc:c.length<1000000) {t:ByteArray} (ht:PY c t) (Co:t∈ids c):aq (FH76fix t (bU c) (bK c) (cE c) (c7 c))=some ((ga c t).length,ga c t,bU c,bK c,cE c,c7 c,()):=by
 have h0:aq (FH76fix t (bU c) (bK c) (cE c) (c7 c))=xk (A:=kA.T) (B:=kB.T) (fun r y=>run r (FH76 y.1 y.2.1 y.2.2.1 y.2.2.2.1 y.2.2.2.2.1)) (t,bU c,bK c,cE c,c7 c,()):=rfl
 refine h0.trans ?_
 refine TC (A:=kA.T) (B:=kB.T) (fun n a b=>∃z d,a=(z,bU c,bK c,cE c,c7 c,())∧gY c t d z∧d+n=c.length∧b=((cA c (n+1) z).length,cA c (n+1) z,bU c,bK c,cE c,c7 c,())) ?_ c.length _ _ ⟨t,0,rfl,.zero,by omega,rfl⟩
 rintro rec n _ _ ⟨z,d,rfl,hp,hn,rfl⟩ ih
 have hshort:=hp.short hs ht Co
 obtain ⟨b,iq,eB,Cl⟩:=aef hc z
 have yB:=TD (c:=c) z
 have hvl:=kL hs ht Co (n:=n+1) hp
 have e : (run rec (FH76 z (bU c) (bK c) (cE c) (c7 c)) : Option ZU) = iu (aq (FH104 z (bU c) (bK c) (cE c) (c7 c))) fun y0 => u5 (((y0.2.1 : Nat) : Int) == 0) (some (1, [z], y0.2.2.2.1, y0.2.2.2.2.1, y0.2.2.2.2.2.1, y0.2.2.2.2.2.2.1, ()))
   (iu (iter (fun a=>run rec (gH76_0 a)) (0,y0.1,y0.2.1,((y0.2.1:Nat):Int),(0:Int),[],y0.2.2.1,y0.2.2.2.1,y0.2.2.2.2.1,y0.2.2.2.2.2.1,y0.2.2.2.2.2.2.1,())) fun z2=>iu (aq (FH105 z2.1 z2.2.1)) fun y3=>some (z2.1,y3.1,z2.2.2.1,z2.2.2.2.1,z2.2.2.2.2.1,z2.2.2.2.2.2.1,())):=rfl
 refine Eq.trans (α:=Option ZU) e ?_
 rw [aj Cl]
 simp only [bI]
 cases hl:fZ c z with
 |nil =>
  have hv:cA c (n+1) z=[z]:=by unfold cA;rw [hl]
  rw [hv];rfl
 |cons k0 l0 =>
  have hlen:(fZ c z).length=l0.length+1:=by rw [hl];rfl
  rw [←hl,if_neg (by omega)]
  have hv:cA c (n+1) z=ot .str ((fZ c z).flatMap (cA c n)):=by
   conv=>lhs;unfold cA
   rw [hl]
  have hfl:((fZ c z).flatMap (cA c n)).length≤c.length:=by
   have:=(ej (t:=.str) ((fZ c z).flatMap (cA c n))).length_eq
   rw [←hv] at this
   omega
  have hit : iter (fun a => run rec (gH76_0 a)) (0, 0, (fZ c z).length, (((fZ c z).length : Nat) : Int), (0 : Int), [], b, bU c, bK c, cE c, c7 c, ()) = some (((fZ c z).flatMap (cA c n)).length, (fZ c z).flatMap (cA c n), bU c, bK c, cE c, c7 c, ()) := (aO (fZ c z) (fun k (o : List ByteArray) => (o.length, 0, (fZ c z).length, (((fZ c z).length : Nat) : Int), (k : Int), o, b, bU c, bK c, cE c, c7 c, ())) (fun o r => ((o ++ r.flatMap (cA c n)).length, o ++ r.flatMap (cA c n), bU c, bK c, cE c, c7 c, ()))
   (fun pre o => o = pre.flatMap (cA c n)) (by
    rintro pre k post _ hx rfl
    have hlen:(fZ c z).length=pre.length+(post.length+1):=by rw [hx];simp
    have hd:b.getD pre.length (bs [])=k:=by
     have:(b.take (fZ c z).length).getD pre.length (bs [])=k:=by rw [iq,hx];exact bg rfl
     rw [getD_take (by omega)] at this;exact this
    have hkk:k∈kids c z:=vz (by rw [hx];simp)
    have i1:fh (pre.length:Int) (((fZ c z).length:Nat):Int)=true:=bX (by omega) (by omega)
    have r1:gH .i64 ((pre.length:Int)+1)=true:=aJ (by omega) (by omega)
    have d1:decide (pre.length<b.length)=true:=decide_eq_true (by omega)
    have PM:=hp.step hkk
    have hsh:=PM.short hs ht Co
    left
    refine ⟨pre.flatMap (cA c n)++cA c n k,?_,by simp,by simp [List.flatMap_cons]⟩
    have e2 : (run rec (gH76_0 ((pre.flatMap (cA c n)).length, 0, (fZ c z).length, (((fZ c z).length : Nat) : Int), (pre.length : Int), pre.flatMap (cA c n), b, bU c, bK c, cE c, c7 c, ()))) = u5 (decide ((pre.length : Int) < (((fZ c z).length : Nat) : Int))) (need (fh (pre.length : Int) (((fZ c z).length : Nat) : Int)) (need (decide (0 + Int.toNat (pre.length : Int) < b.length))
      (iu (rec (b.getD (0 + Int.toNat (pre.length : Int)) (bs []), bU c, bK c, cE c, c7 c, ()) : Option ZU) fun y1 => need (decide ((pre.flatMap (cA c n)).length + ((y1.2.1.drop 0).take y1.1).length < cg)) (need (gH .i64 ((pre.length : Int) + 1))
       (some (.inl ((pre.flatMap (cA c n)).length+((y1.2.1.drop 0).take y1.1).length,0,(fZ c z).length,(((fZ c z).length:Nat):Int),(pre.length:Int)+1,(((pre.flatMap (cA c n)).drop 0).take (pre.flatMap (cA c n)).length)++((y1.2.1.drop 0).take y1.1),b,y1.2.2.1,y1.2.2.2.1,y1.2.2.2.2.1,y1.2.2.2.2.2.1,())))))))
      (some (.inr ((pre.flatMap (cA c n)).length,pre.flatMap (cA c n),bU c,bK c,cE c,c7 c,()))):=rfl
    rw [e2,Int.toNat_natCast,Nat.zero_add,hd,i1,ak,d1,ak,bp,if_pos (by omega)]
    obtain ⟨n',rfl⟩:∃n',n=n'+1:=⟨n - 1,by omega⟩
    have hq:(rec (k,bU c,bK c,cE c,c7 c,()):Option ZU)=some ((cA c (n'+1) k).length,cA c (n'+1) k,bU c,bK c,cE c,c7 c,()):=ih n' (k,bU c,bK c,cE c,c7 c,()) _ (by omega) ⟨k,d+1,rfl,PM,by omega,rfl⟩
    refine bind_eq (A:=ZU) hq ?_
    simp only [List.drop_zero,List.take_length,r1,ak]
    have hle:(pre.flatMap (cA c (n'+1))).length+(cA c (n'+1) k).length≤c.length:=by
     have:((fZ c z).flatMap (cA c (n'+1))).length=(pre.flatMap (cA c (n'+1))).length+((cA c (n'+1) k).length+(post.flatMap (cA c (n'+1))).length):=by rw [hx];simp
     omega
    rw [b7 (show _<cg by rw [fc];omega)]
    simp only [List.length_append]
    rfl) (by
    rintro o _
    have e2 : (run rec (gH76_0 (o.length, 0, (fZ c z).length, (((fZ c z).length : Nat) : Int), (((fZ c z).length : Nat) : Int), o, b, bU c, bK c, cE c, c7 c, ()))) = u5 (decide ((((fZ c z).length : Nat) : Int) < (((fZ c z).length : Nat) : Int))) (need (fh (((fZ c z).length : Nat) : Int) (((fZ c z).length : Nat) : Int)) (need (decide (0 + Int.toNat (((fZ c z).length : Nat) : Int) < b.length))
      (iu (rec (b.getD (0 + Int.toNat (((fZ c z).length : Nat) : Int)) (bs []), bU c, bK c, cE c, c7 c, ()) : Option ZU) fun y1 => need (decide (o.length + ((y1.2.1.drop 0).take y1.1).length < cg)) (need (gH .i64 ((((fZ c z).length : Nat) : Int) + 1))
       (some (.inl (o.length+((y1.2.1.drop 0).take y1.1).length,0,(fZ c z).length,(((fZ c z).length:Nat):Int),(((fZ c z).length:Nat):Int)+1,((o.drop 0).take o.length)++((y1.2.1.drop 0).take y1.1),b,y1.2.2.1,y1.2.2.2.1,y1.2.2.2.2.1,y1.2.2.2.2.2.1,())))))))
      (some (.inr (o.length,o,bU c,bK c,cE c,c7 c,()))):=rfl
    rw [e2,bp,if_neg (by omega)]
    simp) (s:=[]) rfl)
  refine bind_eq (A:=Nat×List ByteArray×Aw×EW×fF×fF×Unit) hit ?_
  simp only [FH105,xu]
  have hsrt:uE .str ((fZ c z).flatMap (cA c n)) ((fZ c z).flatMap (cA c n)).length=some (ot .str ((fZ c z).flatMap (cA c n)),()):=oH kS (ej _) (o5 kS _) (by omega)
  refine bind_eq hsrt ?_
  rw [hv]
  have Za:=(ej (t:=.str) ((fZ c z).flatMap (cA c n))).length_eq
  rw [Za]
  rfl
end
end Go.Proofs.Tryz
end
section
namespace Go.Proofs.Tryz
open Go.AM
set_option maxRecDepth 100000
def msg (c:List Mg) (x:ByteArray):Mg:=ay .str zM (bU c) x
def mg (c:List Mg) (x:ByteArray):Bool:=aK .str (bU c) x
section
variable {c:List Mg}
theorem bD {x:ByteArray}:mg c x=true↔x∈ids c:=by
 unfold mg ids
 rw [dx kS]
 constructor
 ·rintro ⟨v, hv⟩
  obtain ⟨m,hm,h⟩:=List.mem_map.1 hv
  exact List.mem_map.2 ⟨m,hm,congrArg Prod.fst h⟩
 ·intro h
  obtain ⟨m,hm,rfl⟩:=List.mem_map.1 h
  exact ⟨m,List.mem_map.2 ⟨m,hm,rfl⟩⟩
theorem fG (hs:SI c) {m:Mg} (hm:m∈c):msg c m.1=m:=fR kS hs.ZT (List.mem_map.2 ⟨m,hm,rfl⟩)
theorem sv (hs:SI c) {x:ByteArray} (h:mg c x=true):msg c x∈c∧(msg c x).1=x:=by
 obtain ⟨m,hm,rfl⟩:=List.mem_map.1 (bD.1 h)
 rw [fG hs hm];exact ⟨hm,rfl⟩
theorem kN (hs:SI c) {x:ByteArray} (h:mg c x=true) (hk:(msg c x).2.1=1):PY c x:=by
 intro y hy
 obtain ⟨m,hm,h1,h2,_⟩:=gX.1 hy
 subst h1
 rw [fG hs hm] at hk
 omega
def ze (c : List Mg) : Nat → ByteArray → Option ByteArray
 |0,_=>none
 |n+1,x=>if mg c x=true then (if (msg c x).2.1=3 then none else if dP c x=true then none else if (msg c x).2.1=1 then some x else ze c n (msg c x).2.2.1) else none
theorem EA (hs : SI c) : ∀ {n : Nat} {x t : ByteArray}, ze c n x = some t → mg c t = true ∧ (msg c t).2.1 = 1 ∧ dP c t = false
 |0,_,_,h=>by cases h
 |n+1,x,t,h=>by
  unfold ze at h
  split at h<;>try (cases h;done)
  rename_i h1
  split at h<;>try (cases h;done)
  split at h<;>try (cases h;done)
  rename_i h3
  split at h
  ·rename_i h4;cases h;exact ⟨h1,h4,by simpa using h3⟩
  ·exact EA hs h
abbrev mh (c:List Mg) (x:ByteArray):Option ByteArray:=ze c c.length x
theorem kH74 (hs:SI c) (hc:c.length<1000000) (x:ByteArray):aq (FH74 x (bU c) (bK c) (cE c) (c7 c)) =
  some (match mh c x with|some t=>((ga c t).length,true,ga c t,bU c,bK c,cE c,c7 c,())|none=>(0,false,[],bU c,bK c,cE c,c7 c,())):=by
 have key:∀(l:List (ByteArray×Mg)) (x:ByteArray),∃x',yO (fun e a=>run (fun _=>none) (gH74_0 e a)) l (x,bU c,bK c,cE c,c7 c,()) =
   some (match ze c l.length x with|some t=>.inr ((ga c t).length,true,ga c t,bU c,bK c,cE c,c7 c,())|none=>x') ∧
   (ze c l.length x=none→x' = .inr (0,false,[],bU c,bK c,cE c,c7 c,())∨∃y,x' = .inl (y,bU c,bK c,cE c,c7 c,())):=by
  intro l
  induction l with
  |nil=>intro x;exact ⟨.inl (x,bU c,bK c,cE c,c7 c,()),rfl,fun _=>.inr ⟨x,rfl⟩⟩
  |cons e l ih =>
   intro x
   have hg:run (fun _=>none) (gH74_0 e (x,bU c,bK c,cE c,c7 c,()))=if mg c x=true then (if (msg c x).2.1=3 then some (.inr (0,false,[],bU c,bK c,cE c,c7 c,())) else if dP c x=true then some (.inr (0,false,[],bU c,bK c,cE c,c7 c,())) else if (msg c x).2.1=1 then some (.inr ((ga c x).length,true,ga c x,bU c,bK c,cE c,c7 c,())) else some (.inl ((msg c x).2.2.1,bU c,bK c,cE c,c7 c,()))) else some (.inr (0,false,[],bU c,bK c,cE c,c7 c,())):=by
    simp only [gH74_0,av,aA,aU,aa,dF,ak,bP,bI,Cf]
    rw [show aK .str (bU c) x=mg c x from rfl,show ay .str zM (bU c) x=msg c x from rfl,ko]
    split
    ·rename_i h1
     split
     ·rfl
     ·rw [ko]
      split
      ·rfl
      ·split
       ·rename_i h4
        rw [aj (Pc hs hc (kN hs h1 h4) (bD.1 h1))]
       ·rfl
    ·rfl
   simp only [yO,hg,List.length_cons,ze]
   by_cases h1:mg c x=true
   ·rw [if_pos h1, if_pos h1]
    by_cases h2:(msg c x).2.1=3
    ·rw [if_pos h2,if_pos h2];exact ⟨_,rfl,fun _=>.inl rfl⟩
    ·rw [if_neg h2, if_neg h2]
     by_cases h3:dP c x=true
     ·rw [if_pos h3,if_pos h3];exact ⟨_,rfl,fun _=>.inl rfl⟩
     ·rw [if_neg h3, if_neg h3]
      by_cases h4:(msg c x).2.1=1
      ·rw [if_pos h4,if_pos h4];exact ⟨.inr (0,false,[],bU c,bK c,cE c,c7 c,()),rfl,fun h=>by cases h⟩
      ·rw [if_neg h4,if_neg h4];exact ih _
   ·rw [if_neg h1,if_neg h1];exact ⟨_,rfl,fun _=>.inl rfl⟩
 unfold FH74
 simp only [aA]
 have hmp:∃x',run (fun _=>none) (.mp gH74_0 (bU c) (x,bU c,bK c,cE c,c7 c,()))=some (match mh c x with|some t=>.inr ((ga c t).length,true,ga c t,bU c,bK c,cE c,c7 c,())|none=>x') ∧
   (mh c x=none→x' = .inr (0,false,[],bU c,bK c,cE c,c7 c,())∨∃y,x' = .inl (y,bU c,bK c,cE c,c7 c,())):=by
  obtain ⟨x',h1,h2⟩:=key (bU c) x
  have hlen:(bU c).length=c.length:=List.length_map ..
  rw [hlen] at h1 h2
  refine ⟨x',Eq.trans WX (gA fun l hp=>?_),h2⟩
  have yB:l.length=(bU c).length:=hp.length_eq
  have hany:∀(l l':List (ByteArray×Mg)) (a:ByteArray×Aw×EW×fF×fF×Unit),l.length=l'.length→yO (fun e a=>run (fun _=>none) (gH74_0 e a)) l a=yO (fun e a=>run (fun _=>none) (gH74_0 e a)) l' a:=by
   intro l
   induction l with
   |nil =>
    intro l' a h
    cases l' with
    |nil=>rfl
    |cons _ _=>simp at h
   |cons e l ih =>
    intro l' a h
    cases l' with
    |nil=>simp at h
    |cons e' l' =>
     have hs:run (fun _=>none) (gH74_0 e a)=run (fun _=>none) (gH74_0 e' a):=rfl
     simp only [yO,hs]
     split
     ·rfl
     ·exact ih l' _ (by simpa using h)
     ·rfl
  rw [hany l (bU c) _ yB]
  exact h1
 obtain ⟨x',h1,h2⟩:=hmp
 rw [aj h1]
 cases hst:mh c x with
 |some t=>simp only [mW,aa]
 |none =>
  rcases h2 hst with rfl|⟨y,rfl⟩
  ·simp only [mW,aa]
  ·simp only [oh,aa]
def EB (x:ByteArray) (l:List ByteArray):Bool:=l.any fun y=>decide (y=x)
theorem sw {x:ByteArray} {l:List ByteArray}:EB x l=true↔x∈l:=by
 unfold EB;rw [List.any_eq_true]
 constructor
 ·rintro ⟨y,hy,h⟩;have:=of_decide_eq_true h;subst this;exact hy
 ·intro h;exact ⟨x,h,decide_eq_true rfl⟩
theorem k75 {l:List ByteArray} (hl:l.length<1000000000) (x:ByteArray):aq (F75 l x)=some (EB x l,()):=by
 have hi:iter (fun a=>run (fun _=>none) (g103_0 a)) (l,x,((l.length:Nat):Int),(0:Int),())=some (match eD (fun y=>decide (y=x)) 0 l with|some k=>Sum.inl (((k:Nat):Int),())|none=>Sum.inr ()):=by
  refine aO l (fun k (_:Nat)=>(l,x,((l.length:Nat):Int),(k:Int),())) (fun k r=>match eD (fun y=>decide (y=x)) k r with|some k=>Sum.inl (((k:Nat):Int),())|none=>Sum.inr ()) (fun pre k=>k=pre.length) ?_ ?_ (s:=0) rfl
  ·rintro pre y post k hx rfl
   have hlen:l.length=pre.length+(post.length+1):=by rw [hx];simp
   have hd:l.getD pre.length (bs [])=y:=by rw [hx];exact bg rfl
   have i1:fh (pre.length:Int) ((l.length:Nat):Int)=true:=bX (by omega) (by omega)
   have r1:gH .i64 ((pre.length:Int)+1)=true:=aJ (by omega) (by omega)
   simp only [g103_0,av,bf,aQ,aa,Int.toNat_natCast,hd,i1,r1,ak,bp,seq_eq]
   rw [if_pos (by omega)]
   by_cases h:y=x
   ·right
    rw [if_pos h.symm]
    simp [eD,h]
   ·left
    refine ⟨pre.length+1,?_,by simp,?_⟩
    ·rw [if_neg (fun e=>h e.symm)];rfl
    ·simp [eD,h]
  ·rintro k _
   simp only [g103_0,av,bp,aa]
   rw [if_neg (by omega)];rfl
 unfold F75 F103
 simp only [aA,bG]
 rcases lz (fun y=>decide (y=x)) l 0 with ⟨p,y,q,h1,h2,h3,h4⟩|⟨h1,h2⟩
 ·rw [h4] at hi
  rw [aj hi]
  have hy:y=x:=by simpa using h3
  simp only [oh,aa,aN]
  congr 2
  rw [Bool.eq_iff_iff,decide_eq_true_eq,sw]
  exact ⟨fun _=>by rw [h1,hy];simp,fun _=>by omega⟩
 ·rw [h2] at hi
  rw [aj hi]
  simp only [mW,aa,aN]
  congr 2
  rw [Bool.eq_iff_iff,decide_eq_true_eq,sw]
  refine ⟨fun h=>by omega,fun h=>?_⟩
  have:=h1 x h
  simp at this
def ek (c:List Mg) (x:ByteArray):Int×Int :=
 if mg c x=true then (if (msg c x).2.1=3 then (0,18) else if dP c x=true then (2,0) else match mh c x with
  |none=>(1,0)
  |some t=>if EB x (ga c t)=true then (if 1<(ga c t).length then (5,0) else (4,0)) else (3,0)) else (0,5)
def pZ (c:List Mg) (x:ByteArray):List ByteArray×Int:=if mg c x=true then (if (msg c x).2.1=1 then (ga c x,0) else ([],18)) else ([],5)
theorem pn {L:List Mg} (h:nF L):(cnt L).length≤60:=by
 have hn:(cnt L).Nodup:=List.Pairwise.imp (fun {a b} h e=>by subst e;rw [show slt a.1 a.1=false from gV (t:=.str) kS a.1] at h;cases h) (gv L)
 have:=List.Nodup.length_le_of_subset hn (fun m hm=>sq hm)
 have:=h.len
 omega
theorem kH32 {L:List Mg} (h:nF L) (x:ByteArray):aq (FH32 x (bk L))=some ((ek (cnt L) x).1,(ek (cnt L) x).2,bk L,()):=by
 have hs:=gv L
 have hc:=pn h
 unfold FH32
 simp only [aA,GA,aN,av,b8]
 rw [aj (Pb h)]
 simp only [aa,bP,bI,Cf]
 rw [show aK .str (bU (cnt L)) x=mg (cnt L) x from rfl,show ay .str zM (bU (cnt L)) x=msg (cnt L) x from rfl,ko]
 unfold ek
 by_cases h1:mg (cnt L) x=true
 ·rw [if_pos h1, if_pos h1, if_pos trivial]
  by_cases h2:(msg (cnt L) x).2.1=3
  ·rw [if_pos h2,if_pos h2]
  ·rw [if_neg h2, if_neg h2, ko]
   by_cases h3:dP (cnt L) x=true
   ·rw [if_pos h3,if_pos h3]
   ·rw [if_neg h3, if_neg h3]
    rw [aj (kH74 hs (by omega) x)]
    cases hst:mh (cnt L) x with
    |none=>simp
    |some t =>
     obtain ⟨ht1,ht2,_⟩:=EA hs hst
     have hvl:(ga (cnt L) t).length≤(cnt L).length:=kL hs (kN hs ht1 ht2) (bD.1 ht1) .zero
     simp only [bM,List.drop_zero,List.take_length]
     rw [aj (k75 (by omega) x)]
     rw [ko]
     simp only [bp]
     by_cases h4:EB x (ga (cnt L) t)=true
     ·rw [if_pos h4, if_pos h4]
      by_cases h5:1<(ga (cnt L) t).length
      ·rw [if_pos (by omega),if_pos h5]
      ·rw [if_neg (by omega),if_neg h5]
     ·rw [if_neg h4,if_neg h4]
 ·rw [if_neg h1,if_neg h1,if_neg (by omega)]
theorem Zb {L:List Mg} (h:nF L) (x:ByteArray):aq (FH33 x (bk L))=some ((pZ (cnt L) x).1.length,(pZ (cnt L) x).2,(pZ (cnt L) x).1,bk L,()):=by
 have hs:=gv L
 have hc:=pn h
 unfold FH33
 simp only [aA,GA,aN,av,b8]
 rw [aj (Pb h)]
 simp only [aa,bP,bI]
 rw [show aK .str (bU (cnt L)) x=mg (cnt L) x from rfl,show ay .str zM (bU (cnt L)) x=msg (cnt L) x from rfl,ko]
 unfold pZ
 by_cases h1:mg (cnt L) x=true
 ·rw [if_pos h1, if_pos h1, if_pos trivial]
  by_cases h2:(msg (cnt L) x).2.1=1
  ·rw [if_pos h2,if_pos h2,aj (Pc hs (by omega) (kN hs h1 h2) (bD.1 h1))]
  ·rw [if_neg h2,if_neg h2];rfl
 ·rw [if_neg h1,if_neg h1,if_neg (by omega)];rfl
theorem zf {L:List Mg} (h:nF L) (x:ByteArray) (n:Int):aq (FH40 x n (bk L))=some (decide (ek (cnt L) x=(n,0)),bk L,()):=by
 unfold FH40
 simp only [aA]
 rw [aj (kH32 h x)]
 simp only [av,aa,bI]
 by_cases h1:(ek (cnt L) x).2=0
 ·rw [if_pos h1]
  congr 2
  rw [Bool.eq_iff_iff,beq_iff_eq,decide_eq_true_eq]
  exact ⟨fun h=>Prod.ext h h1,fun h=>by rw [h]⟩
 ·rw [if_neg h1]
  congr 2
  exact (decide_eq_false fun h=>h1 (by rw [h])).symm
end
end Go.Proofs.Tryz
end
section
namespace Go.Proofs.Tryz
open Go.AM
set_option maxRecDepth 100000
abbrev Zs:=List (Int×Unit)
abbrev kI:bB (.int .i64)=some [.i]:=rfl
def mj (l:Zs) (n:Int) (nx:Zs):Zs:=l.foldl (fun nx e=>aV (.int .i64) nx (e.1+n) ()) nx
def CZ (z:Zs):Prop:=gK (.int .i64) z
def vB (Z:Zs) (z:Int):Prop:=(z,())∈Z
theorem CZ.put {Z:Zs} (h:CZ Z) (z:Int):CZ (aV (.int .i64) Z z ()):=gK.iy kI h
theorem IU {Z:Zs} (h:CZ Z) {z y:Int}:vB (aV (.int .i64) Z z ()) y↔y=z∨vB Z y:=by
 unfold vB
 rw [fS kI h]
 constructor
 ·rintro (e | ⟨h, _⟩)
  ·cases e;exact .inl rfl
  ·exact .inr h
 ·by_cases e : y = z
  ·subst e;exact fun _=>.inl rfl
  ·rintro (e' | h)
   ·exact absurd e' e
   ·exact .inr ⟨h,e⟩
theorem lB {n : Int} : ∀ {l nx : Zs}, CZ nx → CZ (mj l n nx) ∧ ∀ z, vB (mj l n nx) z ↔ vB nx z ∨ ∃ x, vB l x ∧ z = x + n
 |[],nx,h=>⟨h,fun z=>by simp [mj,vB]⟩
 |e::l,nx,h=>by
  obtain ⟨h1,h2⟩:=lB (n:=n) (l:=l) (h.put (e.1+n))
  refine ⟨h1,fun z=>?_⟩
  have h3:mj (e::l) n nx=mj l n (aV (.int .i64) nx (e.1+n) ()):=rfl
  rw [h3,h2,IU h]
  constructor
  ·rintro ((h | h) | ⟨x, hx, h⟩)
   ·exact .inr ⟨e.1,List.mem_cons_self ..,h⟩
   ·exact .inl h
   ·exact .inr ⟨x,List.mem_cons_of_mem _ hx,h⟩
  ·rintro (h | ⟨x, hx, h⟩)
   ·exact .inl (.inr h)
   ·rcases List.mem_cons.1 hx with e' | hx
    ·exact .inl (.inl (by rw [h,←e']))
    ·exact .inr ⟨x,hx,h⟩
theorem CZ.ext {Z Z':Zs} (h:CZ Z) (h':CZ Z') (hz:∀z,vB Z z↔vB Z' z):Z=Z':=IJ kI h h' fun e=>hz e.1
theorem AA {l l' nx:Zs} {n:Int} (h:CZ nx) (hp:l.Perm l'):mj l n nx=mj l' n nx :=
 (lB h).1.ext (lB h).1 fun z=>by
  rw [(lB h).2,(lB h).2]
  exact or_congr_right ⟨fun ⟨x,hx,e⟩=>⟨x,hp.mem_iff.1 hx,e⟩,fun ⟨x,hx,e⟩=>⟨x,hp.mem_iff.2 hx,e⟩⟩
def nH (f:ByteArray→Int) (can:Zs) (vs:List ByteArray):Zs:=vs.foldl (fun nx v=>mj can (f v) nx) []
theorem EC {f : ByteArray → Int} {can : Zs} : ∀ {vs : List ByteArray} {nx : Zs}, CZ nx → CZ (vs.foldl (fun nx v => mj can (f v) nx) nx) ∧ ∀ z, vB (vs.foldl (fun nx v => mj can (f v) nx) nx) z ↔ vB nx z ∨ ∃ v ∈ vs, ∃ x, vB can x ∧ z = x + f v
 |[],nx,h=>⟨h,fun z=>by simp⟩
 |v::vs,nx,h=>by
  obtain ⟨h1,h2⟩:=lB (n:=f v) (l:=can) h
  obtain ⟨h3,h4⟩:=EC (f:=f) (can:=can) (vs:=vs) h1
  refine ⟨h3,fun z=>?_⟩
  rw [List.foldl_cons,h4,h2]
  simp only [List.mem_cons,exists_eq_or_imp,or_assoc]
theorem oL {f:ByteArray→Int} {can:Zs} {vs:List ByteArray}:CZ (nH f can vs)∧∀z,vB (nH f can vs) z↔∃v∈vs,∃x,vB can x∧z=x+f v:=by
 obtain ⟨h1,h2⟩:=EC (f:=f) (can:=can) (vs:=vs) (nx:=[]) .nil
 exact ⟨h1,fun z=>(h2 z).trans (by simp [vB])⟩
def yq (c:List Mg):List ByteArray:=(c.filter fun m=>decide (m.2.1=1)).map (·.1)
def nJ (c:List Mg) (f:ByteArray→Int) (ts:List ByteArray) (can:Zs):Zs:=ts.foldl (fun can t=>nH f can (ga c t)) can
def eV:Zs:=aV (.int .i64) [] 0 ()
def mo (c:List Mg) (f:ByteArray→Int):List Int:=(nJ c f (yq c) eV).map (·.1)
theorem dM:CZ eV∧∀z,vB eV z↔z=0:=⟨CZ.put .nil 0,fun z=>(IU .nil).trans (by simp [vB])⟩
theorem vC {c : List Mg} {f : ByteArray → Int} : ∀ {ts : List ByteArray} {can : Zs}, CZ can → CZ (nJ c f ts can)
 |[],_,h=>h
 |t::ts,can,_=>vC (ts:=ts) oL.1
def BZ (B:Int) (Z:Zs):Prop:=∀z,vB Z z → -B≤z∧z≤B
theorem sx {f:ByteArray→Int} {can:Zs} {vs:List ByteArray} {B:Int} (h:BZ B can) (hf:∀v∈vs,-1000≤f v∧f v≤1000):BZ (B+1000) (nH f can vs):=fun z hz=>by
 obtain ⟨v,hv,x,hx,rfl⟩:=(oL.2 z).1 hz
 have:=h x hx;have:=hf v hv;omega
section
variable {c:List Mg}
theorem TF (hs:SI c) {t v:ByteArray} (ht:mg c t=true) (hk:(msg c t).2.1=1) (hv:v∈ga c t):mg c v=true∧((msg c v).2.1=1∨(msg c v).2.1=2):=by
 have hd:=me hv
 cases hd with
 |refl=>exact ⟨ht,.inl hk⟩
 |step _ hz =>
  obtain ⟨m,hm,h1,h2,_⟩:=gX.1 hz
  subst h1
  exact ⟨bD.2 (List.mem_map.2 ⟨m,hm,rfl⟩),.inr (by rw [fG hs hm];exact h2)⟩
theorem TG {m:Mg} (h:sj m=0) (hk:m.2.1=1∨m.2.1=2) : -1000≤m.2.2.2.2∧m.2.2.2.2≤1000:=by
 unfold sj at h
 split at h
 ·cases h
 split at h
 ·unfold Cd at h
  have h3:mb m=0:=by
   by_cases h1:oF m=0
   ·by_cases h2 : mb m = 0
    ·exact h2
    ·simp [h1,h2] at h
   ·simp [h1] at h
  unfold mb at h3
  rw [if_neg (by omega)] at h3
  split at h3
  ·split at h3
   ·assumption
   ·cases h3
  ·cases h3
 ·cases h
def fA (c:List Mg) (a v:ByteArray):Int:=if (msg c v).2.2.2.1=a then (msg c v).2.2.2.2 else 0
def fT (c:List Mg) (v:ByteArray):Int:=(msg c v).2.2.2.2
def VD (c:List Mg) (f:ByteArray→Int):Prop:=∀t v,mg c t=true→(msg c t).2.1=1→v∈ga c t → -1000≤f v∧f v≤1000
theorem bndT (hs:SI c) (hc:∀m∈c,sj m=0):VD c (fT c):=fun t v h1 h2 h3=>by
 obtain ⟨h4,h5⟩:=TF hs h1 h2 h3
 exact TG (hc _ (sv hs h4).1) h5
theorem bndA (hs:SI c) (hc:∀m∈c,sj m=0) (a:ByteArray):VD c (fA c a):=fun t v h1 h2 h3=>by
 have:=bndT hs hc t v h1 h2 h3
 unfold fA;unfold fT at this
 split<;>omega
theorem k68 (m:Mg) (a:ByteArray):aq (F68 m a)=some (if m.2.2.2.1=a then m.2.2.2.2 else 0,()):=by
 simp only [F68,av,aa,bP,seq_eq,bp]
 split<;>rfl
theorem k78 (m:Mg):aq (F78 m)=some (m.2.2.2.2,()):=rfl
theorem IV (z:Int) (m:Zs):aq (FH100 z m)=some (aV (.int .i64) m z (),()):=rfl
theorem VE {Z:Zs} (h:CZ Z) (hl:Z.length<1000000000):aq (FH102 Z)=some (Z.length,Z.map (·.1),Z,()):=by
 unfold FH102
 refine Eq.trans BE (gA fun l hp=>?_)
 have yB:l.length=Z.length:=hp.length_eq
 simp only [aA,BF]
 refine bind_eq (sk (m:=Z) (l:=l) (by rw [yB];exact hl) fun e n b hn=>?_) ?_
 ·simp only [gH102f121f133_0i_0, aU, aa, dF, ak]
  rw [b7 (show _<cg by rw [fc];simp;omega)]
  rfl
 ·simp only [FH122, xu]
  have hpk:(Z.map (·.1)).Perm (l.map (·.1)):=(hp.map (·.1)).symm
  have:=oH kI hpk (gK.keys kI h) (by rw [List.length_map];omega)
  rw [List.length_map] at this
  rw [aj this,yB]
  rfl
theorem GF {Z:Zs} {B:Nat} (h:CZ Z) (hb:BZ (B:Int) Z):Z.length≤2 * B+1:=by
 have hn:(Z.map (·.1)).Nodup:=by
  unfold List.Nodup
  rw [List.pairwise_map]
  exact List.Pairwise.imp (fun {a b} h e=>by rw [e,gV kI] at h;cases h) h
 have h2:((Z.map (·.1)).map fun z:Int=>(z+(B:Int)).toNat).Nodup:=by
  unfold List.Nodup
  rw [List.pairwise_map]
  refine List.Pairwise.imp_of_mem (fun {a b} ha hb' hab e=>hab ?_) hn
  obtain ⟨p,hp,rfl⟩:=List.mem_map.1 ha
  obtain ⟨q,hq,rfl⟩:=List.mem_map.1 hb'
  have h3:=hb p.1 hp
  have h4:=hb q.1 hq
  omega
 have:=List.Nodup.length_le_of_subset h2 (l₂:=List.range (2 * B+1)) fun z hz=>by
  obtain ⟨y,hy,rfl⟩:=List.mem_map.1 hz
  obtain ⟨p,hp,rfl⟩:=List.mem_map.1 hy
  have h3:=hb p.1 hp
  rw [List.mem_range];omega
 simpa using this
theorem kA67 {a:ByteArray} {nv:Nat} {w1 w2 n:Int} {pI jg:List ByteArray} {can nx:Zs} (hx:CZ nx) (hb:BZ 1000000 can) (hn : -1000≤n∧n≤1000):aq (gH67_0b_2 (nv,w1,w2,n,pI,bU c,bK c,cE c,c7 c,a,jg,can,nx,()))=some (nv,w1,w2,pI,bU c,bK c,cE c,c7 c,a,jg,can,mj can n nx,()):=by
 unfold gH67_0b_2
 simp only [aA]
 refine bind_eq (Eq.trans FK (gA (b:=(nv,w1,w2,can,bU c,bK c,cE c,c7 c,a,n,pI,jg,mj can n nx,())) fun l hp=>?_)) rfl
 have key:∀(l:Zs) (nx:Zs),(∀e∈l,e∈can)→zR (fun e a=>run (fun _=>none) (gH67_0b_2i_0 e a)) l (nv,w1,w2,can,bU c,bK c,cE c,c7 c,a,n,pI,jg,nx,())=some (nv,w1,w2,can,bU c,bK c,cE c,c7 c,a,n,pI,jg,mj l n nx,()):=by
  intro l
  induction l with
  |nil=>intro nx _;rfl
  |cons e l ih =>
   intro nx hm
   have hz:=hb e.1 (hm e (List.mem_cons_self ..))
   have hs:run (fun _=>none) (gH67_0b_2i_0 e (nv,w1,w2,can,bU c,bK c,cE c,c7 c,a,n,pI,jg,nx,()))=some (nv,w1,w2,can,bU c,bK c,cE c,c7 c,a,n,pI,jg,aV (.int .i64) nx (e.1+n) (),()):=by
    simp only [gH67_0b_2i_0,aQ,aA,aU,aa,IV,aN,dF,ak]
    rw [gn (aJ (by omega) (by omega))]
   simp only [zR,hs]
   exact ih _ fun e he=>hm e (List.mem_cons_of_mem _ he)
 rw [key l nx fun e he=>hp.mem_iff.1 he,AA hx hp]
theorem kB67 {a:ByteArray} {jg:List ByteArray} {can:Zs} {vs:List ByteArray} (hvl:vs.length<1000000) (hb:BZ 1000000 can) (hf:∀v∈vs,-1000≤fA c a v∧fA c a v≤1000) :
  iter (fun x=>aq (gH67_0b_1 x)) (vs.length,((vs.length:Nat):Int),(0:Int),vs,bU c,bK c,cE c,c7 c,a,jg,can,[],())=some (bU c,bK c,cE c,c7 c,a,jg,vs,can,nH (fA c a) can vs,()):=by
 refine aO vs (fun k (nx:Zs)=>(vs.length,((vs.length:Nat):Int),(k:Int),vs,bU c,bK c,cE c,c7 c,a,jg,can,nx,())) (fun nx r=>(bU c,bK c,cE c,c7 c,a,jg,vs,can,r.foldl (fun nx v=>mj can (fA c a v) nx) nx,())) (fun _ nx=>CZ nx) ?_ ?_ (s:=[]) .nil
 ·intro pre v post nx hx Hw
  have hlen:vs.length=pre.length+(post.length+1):=by rw [hx];simp
  have hd:vs.getD pre.length (bs [])=v:=by rw [hx];exact bg rfl
  have i1:fh (pre.length:Int) ((vs.length:Nat):Int)=true:=bX (by omega) (by omega)
  have r1:gH .i64 ((pre.length:Int)+1)=true:=aJ (by omega) (by omega)
  have d1:decide (pre.length<vs.length)=true:=decide_eq_true (by omega)
  left
  refine ⟨mj can (fA c a v) nx,?_,(lB Hw).1,rfl⟩
  simp only [gH67_0b_1,av,bf,aU,aQ,aA,aa,Int.toNat_natCast,Nat.zero_add,hd,i1,d1,ak,bp,FH101,FH120,aN]
  rw [if_pos (by omega)]
  rw [aj (show aq (F68 ((ay .str zM (bU c) v).1,(ay .str zM (bU c) v).2.1,(ay .str zM (bU c) v).2.2.1,(ay .str zM (bU c) v).2.2.2.1,(ay .str zM (bU c) v).2.2.2.2) a)=some (fA c a v,()) from k68 _ _)]
  rw [aj (kA67 Hw hb (hf v (by rw [hx];simp)))]
  simp only [r1,ak]
  rfl
 ·intro nx _
  simp only [gH67_0b_1,av,aa,bp]
  rw [if_neg (by omega)]
  rfl
theorem kC67 {a:ByteArray} (hs:SI c) (hl:c.length≤60) (hB:VD c (fA c a)):iter (fun x=>aq (gH67_0i_0 x)) (c.length,((c.length:Nat):Int),(0:Int),c.map (·.1),bU c,bK c,cE c,c7 c,a,eV,()) =
  some (bU c,bK c,cE c,c7 c,a,nJ c (fA c a) (yq c) eV,()):=by
 have yB:(c.map (·.1)).length=c.length:=List.length_map ..
 refine aO c (fun k (can:Zs)=>(c.length,((c.length:Nat):Int),(k:Int),c.map (·.1),bU c,bK c,cE c,c7 c,a,can,())) (fun can r=>(bU c,bK c,cE c,c7 c,a,nJ c (fA c a) ((r.filter fun m=>decide (m.2.1=1)).map (·.1)) can,())) (fun pre can=>CZ can∧BZ (1000 * (pre.length:Int)) can) ?_ ?_ (s:=eV) ⟨dM.1,fun z hz=>by rw [(dM.2 z).1 hz];simp⟩
 ·rintro pre m post can hx ⟨TH, hbz⟩
  have hlen:c.length=pre.length+(post.length+1):=by rw [hx];simp
  have hm:m∈c:=by rw [hx];simp
  have hd:(c.map (·.1)).getD pre.length (bs [])=m.1:=by rw [hx,List.map_append,List.map_cons];exact bg (by simp)
  have hg:ay .str zM (bU c) m.1=m:=fG hs hm
  have i1:fh (pre.length:Int) ((c.length:Nat):Int)=true:=bX (by omega) (by omega)
  have r1:gH .i64 ((pre.length:Int)+1)=true:=aJ (by omega) (by omega)
  have d1:decide (pre.length<(c.map (·.1)).length)=true:=decide_eq_true (by omega)
  have Za:((pre++[m]).length:Int)=(pre.length:Int)+1:=by simp
  left
  by_cases hk:m.2.1=1
  ·have him : mg c m.1 = true := bD.2 (List.mem_map.2 ⟨m, hm, rfl⟩)
   have hkm:(msg c m.1).2.1=1:=by rw [fG hs hm];exact hk
   have hvl:(ga c m.1).length≤c.length:=kL hs (kN hs him hkm) (bD.1 him) .zero
   refine ⟨nH (fA c a) can (ga c m.1),?_,⟨oL.1,?_⟩,?_⟩
   ·simp only [gH67_0i_0, av, bf, aU, aQ, aA, bG, aa, Int.toNat_natCast, Nat.zero_add, hd, hg, i1, d1, ak, bp, bI]
    rw [if_pos (by omega),if_pos hk,aj (Pc hs (by omega) (kN hs him hkm) (bD.1 him))]
    rw [aj (kB67 (vs:=ga c m.1) (by omega) (fun z hz=>by have:=hbz z hz;omega) (fun v hv=>hB m.1 v him hkm hv))]
    simp only [r1,ak]
    rfl
   ·have := sx (f := (fA c a)) (vs := ga c m.1) hbz fun v hv => hB m.1 v him hkm hv
    intro z hz
    have:=this z hz
    omega
   ·rw [List.filter_cons_of_pos (by simpa using hk)]
    rfl
  ·refine ⟨can, ?_, ⟨TH, fun z hz => by have := hbz z hz; omega⟩, ?_⟩
   ·simp only [gH67_0i_0, av, bf, aU, aQ, aA, bG, aa, Int.toNat_natCast, Nat.zero_add, hd, hg, i1, d1, r1, ak, bp, bI]
    rw [if_pos (by omega),if_neg hk]
    rfl
   ·rw [List.filter_cons_of_neg (by simpa using hk)]
 ·rintro can _
  simp only [gH67_0i_0,av,aa,bp]
  rw [if_neg (by omega)]
  rfl
theorem kH67 {a:ByteArray} (hs:SI c) (hl:c.length≤60) (hB:VD c (fA c a)):aq (FH67 a (bU c) (bK c) (cE c) (c7 c))=some ((mo c (fA c a)).length,mo c (fA c a),bU c,bK c,cE c,c7 c,a,()):=by
 have TH:CZ (nJ c (fA c a) (yq c) eV):=vC dM.1
 have hbz:BZ 1000000 (nJ c (fA c a) (yq c) eV):=by
  have key:∀(ts:List ByteArray) (can:Zs) (B:Int),(∀t∈ts,mg c t=true∧(msg c t).2.1=1)→BZ B can→BZ (B+1000 * ts.length) (nJ c (fA c a) ts can):=by
   intro ts
   induction ts with
   |nil=>intro can B _ h;simpa [nJ] using h
   |cons t ts ih =>
    intro can B ht h
    have h1:=ht t (List.mem_cons_self ..)
    have:=ih (nH (fA c a) can (ga c t)) (B+1000) (fun t h=>ht t (List.mem_cons_of_mem _ h)) (sx h fun v hv=>hB t v h1.1 h1.2 hv)
    intro z hz
    have:=this z hz
    simp only [List.length_cons]
    omega
  have h1:=key (yq c) eV 0 (fun t ht=>by
   obtain ⟨m,hm,rfl⟩:=List.mem_map.1 ht
   obtain ⟨h1,h2⟩:=List.mem_filter.1 hm
   exact ⟨bD.2 (List.mem_map.2 ⟨m,h1,rfl⟩),by rw [fG hs h1];simpa using h2⟩) (fun z hz=>by rw [(dM.2 z).1 hz];simp)
  have hle:(yq c).length≤c.length:=by unfold yq;rw [List.length_map];exact List.length_filter_le ..
  intro z hz
  have:=h1 z hz
  omega
 have hlen:=GF (B:=1000000) TH (by simpa using hbz)
 unfold FH67 gH67_0
 simp only [aA,IV,aN,FH79,FH95,aa,bG]
 rw [aj (Tw hs (by omega))]
 refine bind_eq (bind_eq (kC67 hs hl hB) rfl) ?_
 simp only [aN,FH101,FH120,aA,aa]
 rw [aj (VE TH (by omega))]
 unfold mo
 rw [List.length_map]
theorem TI {nv:Nat} {w1 w2 n:Int} {pI jg:List ByteArray} {can nx:Zs} (hx:CZ nx) (hb:BZ 1000000 can) (hn : -1000≤n∧n≤1000):aq (gH67_v1_0b_2 (nv,w1,w2,n,pI,bU c,bK c,cE c,c7 c,jg,can,nx,()))=some (nv,w1,w2,pI,bU c,bK c,cE c,c7 c,jg,can,mj can n nx,()):=by
 unfold gH67_v1_0b_2
 simp only [aA]
 refine bind_eq (Eq.trans FK (gA (b:=(nv,w1,w2,can,bU c,bK c,cE c,c7 c,n,pI,jg,mj can n nx,())) fun l hp=>?_)) rfl
 have key:∀(l:Zs) (nx:Zs),(∀e∈l,e∈can)→zR (fun e a=>run (fun _=>none) (gH67_v1_0b_2i_0 e a)) l (nv,w1,w2,can,bU c,bK c,cE c,c7 c,n,pI,jg,nx,())=some (nv,w1,w2,can,bU c,bK c,cE c,c7 c,n,pI,jg,mj l n nx,()):=by
  intro l
  induction l with
  |nil=>intro nx _;rfl
  |cons e l ih =>
   intro nx hm
   have hz:=hb e.1 (hm e (List.mem_cons_self ..))
   have hs:run (fun _=>none) (gH67_v1_0b_2i_0 e (nv,w1,w2,can,bU c,bK c,cE c,c7 c,n,pI,jg,nx,()))=some (nv,w1,w2,can,bU c,bK c,cE c,c7 c,n,pI,jg,aV (.int .i64) nx (e.1+n) (),()):=by
    simp only [gH67_v1_0b_2i_0,aQ,aA,aU,aa,IV,aN,dF,ak]
    rw [gn (aJ (by omega) (by omega))]
   simp only [zR,hs]
   exact ih _ fun e he=>hm e (List.mem_cons_of_mem _ he)
 rw [key l nx fun e he=>hp.mem_iff.1 he,AA hx hp]
theorem TJ {jg:List ByteArray} {can:Zs} {vs:List ByteArray} (hvl:vs.length<1000000) (hb:BZ 1000000 can) (hf:∀v∈vs,-1000≤fT c v∧fT c v≤1000) :
  iter (fun x=>aq (gH67_v1_0b_1 x)) (vs.length,((vs.length:Nat):Int),(0:Int),vs,bU c,bK c,cE c,c7 c,jg,can,[],())=some (bU c,bK c,cE c,c7 c,jg,vs,can,nH (fT c) can vs,()):=by
 refine aO vs (fun k (nx:Zs)=>(vs.length,((vs.length:Nat):Int),(k:Int),vs,bU c,bK c,cE c,c7 c,jg,can,nx,())) (fun nx r=>(bU c,bK c,cE c,c7 c,jg,vs,can,r.foldl (fun nx v=>mj can (fT c v) nx) nx,())) (fun _ nx=>CZ nx) ?_ ?_ (s:=[]) .nil
 ·intro pre v post nx hx Hw
  have hlen:vs.length=pre.length+(post.length+1):=by rw [hx];simp
  have hd:vs.getD pre.length (bs [])=v:=by rw [hx];exact bg rfl
  have i1:fh (pre.length:Int) ((vs.length:Nat):Int)=true:=bX (by omega) (by omega)
  have r1:gH .i64 ((pre.length:Int)+1)=true:=aJ (by omega) (by omega)
  have d1:decide (pre.length<vs.length)=true:=decide_eq_true (by omega)
  left
  refine ⟨mj can (fT c v) nx,?_,(lB Hw).1,rfl⟩
  simp only [gH67_v1_0b_1,av,bf,aU,aQ,aA,aa,Int.toNat_natCast,Nat.zero_add,hd,i1,d1,ak,bp,FH101,FH120,aN]
  rw [if_pos (by omega)]
  rw [aj (show aq (F78 ((ay .str zM (bU c) v).1,(ay .str zM (bU c) v).2.1,(ay .str zM (bU c) v).2.2.1,(ay .str zM (bU c) v).2.2.2.1,(ay .str zM (bU c) v).2.2.2.2))=some (fT c v,()) from k78 _)]
  rw [aj (TI Hw hb (hf v (by rw [hx];simp)))]
  simp only [r1,ak]
  rfl
 ·intro nx _
  simp only [gH67_v1_0b_1,av,aa,bp]
  rw [if_neg (by omega)]
  rfl
theorem TK (hs:SI c) (hl:c.length≤60) (hB:VD c (fT c)):iter (fun x=>aq (gH67_v1_0i_0 x)) (c.length,((c.length:Nat):Int),(0:Int),c.map (·.1),bU c,bK c,cE c,c7 c,eV,()) =
  some (bU c,bK c,cE c,c7 c,nJ c (fT c) (yq c) eV,()):=by
 have yB:(c.map (·.1)).length=c.length:=List.length_map ..
 refine aO c (fun k (can:Zs)=>(c.length,((c.length:Nat):Int),(k:Int),c.map (·.1),bU c,bK c,cE c,c7 c,can,())) (fun can r=>(bU c,bK c,cE c,c7 c,nJ c (fT c) ((r.filter fun m=>decide (m.2.1=1)).map (·.1)) can,())) (fun pre can=>CZ can∧BZ (1000 * (pre.length:Int)) can) ?_ ?_ (s:=eV) ⟨dM.1,fun z hz=>by rw [(dM.2 z).1 hz];simp⟩
 ·rintro pre m post can hx ⟨TH, hbz⟩
  have hlen:c.length=pre.length+(post.length+1):=by rw [hx];simp
  have hm:m∈c:=by rw [hx];simp
  have hd:(c.map (·.1)).getD pre.length (bs [])=m.1:=by rw [hx,List.map_append,List.map_cons];exact bg (by simp)
  have hg:ay .str zM (bU c) m.1=m:=fG hs hm
  have i1:fh (pre.length:Int) ((c.length:Nat):Int)=true:=bX (by omega) (by omega)
  have r1:gH .i64 ((pre.length:Int)+1)=true:=aJ (by omega) (by omega)
  have d1:decide (pre.length<(c.map (·.1)).length)=true:=decide_eq_true (by omega)
  have Za:((pre++[m]).length:Int)=(pre.length:Int)+1:=by simp
  left
  by_cases hk:m.2.1=1
  ·have him : mg c m.1 = true := bD.2 (List.mem_map.2 ⟨m, hm, rfl⟩)
   have hkm:(msg c m.1).2.1=1:=by rw [fG hs hm];exact hk
   have hvl:(ga c m.1).length≤c.length:=kL hs (kN hs him hkm) (bD.1 him) .zero
   refine ⟨nH (fT c) can (ga c m.1),?_,⟨oL.1,?_⟩,?_⟩
   ·simp only [gH67_v1_0i_0, av, bf, aU, aQ, aA, bG, aa, Int.toNat_natCast, Nat.zero_add, hd, hg, i1, d1, ak, bp, bI]
    rw [if_pos (by omega),if_pos hk,aj (Pc hs (by omega) (kN hs him hkm) (bD.1 him))]
    rw [aj (TJ (vs:=ga c m.1) (by omega) (fun z hz=>by have:=hbz z hz;omega) (fun v hv=>hB m.1 v him hkm hv))]
    simp only [r1,ak]
    rfl
   ·have := sx (f := (fT c)) (vs := ga c m.1) hbz fun v hv => hB m.1 v him hkm hv
    intro z hz
    have:=this z hz
    omega
   ·rw [List.filter_cons_of_pos (by simpa using hk)]
    rfl
  ·refine ⟨can, ?_, ⟨TH, fun z hz => by have := hbz z hz; omega⟩, ?_⟩
   ·simp only [gH67_v1_0i_0, av, bf, aU, aQ, aA, bG, aa, Int.toNat_natCast, Nat.zero_add, hd, hg, i1, d1, r1, ak, bp, bI]
    rw [if_pos (by omega),if_neg hk]
    rfl
   ·rw [List.filter_cons_of_neg (by simpa using hk)]
 ·rintro can _
  simp only [gH67_v1_0i_0,av,aa,bp]
  rw [if_neg (by omega)]
  rfl
theorem TL (hs:SI c) (hl:c.length≤60) (hB:VD c (fT c)):aq (FH67_v1 (bU c) (bK c) (cE c) (c7 c))=some ((mo c (fT c)).length,mo c (fT c),bU c,bK c,cE c,c7 c,()):=by
 have TH:CZ (nJ c (fT c) (yq c) eV):=vC dM.1
 have hbz:BZ 1000000 (nJ c (fT c) (yq c) eV):=by
  have key:∀(ts:List ByteArray) (can:Zs) (B:Int),(∀t∈ts,mg c t=true∧(msg c t).2.1=1)→BZ B can→BZ (B+1000 * ts.length) (nJ c (fT c) ts can):=by
   intro ts
   induction ts with
   |nil=>intro can B _ h;simpa [nJ] using h
   |cons t ts ih =>
    intro can B ht h
    have h1:=ht t (List.mem_cons_self ..)
    have:=ih (nH (fT c) can (ga c t)) (B+1000) (fun t h=>ht t (List.mem_cons_of_mem _ h)) (sx h fun v hv=>hB t v h1.1 h1.2 hv)
    intro z hz
    have:=this z hz
    simp only [List.length_cons]
    omega
  have h1:=key (yq c) eV 0 (fun t ht=>by
   obtain ⟨m,hm,rfl⟩:=List.mem_map.1 ht
   obtain ⟨h1,h2⟩:=List.mem_filter.1 hm
   exact ⟨bD.2 (List.mem_map.2 ⟨m,h1,rfl⟩),by rw [fG hs h1];simpa using h2⟩) (fun z hz=>by rw [(dM.2 z).1 hz];simp)
  have hle:(yq c).length≤c.length:=by unfold yq;rw [List.length_map];exact List.length_filter_le ..
  intro z hz
  have:=h1 z hz
  omega
 have hlen:=GF (B:=1000000) TH (by simpa using hbz)
 unfold FH67_v1 gH67_v1_0
 simp only [aA,IV,aN,FH79,FH95,aa,bG]
 rw [aj (Tw hs (by omega))]
 refine bind_eq (bind_eq (TK hs hl hB) rfl) ?_
 simp only [aN,FH101,FH120,aA,aa]
 rw [aj (VE TH (by omega))]
 unfold mo
 rw [List.length_map]
def uO (c:List Mg) (a:ByteArray):List Int×Int:=if eU a=true then (mo c (fA c a),0) else ([],8)
theorem Cg {L:List Mg} (h:nF L):∀m∈cnt L,sj m=0:=fun m hm=>h.sj m (sq hm)
theorem Zc {L:List Mg} (h:nF L) {a:ByteArray} (ha:Sh a):aq (FH23 a (bk L))=some ((uO (cnt L) a).1.length,(uO (cnt L) a).2,(uO (cnt L) a).1,bk L,()):=by
 unfold FH23
 simp only [aA,GA,aN,av,b8,k65 a ha,bP]
 rw [ko]
 unfold uO
 split
 ·rw [aj (Pb h)]
  simp only
  rw [aj (kH67 (gv L) (pn h) (bndA (gv L) (Cg h) a))]
  rfl
 ·rfl
end
end Go.Proofs.Tryz
end
section
namespace Go.Proofs.Tryz
open Go.AM
set_option maxRecDepth 100000
def Pd (l:List Int):Int×Int:=(l.getD 0 0,l.getD (l.length - 1) 0)
theorem k72 {l:List Int} (h0:0<l.length) (hl:l.length<1000000000):aq (F72 l)=some (Pd l,()):=by
 unfold F72
 simp only [bf,aQ,aa]
 rw [bX (by omega) (by omega),ak,gn (aJ (by omega) (by omega)),bX (by omega) (by omega),ak]
 rw [show ((l.length:Int) - 1).toNat=l.length - 1 by omega]
 rfl
section
variable {c:List Mg}
theorem Pe {f:ByteArray→Int} {can:Zs} {vs:List ByteArray} (hc:∃z,vB can z) (hv:vs≠[]):∃z,vB (nH f can vs) z:=by
 obtain ⟨z,hz⟩:=hc
 cases vs with
 |nil=>exact absurd rfl hv
 |cons v vs=>exact ⟨z+f v,(oL.2 _).2 ⟨v,List.mem_cons_self ..,z,hz,rfl⟩⟩
def IW (c:List Mg) (a:ByteArray):(Int×Int)×Int:=if (uO c a).2=0 then (Pd (uO c a).1,0) else ((0,0),(uO c a).2)
def sumL (c:List Mg):Int×Int:=Pd (mo c (fT c))
abbrev Ss:=List (ByteArray×Unit)
def GH (c:List Mg) (vs:List ByteArray) (m:Ss):Ss:=vs.foldl (fun m v=>aV .str m (msg c v).2.2.2.1 ()) m
def GI (c:List Mg) (ts:List ByteArray) (m:Ss):Ss:=ts.foldl (fun m t=>GH c (ga c t) m) m
def TM (c:List Mg):List ByteArray:=(GI c (yq c) []).map (·.1)
theorem Pf {vs:List ByteArray}:∀{m:Ss},gK .str m→gK .str (GH c vs m):=by
 induction vs with
 |nil=>exact fun h=>h
 |cons v vs ih=>exact fun h=>ih (h.iy kS)
theorem Pg {ts:List ByteArray}:∀{m:Ss},gK .str m→gK .str (GI c ts m):=by
 induction ts with
 |nil=>exact fun h=>h
 |cons t ts ih=>exact fun h=>ih (Pf h)
theorem ED : ∀ {m : Ss} {k : ByteArray}, (pK .str m k ()).length = m.length + 1
 |[],_=>rfl
 |e::m,k=>by
  unfold pK
  split
  ·simp
  ·rw [List.length_cons,ED];rfl
theorem Ph {m:Ss} {k:ByteArray}:(aV .str m k ()).length≤m.length+1:=by
 unfold aV
 split
 ·rw [List.length_map];omega
 ·rw [ED];exact Nat.le_refl _
theorem TN {Z:Ss} (h:gK .str Z) (hl:Z.length<1000000000):aq (FH81_v1 Z)=some (Z.length,Z.map (·.1),Z,()):=by
 unfold FH81_v1
 refine Eq.trans BE (gA fun l hp=>?_)
 have yB:l.length=Z.length:=hp.length_eq
 simp only [aA,BF]
 refine bind_eq (sk (m:=Z) (l:=l) (by rw [yB];exact hl) fun e n b hn=>?_) ?_
 ·simp only [gH81_v1f107f126_0i_0, aU, aa, dF, ak]
  rw [b7 (show _<cg by rw [fc];simp;omega)]
  rfl
 ·simp only [FH105, xu]
  have hpk:(Z.map (·.1)).Perm (l.map (·.1)):=(hp.map (·.1)).symm
  have:=oH kS hpk (gK.keys kS h) (by rw [List.length_map];omega)
  rw [List.length_map] at this
  rw [aj this,yB]
  rfl
theorem kB45 {m1:List (Mg×Bool)} {jg vs:List ByteArray} (hvl:vs.length<1000000) {m:Ss} :
  iter (fun x=>aq (gH45_0b_1 x)) (vs.length,((vs.length:Nat):Int),(0:Int),vs,bU c,bK c,cE c,c7 c,m1,jg,m,())=some (m1,bU c,bK c,cE c,c7 c,jg,vs,GH c vs m,()):=by
 refine aO vs (fun k (m:Ss)=>(vs.length,((vs.length:Nat):Int),(k:Int),vs,bU c,bK c,cE c,c7 c,m1,jg,m,())) (fun m r=>(m1,bU c,bK c,cE c,c7 c,jg,vs,GH c r m,())) (fun _ _=>True) ?_ ?_ (s:=m) trivial
 ·intro pre v post nx hx _
  have hlen:vs.length=pre.length+(post.length+1):=by rw [hx];simp
  have hd:vs.getD pre.length (bs [])=v:=by rw [hx];exact bg rfl
  have i1:fh (pre.length:Int) ((vs.length:Nat):Int)=true:=bX (by omega) (by omega)
  have r1:gH .i64 ((pre.length:Int)+1)=true:=aJ (by omega) (by omega)
  have d1:decide (pre.length<vs.length)=true:=decide_eq_true (by omega)
  left
  refine ⟨aV .str nx (msg c v).2.2.2.1 (),?_,trivial,rfl⟩
  simp only [gH45_0b_1,av,bf,aU,aQ,aA,aa,Int.toNat_natCast,Nat.zero_add,hd,i1,d1,r1,ak,bp,FH80,aN]
  rw [if_pos (by omega)]
  rfl
 ·intro nx _
  simp only [gH45_0b_1,av,aa,bp]
  rw [if_neg (by omega)]
  rfl
theorem kC45 {m1:List (Mg×Bool)} (hs:SI c) (hl:c.length≤60):iter (fun x=>aq (gH45_0i_0 x)) (c.length,((c.length:Nat):Int),(0:Int),c.map (·.1),bU c,bK c,cE c,c7 c,m1,[],()) =
  some (m1,bU c,bK c,cE c,c7 c,GI c (yq c) [],()):=by
 have yB:(c.map (·.1)).length=c.length:=List.length_map ..
 refine aO c (fun k (m:Ss)=>(c.length,((c.length:Nat):Int),(k:Int),c.map (·.1),bU c,bK c,cE c,c7 c,m1,m,())) (fun m r=>(m1,bU c,bK c,cE c,c7 c,GI c ((r.filter fun m=>decide (m.2.1=1)).map (·.1)) m,())) (fun _ _=>True) ?_ ?_ (s:=[]) trivial
 ·rintro pre m post can hx _
  have hlen:c.length=pre.length+(post.length+1):=by rw [hx];simp
  have hm:m∈c:=by rw [hx];simp
  have hd:(c.map (·.1)).getD pre.length (bs [])=m.1:=by rw [hx,List.map_append,List.map_cons];exact bg (by simp)
  have hg:ay .str zM (bU c) m.1=m:=fG hs hm
  have i1:fh (pre.length:Int) ((c.length:Nat):Int)=true:=bX (by omega) (by omega)
  have r1:gH .i64 ((pre.length:Int)+1)=true:=aJ (by omega) (by omega)
  have d1:decide (pre.length<(c.map (·.1)).length)=true:=decide_eq_true (by omega)
  left
  by_cases hk:m.2.1=1
  ·have him : mg c m.1 = true := bD.2 (List.mem_map.2 ⟨m, hm, rfl⟩)
   have hkm:(msg c m.1).2.1=1:=by rw [fG hs hm];exact hk
   have hvl:(ga c m.1).length≤c.length:=kL hs (kN hs him hkm) (bD.1 him) .zero
   refine ⟨GH c (ga c m.1) can,?_,trivial,?_⟩
   ·simp only [gH45_0i_0, av, bf, aU, aQ, aA, bG, aa, Int.toNat_natCast, Nat.zero_add, hd, hg, i1, d1, ak, bp, bI]
    rw [if_pos (by omega),if_pos hk,aj (Pc hs (by omega) (kN hs him hkm) (bD.1 him))]
    rw [aj (kB45 (vs:=ga c m.1) (by omega))]
    simp only [r1,ak]
    rfl
   ·rw [List.filter_cons_of_pos (by simpa using hk)]
    rfl
  ·refine ⟨can, ?_, trivial, ?_⟩
   ·simp only [gH45_0i_0, av, bf, aU, aQ, aA, bG, aa, Int.toNat_natCast, Nat.zero_add, hd, hg, i1, d1, r1, ak, bp, bI]
    rw [if_pos (by omega),if_neg hk]
    rfl
   ·rw [List.filter_cons_of_neg (by simpa using hk)]
 ·rintro can _
  simp only [gH45_0i_0,av,aa,bp]
  rw [if_neg (by omega)]
  rfl
theorem Pj {vs:List ByteArray}:∀{m:Ss},(GH c vs m).length≤m.length+vs.length:=by
 induction vs with
 |nil=>exact Nat.le_refl _
 |cons v vs ih =>
  intro m
  have h1:=ih (m:=aV .str m (msg c v).2.2.2.1 ())
  have h2:=Ph (m:=m) (k:=(msg c v).2.2.2.1)
  simp only [List.length_cons]
  exact Nat.le_trans h1 (by omega)
theorem GJ (hs:SI c) {t:ByteArray} (ht:t∈yq c):mg c t=true∧(msg c t).2.1=1:=by
 obtain ⟨m,hm,rfl⟩:=List.mem_map.1 ht
 obtain ⟨h1,h2⟩:=List.mem_filter.1 hm
 exact ⟨bD.2 (List.mem_map.2 ⟨m,h1,rfl⟩),by rw [fG hs h1];simpa using h2⟩
theorem IX:(yq c).length≤c.length:=by unfold yq;rw [List.length_map];exact List.length_filter_le ..
theorem TO (hs:SI c) {t:ByteArray} (ht:mg c t=true) (hk:(msg c t).2.1=1):(ga c t).length≤c.length:=kL hs (kN hs ht hk) (bD.1 ht) .zero
theorem EF (hs : SI c) : ∀ {ts : List ByteArray} {m : Ss}, (∀ t ∈ ts, mg c t = true ∧ (msg c t).2.1 = 1) → (GI c ts m).length ≤ m.length + ts.length * c.length
 |[],m,_=>by simp [GI]
 |t::ts,m,h=>by
  have h1:=EF hs (ts:=ts) (m:=GH c (ga c t) m) fun t h'=>h t (List.mem_cons_of_mem _ h')
  have h2:=Pj (c:=c) (vs:=ga c t) (m:=m)
  have h3:=TO hs (h t (List.mem_cons_self ..)).1 (h t (List.mem_cons_self ..)).2
  have h4:(ts.length+1) * c.length=ts.length * c.length+c.length:=Nat.succ_mul ..
  simp only [List.length_cons,h4]
  exact Nat.le_trans h1 (by omega)
theorem kH45 {L:List Mg} (h:nF L):aq (FH45 (bk L))=some ((TM (cnt L)).length,TM (cnt L),bk L,()):=by
 have hs:=gv L
 have hc:=pn h
 have hz:=EF hs (ts:=yq (cnt L)) (m:=[]) fun t ht=>GJ hs ht
 have hq:(yq (cnt L)).length * (cnt L).length≤60 * 60:=Nat.mul_le_mul (Nat.le_trans IX hc) hc
 have hzl:(GI (cnt L) (yq (cnt L)) []).length<1000000000:=by simp only [List.length_nil] at hz;omega
 unfold FH45 gH45_0
 simp only [aA,GA,aN,av,b8]
 rw [aj (Pb h)]
 simp only [FH79,FH95,aa,aN,bG]
 rw [aj (Tw hs (by omega))]
 refine bind_eq (bind_eq (kC45 hs hc) rfl) ?_
 simp only [FH82,FH108,aA,aa,aN]
 rw [aj (TN (Pg .nil) hzl)]
 unfold TM
 rw [List.length_map]
theorem Zd {Z:Zs} (h:∃z,vB Z z):0<Z.length:=by
 obtain ⟨z,hz⟩:=h
 exact List.length_pos_of_mem hz
theorem IY (hs : SI c) {t : ByteArray} (ht : PY c t) (Co : t ∈ ids c) : ∀ {n d : Nat} {x : ByteArray}, gY c t d x → d + n = c.length → cA c (n + 1) x ≠ []
 |0,d,x,hp,hd=>by have:=hp.short hs ht Co;omega
 |n+1,d,x,hp,hd=>by
  unfold cA
  split
  ·simp
  ·rename_i k l hl
   intro h
   have h1:=(ej (t:=.str) ((k::l).flatMap (cA c (n+1)))).length_eq
   rw [show ot .str ((k::l).flatMap (cA c (n+1)))=[] from h] at h1
   have h2:=IY hs ht Co (n:=n) (hp.step (vz (by rw [hl];exact List.mem_cons_self ..))) (by omega)
   have h3:0<(cA c (n+1) k).length:=List.length_pos_iff.2 h2
   rw [List.flatMap_cons,List.length_append] at h1
   simp only [List.length_nil] at h1
   omega
theorem Ze (hs:SI c) {t:ByteArray} (ht:mg c t=true∧(msg c t).2.1=1):ga c t≠[]:=IY hs (kN hs ht.1 ht.2) (bD.1 ht.1) .zero (by omega)
theorem IZ (hs : SI c) {f : ByteArray → Int} : ∀ {ts : List ByteArray} {can : Zs}, (∀ t ∈ ts, mg c t = true ∧ (msg c t).2.1 = 1) → (∃ z, vB can z) → ∃ z, vB (nJ c f ts can) z
 |[],_,_,h=>h
 |t::ts,can,ht,h=>IZ hs (ts:=ts) (fun t h=>ht t (List.mem_cons_of_mem _ h)) (Pe h (Ze hs (ht t (List.mem_cons_self ..))))
theorem I1 (hs:SI c) {f:ByteArray→Int}:0<(mo c f).length:=by
 unfold mo
 rw [List.length_map]
 exact Zd (IZ hs (fun t ht=>GJ hs ht) ⟨0,(dM.2 0).2 rfl⟩)
theorem TP (hs:SI c) (hl:c.length≤60) {f:ByteArray→Int} (hB:VD c f):BZ 60000 (nJ c f (yq c) eV):=by
 have key:∀(ts:List ByteArray) (can:Zs) (B:Int),(∀t∈ts,mg c t=true∧(msg c t).2.1=1)→BZ B can→BZ (B+1000 * ts.length) (nJ c f ts can):=by
  intro ts
  induction ts with
  |nil=>intro can B _ h;simpa [nJ] using h
  |cons t ts ih =>
   intro can B ht h
   have h1:=ht t (List.mem_cons_self ..)
   have:=ih (nH f can (ga c t)) (B+1000) (fun t h=>ht t (List.mem_cons_of_mem _ h)) (sx h fun v hv=>hB t v h1.1 h1.2 hv)
   intro z hz
   have:=this z hz
   simp only [List.length_cons]
   omega
 have h1:=key (yq c) eV 0 (fun t ht=>GJ hs ht) (fun z hz=>by rw [(dM.2 z).1 hz];simp)
 have hle:=IX (c:=c)
 intro z hz
 have:=h1 z hz
 omega
theorem EG (hs:SI c) (hl:c.length≤60) {f:ByteArray→Int} (hB:VD c f):(mo c f).length<1000000:=by
 have:=GF (B:=60000) (vC dM.1) (by simpa using TP hs hl hB)
 unfold mo
 rw [List.length_map]
 omega
theorem kH37 {L:List Mg} (h:nF L):aq (FH37 (bk L))=some (sumL (cnt L),0,bk L,()):=by
 have hs:=gv L
 have hc:=pn h
 have hB:=bndT hs (Cg h)
 unfold FH37
 simp only [aA,GA,aN,av,b8]
 rw [aj (Pb h)]
 simp only
 rw [aj (TL hs hc hB)]
 simp only [List.drop_zero,List.take_length]
 rw [aj (k72 (I1 hs) (by have:=EG hs hc hB;omega))]
 rfl
theorem kH25 {L:List Mg} (h:nF L) {a:ByteArray} (ha:Sh a):aq (FH25 a (bk L))=some ((IW (cnt L) a).1,(IW (cnt L) a).2,bk L,()):=by
 have hs:=gv L
 have hc:=pn h
 have hB:=bndA hs (Cg h) a
 unfold FH25
 simp only [aA]
 rw [aj (Zc h ha)]
 simp only [av,bP,bI,aa,List.drop_zero,List.take_length]
 unfold IW
 by_cases h0:(uO (cnt L) a).2=0
 ·rw [if_pos h0, if_pos h0]
  have h1:(uO (cnt L) a).1=mo (cnt L) (fA (cnt L) a):=by
   revert h0
   unfold uO
   split
   ·intro _;rfl
   ·intro h;cases h
  rw [h1,aA,aj (k72 (I1 hs) (by have:=EG hs hc hB;omega))]
  rfl
 ·rw [if_neg h0,if_neg h0]
theorem k36 {l l':List ByteArray} (hl:l.length<1000000000):aq (F36 l l')=some (decide (l=l'),()):=by
 by_cases hn:l.length=l'.length
 ·have hi:iter (fun a=>run (fun _=>none) (g36_0 a)) (l,l',(0:Int),())=some (if l=l'.drop 0 then Sum.inr () else Sum.inl ()):=by
   refine aO l (fun k (_:Nat)=>(l,l',(k:Int),())) (fun k r=>if r=l'.drop k then Sum.inr () else Sum.inl ()) (fun pre k=>k=pre.length) ?_ ?_ (s:=0) rfl
   ·rintro pre x post k hx rfl
    have hlen:l.length=pre.length+(post.length+1):=by rw [hx];simp
    have hlt:pre.length<l'.length:=by omega
    have hd:l.getD pre.length (bs [])=x:=by rw [hx];exact bg rfl
    have hd':l'.getD pre.length (bs [])=l'[pre.length]:=by rw [List.getD_eq_getElem?_getD,List.getElem?_eq_getElem hlt];rfl
    have i1:fh (pre.length:Int) ((l.length:Nat):Int)=true:=bX (by omega) (by omega)
    have i2:fh (pre.length:Int) ((l'.length:Nat):Int)=true:=bX (by omega) (by omega)
    have r1:gH .i64 ((pre.length:Int)+1)=true:=aJ (by omega) (by omega)
    simp only [g36_0,av,bf,aQ,aa,Int.toNat_natCast,hd,hd',i1,i2,r1,ak,bp,seq_eq,bP]
    rw [if_pos (by omega),List.drop_eq_getElem_cons hlt]
    by_cases h:x=l'[pre.length]
    ·left
     refine ⟨pre.length+1,?_,by simp,?_⟩
     ·rw [if_pos h];rfl
     ·rw [h];simp only [List.cons.injEq,true_and]
    ·right
     rw [if_neg h,if_neg (fun e=>h (List.cons.inj e).1)]
   ·rintro k rfl
    simp only [g36_0,av,bp,aa]
    rw [if_neg (by omega),if_pos (by rw [hn,List.drop_length])]
  unfold F36
  simp only [av,aA,bG,bP,bI]
  rw [if_pos (by omega),aj hi,List.drop_zero]
  by_cases h:l=l'
  ·rw [if_pos h];simp only [mW,aa,h,decide_true]
  ·rw [if_neg h];simp only [oh,aa,h,decide_false]
 ·unfold F36
  simp only [av,bP,bI,aa]
  rw [if_neg (by omega),decide_eq_false fun e=>hn (by rw [e])]
theorem k27 {l l':List Int} (hl:l.length<1000000000):aq (F27 l l')=some (decide (l=l'),()):=by
 by_cases hn:l.length=l'.length
 ·have hi:iter (fun a=>run (fun _=>none) (g27_0 a)) (l,l',(0:Int),())=some (if l=l'.drop 0 then Sum.inr () else Sum.inl ()):=by
   refine aO l (fun k (_:Nat)=>(l,l',(k:Int),())) (fun k r=>if r=l'.drop k then Sum.inr () else Sum.inl ()) (fun pre k=>k=pre.length) ?_ ?_ (s:=0) rfl
   ·rintro pre x post k hx rfl
    have hlen:l.length=pre.length+(post.length+1):=by rw [hx];simp
    have hlt:pre.length<l'.length:=by omega
    have hd:l.getD pre.length (0:Int)=x:=by rw [hx];exact bg rfl
    have hd':l'.getD pre.length (0:Int)=l'[pre.length]:=by rw [List.getD_eq_getElem?_getD,List.getElem?_eq_getElem hlt];rfl
    have i1:fh (pre.length:Int) ((l.length:Nat):Int)=true:=bX (by omega) (by omega)
    have i2:fh (pre.length:Int) ((l'.length:Nat):Int)=true:=bX (by omega) (by omega)
    have r1:gH .i64 ((pre.length:Int)+1)=true:=aJ (by omega) (by omega)
    simp only [g27_0,av,bf,aQ,aa,Int.toNat_natCast,hd,hd',i1,i2,r1,ak,bp,bP,bI]
    rw [if_pos (by omega),List.drop_eq_getElem_cons hlt]
    by_cases h:x=l'[pre.length]
    ·left
     refine ⟨pre.length+1,?_,by simp,?_⟩
     ·rw [if_pos h];rfl
     ·rw [h];simp only [List.cons.injEq,true_and]
    ·right
     rw [if_neg h,if_neg (fun e=>h (List.cons.inj e).1)]
   ·rintro k rfl
    simp only [g27_0,av,bp,aa]
    rw [if_neg (by omega),if_pos (by rw [hn,List.drop_length])]
  unfold F27
  simp only [av,aA,bG,bP,bI]
  rw [if_pos (by omega),aj hi,List.drop_zero]
  by_cases h:l=l'
  ·rw [if_pos h];simp only [mW,aa,h,decide_true]
  ·rw [if_neg h];simp only [oh,aa,h,decide_false]
 ·unfold F27
  simp only [av,bP,bI,aa]
  rw [if_neg (by omega),decide_eq_false fun e=>hn (by rw [e])]
end
end Go.Proofs.Tryz
end
section
namespace Go.Proofs.Tryz
open Go.AM
set_option maxRecDepth 100000
def XL:List Mg:=[(bs [116,49],1,bs [],bs [97,110,97],40),(bs [116,50],1,bs [],bs [98,101,110],25),(bs [99,49],2,bs [116,49],bs [97,110,97],42),(bs [99,50],2,bs [116,49],bs [99,121],40),(bs [99,51],2,bs [99,49],bs [97,110,97],41),(bs [119,49],2,bs [120,57],bs [98,101,110],5),(bs [114,49],3,bs [99,49],bs [],0),(bs [114,50],3,bs [99,50],bs [],0)]
theorem k46:aq F46=some (XL,()):=by
 unfold F46
 simp only [aA,F50,F42,F39,aa,aN]
 rfl
def L6:List Mg:=cR ((XL.drop (Int.toNat 0)).take (Int.toNat 6 - Int.toNat 0))
def L7:List Mg:=cR ((XL.drop (Int.toNat 0)).take (Int.toNat 7 - Int.toNat 0))
def L8:List Mg:=cR XL
theorem x1:pZ (cnt L6) (bs [116,49])=([bs [99,50],bs [99,51]],0):=by kernel_rfl
theorem x2:uO (cnt L6) (bs [97,110,97])=([0,41],0):=by kernel_rfl
theorem x3:uO (cnt L7) (bs [97,110,97])=([41],0):=by kernel_rfl
theorem x4:sumL (cnt L6)=(65,66):=by kernel_rfl
theorem x5:IW (cnt L8) (bs [99,121])=((0,40),0):=by kernel_rfl
theorem x6:TM (cnt L6)=[bs [97,110,97],bs [98,101,110],bs [99,121]]:=by kernel_rfl
theorem x7:ek (cnt L6) (bs [116,49])=(3,0):=by kernel_rfl
theorem x8:ek (cnt L6) (bs [116,50])=(4,0):=by kernel_rfl
theorem x9:ek (cnt L6) (bs [99,51])=(5,0):=by kernel_rfl
theorem x10:ek (cnt L6) (bs [119,49])=(1,0):=by kernel_rfl
theorem x11:ek (cnt L7) (bs [99,50])=(2,0):=by kernel_rfl
theorem x12:ek (cnt L7) (bs [99,51])=(4,0):=by kernel_rfl
theorem x13:ek (cnt L8) (bs [99,50])=(5,0):=by kernel_rfl
theorem x14:L8.length=8:=by kernel_rfl
instance (m:Mg):Decidable (K8 m):=by unfold K8 Sh;infer_instance
theorem aej:aq (FH29 ((XL.drop (Int.toNat 0)).take (Int.toNat 6 - Int.toNat 0)))=some (bk L6,()):=O6 (by decide) (by decide +kernel)
theorem aek:aq (FH29 ((XL.drop (Int.toNat 0)).take (Int.toNat 7 - Int.toNat 0)))=some (bk L7,()):=O6 (by decide) (by decide +kernel)
theorem ael:aq (FH29 XL)=some (bk L8,()):=O6 (by decide) (by decide +kernel)
theorem o6:nF L6:=nF.told _
theorem o7:nF L7:=nF.told _
theorem o8:nF L8:=nF.told _
theorem xl:XL.length=8:=rfl
theorem Pk:Sh (bs [97,110,97]):=by unfold Sh;decide +kernel
theorem aem:Sh (bs [99,121]):=by unfold Sh;decide +kernel
theorem e1:aq (FH33 (bs [116,49]) (bk L6))=some (2,0,[bs [99,50],bs [99,51]],bk L6,()):=by rw [Zb o6,x1];rfl
theorem e2:aq (FH23 (bs [97,110,97]) (bk L6))=some (2,0,[0,41],bk L6,()):=by rw [Zc o6 Pk,x2];rfl
theorem e3:aq (FH23 (bs [97,110,97]) (bk L7))=some (1,0,[41],bk L7,()):=by rw [Zc o7 Pk,x3];rfl
theorem e4:aq (FH37 (bk L6))=some ((65,66),0,bk L6,()):=by rw [kH37 o6,x4]
theorem e5:aq (FH25 (bs [99,121]) (bk L8))=some ((0,40),0,bk L8,()):=by rw [kH25 o8 aem,x5]
theorem e6:aq (FH45 (bk L6))=some (3,[bs [97,110,97],bs [98,101,110],bs [99,121]],bk L6,()):=by rw [kH45 o6,x6];rfl
theorem e7:aq (F36 (([bs [99,50],bs [99,51]].drop 0).take 2) (([bs [99,50],bs [99,51]].drop 0).take 2))=some (true,()):=by rw [k36 (by decide)];rfl
theorem e8:aq (F27 ((([0,41]:List Int).drop 0).take 2) ((([0,41]:List Int).drop 0).take 2))=some (true,()):=by rw [k27 (by decide)];rfl
theorem e9:aq (F27 ((([41]:List Int).drop 0).take 1) ((([41]:List Int).drop 0).take 1))=some (true,()):=by rw [k27 (by decide)];rfl
theorem e10:aq (F36 (([bs [97,110,97],bs [98,101,110],bs [99,121]].drop 0).take 3) (([bs [97,110,97],bs [98,101,110],bs [99,121]].drop 0).take 3))=some (true,()):=by rw [k36 (by decide)];rfl
theorem e11:aq (FH40 (bs [116,49]) 3 (bk L6))=some (true,bk L6,()):=by rw [zf o6,x7];rfl
theorem e12:aq (FH40 (bs [116,50]) 4 (bk L6))=some (true,bk L6,()):=by rw [zf o6,x8];rfl
theorem e13:aq (FH40 (bs [99,51]) 5 (bk L6))=some (true,bk L6,()):=by rw [zf o6,x9];rfl
theorem e14:aq (FH40 (bs [119,49]) 1 (bk L6))=some (true,bk L6,()):=by rw [zf o6,x10];rfl
theorem e15:aq (FH40 (bs [99,50]) 2 (bk L7))=some (true,bk L7,()):=by rw [zf o7,x11];rfl
theorem e16:aq (FH40 (bs [99,51]) 4 (bk L7))=some (true,bk L7,()):=by rw [zf o7,x12];rfl
theorem e17:aq (FH40 (bs [99,50]) 5 (bk L8))=some (true,bk L8,()):=by rw [zf o8,x13];rfl
theorem e18:aq (FH47 (bk L8))=some (8,L8,bk L8,()):=by rw [kH47 o8.s (by rw [x14];decide),x14]
theorem k17:aq F17=some (true,()):=by
 unfold F17
 simp only [aA,aU,av,aa,k46,aN,aej,aek,ael,xl,e1,e2,e3,e4,e5,e6,e11,e12,e13,e14,e15,e16,e17,e18,bI]
 rw [b7 (by decide),b7 (by decide),b7 (by decide),b7 (by decide)]
 rw [if_pos trivial,if_pos trivial,if_pos trivial,if_pos trivial,if_pos trivial,aj e7]
 simp only [bM]
 rw [aj e8]
 simp only [bM]
 rw [aj e9]
 simp only [bM]
 rw [show (((65,66):Int×Int).1==65&&(((65,66):Int×Int).2==66&&true))=true from by decide,show (((0,40):Int×Int).1==0&&(((0,40):Int×Int).2==40&&true))=true from by decide]
 simp only [bM]
 rw [aj e10]
 simp only [bM]
 refine (b7 (by decide)).trans ?_
 refine (b7 (by decide)).trans ?_
 rfl
def mC:Mg:=(bs [99,49],2,bs [116,49],bs [97,110,97],43)
def L9:List Mg:=(iw L8 mC).2
theorem y1:(iw L8 mC).1=0:=by kernel_rfl
theorem y2:ek (cnt L9) (bs [114,49])=(0,18):=by kernel_rfl
theorem y3:pZ (cnt L9) (bs [99,49])=([],18):=by kernel_rfl
theorem y4:ek (cnt L9) (bs [122,122])=(0,5):=by kernel_rfl
theorem y5:L9.length=9:=by kernel_rfl
theorem y6:ek (cnt L9) (bs [99,49])=(3,0):=by kernel_rfl
end Go.Proofs.Tryz
end
section
namespace Go.Proofs.Tryz
open Go.AM
set_option maxRecDepth 100000
abbrev Nu:=Int×Int×Int×Int
def U8 (z:Int):Prop:=0≤z∧z≤255
def K9 (x:Nu):Prop:=U8 x.1∧U8 x.2.1∧U8 x.2.2.1∧U8 x.2.2.2
theorem Pm {z:Int} (h1:0≤z) (h2:z≤255):gH .u8 z=true:=by
 have e1:IntKind.u8.min=0:=by decide
 have e2:IntKind.u8.max=255:=by decide
 unfold gH
 rw [e1,e2]
 simp [h1,h2]
def p0 (f n:Int):ByteArray:=uu [f+n]
theorem k43 {f n:Int} (h1:0≤f) (h2:0≤n) (h3:f+n≤255):aq (F43 f n)=some (p0 f n,()):=by
 unfold F43
 simp only [aU,aa]
 rw [gn (Pm h2 (by omega)),gn (Pm (by omega) h3)]
 rfl
def TQ (x:Nu):Int:=if Int.tmod x.1 8=Int.tmod x.2.1 8 then Int.tmod (Int.tmod x.2.1 8+1) 8 else Int.tmod x.2.1 8
def EX (x:Nu):Mg :=
 let i:=p0 97 (Int.tmod x.1 8)
 let a:=p0 120 (Int.tmod x.2.2.1 3)
 let n:=Int.tmod (Int.tdiv x.2.2.1 3) 12 - 3
 let k:=Int.tmod x.2.2.2 8
 if k=0∨k=1∨k=2 then (i,1,bs [],a,n) else if k=3 then (i,3,p0 97 (TQ x),bs [],0) else (i,2,p0 97 (TQ x),a,n)
theorem EH {a:Int} (h:0≤a) (n:Int) (hn:0<n):0≤Int.tmod a n∧Int.tmod a n<n:=⟨Int.tmod_nonneg _ h,Int.tmod_lt_of_pos _ hn⟩
theorem TS {a:Int} (h:0≤a) (h2:a≤255):0≤Int.tdiv a 3∧Int.tdiv a 3≤255:=by
 rw [Int.tdiv_eq_ediv_of_nonneg h];omega
theorem n83:(!((8:Int)==0))=true∧(!((3:Int)==0))=true∧(!((12:Int)==0))=true:=by decide
theorem ln4 {a b c d:Int}:decide (0<[a,b,c,d].length)=true∧decide (1<[a,b,c,d].length)=true∧decide (2<[a,b,c,d].length)=true∧decide (3<[a,b,c,d].length)=true:=⟨rfl,rfl,rfl,rfl⟩
theorem gd4 {a b c d:Int}:[a,b,c,d].getD 0 0=a∧[a,b,c,d].getD 1 0=b∧[a,b,c,d].getD 2 0=c∧[a,b,c,d].getD 3 0=d:=⟨rfl,rfl,rfl,rfl⟩
theorem k44 {x:Nu} (h:K9 x):aq (F44 x)=some (EX x,()):=by
 obtain ⟨a,b,c,d⟩:=x
 obtain ⟨⟨a1,a2⟩,⟨b1,b2⟩,⟨c1,c2⟩,d1,d2⟩:=h
 simp only at a1 a2 b1 b2 c1 c2 d1 d2
 have ta:=EH a1 8 (by omega)
 have tb:=EH b1 8 (by omega)
 have tc:=EH c1 3 (by omega)
 have td:=EH d1 8 (by omega)
 have te:=TS c1 c2
 have tf:=EH te.1 12 (by omega)
 have tg:=EH (show 0≤Int.tmod b 8+1 by omega) 8 (by omega)
 have ra:=aJ (z:=a) (by omega) (by omega)
 have rb:=aJ (z:=b) (by omega) (by omega)
 have rc:=aJ (z:=c) (by omega) (by omega)
 have rd:=aJ (z:=d) (by omega) (by omega)
 have re:=aJ (z:=Int.tdiv c 3) (by omega) (by omega)
 have rf:=aJ (z:=Int.tmod (Int.tdiv c 3) 12 - 3) (by omega) (by omega)
 have rg:=aJ (z:=Int.tmod b 8+1) (by omega) (by omega)
 unfold F44 EX TQ
 simp only [aU,aQ,av,aA,aa,ln4.1,ln4.2.1,ln4.2.2.1,ln4.2.2.2,gd4.1,gd4.2.1,gd4.2.2.1,gd4.2.2.2,n83.1,n83.2.1,n83.2.2,ak,ra,rb,rc,rd,re,rf,rg,bI]
 have q1:=k43 (f:=97) (n:=Int.tmod a 8) (by omega) (by omega) (by omega)
 have q2:=k43 (f:=97) (n:=Int.tmod b 8) (by omega) (by omega) (by omega)
 have q3:=k43 (f:=97) (n:=Int.tmod (Int.tmod b 8+1) 8) (by omega) (by omega) (by omega)
 have q4:=k43 (f:=120) (n:=Int.tmod c 3) (by omega) (by omega) (by omega)
 simp only [q1,q2,q3,q4,aN]
 by_cases e:Int.tmod a 8=Int.tmod b 8
 ·simp only [if_pos e]
  by_cases e0:Int.tmod d 8=0
  ·simp only [e0,if_true,true_or]
  ·by_cases e1 : Int.tmod d 8 = 1
   ·simp [e1]
   ·by_cases e2 : Int.tmod d 8 = 2
    ·simp [e2]
    ·by_cases e3 : Int.tmod d 8 = 3
     ·simp [e3]
     ·simp [e0,e1,e2,e3]
 ·simp only [if_neg e]
  by_cases e0:Int.tmod d 8=0
  ·simp only [e0,if_true,true_or]
  ·by_cases e1 : Int.tmod d 8 = 1
   ·simp [e1]
   ·by_cases e2 : Int.tmod d 8 = 2
    ·simp [e2]
    ·by_cases e3 : Int.tmod d 8 = 3
     ·simp [e3]
     ·simp [e0,e1,e2,e3]
def cH (p:List Nu):List Mg:=(p.take 10).map EX
theorem mw (p:List Nu):(cH p).length≤10:=by unfold cH;rw [List.length_map,List.length_take];omega
theorem k28 {p:List Nu} (h:∀x∈p,K9 x):aq (F28 p)=some (cH p,()):=by
 have hi:iter (fun a=>run (fun _=>none) (g28_0 a)) (p,0,(0:Int),[],())=some ((cH p).length,cH p,()):=by
  have:=aO (p.take 10) (fun k (o:List Mg)=>(p,o.length,(k:Int),o,())) (fun o r=>((o++r.map EX).length,o++r.map EX,())) (fun pre o=>o=pre.map EX) (f:=fun a=>run (fun _=>none) (g28_0 a)) (s:=[]) ?_ ?_ rfl
  ·simpa [cH] using this
  ·rintro pre x post _ hx rfl
   have hlen:(p.take 10).length=pre.length+(post.length+1):=by rw [hx];simp
   rw [List.length_take] at hlen
   have hd:p.getD pre.length ((0:Int),(0:Int),(0:Int),(0:Int))=x:=by
    have:(p.take 10).getD pre.length ((0:Int),(0:Int),(0:Int),(0:Int))=x:=by rw [hx];exact bg rfl
    rw [getD_take (by omega)] at this;exact this
   have hxm:x∈p:=List.mem_of_mem_take (i:=10) (by rw [hx];simp)
   have i1:fh (pre.length:Int) ((p.length:Nat):Int)=true:=bX (by omega) (by omega)
   have r1:gH .i64 ((pre.length:Int)+1)=true:=aJ (by omega) (by omega)
   left
   refine ⟨(pre++[x]).map EX,?_,rfl,?_⟩
   ·simp only [g28_0, av, bf, aA, aU, aQ, aa, Int.toNat_natCast, hd, i1, r1, ak, bp]
    rw [if_pos (by omega),if_pos (by omega),aj (k44 (x:=(x.1,x.2.1,x.2.2.1,x.2.2.2)) (h x hxm))]
    rw [b7 (show _<cg by rw [fc];simp;omega)]
    simp
    exact List.take_of_length_le (by simp)
   ·simp
  ·rintro _ rfl
   simp only [g28_0,av,aa,bp]
   have:(p.take 10).length=min 10 p.length:=List.length_take
   by_cases h1:(((p.take 10).length:Nat):Int)<((p.length:Nat):Int)
   ·rw [if_pos h1,if_neg (by omega)];simp
   ·rw [if_neg h1];simp
 unfold F28
 simp only [aA,bG]
 rw [aj hi]
 simp only [aa,List.drop_zero,List.take_length]
theorem lt_size (f n:Int):(p0 f n).size=1:=rfl
theorem yu (f n:Int):Sh (p0 f n):=by unfold Sh;rw [lt_size];omega
theorem Pn:Sh (bs []):=by unfold Sh;decide
theorem aep (x:Nu):K8 (EX x):=by
 unfold EX
 simp only
 split
 ·exact ⟨yu _ _,Pn,yu _ _⟩
 ·split
  ·exact ⟨yu _ _,yu _ _,Pn⟩
  ·exact ⟨yu _ _,yu _ _,yu _ _⟩
end Go.Proofs.Tryz
end
section
namespace Go.Proofs.Tryz
open Go.AM
set_option maxRecDepth 100000
theorem Po {l:List Int} (h:∀z∈l,0≤z∧z≤255):eX (uu l)=l:=by
 unfold eX uu
 rw [List.map_map]
 conv=>rhs;rw [←List.map_id l]
 refine List.map_congr_left fun z hz=>?_
 have:=h z hz
 simp only [Function.comp_apply,id]
 rw [UInt8.toNat_ofNat']
 omega
theorem GK {f n:Int} (h1:0≤f+n) (h2:f+n≤255):eX (p0 f n)=[f+n]:=Po fun z hz=>by
 rw [List.mem_singleton] at hz;subst hz;exact ⟨h1,h2⟩
theorem Zf {f n m:Int} (h1:0≤f+n) (h2:f+n≤255) (h3:0≤f+m) (h4:f+m≤255) (e:p0 f n=p0 f m):n=m:=by
 have:=congrArg eX e
 rw [GK h1 h2,GK h3 h4] at this
 have:=(List.cons.inj this).1
 omega
theorem Ch {f n:Int} (h1:97≤f+n) (h2:f+n≤122):eU (p0 f n)=true:=by
 unfold eU
 rw [GK (by omega) (by omega),lt_size]
 simp [Tu,yd,h1,h2]
theorem I2:Cd [0,0]=0:=by decide
theorem VF {x:Nu} (h:K9 x):0≤TQ x∧TQ x<8∧Int.tmod x.1 8≠TQ x:=by
 obtain ⟨⟨a1,a2⟩,⟨b1,b2⟩,_⟩:=h
 have ta:=EH a1 8 (by omega)
 have tb:=EH b1 8 (by omega)
 have tg:=EH (show 0≤Int.tmod x.2.1 8+1 by omega) 8 (by omega)
 unfold TQ
 split
 ·rename_i e
  refine ⟨tg.1,tg.2,?_⟩
  rw [e,Int.tmod_eq_emod_of_nonneg (by omega:0≤Int.tmod x.2.1 8+1)]
  omega
 ·rename_i e
  exact ⟨tb.1,tb.2,e⟩
theorem Pp {x:Nu} (h:K9 x):sj (EX x)=0:=by
 have ho:=VF h
 obtain ⟨⟨a1,a2⟩,⟨b1,b2⟩,⟨c1,c2⟩,d1,d2⟩:=h
 have ta:=EH a1 8 (by omega)
 have tc:=EH c1 3 (by omega)
 have te:=TS c1 c2
 have tf:=EH te.1 12 (by omega)
 have n1:eU (p0 97 (Int.tmod x.1 8))=true:=Ch (by omega) (by omega)
 have n2:eU (p0 97 (TQ x))=true:=Ch (by omega) (by omega)
 have n3:eU (p0 120 (Int.tmod x.2.2.1 3))=true:=Ch (by omega) (by omega)
 have n4:p0 97 (TQ x)≠p0 97 (Int.tmod x.1 8):=fun e=>ho.2.2 (Zf (by omega) (by omega) (by omega) (by omega) e).symm
 have n5 : -1000≤Int.tmod (Int.tdiv x.2.2.1 3) 12 - 3∧Int.tmod (Int.tdiv x.2.2.1 3) 12 - 3≤1000:=by omega
 unfold EX
 simp only
 split
 ·simp [sj,oF,mb,n1,n3,n5,I2]
 ·split
  ·simp [sj,oF,mb,n1,n2,n4,I2]
  ·simp [sj,oF,mb,n1,n2,n3,n4,n5,I2]
theorem Ci {L:List Mg} {m:Mg} (hc:sj m=0) (hl:L.length+1≤60):iw L m=(0,oG L m):=by
 unfold iw
 have:=ye (L:=L) (m:=m)
 rw [if_pos hc,if_neg (by omega)]
def Gd (l:List Mg):Prop:=∀m∈l,sj m=0
theorem EI : ∀ {l L : List Mg}, nF L → Gd l → L.length + l.length ≤ 60 → ∀ x, x ∈ l.foldl (fun L m => (iw L m).2) L ↔ x ∈ L ∨ x ∈ l
 |[],L,_,_,_,x=>by simp
 |m::l,L,h,hg,hl,x=>by
  rw [List.length_cons] at hl
  have hc:=hg m (List.mem_cons_self ..)
  have ht:=Ci (L:=L) hc (by omega)
  have h2:=h.tell m
  rw [ht] at h2
  have:=ye (L:=L) (m:=m)
  rw [List.foldl_cons,ht,EI h2 (fun z hz=>hg z (List.mem_cons_of_mem _ hz)) (by simp only;omega)]
  simp only [mc h.s,List.mem_cons]
  constructor
  ·rintro ((h | h) | h)
   ·exact .inr (.inl h)
   ·exact .inl h
   ·exact .inr (.inr h)
  ·rintro (h | h | h)
   ·exact .inl (.inr h)
   ·exact .inl (.inl h)
   ·exact .inr h
theorem oM {l:List Mg} (hg:Gd l) (hl:l.length≤60) (x:Mg):x∈cR l↔x∈l:=by
 have:=EI nF.nil hg (by simpa using hl) x
 simpa [cR] using this
theorem vD {p:List Nu} (h:∀x∈p,K9 x):Gd (cH p):=fun m hm=>by
 obtain ⟨x,hx,rfl⟩:=List.mem_map.1 hm
 exact Pp (h x (List.mem_of_mem_take hx))
theorem I3 (p:List Nu):∀m∈cH p,K8 m:=fun m hm=>by
 obtain ⟨x,hx,rfl⟩:=List.mem_map.1 hm
 exact aep x
theorem kT {L:List Mg} (h:nF L) {m:Mg} (hm:K8 m) (hc:sj m=0) (hl:L.length+1≤60):aq (FH20 (m.1,m.2.1,m.2.2.1,m.2.2.2.1,m.2.2.2.2) (bk L))=some (0,bk (oG L m),()):=by
 have:=kH20 h.s h.len hm
 rw [Ci hc hl] at this
 exact this
theorem Zg {L:List Mg} (h:nF L) {m:Mg} (hc:sj m=0) (hl:L.length+1≤60):nF (oG L m):=by
 have:=h.tell m
 rwa [Ci hc hl] at this
end Go.Proofs.Tryz
end
section
namespace Go.Proofs.Tryz
open Go.AM
set_option maxRecDepth 100000
theorem SL.nd {L:List Mg} (h:SL L):L.Nodup:=List.Pairwise.imp (fun {a b} h e=>by subst e;rw [gV kM] at h;cases h) h
def uP:List ByteArray:=[bs [120],bs [121],bs [122]]
def jE:List ByteArray:=[bs [97],bs [98],bs [99],bs [100],bs [101],bs [102],bs [103],bs [104]]
theorem TT:∀a∈uP,Sh a:=by unfold uP Sh;decide
abbrev B2:=List (Mg×Bool)×List (Mg×Bool)×Unit
end Go.Proofs.Tryz
end
section
namespace Go.Proofs.Tryz
open Go.AM
set_option maxRecDepth 100000
end Go.Proofs.Tryz
end
section
namespace Go.Proofs.Tryz
open Go.AM
set_option maxRecDepth 100000
abbrev Zh:Ty:=.int .u8
abbrev nuT:Ty:=.prod Zh (.prod Zh (.prod Zh Zh))
theorem AB {z:Int} (h:Wf Zh z):U8 z:=by
 have e1:IntKind.u8.min=0:=by decide
 have e2:IntKind.u8.max=255:=by decide
 simp only [Wf,e1,e2] at h
 exact h
theorem aeq {x:Nu} (h:Wf nuT x):K9 x:=⟨AB h.1,AB h.2.1,AB h.2.2.1,AB h.2.2.2⟩
end Go.Proofs.Tryz
end
section
namespace Go.Proofs.Tryz
open Go.AM
set_option maxRecDepth 100000
def sev (m:Mg):Mg:=if m.2.1=3 then m else (m.1,m.2.1,m.2.2.1,m.2.2.2.1,7)
structure KS where
 met:List (ByteArray×Bool)
 out:List Mg
 s:Int
def MV (z:KS) (m:Mg):KS:=if ay .str false z.met m.1=true then z else ⟨aV .str z.met m.1 true,z.out++[sev m],if m.2.1=1 then z.s+7 else z.s⟩
structure KI (z:KS):Prop where
 ZT:gK .str z.met
 met:∀x,ay .str false z.met x=true↔x∈z.out.map (·.1)
 nd:(z.out.map (·.1)).Nodup
 gd:Gd z.out
 sh:∀m∈z.out,K8 m
 am:∀m∈z.out,m.2.1≠3→m.2.2.2.2=7
 s:z.s=7 * ((z.out.filter fun m=>decide (m.2.1=1)).length:Int)
def only (Z:Zs) (y:Int):Prop:=CZ Z∧∀z,vB Z z↔z=y
end Go.Proofs.Tryz
end
section
namespace Go.Proofs.Tryz
open Go.AM
set_option maxRecDepth 100000
section
variable {c:List Mg}
def KO (c:List Mg) (x:ByteArray):Bool:=c.any fun m=>decide (m.1=x∧m.2.1≠3)
def iL (c:List Mg) (x:Mg):Bool:=KO c x.2.2.1 && !dH c x.1&&decide ((c.filter fun m=>decide (m.2.1=2∧m.2.2.1=x.2.2.1∧m.1≠x.1∧dH c m.1=true)).length=1)
theorem TU (hs:SI c) {x:ByteArray}:KO c x=true↔mg c x=true∧(msg c x).2.1≠3:=by
 unfold KO
 rw [List.any_eq_true]
 constructor
 ·rintro ⟨m, hm, h⟩
  obtain ⟨rfl,h3⟩:=of_decide_eq_true h
  exact ⟨bD.2 (List.mem_map.2 ⟨m,hm,rfl⟩),by rw [fG hs hm];exact h3⟩
 ·rintro ⟨h1, h3⟩
  obtain ⟨h4,h5⟩:=sv hs h1
  exact ⟨msg c x,h4,decide_eq_true ⟨h5,h3⟩⟩
theorem I4 (hs:SI c) (x:ByteArray):TA c x=KO c x:=by
 rw [Bool.eq_iff_iff,TU hs]
 unfold TA
 rw [Bool.and_eq_true,Bool.not_eq_true',beq_eq_false_iff_ne]
 exact Iff.rfl
theorem qC {m:Mg} (hm:m∈c) (h:m.2.1=2):m.1∈kids c m.2.2.1:=gX.2 ⟨m,hm,rfl,h,rfl⟩
theorem Pq (hs:SI c) {x:Mg} (hx:x∈c) (hk:x.2.1=2):iL c x=true↔x.1∈dir c (x.2.2.1,kids c x.2.2.1):=by
 have hxk:=qC hx hk
 have hlen:dH c x.1=false→(c.filter fun m=>decide (m.2.1=2∧m.2.2.1=x.2.2.1∧m.1≠x.1∧dH c m.1=true)).map (·.1)=(kids c x.2.2.1).filter (dH c):=by
  intro hr
  unfold kids
  rw [List.filter_map,List.filter_filter]
  refine congrArg (List.map _) (List.filter_congr fun m hm=>?_)
  rw [Bool.eq_iff_iff]
  simp only [Function.comp_apply,Bool.and_eq_true,decide_eq_true_eq]
  constructor
  ·rintro ⟨h1,h2,_,h4⟩;exact ⟨h4,h1,h2⟩
  ·rintro ⟨h4, h1, h2⟩
   exact ⟨h1,h2,(fun e=>by rw [e,hr] at h4;cases h4),h4⟩
 unfold iL dir
 rw [←I4 hs]
 simp only [Bool.and_eq_true,Bool.not_eq_true',decide_eq_true_eq]
 constructor
 ·rintro ⟨⟨h1, h2⟩, h3⟩
  rw [if_pos h1]
  have h4:=hlen h2
  have h5:((kids c x.2.2.1).filter (dH c)).length=1:=by rw [←h4,List.length_map];exact h3
  obtain ⟨o,ho⟩:=List.length_eq_one_iff.1 h5
  rw [ho]
  refine List.mem_filter.2 ⟨hxk,?_⟩
  have h6:dH c o=true:=(List.mem_filter.1 (show o∈(kids c x.2.2.1).filter (dH c) by rw [ho];exact List.mem_singleton.2 rfl)).2
  simp only [Bool.not_eq_true',decide_eq_false_iff_not]
  intro e;rw [e,h6] at h2;cases h2
 ·intro h
  split at h
  ·rename_i h1
   split at h
   ·rename_i o ho
    obtain ⟨_,h2⟩:=List.mem_filter.1 h
    simp only [Bool.not_eq_true',decide_eq_false_iff_not] at h2
    have hr:dH c x.1=false:=by
     cases hr:dH c x.1 with
     |false=>rfl
     |true =>
      have:x.1∈(kids c x.2.2.1).filter (dH c):=List.mem_filter.2 ⟨hxk,hr⟩
      rw [ho,List.mem_singleton] at this
      exact absurd this h2
    have h4:=congrArg List.length (hlen hr)
    rw [List.length_map,ho] at h4
    exact ⟨⟨h1,hr⟩,h4⟩
   ·cases h
  ·cases h
def par (c:List Mg) (m:Mg):Option Mg:=c.find? fun x=>decide (x.1=m.2.2.1∧x.2.1≠3)
def way (c : List Mg) : Nat → Mg → List Mg
 |0,_=>[]
 |n+1,m=>m::(if m.2.1=1 then [] else match par c m with|some x=>way c n x|none=>[])
theorem vE {m x:Mg} (h:par c m=some x):x∈c∧x.1=m.2.2.1∧x.2.1≠3:=by
 have h1:=List.find?_some h
 have h2:=List.mem_of_find?_eq_some h
 exact ⟨h2,(of_decide_eq_true h1).1,(of_decide_eq_true h1).2⟩
theorem Pr (hs:SI c) {m x:Mg} (hx:x∈c) (h1:x.1=m.2.2.1) (h3:x.2.1≠3):par c m=some x:=by
 cases h:par c m with
 |none =>
  have:=List.find?_eq_none.1 h x hx
  exact absurd (decide_eq_true ⟨h1,h3⟩) this
 |some y =>
  obtain ⟨h4,h5,_⟩:=vE h
  rw [hs.inj h4 hx (by rw [h5,h1])]
end
end Go.Proofs.Tryz
end
section
namespace Go.Proofs.Tryz
open Go.AM
set_option maxRecDepth 100000
set_option maxHeartbeats 1000000
theorem aer {c aX:List Mg} {v5 v6:Bool} {v7 kH aI:Int} {v50 Tn To v59:ByteArray} {v53 v60:Bool} (hc:c.length<1000000000) (y x:Mg) :
  iter (fun a=>aq (g77_1 a)) (c,v5,v6,v7,false,aX,kH,aI,v50,Tn,v53,To,v59,v60,c,((c.length:Nat):Int),(0:Int),y.1,y.2.1,y.2.2.1,y.2.2.2.1,y.2.2.2.2,x.1,x.2.1,x.2.2.1,x.2.2.2.1,x.2.2.2.2,()) =
   some (c,v5,v6,v7,dH c x.1,aX,kH,aI,v50,Tn,v53,To,v59,v60,y.1,y.2.1,y.2.2.1,y.2.2.2.1,y.2.2.2.2,()):=by
 refine aO c (fun k (b : Bool) => (c, v5, v6, v7, b, aX, kH, aI, v50, Tn, v53, To, v59, v60, c, ((c.length : Nat) : Int), (k : Int), y.1, y.2.1, y.2.2.1, y.2.2.2.1, y.2.2.2.2, x.1, x.2.1, x.2.2.1, x.2.2.2.1, x.2.2.2.2, ()))
  (fun b r=>(c,v5,v6,v7,b||dH r x.1,aX,kH,aI,v50,Tn,v53,To,v59,v60,y.1,y.2.1,y.2.2.1,y.2.2.2.1,y.2.2.2.2,())) (fun _ _=>True) ?_ ?_ (s:=false) trivial
 ·intro pre z post b hz _
  have hlen:c.length=pre.length+(post.length+1):=by rw [hz];simp
  have hd:c.getD pre.length (bs [],(0:Int),bs [],bs [],(0:Int))=z:=by rw [hz];exact bg rfl
  have i1:fh (pre.length:Int) ((c.length:Nat):Int)=true:=bX (by omega) (by omega)
  have r1:gH .i64 ((pre.length:Int)+1)=true:=aJ (by omega) (by omega)
  left
  refine ⟨b||decide (z.2.1=3∧z.2.2.1=x.1),?_,trivial,by simp only [dH,List.any_cons,Bool.or_assoc]⟩
  simp only [g77_1,av,bf,aQ,aa,Int.toNat_natCast,hd,i1,r1,ak,bp,bI,seq_eq]
  rw [if_pos (by omega)]
  cases b
  ·rw [b8]
   by_cases h3:z.2.1=3
   ·rw [if_pos h3];simp [h3]
   ·rw [if_neg h3];simp [h3]
  ·rw [bM];simp
 ·intro b _
  simp only [g77_1,av,aa,bp]
  rw [if_neg (by omega)]
  simp [dH]
def yw (c:List Mg) (y:Mg) (s:Bool×Bool×Nat) (z:Mg):Bool×Bool×Nat :=
 (s.1||decide (z.1=y.2.2.1∧z.2.1≠3),s.2.1||decide (z.2.1=3∧z.2.2.1=y.1),if z.2.1=2∧z.2.2.1=y.2.2.1∧z.1≠y.1∧dH c z.1=true then s.2.2+1 else s.2.2)
theorem EJ (c : List Mg) (y : Mg) : ∀ (l : List Mg) (s : Bool × Bool × Nat), l.foldl (yw c y) s = (s.1 || KO l y.2.2.1, s.2.1 || dH l y.1, s.2.2 + (l.filter fun m => decide (m.2.1 = 2 ∧ m.2.2.1 = y.2.2.1 ∧ m.1 ≠ y.1 ∧ dH c m.1 = true)).length)
 |[],s=>by simp [KO,dH]
 |z::l,s=>by
  rw [List.foldl_cons,EJ c y l]
  unfold yw KO dH
  simp only [List.any_cons,Bool.or_assoc,List.filter_cons,decide_eq_true_eq]
  congr 2
  split<;>simp<;>omega
theorem k77 {c:List Mg} (hc:c.length<1000000000) (y:Mg):aq (F77 c y)=some (iL c y,()):=by
 have hit:iter (fun a=>aq (g77_0 a)) (c,false,false,(0:Int),c,((c.length:Nat):Int),(0:Int),y.1,y.2.1,y.2.2.1,y.2.2.2.1,y.2.2.2.2,()) =
   some ((c.foldl (yw c y) (false,false,0)).1,(c.foldl (yw c y) (false,false,0)).2.1,(((c.foldl (yw c y) (false,false,0)).2.2:Nat):Int),()):=by
  refine aO c (fun k (s : Bool × Bool × Nat) => (c, s.1, s.2.1, ((s.2.2 : Nat) : Int), c, ((c.length : Nat) : Int), (k : Int), y.1, y.2.1, y.2.2.1, y.2.2.2.1, y.2.2.2.2, ()))
   (fun s r=>((r.foldl (yw c y) s).1,(r.foldl (yw c y) s).2.1,(((r.foldl (yw c y) s).2.2:Nat):Int),())) (fun pre s=>s.2.2≤pre.length) ?_ ?_ (s:=(false,false,0)) (Nat.le_refl _)
  ·rintro pre z post ⟨a, b, n⟩ hz hn
   have hlen:c.length=pre.length+(post.length+1):=by rw [hz];simp
   have hd:c.getD pre.length (bs [],(0:Int),bs [],bs [],(0:Int))=z:=by rw [hz];exact bg rfl
   have i1:fh (pre.length:Int) ((c.length:Nat):Int)=true:=bX (by omega) (by omega)
   have r1:gH .i64 ((pre.length:Int)+1)=true:=aJ (by omega) (by omega)
   simp only at hn
   have r2:gH .i64 ((n:Int)+1)=true:=aJ (by omega) (by omega)
   left
   refine ⟨yw c y (a,b,n) z,?_,?_,rfl⟩
   ·unfold yw
    simp only [g77_0,av,bf,aQ,aa,aA,bG,Int.toNat_natCast,hd,i1,r1,ak,bP,seq_eq,aer hc,aN,ko]
    rw [if_pos (show decide ((pre.length:Int)<((c.length:Nat):Int))=true from decide_eq_true (by omega))]
    generalize hk:z.2.1=k
    generalize hi:z.1=i
    generalize ho:z.2.2.1=o
    have hr0:dH c z.1=dH c i:=by rw [hi]
    by_cases h3:k=3
    ·have h2 : k ≠ 2 := by omega
     rcases Classical.propComplete (i=y.2.2.1) with h1|h1<;>cases a<;>cases b<;>simp [h3,h1]
    ·by_cases h2 : k = 2
     ·rcases Classical.propComplete (i=y.2.2.1) with h1|h1<;>rcases Classical.propComplete (o=y.2.2.1) with h4|h4<;>rcases Classical.propComplete (i=y.1) with h5|h5<;>cases hr:dH c i<;>cases a<;>cases b<;>simp [h2,h1,h4,h5,r2]
     ·rcases Classical.propComplete (i=y.2.2.1) with h1|h1<;>cases a<;>cases b<;>simp [h2,h3,h1]
   ·have : (pre ++ [z]).length = pre.length + 1 := by simp
    rw [this]
    unfold yw
    simp only
    split<;>omega
  ·rintro s _
   simp only [g77_0,av,aa,bp]
   rw [if_neg (by omega)]
   rfl
 unfold F77
 simp only [aA,bG]
 rw [aj hit,EJ]
 simp only [av,aa,bP,ko,Bool.false_or,Nat.zero_add]
 have hN:∀n:Nat,(((n:Nat):Int)==1)=decide (n=1):=fun n=>by
  rw [Bool.eq_iff_iff,beq_iff_eq,decide_eq_true_eq];omega
 unfold iL
 rw [hN]
 cases KO c y.2.2.1<;>cases dH c y.1<;>simp
theorem aes {c b1:List Mg} {yZ:Nat} {v6:Bool} {v7:Int} (hc:c.length<1000000000) (y:Mg) :
  iter (fun a=>aq (g34_1 a)) (c,yZ,v6,v7,c,((c.length:Nat):Int),(0:Int),y.1,y.2.1,y.2.2.1,y.2.2.2.1,y.2.2.2.2,b1,()) =
   some (match par c y with|some x=>(c,yZ,v6,v7,true,x.1,x.2.1,x.2.2.1,x.2.2.2.1,x.2.2.2.2,b1,())|none=>(c,yZ,v6,v7,false,y.1,y.2.1,y.2.2.1,y.2.2.2.1,y.2.2.2.2,b1,())):=by
 refine aO c (fun k (_ : Unit) => (c, yZ, v6, v7, c, ((c.length : Nat) : Int), (k : Int), y.1, y.2.1, y.2.2.1, y.2.2.2.1, y.2.2.2.2, b1, ()))
  (fun _ r=>match par r y with|some x=>(c,yZ,v6,v7,true,x.1,x.2.1,x.2.2.1,x.2.2.2.1,x.2.2.2.2,b1,())|none=>(c,yZ,v6,v7,false,y.1,y.2.1,y.2.2.1,y.2.2.2.1,y.2.2.2.2,b1,())) (fun _ _=>True) ?_ ?_ (s:=()) trivial
 ·intro pre z post _ hz _
  have hlen:c.length=pre.length+(post.length+1):=by rw [hz];simp
  have hd:c.getD pre.length (bs [],(0:Int),bs [],bs [],(0:Int))=z:=by rw [hz];exact bg rfl
  have i1:fh (pre.length:Int) ((c.length:Nat):Int)=true:=bX (by omega) (by omega)
  have r1:gH .i64 ((pre.length:Int)+1)=true:=aJ (by omega) (by omega)
  by_cases h:z.1=y.2.2.1∧z.2.1≠3
  ·right
   have hp:par (z::post) y=some z:=by unfold par;rw [List.find?_cons_of_pos];simpa using h
   rw [hp]
   simp only [g34_1,av,bf,aQ,aa,Int.toNat_natCast,hd,i1,r1,ak,bp,bI,bP,seq_eq]
   rw [if_pos (by omega),if_pos h.1,if_neg h.2]
  ·left
   have hp:par (z::post) y=par post y:=by unfold par;rw [List.find?_cons_of_neg];simpa using h
   refine ⟨(),?_,trivial,by rw [hp]⟩
   simp only [g34_1,av,bf,aQ,aa,Int.toNat_natCast,hd,i1,r1,ak,bp,bI,bP,seq_eq]
   rw [if_pos (by omega)]
   by_cases h1:z.1=y.2.2.1
   ·rw [if_pos h1,if_pos (Classical.byContradiction fun h3=>h ⟨h1,h3⟩)];rfl
   ·rw [if_neg h1];rfl
 ·intro _ _
  simp only [g34_1,av,aa,bp]
  rw [if_neg (by omega)]
  rfl
def dQ (c : List Mg) : Nat → Mg → Bool → List Mg × Bool × Bool
 |0,_,o=>([],false,o)
 |n+1,m,o=>if m.2.1=1 then ([m],!o,o) else match par c m with
  |some x=>(m::(dQ c n x (o||iL c m)).1,(dQ c n x (o||iL c m)).2)
  |none=>([m],false,o||iL c m)
theorem VG {c:List Mg} (hc:c.length<1000000):∀(n k:Nat) (m:Mg) (pre:List Mg) (o:Bool),k+n=9→pre.length≤k →
  (iter (fun a=>aq (g34_0 a)) (c,pre.length,o,(k:Int),m.1,m.2.1,m.2.2.1,m.2.2.2.1,m.2.2.2.2,pre,())=some (.inl ((pre++(dQ c n m o).1).length,(dQ c n m o).2.1,(dQ c n m o).2.2,pre++(dQ c n m o).1,()))) ∨
  (iter (fun a=>aq (g34_0 a)) (c,pre.length,o,(k:Int),m.1,m.2.1,m.2.2.1,m.2.2.2.1,m.2.2.2.2,pre,())=some (.inr ((pre++(dQ c n m o).1).length,(dQ c n m o).2.2,pre++(dQ c n m o).1,()))∧(dQ c n m o).2.1=false)
 |0,k,m,pre,o,hk,hp=>by
  right
  refine ⟨gQ ?_,rfl⟩
  simp only [g34_0,av,aa,bp]
  rw [if_neg (by omega)]
  simp [dQ]
 |n+1,k,m,pre,o,hk,hp=>by
  have e1:((([(m.1,m.2.1,m.2.2.1,m.2.2.2.1,m.2.2.2.2)]:List Mg).drop 0).take 1)=[m]:=rfl
  have e2:(pre.drop 0).take pre.length=pre:=by simp
  have d1:decide (pre.length+1<cg)=true:=decide_eq_true (by rw [fc];omega)
  have r1:gH .i64 ((k:Int)+1)=true:=aJ (by omega) (by omega)
  have Za:pre.length+1=(pre++[m]).length:=by simp
  have h77:=k77 (show c.length<1000000000 by omega) m
  have h341:=fun o=>aes (c:=c) (b1:=pre++[m]) (yZ:=pre.length+1) (v6:=o) (v7:=(k:Int)) (by omega) m
  by_cases h1:m.2.1=1
  ·left
   have Lw:dQ c (n+1) m o=([m],!o,o):=by unfold dQ;rw [if_pos h1]
   rw [Lw]
   refine gQ ?_
   simp only [g34_0,av,aU,aa,bp,bI,e1,e2,List.length_singleton,d1,ak]
   rw [if_pos (by omega),if_pos h1,Za]
  ·have hs:∀o',o'=(o||iL c m)→aq (g34_0 (c,pre.length,o,(k:Int),m.1,m.2.1,m.2.2.1,m.2.2.2.1,m.2.2.2.2,pre,()))=(match par c m with
     |some x=>some (.inl (c,pre.length+1,o',((k+1:Nat):Int),x.1,x.2.1,x.2.2.1,x.2.2.2.1,x.2.2.2.2,pre++[m],()))
     |none=>some (.inr (.inl (pre.length+1,false,o',pre++[m],())))):=by
    rintro o' rfl
    simp only [g34_0,av,aU,aa,aA,bG,aQ,bp,bI,e1,e2,List.length_singleton,d1,ak]
    rw [if_pos (by omega),if_neg h1]
    cases o
    ·rw [b8, aj (show aq (F77 c (m.1, m.2.1, m.2.2.1, m.2.2.2.1, m.2.2.2.2)) = _ from h77)]
     simp only
     rw [aj (h341 (iL c m))]
     simp only [Bool.false_or]
     cases hp:par c m with
     |none=>simp only [Bool.not_false,bM]
     |some x=>simp only [Bool.not_true,b8,r1,ak];rfl
    ·rw [bM, aj (h341 true)]
     simp only [Bool.true_or]
     cases hp:par c m with
     |none=>simp only [Bool.not_false,bM]
     |some x=>simp only [Bool.not_true,b8,r1,ak];rfl
   have hs:=hs _ rfl
   cases PM:par c m with
   |none =>
    rw [PM] at hs
    left
    have Lw:dQ c (n+1) m o=([m],false,o||iL c m):=by conv=>lhs;unfold dQ;rw [if_neg h1,PM]
    rw [Lw]
    refine gQ ?_
    rw [←Za];exact hs
   |some x =>
    rw [PM] at hs
    have Lw:dQ c (n+1) m o=(m::(dQ c n x (o||iL c m)).1,(dQ c n x (o||iL c m)).2):=by conv=>lhs;unfold dQ;rw [if_neg h1,PM]
    rw [Lw]
    have ih:=VG hc n (k+1) x (pre++[m]) (o||iL c m) (by omega) (by simp;omega)
    rw [←Za] at ih
    simp only [List.append_assoc,List.singleton_append] at ih
    rcases ih with ih|⟨ih,h⟩
    ·left;exact lU hs ih
    ·right;exact ⟨lU hs ih,h⟩
theorem k34 {c:List Mg} (hc:c.length<1000000) (m:Mg):aq (F34 c m)=some ((dQ c 9 m false).1,(dQ c 9 m false).2.1,(dQ c 9 m false).2.2,()):=by
 unfold F34
 simp only [aA,bG]
 rcases VG hc 9 0 m [] false rfl (Nat.le_refl _) with h|⟨h,hf⟩
 ·refine Eq.trans (aj h) ?_
  simp only [oh,aa,List.nil_append,List.drop_zero,List.take_length]
 ·refine Eq.trans (aj h) ?_
  rw [hf]
  simp only [mW,aa,List.nil_append,List.drop_zero,List.take_length]
def Pt (c:List Mg) (m:Mg):Bool:=c.any fun x=>decide (x.2.1=2∧x.2.2.1=m.1∧(dQ c 9 x false).2.1=true)
theorem aeu {c w:List Mg} {s:Bool} (hc:c.length<1000000) (m:Mg) :
  iter (fun a=>aq (g35_0 a)) (c,w,s,c,((c.length:Nat):Int),(0:Int),m.1,m.2.1,m.2.2.1,m.2.2.2.1,m.2.2.2.2,())=some (if Pt c m=true then Sum.inl (bs [],()) else Sum.inr (w,s,())):=by
 refine aO c (fun k (_ : Unit) => (c, w, s, c, ((c.length : Nat) : Int), (k : Int), m.1, m.2.1, m.2.2.1, m.2.2.2.1, m.2.2.2.2, ()))
  (fun _ r=>if (r.any fun x=>decide (x.2.1=2∧x.2.2.1=m.1∧(dQ c 9 x false).2.1=true))=true then Sum.inl (bs [],()) else Sum.inr (w,s,())) (fun _ _=>True) ?_ ?_ (s:=()) trivial
 ·intro pre z post _ hz _
  have hlen:c.length=pre.length+(post.length+1):=by rw [hz];simp
  have hd:c.getD pre.length (bs [],(0:Int),bs [],bs [],(0:Int))=z:=by rw [hz];exact bg rfl
  have i1:fh (pre.length:Int) ((c.length:Nat):Int)=true:=bX (by omega) (by omega)
  have r1:gH .i64 ((pre.length:Int)+1)=true:=aJ (by omega) (by omega)
  have h34:aq (F34 c (z.1,z.2.1,z.2.2.1,z.2.2.2.1,z.2.2.2.2))=_:=k34 hc z
  by_cases h:z.2.1=2∧z.2.2.1=m.1∧(dQ c 9 z false).2.1=true
  ·right
   rw [if_pos (by rw [List.any_cons,decide_eq_true h];rfl)]
   simp only [g35_0,av,bf,aQ,aa,aA,Int.toNat_natCast,hd,i1,r1,ak,bp,bI,seq_eq]
   rw [if_pos (by omega),if_pos h.1,if_pos h.2.1,aj h34]
   simp only [h.2.2,bM]
  ·left
   refine ⟨(),?_,trivial,by rw [List.any_cons,decide_eq_false h,Bool.false_or]⟩
   simp only [g35_0,av,bf,aQ,aa,aA,Int.toNat_natCast,hd,i1,r1,ak,bp,bI,seq_eq]
   rw [if_pos (by omega)]
   by_cases h2:z.2.1=2
   ·rw [if_pos h2]
    by_cases h4:z.2.2.1=m.1
    ·rw [if_pos h4, aj h34]
     have:(dQ c 9 z false).2.1=false:=by
      cases hh:(dQ c 9 z false).2.1 with
      |false=>rfl
      |true=>exact absurd ⟨h2,h4,hh⟩ h
     simp only [this,b8]
     rfl
    ·rw [if_neg h4];rfl
   ·rw [if_neg h2];rfl
 ·intro _ _
  simp only [g35_0,av,aa,bp]
  rw [if_neg (by omega)]
  simp
theorem Pu {c:List Mg} {n:Nat} {m:Mg} {o:Bool}:(dQ c (n+1) m o).1≠[]:=by
 unfold dQ
 split
 ·simp
 ·split<;>simp
theorem k35 {c:List Mg} (hc:c.length<1000000) (m:Mg):aq (F35 c m)=some (if m.2.1=3 then (bs [],false,()) else if Pt c m=true then (bs [],false,()) else (((dQ c 9 m false).1.getD ((dQ c 9 m false).1.length - 1) zM).1,(dQ c 9 m false).2.1,())):=by
 have h34:aq (F34 c (m.1,m.2.1,m.2.2.1,m.2.2.2.1,m.2.2.2.2))=_:=k34 hc m
 have hne:0<(dQ c 9 m false).1.length:=List.length_pos_iff.2 Pu
 have hle:∀(n:Nat) (m:Mg) (o:Bool),(dQ c n m o).1.length≤n:=by
  intro n
  induction n with
  |zero=>intro m o;simp [dQ]
  |succ n ih =>
   intro m o
   unfold dQ
   split
   ·simp
   ·split
    ·simp only [List.length_cons];have:=ih ‹_› (o||iL c m);omega
    ·simp
 have hle:=hle 9 m false
 unfold F35
 simp only [av,aa,aA,bG,bI]
 by_cases h3:m.2.1=3
 ·rw [if_pos h3,if_pos h3]
 ·rw [if_neg h3, if_neg h3, aj h34]
  simp only
  rw [aj (aeu hc m)]
  cases Pt c m with
  |true=>simp only [if_true,oh,aa]
  |false =>
   simp only [Bool.false_eq_true,if_false,mW,aQ,bf,aa]
   rw [fP (by omega) (by omega),bX (by omega) (by omega),ak,show Int.toNat (((dQ c 9 m false).1.length:Int) - 1)=(dQ c 9 m false).1.length - 1 by omega]
end Go.Proofs.Tryz
end
section
namespace Go.Proofs.Tryz
open Go.AM
set_option maxRecDepth 100000
section
variable {c:List Mg}
def Cs (c:List Mg):Prop:=∀m∈c,m.2.1=1∨m.2.1=2∨m.2.1=3
def Tk (c:List Mg) (t:ByteArray):Prop:=∃m∈c,m.1=t∧m.2.1=1
def NR (c:List Mg) (t:ByteArray):Prop:=∃m∈c,m.1=t∧m.2.1≠3
theorem vF (hs:SI c) {m:Mg} (hm:m∈c) {y:ByteArray} (h:m.1∈kids c y):m.2.1=2∧m.2.2.1=y:=by
  obtain ⟨m',hm',e,h2,h3⟩:=gX.1 h
  rw [hs.inj hm' hm e] at h2 h3;exact ⟨h2,h3⟩
theorem Tk.top (hs:SI c) {t:ByteArray} (h:Tk c t):PY c t:=by
  obtain ⟨m,hm,rfl,h1⟩:=h
  intro x hx
  have:=(vF hs hm hx).1
  omega
theorem Tk.ids {t:ByteArray} (h:Tk c t):t∈ids c:=by obtain ⟨m,hm,rfl,_⟩:=h;exact List.mem_map.2 ⟨m,hm,rfl⟩
theorem Tk.nr {t:ByteArray} (h:Tk c t):NR c t:=by obtain ⟨m,hm,rfl,h1⟩:=h;exact ⟨m,hm,rfl,by omega⟩
theorem I5 {x y:ByteArray} (h:y∈kids c x):NR c y:=by
  obtain ⟨m,hm,rfl,h2,_⟩:=gX.1 h;exact ⟨m,hm,rfl,by omega⟩
theorem cu {x z:ByteArray} {n:Nat} (h:gY c x n z):(n=0∧z=x)∨∃k y,n=k+1∧gY c x k y∧z∈kids c y:=by
  cases h with
  |zero=>exact .inl ⟨rfl,rfl⟩
  |step h hz=>exact .inr ⟨_,_,rfl,h,hz⟩
theorem vG {n:Nat} {x y:ByteArray} (h:gY c x n y) (hx:x∈ids c):y∈ids c:=by
  rcases cu h with ⟨_,rfl⟩|⟨_,_,_,_,hz⟩
  · exact hx
  · exact gW hz
theorem yx {n:Nat} {x y:ByteArray} (h:gY c x n y) (hx:NR c x):NR c y:=by
  rcases cu h with ⟨_,rfl⟩|⟨_,_,_,_,hz⟩
  · exact hx
  · exact I5 hz
theorem vH {x : ByteArray} : ∀ {b a : Nat} {z : ByteArray}, gY c x (a + b) z → ∃ y, gY c x a y ∧ gY c y b z
  |0,_,z,h=>⟨z,h,.zero⟩
  |b+1,a,z,h=>by
    rcases cu h with ⟨h0,_⟩|⟨k,y,hk,h1,hz⟩
    · omega
    · obtain rfl : k = a + b := by omega
      obtain ⟨w,h2,h3⟩:=vH h1
      exact ⟨w,h2,.step h3 hz⟩
theorem KP {y x:ByteArray} (hy:y∈ids c) (d:Nat):gY c y d x→∃d',d'<c.length∧gY c y d' x:=by
  induction d using Nat.strongRecOn with
  |_ d ih =>
    intro h
    by_cases hd:d<c.length
    · exact ⟨d,hd,h⟩
    · have hex : ∀ i, i ≤ d → ∃ z, gY c y (d - i) z ∧ gY c z i x := fun i hi => vH (b := i) (a := d - i) (by rw [Nat.sub_add_cancel hi]; exact h)
      have hex2:∀i,∃z,i≤d→gY c y (d - i) z∧gY c z i x:=fun i=>by
        by_cases hi:i≤d
        · obtain ⟨z,hz⟩:=hex i hi;exact ⟨z,fun _=>hz⟩
        · exact ⟨y,fun h=>absurd h hi⟩
      obtain ⟨f,hf⟩:=Classical.axiomOfChoice hex2
      by_cases lH:∃i j,i<j∧j≤d∧f i=f j
      · obtain ⟨i, j, hij, hj, e⟩ := lH
        have h1:=(hf j hj).1
        have h2:=(hf i (by omega)).2
        rw [e] at h2
        exact ih (d - j+i) (by omega) (h1.add h2)
      · have WO:((List.range (d+1)).map f).Nodup:=by
          unfold List.Nodup
          rw [List.pairwise_map]
          refine List.Pairwise.imp_of_mem ?_ List.pairwise_lt_range
          intro a b ha hb hab e
          exact lH ⟨a,b,hab,by have:=List.mem_range.1 hb;omega,e⟩
        have := List.Nodup.length_le_of_subset WO (l₂ := ids c) (by
          intro z hz
          obtain ⟨i,hi,rfl⟩:=List.mem_map.1 hz
          exact vG (hf i (by have:=List.mem_range.1 hi;omega)).1 hy)
        have hl:(ids c).length=c.length:=by simp [ids]
        simp at this
        omega
theorem I6 (hs:SI c) (hk:Cs c):∀(n:Nat) {m:Mg} {o:Bool},m∈c→m.2.1≠3 →
    ((dQ c n m o).2.2=true↔o=true∨∃d,d<n∧∃p y,y∈dir c (p,kids c p)∧gY c y d m.1)
  |0,m,o,_,_=>by simp [dQ]
  |n+1,m,o,hm,h3=>by
    by_cases h1:m.2.1=1
    · have e : dQ c (n + 1) m o = ([m], !o, o) := by unfold dQ; rw [if_pos h1]
      rw [e]
      refine ⟨.inl,?_⟩
      rintro (h|⟨d,_,p,y,hy,hp⟩)
      · exact h
      · have ht : PY c m.1 := Tk.top hs ⟨m, hm, rfl, h1⟩
        rcases cu hp with ⟨_,e⟩|⟨_,_,_,_,hz⟩
        · rw [←e] at hy;exact absurd (jK hy) (ht _)
        · exact absurd hz (ht _)
    · have h2 : m.2.1 = 2 := by rcases hk m hm with h | h | h <;> omega
      have hS:=Pq hs hm h2
      have zB:∀p y,y∈dir c (p,kids c p)→m.1=y→iL c m=true:=fun p y hy e=>by
        have h4:=jK hy
        rw [←e] at h4 hy
        rw [hS,(vF hs hm h4).2];exact hy
      cases hp:par c m with
      |none =>
        have e:dQ c (n+1) m o=([m],false,o||iL c m):=by conv=>lhs;unfold dQ;rw [if_neg h1,hp]
        rw [e]
        simp only [Bool.or_eq_true]
        constructor
        · rintro (h | h)
          · exact .inl h
          · exact .inr ⟨0,by omega,_,_,hS.1 h,.zero⟩
        · rintro (h | ⟨d, hd, p, y, hy, hpt⟩)
          · exact .inl h
          · rcases cu hpt with ⟨_, e⟩ | ⟨k, z, _, h4, hz⟩
            · exact .inr (zB p y hy e)
            · obtain ⟨x, hx, h5, h6⟩ := yx h4 (I5 (jK hy))
              rw [Pr hs hx (by rw [h5];exact (vF hs hm hz).2.symm) h6] at hp
              cases hp
      |some x =>
        have e:dQ c (n+1) m o=(m::(dQ c n x (o||iL c m)).1,(dQ c n x (o||iL c m)).2):=by conv=>lhs;unfold dQ;rw [if_neg h1,hp]
        rw [e]
        obtain ⟨hx,hx1,HA⟩:=vE hp
        have ih:=I6 hs hk n (o:=o||iL c m) hx HA
        rw [ih,Bool.or_eq_true]
        have uQ:m.1∈kids c x.1:=by rw [hx1];exact qC hm h2
        constructor
        · rintro ((h | h) | ⟨d, hd, p, y, hy, hpt⟩)
          · exact .inl h
          · exact .inr ⟨0,by omega,_,_,hS.1 h,.zero⟩
          · exact .inr ⟨d+1,by omega,p,y,hy,.step hpt uQ⟩
        · rintro (h | ⟨d, hd, p, y, hy, hpt⟩)
          · exact .inl (.inl h)
          · rcases cu hpt with ⟨_, e⟩ | ⟨k, z, hk', h4, hz⟩
            · exact .inl (.inr (zB p y hy e))
            · rw [pg hs hz uQ] at h4
              exact .inr ⟨k,by omega,p,y,hy,h4⟩
theorem I7 (hs:SI c) (hk:Cs c):∀(n:Nat) {m:Mg} {o:Bool},m∈c→m.2.1≠3 →
    ((dQ c n m o).2.1=true↔(dQ c n m o).2.2=false∧∃d,d<n∧∃t,Tk c t∧gY c t d m.1)
  |0,m,o,_,_=>by simp [dQ]
  |n+1,m,o,hm,h3=>by
    by_cases h1:m.2.1=1
    · have e : dQ c (n + 1) m o = ([m], !o, o) := by unfold dQ; rw [if_pos h1]
      rw [e]
      simp only [Bool.not_eq_true']
      exact ⟨fun h=>⟨h,0,by omega,m.1,⟨m,hm,rfl,h1⟩,.zero⟩,fun h=>h.1⟩
    · have h2 : m.2.1 = 2 := by rcases hk m hm with h | h | h <;> omega
      have zB:∀t,Tk c t→m.1=t→False:=fun t ht e=>ht.top hs m.2.2.1 (show t∈kids c m.2.2.1 by rw [←e];exact qC hm h2)
      cases hp:par c m with
      |none =>
        have e:dQ c (n+1) m o=([m],false,o||iL c m):=by conv=>lhs;unfold dQ;rw [if_neg h1,hp]
        rw [e]
        simp only [Bool.false_eq_true,false_iff]
        rintro ⟨_,d,hd,t,ht,hpt⟩
        rcases cu hpt with ⟨_,e⟩|⟨k,z,_,h4,hz⟩
        · exact zB t ht e
        · obtain ⟨x, hx, h5, h6⟩ := yx h4 ht.nr
          rw [Pr hs hx (by rw [h5];exact (vF hs hm hz).2.symm) h6] at hp
          cases hp
      |some x =>
        have e:dQ c (n+1) m o=(m::(dQ c n x (o||iL c m)).1,(dQ c n x (o||iL c m)).2):=by conv=>lhs;unfold dQ;rw [if_neg h1,hp]
        rw [e]
        obtain ⟨hx,hx1,HA⟩:=vE hp
        have uQ:m.1∈kids c x.1:=by rw [hx1];exact qC hm h2
        rw [I7 hs hk n (o:=o||iL c m) hx HA]
        refine and_congr_right fun _=>?_
        constructor
        · rintro ⟨d, hd, t, ht, hpt⟩
          exact ⟨d+1,by omega,t,ht,.step hpt uQ⟩
        · rintro ⟨d, hd, t, ht, hpt⟩
          rcases cu hpt with ⟨_,e⟩|⟨k,z,hk',h4,hz⟩
          · exact (zB t ht e).elim
          · rw [pg hs hz uQ] at h4
            exact ⟨k,by omega,t,ht,h4⟩
theorem KQ {m:Mg} {l:List Mg} (h:l≠[]):(m::l).getD ((m::l).length - 1) zM=l.getD (l.length - 1) zM:=by
  cases l with
  |nil=>exact absurd rfl h
  |cons a l=>rfl
theorem EK (hs:SI c) (hk:Cs c):∀(n:Nat) {m:Mg} {o:Bool},m∈c→m.2.1≠3→(dQ c n m o).2.1=true →
    Tk c ((dQ c n m o).1.getD ((dQ c n m o).1.length - 1) zM).1∧∃d,gY c ((dQ c n m o).1.getD ((dQ c n m o).1.length - 1) zM).1 d m.1
  |0,m,o,_,_,h=>by simp [dQ] at h
  |n+1,m,o,hm,h3,h=>by
    by_cases h1:m.2.1=1
    · have e : dQ c (n + 1) m o = ([m], !o, o) := by unfold dQ; rw [if_pos h1]
      rw [e]
      exact ⟨⟨m,hm,rfl,h1⟩,0,.zero⟩
    · have h2 : m.2.1 = 2 := by rcases hk m hm with h | h | h <;> omega
      cases hp:par c m with
      |none =>
        have e:dQ c (n+1) m o=([m],false,o||iL c m):=by conv=>lhs;unfold dQ;rw [if_neg h1,hp]
        rw [e] at h;cases h
      |some x =>
        have e:dQ c (n+1) m o=(m::(dQ c n x (o||iL c m)).1,(dQ c n x (o||iL c m)).2):=by conv=>lhs;unfold dQ;rw [if_neg h1,hp]
        rw [e] at h ⊢
        obtain ⟨hx,hx1,HA⟩:=vE hp
        have uQ:m.1∈kids c x.1:=by rw [hx1];exact qC hm h2
        have hn:(dQ c n x (o||iL c m)).1≠[]:=by
          cases n with
          |zero=>simp [dQ] at h
          |succ n=>exact Pu
        rw [KQ hn]
        obtain ⟨q1,d,q2⟩:=EK hs hk n hx HA h
        exact ⟨q1,d+1,.step q2 uQ⟩
theorem TV {t:ByteArray} (ht:PY c t):dP c t=false:=by
  cases h:dP c t with
  |false=>rfl
  |true =>
    obtain ⟨p,y,hy,hd⟩:=je.1 h
    obtain ⟨n,hp⟩:=hd.KN
    rcases cu hp with ⟨_,e⟩|⟨_,_,_,_,hz⟩
    · rw [←e] at hy;exact absurd (jK hy) (ht _)
    · exact absurd hz (ht _)
theorem Pv {x z:ByteArray} (h:dP c z=false) (hz:z∈kids c x):dP c x=false:=by
  cases h':dP c x with
  |false=>rfl
  |true=>rw [TB h' hz] at h;cases h
theorem I8 {n:Nat} {x z:ByteArray} (hp:gY c x n z) (h:dP c z=false):dP c x=false:=by
  induction hp with
  |zero=>exact h
  |step _ hz ih=>exact ih (Pv h hz)
theorem I9 (hs : SI c) (hk : Cs c) : ∀ {n : Nat} {x t : ByteArray}, ze c n x = some t ↔ Tk c t ∧ dP c x = false ∧ ∃ d, d < n ∧ gY c t d x
  |0,x,t=>by simp [ze]
  |n+1,x,t=>by
    unfold ze
    by_cases hm:mg c x=true
    · rw [if_pos hm]
      obtain ⟨fK,hm2⟩:=sv hs hm
      by_cases h3:(msg c x).2.1=3
      · rw [if_pos h3]
        simp only [reduceCtorEq,false_iff]
        rintro ⟨ht,_,d,_,hp⟩
        obtain ⟨m,hm',e,Y9⟩:=yx hp ht.nr
        have:=hs.inj hm' fK (by rw [e,hm2])
        rw [this] at Y9
        exact Y9 h3
      · rw [if_neg h3]
        by_cases hst:dP c x=true
        · rw [if_pos hst]
          simp only [reduceCtorEq,false_iff]
          rintro ⟨_,h,_⟩
          rw [h] at hst;cases hst
        · rw [if_neg hst]
          have hst:dP c x=false:=by simpa using hst
          by_cases h1:(msg c x).2.1=1
          · rw [if_pos h1]
            have ht:Tk c x:=⟨_,fK,hm2,h1⟩
            constructor
            · intro e
              obtain rfl:=Option.some.inj e
              exact ⟨ht,hst,0,by omega,.zero⟩
            · rintro ⟨_, _, d, _, hp⟩
              rcases cu hp with ⟨_,e⟩|⟨_,_,_,_,hz⟩
              · rw [e]
              · exact absurd hz (ht.top hs _)
          · rw [if_neg h1, I9 hs hk]
            have h2:(msg c x).2.1=2:=by rcases hk _ fK with h|h|h<;>omega
            have uQ:x∈kids c (msg c x).2.2.1:=by have:=qC fK h2;rwa [hm2] at this
            constructor
            · rintro ⟨ht, _, d, hd, hp⟩
              exact ⟨ht,hst,d+1,by omega,.step hp uQ⟩
            · rintro ⟨ht, _, d, hd, hp⟩
              rcases cu hp with ⟨_,e⟩|⟨k,z,hk',h4,hz⟩
              · exact absurd (by rw [←e];exact uQ) (ht.top hs _)
              · rw [pg hs hz uQ] at h4
                exact ⟨ht,Pv hst uQ,k,by omega,h4⟩
    · rw [if_neg hm]
      simp only [reduceCtorEq,false_iff]
      rintro ⟨ht,_,d,_,hp⟩
      exact hm (bD.2 (vG hp ht.ids))
theorem cU (hs:SI c) (hk:Cs c) {x t:ByteArray}:mh c x=some t↔Tk c t∧dP c x=false∧∃d,gY c t d x:=by
  rw [I9 hs hk]
  exact and_congr_right fun ht=>and_congr_right fun _=>⟨fun ⟨d,_,h⟩=>⟨d,h⟩,fun ⟨d,h⟩=>⟨d,h.short hs (ht.top hs) ht.ids,h⟩⟩
theorem Zi (hs:SI c) {t t' x:ByteArray} {n m:Nat} (ht:Tk c t) (ht':Tk c t') (h:gY c t n x) (h':gY c t' m x):t=t':=by
  rcases Nat.le_total n m with hle|hle
  · rcases cu (h.up hs h' hle) with ⟨_, e⟩ | ⟨_, _, _, _, hz⟩
    · exact e
    · exact absurd hz (ht.top hs _)
  · rcases cu (h'.up hs h hle) with ⟨_, e⟩ | ⟨_, _, _, _, hz⟩
    · exact e.symm
    · exact absurd hz (ht'.top hs _)
theorem Zj (hs:SI c) (hk:Cs c) (hl:c.length≤9) {m:Mg} (hm:m∈c) (h3:m.2.1≠3) :
    (dQ c 9 m false).2.2=dP c m.1∧(dQ c 9 m false).2.1=(mh c m.1).isSome∧∀t,mh c m.1=some t→((dQ c 9 m false).1.getD ((dQ c 9 m false).1.length - 1) zM).1=t:=by
  have ho:(dQ c 9 m false).2.2=dP c m.1:=by
    rw [Bool.eq_iff_iff,I6 hs hk 9 hm h3,je]
    simp only [Bool.false_eq_true,false_or]
    constructor
    · rintro ⟨d,_,p,y,hy,hp⟩;exact ⟨p,y,hy,hp.desc⟩
    · rintro ⟨p, y, hy, hd⟩
      obtain ⟨n,hp⟩:=hd.KN
      obtain ⟨d,hd,hp⟩:=KP (gW (jK hy)) n hp
      exact ⟨d,by omega,p,y,hy,hp⟩
  have hst:(dQ c 9 m false).2.1=(mh c m.1).isSome:=by
    rw [Bool.eq_iff_iff,I7 hs hk 9 hm h3,Option.isSome_iff_exists,ho]
    simp only [cU hs hk]
    constructor
    · rintro ⟨h,d,_,t,ht,hp⟩;exact ⟨t,ht,h,d,hp⟩
    · rintro ⟨t, ht, h, d, hp⟩
      exact ⟨h,d,by have:=hp.short hs (ht.top hs) ht.ids;omega,t,ht,hp⟩
  refine ⟨ho,hst,fun t ht=>?_⟩
  obtain ⟨q1,d,q2⟩:=EK hs hk 9 hm h3 (by rw [hst,ht];rfl)
  obtain ⟨h1,_,d',h2⟩:=(cU hs hk).1 ht
  exact Zi hs q1 h1 q2 h2
def iM (c:List Mg) (x:ByteArray):Option ByteArray:=if fZ c x=[] then mh c x else none
theorem fe {x t:ByteArray}:iM c x=some t↔fZ c x=[]∧mh c x=some t:=by
  unfold iM;split<;>simp [*]
theorem pq {x y:ByteArray}:y∈fZ c x↔y∈kids c x∧dP c y=false:=by
  unfold fZ;rw [List.mem_filter];simp
theorem Ja (hs:SI c) (hk:Cs c) {x y t:ByteArray} (hx:mh c x=some t) (hy:y∈kids c x):(mh c y).isSome = !dP c y:=by
  rw [Bool.eq_iff_iff,Option.isSome_iff_exists,Bool.not_eq_true']
  simp only [cU hs hk]
  obtain ⟨h1,_,d,h2⟩:=(cU hs hk).1 hx
  exact ⟨fun ⟨_,_,h,_⟩=>h,fun h=>⟨t,h1,h,d+1,.step h2 hy⟩⟩
theorem k35' (hs:SI c) (hk:Cs c) (hl:c.length≤9) {m:Mg} (hm:m∈c):∃r,aq (F35 c m)=some (r,(iM c m.1).isSome,())∧∀t,iM c m.1=some t→r=t:=by
  rw [k35 (by omega)]
  by_cases h3:m.2.1=3
  · rw [if_pos h3]
    have hn:iM c m.1=none:=by
      cases h:iM c m.1 with
      |none=>rfl
      |some t =>
        obtain ⟨ht,_,d,hp⟩:=(cU hs hk).1 (fe.1 h).2
        obtain ⟨x,hx,e,Y9⟩:=yx hp ht.nr
        rw [hs.inj hx hm e] at Y9
        exact absurd h3 Y9
    rw [hn]
    exact ⟨_,rfl,fun t h=>by cases h⟩
  · rw [if_neg h3]
    obtain ⟨ho,hst,hla⟩:=Zj hs hk hl hm h3
    have hkS:Pt c m=true↔∃y∈kids c m.1,(mh c y).isSome=true:=by
      unfold Pt
      rw [List.any_eq_true]
      constructor
      · rintro ⟨x, hx, h⟩
        obtain ⟨h2,h4,h5⟩:=of_decide_eq_true h
        exact ⟨x.1,by rw [←h4];exact qC hx h2,by rw [←(Zj hs hk hl hx (by omega)).2.1];exact h5⟩
      · rintro ⟨y, hy, h⟩
        obtain ⟨x,hx,rfl,h2,h4⟩:=gX.1 hy
        exact ⟨x,hx,decide_eq_true ⟨h2,h4,by rw [(Zj hs hk hl hx (by omega)).2.1];exact h⟩⟩
    cases hs':mh c m.1 with
    |none =>
      have hn:iM c m.1=none:=by unfold iM;rw [hs'];split<;>rfl
      rw [hn]
      split
      · exact ⟨_,rfl,fun t h=>by cases h⟩
      · exact ⟨_,by rw [hst,hs'],fun t h=>by cases h⟩
    |some t =>
      by_cases hlv:fZ c m.1=[]
      · have hv : iM c m.1 = some t := by unfold iM; rw [if_pos hlv, hs']
        rw [hv,if_neg,hst,hs',hla t hs']
        · exact ⟨_,rfl,fun t h=>by cases h;rfl⟩
        · rw [hkS]
          rintro ⟨y,hy,h⟩
          rw [Ja hs hk hs' hy,Bool.not_eq_true'] at h
          have:=pq.2 ⟨hy,h⟩
          rw [hlv] at this;cases this
      · have hv : iM c m.1 = none := by unfold iM; rw [if_neg hlv]
        rw [hv,if_pos]
        · exact ⟨_,rfl,fun t h=>by cases h⟩
        · obtain ⟨y, hy⟩ := List.exists_mem_of_ne_nil _ hlv
          obtain ⟨h1,h2⟩:=pq.1 hy
          exact hkS.2 ⟨y,h1,by rw [Ja hs hk hs' h1,h2];rfl⟩
theorem yy {y : ByteArray} : ∀ {n : Nat} {x : ByteArray}, dP c x = false → (y ∈ cA c n x ↔ fZ c y = [] ∧ dP c y = false ∧ ∃ d, d < n ∧ gY c x d y)
  |0,x,_=>by simp [cA]
  |n+1,x,hx=>by
    unfold cA
    split
    · rename_i hl
      rw [List.mem_singleton]
      constructor
      · rintro rfl;exact ⟨hl,hx,0,by omega,.zero⟩
      · rintro ⟨_, h2, d, _, hp⟩
        cases d with
        | zero => rcases cu hp with ⟨_, e⟩ | ⟨_, _, h, _, _⟩
                  · exact e
                  · omega
        |succ d =>
          rw [Nat.add_comm] at hp
          obtain ⟨z,ZF,hz2⟩:=vH hp
          rcases cu ZF with ⟨h,_⟩|⟨k,w,hk,hw,hzk⟩
          · omega
          · obtain rfl : k = 0 := by omega
            rcases cu hw with ⟨_,rfl⟩|⟨_,_,h,_,_⟩
            · have := pq.2 ⟨hzk, I8 hz2 h2⟩
              rw [hl] at this;cases this
            · omega
    · rename_i k l hl
      rw [(ej (t:=.str) _).mem_iff,List.mem_flatMap,←hl]
      constructor
      · rintro ⟨z, hz, h⟩
        obtain ⟨h1,h2⟩:=pq.1 hz
        obtain ⟨h3,h4,d,hd,hp⟩:=(yy h2).1 h
        exact ⟨h3,h4,1+d,by omega,gY.add (.step .zero h1) hp⟩
      · rintro ⟨h3, h4, d, hd, hp⟩
        cases d with
        |zero =>
          rcases cu hp with ⟨_,e⟩|⟨_,_,h,_,_⟩
          · subst e;rw [hl] at h3;cases h3
          · omega
        |succ d =>
          rw [Nat.add_comm] at hp
          obtain ⟨z,ZF,hz2⟩:=vH hp
          rcases cu ZF with ⟨h,_⟩|⟨k,w,hk,hw,hzk⟩
          · omega
          · obtain rfl : k = 0 := by omega
            rcases cu hw with ⟨_,rfl⟩|⟨_,_,h,_,_⟩
            · have hsz := I8 hz2 h4
              exact ⟨z,pq.2 ⟨hzk,hsz⟩,(yy hsz).2 ⟨h3,h4,d,by omega,hz2⟩⟩
            · omega
theorem Cj (hs:SI c) (hk:Cs c) {t y:ByteArray} (ht:Tk c t):y∈ga c t↔iM c y=some t:=by
  unfold ga
  rw [yy (TV (ht.top hs)),fe,cU hs hk]
  refine and_congr_right fun _=>?_
  constructor
  · rintro ⟨h,d,_,hp⟩;exact ⟨ht,h,d,hp⟩
  · rintro ⟨_,h,d,hp⟩;exact ⟨h,d,by have:=hp.short hs (ht.top hs) ht.ids;omega,hp⟩
theorem pz (x:ByteArray):slt x x=false:=gV (t:=.str) kS x
theorem Jb {x y:ByteArray} (h:slt x y=true) (h':slt y x=true):False:=dw (t:=.str) kS h h'
theorem TW {l l':List ByteArray} (h:l.Pairwise fun a b=>slt a b=true) (h':l'.Pairwise fun a b=>slt a b=true) (hm:∀x,x∈l↔x∈l'):l=l' :=
  kJ (r:=fun a b=>slt a b=true) (fun a h=>by rw [pz] at h;cases h) (fun a b h1 h2=>Jb h1 h2) h h' hm
theorem GL {l:List ByteArray} (h:Al .str l) (hn:l.Nodup):l.Pairwise fun a b=>slt a b=true:=by
  refine List.Pairwise.imp₂ (fun a b h1 h2=>?_) h hn
  cases hlt:slt a b with
  |true=>rfl
  |false=>exact absurd (gD (t:=.str) kS hlt h1) h2
theorem Pw : ∀ {n : Nat} {x : ByteArray}, Al .str (cA c n x)
  |0,_=>.nil
  |n+1,x=>by
    unfold cA
    split
    · exact List.pairwise_singleton _ _
    · exact o5 (t:=.str) kS _
theorem Px (hs:SI c) (hk:Cs c) {t:ByteArray} (ht:Tk c t):ga c t=(c.filter fun m=>decide (iM c m.1=some t)).map (·.1):=by
  refine TW (GL Pw (vA hs (ht.top hs) .zero)) ?_ fun y=>?_
  · rw [List.pairwise_map];exact List.Pairwise.filter _ hs
  · rw [Cj hs hk ht, List.mem_map]
    constructor
    · intro h
      obtain ⟨_,_,d,hp⟩:=(cU hs hk).1 (fe.1 h).2
      obtain ⟨m,hm,rfl⟩:=List.mem_map.1 (vG hp ht.ids)
      exact ⟨m,List.mem_filter.2 ⟨hm,by simpa using h⟩,rfl⟩
    · rintro ⟨m, hm, rfl⟩
      simpa using (List.mem_filter.1 hm).2
end
end Go.Proofs.Tryz
end
section
namespace Go.Proofs.Tryz
open Go.AM
set_option maxRecDepth 100000
set_option maxHeartbeats 1000000
def tJ (x:ByteArray) (b z:Mg):Mg:=if z.1=x∧(b.2.1=0∨fU tM z b=true) then z else b
def gZ (l:List Mg) (x:ByteArray):Mg:=l.foldl (tJ x) zM
def kO (l:List Mg) (r:List ByteArray):List Mg:=(r.map (gZ l)).filter fun m=>decide (0<m.2.1)
theorem dltM {z b:Mg} (h:z.1=b.1):fU tM z b=(decide (z.2.1<b.2.1)||(decide (z.2.1=b.2.1)&&(slt z.2.2.1 b.2.2.1||(decide (z.2.2.1=b.2.2.1)&&(slt z.2.2.2.1 b.2.2.2.1||(decide (z.2.2.2.1=b.2.2.2.1)&&decide (z.2.2.2.2<b.2.2.2.2))))))):=by
 have e:fU tM z b=(slt z.1 b.1||(dI .str z.1 b.1&&(decide (z.2.1<b.2.1)||((z.2.1==b.2.1)&&(slt z.2.2.1 b.2.2.1||(dI .str z.2.2.1 b.2.2.1&&(slt z.2.2.2.1 b.2.2.2.1||(dI .str z.2.2.2.1 b.2.2.2.1&&decide (z.2.2.2.2<b.2.2.2.2))))))))):=rfl
 rw [e,h,pz,vr,vr,vr]
 simp only [decide_true,Bool.false_or,Bool.true_and]
 congr 2
theorem aew {l b0:List Mg} {nv:Nat} {x:ByteArray} {v9:List ByteArray} {v10 v11:Int} (hl:l.length<1000000000) :
  iter (fun a=>aq (g30_1 a)) (l,nv,x,v9,v10,v11,l,((l.length:Nat):Int),(0:Int),b0,bs [],(0:Int),bs [],bs [],(0:Int),()) =
   some (l,nv,v9,v10,v11,b0,(gZ l x).1,(gZ l x).2.1,(gZ l x).2.2.1,(gZ l x).2.2.2.1,(gZ l x).2.2.2.2,()):=by
 refine aO l (fun k (b : Mg) => (l, nv, x, v9, v10, v11, l, ((l.length : Nat) : Int), (k : Int), b0, b.1, b.2.1, b.2.2.1, b.2.2.2.1, b.2.2.2.2, ()))
  (fun b r=>(l,nv,v9,v10,v11,b0,(r.foldl (tJ x) b).1,(r.foldl (tJ x) b).2.1,(r.foldl (tJ x) b).2.2.1,(r.foldl (tJ x) b).2.2.2.1,(r.foldl (tJ x) b).2.2.2.2,())) (fun _ b=>b.2.1=0∨b.1=x) ?_ ?_ (s:=zM) (.inl rfl)
 ·intro pre z post b hz hb
  have hlen:l.length=pre.length+(post.length+1):=by rw [hz];simp
  have hd:l.getD pre.length (bs [],(0:Int),bs [],bs [],(0:Int))=z:=by rw [hz];exact bg rfl
  have i1:fh (pre.length:Int) ((l.length:Nat):Int)=true:=bX (by omega) (by omega)
  have r1:gH .i64 ((pre.length:Int)+1)=true:=aJ (by omega) (by omega)
  left
  refine ⟨tJ x b z,?_,?_,rfl⟩
  ·simp only [g30_1, av, bf, aQ, aa, Int.toNat_natCast, hd, i1, r1, ak, bp, bI, seq_eq]
   rw [if_pos (by omega)]
   simp only [ko]
   unfold tJ
   by_cases hx:z.1=x
   ·by_cases h0 : b.2.1 = 0
    ·rw [if_pos hx,if_pos h0,if_pos ⟨hx,.inl h0⟩];rfl
    ·have hbx : b.1 = x := hb.resolve_left h0
     rw [if_pos hx,if_neg h0]
     have hdl:=dltM (z:=z) (b:=b) (by rw [hx,hbx])
     by_cases k1:z.2.1<b.2.1
     ·rw [if_pos k1,if_pos ⟨hx,.inr (by rw [hdl];simp [k1])⟩];rfl
     ·rw [if_neg k1]
      by_cases k2:z.2.1=b.2.1
      ·rw [if_pos k2]
       cases k3:slt z.2.2.1 b.2.2.1 with
       |true=>rw [if_pos rfl,if_pos ⟨hx,.inr (by rw [hdl];simp [k2,k3])⟩];rfl
       |false =>
        rw [if_neg (by simp)]
        by_cases k4:z.2.2.1=b.2.2.1
        ·rw [if_pos k4]
         cases k5:slt z.2.2.2.1 b.2.2.2.1 with
         |true=>rw [if_pos rfl,if_pos ⟨hx,.inr (by rw [hdl];simp [k2,k4,k5])⟩];rfl
         |false =>
          rw [if_neg (by simp)]
          by_cases k6:z.2.2.2.1=b.2.2.2.1
          ·rw [if_pos k6]
           by_cases k7:z.2.2.2.2<b.2.2.2.2
           ·rw [if_pos k7,if_pos ⟨hx,.inr (by rw [hdl];simp [k2,k4,k6,k7])⟩];rfl
           ·rw [if_neg k7, if_neg]; · rfl
            rintro ⟨_,h|h⟩
            ·exact h0 h
            ·rw [hdl,k3,k5] at h;simp [k1,k7] at h
          ·rw [if_neg k6, if_neg]; · rfl
           rintro ⟨_,h|h⟩
           ·exact h0 h
           ·rw [hdl,k3,k5] at h;simp [k1,k6] at h
        ·rw [if_neg k4, if_neg]; · rfl
         rintro ⟨_,h|h⟩
         ·exact h0 h
         ·rw [hdl,k3] at h;simp [k1,k4] at h
      ·rw [if_neg k2, if_neg]; · rfl
       rintro ⟨_,h|h⟩
       ·exact h0 h
       ·rw [hdl] at h;simp [k1,k2] at h
   ·rw [if_neg hx,if_neg (fun h=>hx h.1)];rfl
  ·unfold tJ
   split
   ·rename_i h;exact .inr h.1
   ·exact hb
 ·intro b _
  simp only [g30_1,av,aa,bp]
  rw [if_neg (by omega)]
  rfl
theorem aex {l:List Mg} (hl:l.length<1000000000):iter (fun a=>aq (g30_0 a)) (l,(0:Nat),jE,((jE.length:Nat):Int),(0:Int),[],())=some ((kO l jE).length,kO l jE,()):=by
 refine aO jE (fun k (o:List Mg)=>(l,o.length,jE,((jE.length:Nat):Int),(k:Int),o,())) (fun o r=>((o++kO l r).length,o++kO l r,())) (fun pre o=>o.length≤pre.length) ?_ ?_ (s:=[]) (Nat.le_refl _)
 ·intro pre x post o hx ho
  have hlen:jE.length=pre.length+(post.length+1):=by rw [hx];simp
  have h8:jE.length=8:=rfl
  have hd:jE.getD pre.length (bs [])=x:=by rw [hx];exact bg rfl
  have i1:fh (pre.length:Int) ((jE.length:Nat):Int)=true:=bX (by omega) (by omega)
  have r1:gH .i64 ((pre.length:Int)+1)=true:=aJ (by omega) (by omega)
  have d1:decide (o.length+1<cg)=true:=decide_eq_true (by rw [fc];omega)
  have e1:(([((gZ l x).1,(gZ l x).2.1,(gZ l x).2.2.1,(gZ l x).2.2.2.1,(gZ l x).2.2.2.2)]:List Mg).take 1)=[gZ l x]:=rfl
  have hk:=aew (l:=l) (b0:=o) (nv:=o.length) (x:=x) (v9:=jE) (v10:=((jE.length:Nat):Int)) (v11:=(pre.length:Int)) hl
  left
  by_cases hb:0<(gZ l x).2.1
  ·have hc : kO l (x :: post) = gZ l x :: kO l post := by unfold kO; rw [List.map_cons, List.filter_cons_of_pos (by simpa using hb)]
   refine ⟨o++[gZ l x],?_,by simp;omega,by rw [hc];simp⟩
   simp only [g30_0,av,aA,bG,bf,aU,aQ,aa,Int.toNat_natCast,hd,i1,ak,bp]
   rw [if_pos (by omega),aj hk]
   simp only
   rw [if_pos hb]
   simp only [e1,List.length_singleton,d1,r1,ak,List.drop_zero,List.take_length,List.length_append]
   rfl
  ·have hc : kO l (x :: post) = kO l post := by unfold kO; rw [List.map_cons, List.filter_cons_of_neg (by simpa using hb)]
   refine ⟨o,?_,by simp;omega,by rw [hc]⟩
   simp only [g30_0,av,aA,bG,bf,aU,aQ,aa,Int.toNat_natCast,hd,i1,ak,bp]
   rw [if_pos (by omega),aj hk]
   simp only
   rw [if_neg hb]
   simp only [r1,ak]
   rfl
 ·intro o _
  simp only [g30_0,av,aa,bp]
  rw [if_neg (by omega)]
  simp [kO]
theorem k31:aq F31=some (jE,()):=rfl
def BS (x:ByteArray) (l:List Mg) (b:Mg):Prop:=(b=zM∧∀m∈l,m.1≠x)∨(b∈l∧b.1=x∧∀m∈l,m.1=x→m=b∨fU tM b m=true)
theorem AD {x : ByteArray} : ∀ {l pre : List Mg} {b : Mg}, (∀ m ∈ pre ++ l, 1 ≤ m.2.1) → BS x pre b → BS x (pre ++ l) (l.foldl (tJ x) b)
 |[],pre,b,_,h=>by simpa using h
 |z::l,pre,b,hk,h=>by
  have hn:BS x (pre++[z]) (tJ x b z):=by
   unfold tJ
   rcases h with ⟨rfl,h⟩|⟨h1,h2,h3⟩
   ·by_cases hx : z.1 = x
    ·rw [if_pos ⟨hx, .inl rfl⟩]
     refine .inr ⟨by simp,hx,fun m hm e=>?_⟩
     rcases List.mem_append.1 hm with hm|hm
     ·exact absurd e (h m hm)
     ·exact .inl (List.mem_singleton.1 hm)
    ·rw [if_neg (fun h => hx h.1)]
     refine .inl ⟨rfl,fun m hm=>?_⟩
     rcases List.mem_append.1 hm with hm|hm
     ·exact h m hm
     ·rw [List.mem_singleton.1 hm];exact hx
   ·have hb0 : ¬ b.2.1 = 0 := by have := hk b (by simp [h1]); omega
    by_cases hc:z.1=x∧(b.2.1=0∨fU tM z b=true)
    ·rw [if_pos hc]
     have PK:=hc.2.resolve_left hb0
     refine .inr ⟨by simp,hc.1,fun m hm e=>?_⟩
     rcases List.mem_append.1 hm with hm|hm
     ·rcases h3 m hm e with rfl | h4
      ·exact .inr PK
      ·exact .inr (iH kM PK h4)
     ·exact .inl (List.mem_singleton.1 hm)
    ·rw [if_neg hc]
     refine .inr ⟨by simp [h1],h2,fun m hm e=>?_⟩
     rcases List.mem_append.1 hm with hm|hm
     ·exact h3 m hm e
     ·rw [List.mem_singleton.1 hm] at e ⊢
      cases h4:fU tM b z with
      |true=>exact .inr rfl
      |false =>
       cases h5:fU tM z b with
       |true=>exact absurd ⟨e,.inr h5⟩ hc
       |false=>exact .inl (gD kM h5 h4)
  have:=AD (l:=l) (pre:=pre++[z]) (b:=tJ x b z) (by simpa using hk) hn
  simpa using this
theorem pE {l:List Mg} (hk:∀m∈l,1≤m.2.1) (x:ByteArray):BS x l (gZ l x):=by
 have:=AD (x:=x) (l:=l) (pre:=[]) (b:=zM) (by simpa using hk) (.inl ⟨rfl,fun m h=>by cases h⟩)
 rw [List.nil_append] at this
 exact this
theorem EL {m:Mg} (h:sj m=0):m.2.1=1∨m.2.1=2∨m.2.1=3:=by
 unfold sj at h
 split at h
 ·cases h
 ·omega
theorem TX:jE.Pairwise fun a b=>slt a b=true:=of_decide_eq_true (by kernel_rfl)
theorem Py {c c':List Mg} (h:SI c) (h':SI c') (hm:∀m,m∈c↔m∈c'):c=c' :=
 kJ (r:=fun a b:Mg=>slt a.1 b.1=true) (fun a h=>by rw [pz] at h;cases h) (fun a b h1 h2=>Jb h1 h2) h h' hm
theorem Jc {l:List Mg} (hg:Gd l) (hl:l.length≤60) (hi:∀m∈l,m.1∈jE):kO l jE=cnt (cR l):=by
 have hk:∀m∈l,1≤m.2.1:=fun m hm=>by rcases EL (hg m hm) with h|h|h<;>omega
 have key:∀r:List ByteArray,(r.Pairwise fun a b=>slt a b=true)→SI (kO l r)∧∀m,m∈kO l r↔∃x∈r,gZ l x=m∧m.1=x∧m∈l:=by
  intro r
  have hmem:∀m,m∈kO l r↔∃x∈r,gZ l x=m∧m.1=x∧m∈l:=fun m=>by
   unfold kO
   rw [List.mem_filter,List.mem_map]
   constructor
   ·rintro ⟨⟨x, hx, rfl⟩, h0⟩
    rcases pE hk x with ⟨e,_⟩|⟨h1,h2,_⟩
    ·rw [e] at h0;simp at h0
    ·exact ⟨x,hx,rfl,h2,h1⟩
   ·rintro ⟨x, hx, rfl, h2, h1⟩
    exact ⟨⟨x,hx,rfl⟩,by have:=hk _ h1;simp;omega⟩
  refine fun hr=>⟨?_,hmem⟩
  induction r with
  |nil=>exact .nil
  |cons x r ih =>
   rw [List.pairwise_cons] at hr
   have ih':SI (kO l r):=by
    refine ih (fun m=>?_) hr.2
    unfold kO
    rw [List.mem_filter,List.mem_map]
    constructor
    ·rintro ⟨⟨x, hx, rfl⟩, h0⟩
     rcases pE hk x with ⟨e,_⟩|⟨h1,h2,_⟩
     ·rw [e] at h0;simp at h0
     ·exact ⟨x,hx,rfl,h2,h1⟩
    ·rintro ⟨x, hx, rfl, h2, h1⟩
     exact ⟨⟨x,hx,rfl⟩,by have:=hk _ h1;simp;omega⟩
   unfold kO
   rw [List.map_cons]
   by_cases h0:0<(gZ l x).2.1
   ·rw [List.filter_cons_of_pos (by simpa using h0)]
    refine List.pairwise_cons.2 ⟨fun m hm=>?_,ih'⟩
    obtain ⟨fK,hm2⟩:=List.mem_filter.1 hm
    obtain ⟨y,hy,rfl⟩:=List.mem_map.1 fK
    rcases pE hk x with ⟨e,_⟩|⟨_,h2,_⟩
    ·rw [e] at h0;simp at h0
    rcases pE hk y with ⟨e,_⟩|⟨_,h4,_⟩
    ·rw [e] at hm2;simp at hm2
    rw [h2,h4];exact hr.1 y hy
   ·rw [List.filter_cons_of_neg (by simpa using h0)]
    exact ih'
 obtain ⟨h1,h2⟩:=key jE TX
 refine Py h1 (gv _) fun m=>?_
 rw [h2,Ce (nF.told l).s,oM hg hl]
 constructor
 ·rintro ⟨x, hx, hb, e, hm⟩
  refine ⟨hm,fun y hy e'=>?_⟩
  rcases pE hk x with ⟨q,_⟩|⟨_,_,h3⟩
  ·rw [hb] at q;rw [q] at hm;have:=hk _ hm;simp at this
  ·rw [hb] at h3
   exact h3 y ((oM hg hl y).1 hy) (by rw [e',e])
 ·rintro ⟨hm, h3⟩
  refine ⟨m.1,hi m hm,?_,rfl,hm⟩
  rcases pE hk m.1 with ⟨_,q⟩|⟨q1,q2,q3⟩
  ·exact absurd rfl (q m hm)
  ·rcases q3 m hm rfl with e | h4
   ·exact e.symm
   ·rcases h3 _ ((oM hg hl _).2 q1) q2 with e | h5
    ·exact e
    ·exact (dw kM h4 h5).elim
theorem k30 {l:List Mg} (hg:Gd l) (hl:l.length≤60) (hi:∀m∈l,m.1∈jE):aq (F30 l)=some (cnt (cR l),()):=by
 have hlen:(kO l jE).length<1000000:=by
  have:(kO l jE).length≤8:=by unfold kO;exact Nat.le_trans (List.length_filter_le ..) (by simp [jE])
  omega
 unfold F30
 simp only [aA,bG]
 rw [aj k31]
 simp only
 rw [aj (aex (by omega))]
 simp only [aa,List.drop_zero,List.take_length]
 rw [Jc hg hl hi]
theorem ic {l:List ByteArray} {k:Nat} (h:k<l.length):l.getD k (bs [])∈l:=by
 rw [List.getD_eq_getElem?_getD,List.getElem?_eq_getElem h];exact List.getElem_mem h
theorem Pz {n:Int} (h:0≤n) (h2:n<8):p0 97 n∈jE:=by
 have h8:jE.length=8:=rfl
 have:n=0∨n=1∨n=2∨n=3∨n=4∨n=5∨n=6∨n=7:=by omega
 rcases this with rfl|rfl|rfl|rfl|rfl|rfl|rfl|rfl
 ·exact (show jE.getD 0 (bs [])=p0 97 0 by kernel_rfl)▸ic (l:=jE) (k:=0) (by omega)
 ·exact (show jE.getD 1 (bs [])=p0 97 1 by kernel_rfl)▸ic (l:=jE) (k:=1) (by omega)
 ·exact (show jE.getD 2 (bs [])=p0 97 2 by kernel_rfl)▸ic (l:=jE) (k:=2) (by omega)
 ·exact (show jE.getD 3 (bs [])=p0 97 3 by kernel_rfl)▸ic (l:=jE) (k:=3) (by omega)
 ·exact (show jE.getD 4 (bs [])=p0 97 4 by kernel_rfl)▸ic (l:=jE) (k:=4) (by omega)
 ·exact (show jE.getD 5 (bs [])=p0 97 5 by kernel_rfl)▸ic (l:=jE) (k:=5) (by omega)
 ·exact (show jE.getD 6 (bs [])=p0 97 6 by kernel_rfl)▸ic (l:=jE) (k:=6) (by omega)
 ·exact (show jE.getD 7 (bs [])=p0 97 7 by kernel_rfl)▸ic (l:=jE) (k:=7) (by omega)
theorem Jd {n:Int} (h:0≤n) (h2:n<3):p0 120 n∈uP:=by
 have h8:uP.length=3:=rfl
 have:n=0∨n=1∨n=2:=by omega
 rcases this with rfl|rfl|rfl
 ·exact (show uP.getD 0 (bs [])=p0 120 0 by kernel_rfl)▸ic (l:=uP) (k:=0) (by omega)
 ·exact (show uP.getD 1 (bs [])=p0 120 1 by kernel_rfl)▸ic (l:=uP) (k:=1) (by omega)
 ·exact (show uP.getD 2 (bs [])=p0 120 2 by kernel_rfl)▸ic (l:=uP) (k:=2) (by omega)
structure ByN (m:Mg):Prop where
 sj:sj m=0
 id:m.1∈jE
 of:m.2.1≠1→m.2.2.1∈jE
 acc:m.2.1≠3→m.2.2.2.1∈uP
 amt : -3≤m.2.2.2.2∧m.2.2.2.2≤8
theorem Zk {x:Nu} (h:K9 x):ByN (EX x):=by
 have ho:=VF h
 have hc:=Pp h
 obtain ⟨⟨a1,a2⟩,⟨b1,b2⟩,⟨c1,c2⟩,d1,d2⟩:=h
 have ta:=EH a1 8 (by omega)
 have tc:=EH c1 3 (by omega)
 have te:=TS c1 c2
 have tf:=EH te.1 12 (by omega)
 have n1:=Pz ta.1 ta.2
 have n2:=Pz ho.1 ho.2.1
 have n3:=Jd tc.1 tc.2
 refine ⟨hc,?_,?_,?_,?_⟩
 ·unfold EX; simp only; split
  ·exact n1
  ·split<;>exact n1
 ·unfold EX; simp only; split
  ·intro h;exact absurd rfl h
  ·split<;>exact fun _=>n2
 ·unfold EX; simp only; split
  ·exact fun _=>n3
  ·split
   ·intro h;exact absurd rfl h
   ·exact fun _=>n3
 ·unfold EX; simp only; split
  ·simp only;omega
  ·split
   ·simp
   ·simp only;omega
theorem sy {p:List Nu} (hp:∀x∈p,K9 x):∀m∈cH p,ByN m:=fun m hm=>by
 obtain ⟨x,hx,rfl⟩:=List.mem_map.1 hm
 exact Zk (hp x (List.mem_of_mem_take hx))
structure CN (c:List Mg):Prop where
 si:SI c
 k3:Cs c
 byN:∀m∈c,ByN m
 len:c.length≤8
theorem TY {p:List Nu} (hp:∀x∈p,K9 x):CN (cnt (cR (cH p))):=by
 have hml:=mw p
 have hb:∀m∈cnt (cR (cH p)),ByN m:=fun m hm=>sy hp m ((oM (vD hp) (by omega) m).1 (sq hm))
 refine ⟨gv _,fun m hm=>EL (hb m hm).sj,hb,?_⟩
 rw [←Jc (vD hp) (by omega) fun m hm=>(sy hp m hm).id]
 unfold kO
 exact Nat.le_trans (List.length_filter_le ..) (by simp [jE])
theorem PA {p:List Nu} (hp:∀x∈p,K9 x):aq (F30 (cH p))=some (cnt (cR (cH p)),()) :=
 k30 (vD hp) (by have:=mw p;omega) fun m hm=>(sy hp m hm).id
end Go.Proofs.Tryz
end
section
namespace Go.Proofs.Tryz
open Go.AM
set_option maxRecDepth 100000
set_option maxHeartbeats 2000000
section
variable {c:List Mg}
end
end Go.Proofs.Tryz
end
section
namespace Go.Proofs.Tryz
open Go.AM
set_option maxRecDepth 100000
set_option maxHeartbeats 2000000
section
variable {c:List Mg}
theorem KR (hs:SI c) (hk:Cs c) {m:Mg} (hm:m∈c) (h:(iM c m.1).isSome=true):m.2.1≠3:=by
 obtain ⟨t,ht⟩:=Option.isSome_iff_exists.1 h
 obtain ⟨h1,_,d,h2⟩:=(cU hs hk).1 (fe.1 ht).2
 obtain ⟨m',hm',e,h3⟩:=yx h2 h1.nr
 rw [hs.inj hm' hm e] at h3
 exact h3
end
end Go.Proofs.Tryz
end
section
namespace Go.Proofs.Tryz
open Go.AM
set_option maxRecDepth 100000
theorem Je {α:Type} {a b:Option α} (h:∀t,a=some t↔b=some t):a=b:=by
 cases a with
 |some x=>exact ((h x).1 rfl).symm
 |none =>
  cases b with
  |none=>rfl
  |some y=>exact (h y).2 rfl
theorem TZ {L:List Mg} (h:nF L) {n:Mg} (hn:∀m∈L,slt m.1 n.1=true):SI (cnt L++[n])∧cnt (oG L n)=cnt L++[n]:=by
 have hsi:SI (cnt L++[n]):=by
  unfold SI
  rw [List.pairwise_append]
  refine ⟨gv L,List.pairwise_singleton ..,fun a ha b hb=>?_⟩
  rw [List.mem_singleton] at hb;subst hb
  exact hn a (sq ha)
 refine ⟨hsi,Py (gv _) hsi fun m=>?_⟩
 rw [Ce h.s.ins,List.mem_append,List.mem_singleton,Ce h.s,mc h.s]
 have hne:∀m∈L,m.1≠n.1:=fun m hm e=>by have:=hn m hm;rw [e,pz] at this;cases this
 constructor
 ·rintro ⟨rfl | hm, h2⟩
  ·exact .inr rfl
  ·exact .inl ⟨hm,fun x hx e=>h2 x ((mc h.s).2 (.inr hx)) e⟩
 ·rintro (⟨hm, h2⟩ | rfl)
  ·refine ⟨.inr hm, fun x hx e => ?_⟩
   rcases (mc h.s).1 hx with rfl|hx
   ·exact absurd e.symm (hne m hm)
   ·exact h2 x hx e
  ·refine ⟨.inl rfl, fun x hx e => ?_⟩
   rcases (mc h.s).1 hx with rfl|hx
   ·exact .inl rfl
   ·exact absurd e (hne x hx)
section
variable {c c':List Mg} {n:Mg}
abbrev D (c:List Mg) (p:ByteArray):List ByteArray:=dir c (p,kids c p)
theorem T0 (hs:SI c) (p:ByteArray):D c p=if KO c p=true then (match (kids c p).filter (dH c) with|[o]=>(kids c p).filter (fun k => !decide (k=o))|_=>[]) else []:=by
 unfold D dir
 rw [I4 hs]
 first|done|rfl
theorem PB (x:ByteArray):kids (c++[n]) x=kids c x++if n.2.1=2∧n.2.2.1=x then [n.1] else []:=by
 unfold kids
 rw [List.filter_append,List.map_append]
 congr 1
 by_cases h:n.2.1=2∧n.2.2.1=x
 ·rw [if_pos h,List.filter_cons_of_pos (by simpa using h)];rfl
 ·rw [if_neg h,List.filter_cons_of_neg (by simpa using h)];rfl
theorem PC (x:ByteArray):dH (c++[n]) x=(dH c x||decide (n.2.1=3∧n.2.2.1=x)):=by
 unfold dH;rw [List.any_append];simp
theorem T1 (x:ByteArray):KO (c++[n]) x=(KO c x||decide (n.1=x∧n.2.1≠3)):=by
 unfold KO;rw [List.any_append];simp
theorem PD (h:∀x y,y∈kids c x→y∈kids c' x) {k:Nat} {x y:ByteArray} (hp:gY c x k y):gY c' x k y:=by
 induction hp with
 |zero=>exact .zero
 |step _ hz ih=>exact .step ih (h _ _ hz)
theorem Ck (x:ByteArray):mg (c++[n]) x=(mg c x||decide (n.1=x)):=by
 rw [Bool.eq_iff_iff,Bool.or_eq_true,bD,bD,decide_eq_true_eq]
 unfold ids
 rw [List.map_append,List.mem_append]
 simp only [List.map_cons,List.map_nil,List.mem_singleton]
 exact or_congr_right eq_comm
theorem Jf (hs:SI c) (hs':SI (c++[n])) {x:ByteArray} (h:mg c x=true):msg (c++[n]) x=msg c x:=by
 obtain ⟨h1,h2⟩:=sv hs h
 have:=fG hs' (List.mem_append_left [n] h1)
 rw [h2] at this
 exact this
theorem Zl (h1:n.2.1≠1) {t:ByteArray}:Tk (c++[n]) t↔Tk c t:=by
 constructor
 ·rintro ⟨m, hm, e, hk⟩
  rcases List.mem_append.1 hm with hm|hm
  ·exact ⟨m,hm,e,hk⟩
  ·rw [List.mem_singleton.1 hm] at hk;exact absurd hk h1
 ·rintro ⟨m,hm,h⟩;exact ⟨m,List.mem_append_left _ hm,h⟩
theorem Zm (hk:Cs c) (hn:n.2.1=1∨n.2.1=2∨n.2.1=3):Cs (c++[n]):=fun m hm=>by
 rcases List.mem_append.1 hm with hm|hm
 ·exact hk m hm
 ·rw [List.mem_singleton.1 hm];exact hn
theorem PE (hs:SI c) (hk:Cs c) {t v:ByteArray} (ht:Tk c t) (hv:v∈ga c t):mg c v=true:=by
 obtain ⟨_,_,d,hp⟩:=(cU hs hk).1 (fe.1 ((Cj hs hk ht).1 hv)).2
 exact bD.2 (vG hp ht.ids)
end
end Go.Proofs.Tryz
end
section
namespace Go.Proofs.Tryz
open Go.AM
set_option maxRecDepth 100000
set_option maxHeartbeats 2000000
section
variable {c:List Mg} {n m:Mg} {t:ByteArray}
theorem yz:∀x∈jE,eU x=true∧slt x (bs [114,57])=true∧slt x (bs [110,101,119])=true:=of_decide_eq_true (by kernel_rfl)
theorem PF {p:List Nu} (hp:∀x∈p,K9 x):∀m∈cR (cH p),m.1∈jE:=fun m hm=>(sy hp m ((oM (vD hp) (by have:=mw p;omega) m).1 hm)).id
theorem Zn (hC:CN c) {x:ByteArray} (h:mg c x=true):x∈jE:=by
 obtain ⟨m,hm,rfl⟩:=List.mem_map.1 (bD.1 h)
 exact (hC.byN m hm).id
theorem PG {p:List Nu}:(cR (cH p)).length≤10:=by
 have h:∀(l L:List Mg),(l.foldl (fun L m=>(iw L m).2) L).length≤L.length+l.length:=by
  intro l
  induction l with
  |nil=>intro L;simp
  |cons m l ih =>
   intro L
   rw [List.foldl_cons,List.length_cons]
   have h1:=ih (iw L m).2
   have h2:(iw L m).2.length≤L.length+1:=by
    have:=ye (L:=L) (m:=m)
    unfold iw
    split
    ·split
     ·simp
     ·exact this
    ·simp
   omega
 have:=h (cH p) []
 have hml:=mw p
 unfold cR
 simp only [List.length_nil] at this
 omega
end
end Go.Proofs.Tryz
end
section
namespace Go.Proofs.Tryz
open Go.AM
set_option maxRecDepth 100000
set_option maxHeartbeats 2000000
section
variable {c:List Mg} {n m:Mg} {t:ByteArray}
structure Fx (c:List Mg) (n:Mg):Prop where
 si:SI c
 k3:Cs c
 Zo:SI (c++[n])
 k2:n.2.1=2
 ni:mg c n.1=false
 nk:kids c n.1=[]
 nr:dH c n.1=false
 no:n.1≠n.2.2.1
theorem Fx.k3' (h:Fx c n):Cs (c++[n]):=Zm h.k3 (.inr (.inl h.k2))
theorem Fx.Jg (h:Fx c n) (x:ByteArray):n.1∉kids c x:=fun hx=>by
 have:=bD.2 (gW hx)
 rw [h.ni] at this;cases this
theorem Fx.ZV (h:Fx c n) (x:ByteArray):kids (c++[n]) x=if x=n.2.2.1 then kids c x++[n.1] else kids c x:=by
 rw [PB]
 by_cases e:x=n.2.2.1
 ·rw [if_pos e,if_pos ⟨h.k2,e.symm⟩]
 ·rw [if_neg e,if_neg fun h=>e h.2.symm,List.append_nil]
theorem Fx.sA (h:Fx c n) {x y:ByteArray}:y∈kids (c++[n]) x↔y∈kids c x∨(x=n.2.2.1∧y=n.1):=by
 rw [h.ZV]
 split
 ·rename_i e;simp [e]
 ·rename_i e;simp [e]
theorem Fx.VH (h:Fx c n):kids (c++[n]) n.1=[]:=by rw [h.ZV,if_neg h.no,h.nk]
theorem Fx.rul (h:Fx c n) (x:ByteArray):dH (c++[n]) x=dH c x:=by rw [PC,decide_eq_false (by have:=h.k2;omega),Bool.or_false]
theorem Fx.KN (h:Fx c n) {k:Nat} {x y:ByteArray} (hp:gY (c++[n]) x k y) (hy:y≠n.1):gY c x k y:=by
 induction hp with
 |zero=>exact .zero
 |step _ hz ih =>
  rcases h.sA.1 hz with hz|⟨_,e⟩
  ·refine .step (ih fun e => ?_) hz
   rw [e,h.nk] at hz;cases hz
  ·exact absurd e hy
theorem Fx.T2 (h:Fx c n) {k:Nat} {x y:ByteArray} (hp:gY c x k y):gY (c++[n]) x k y:=PD (fun _ _ hy=>h.sA.2 (.inl hy)) hp
theorem Fx.VI (h:Fx c n) {k:Nat} {x:ByteArray} (hp:gY (c++[n]) x k n.1):(k=0∧x=n.1)∨∃j,k=j+1∧gY c x j n.2.2.1:=by
 rcases cu hp with ⟨h0,e⟩|⟨j,z,hj,h1,hz⟩
 ·exact .inl ⟨h0,e.symm⟩
 ·rcases h.sA.1 hz with hz | ⟨e, _⟩
  ·exact absurd hz (h.Jg z)
  ·subst e
   exact .inr ⟨j,hj,h.KN h1 h.no.symm⟩
theorem Fx.stk (h:Fx c n) (hD:∀p,D (c++[n]) p=D c p) {x:ByteArray} (hx:x≠n.1):dP (c++[n]) x=dP c x:=by
 rw [Bool.eq_iff_iff,je,je]
 constructor
 ·rintro ⟨p, y, hy, hd⟩
  obtain ⟨k,hp⟩:=hd.KN
  exact ⟨p,y,by have:y∈D (c++[n]) p:=hy;rw [hD p] at this;exact this,(h.KN hp hx).desc⟩
 ·rintro ⟨p, y, hy, hd⟩
  obtain ⟨k,hp⟩:=hd.KN
  exact ⟨p,y,by show y∈D (c++[n]) p;rw [hD p];exact hy,(h.T2 hp).desc⟩
theorem Fx.PI (h:Fx c n) (hD:∀p,D (c++[n]) p=D c p):dP (c++[n]) n.1=dP c n.2.2.1:=by
 rw [Bool.eq_iff_iff,je,je]
 constructor
 ·rintro ⟨p, y, hy, hd⟩
  obtain ⟨k,hp⟩:=hd.KN
  have hy:y∈D c p:=by have:y∈D (c++[n]) p:=hy;rw [hD p] at this;exact this
  rcases h.VI hp with ⟨_,e⟩|⟨j,_,h1⟩
  ·rw [e] at hy;exact absurd (jK hy) (h.Jg p)
  ·exact ⟨p,y,hy,h1.desc⟩
 ·rintro ⟨p, y, hy, hd⟩
  obtain ⟨k,hp⟩:=hd.KN
  exact ⟨p,y,by show y∈D (c++[n]) p;rw [hD p];exact hy,(gY.step (h.T2 hp) (h.sA.2 (.inr ⟨rfl,rfl⟩))).desc⟩
theorem Fx.tk (h:Fx c n) {t:ByteArray}:Tk (c++[n]) t↔Tk c t:=Zl (by have:=h.k2;omega)
theorem Fx.fI (h:Fx c n) (hD:∀p,D (c++[n]) p=D c p) {x:ByteArray} (hx:x≠n.1):mh (c++[n]) x=mh c x:=Je fun t=>by
 rw [cU h.Zo h.k3',cU h.si h.k3,h.tk,h.stk hD hx]
 exact and_congr_right fun _=>and_congr_right fun _=>exists_congr fun d=>⟨fun hp=>h.KN hp hx,h.T2⟩
theorem Fx.VJ (h:Fx c n) (hD:∀p,D (c++[n]) p=D c p):mh (c++[n]) n.1=mh c n.2.2.1:=Je fun t=>by
 rw [cU h.Zo h.k3',cU h.si h.k3,h.tk,h.PI hD]
 refine and_congr_right fun ht=>and_congr_right fun _=>⟨fun ⟨d,hp⟩=>?_,fun ⟨d,hp⟩=>⟨d+1,.step (h.T2 hp) (h.sA.2 (.inr ⟨rfl,rfl⟩))⟩⟩
 rcases h.VI hp with ⟨_,e⟩|⟨j,_,h1⟩
 ·have := bD.2 ht.ids
  rw [e,h.ni] at this;cases this
 ·exact ⟨j,h1⟩
theorem Fx.fZ (h:Fx c n) (hD:∀p,D (c++[n]) p=D c p) {x:ByteArray} (hx:x≠n.2.2.1):fZ (c++[n]) x=fZ c x:=by
 unfold Tryz.fZ
 rw [h.ZV,if_neg hx]
 exact List.filter_congr fun k hk=>by rw [h.stk hD fun e=>h.Jg x (by rw [←e];exact hk)]
theorem Fx.aey (h:Fx c n) (hD:∀p,D (c++[n]) p=D c p):Tryz.fZ (c++[n]) n.2.2.1=Tryz.fZ c n.2.2.1++if dP c n.2.2.1=true then [] else [n.1]:=by
 unfold Tryz.fZ
 rw [h.ZV,if_pos rfl,List.filter_append]
 congr 1
 ·exact List.filter_congr fun k hk=>by rw [h.stk hD fun e=>h.Jg _ (by rw [←e];exact hk)]
 ·rw [List.filter_cons, h.PI hD]
  cases dP c n.2.2.1<;>rfl
theorem Fx.aez (h:Fx c n):Tryz.fZ (c++[n]) n.1=[]:=by unfold Tryz.fZ;rw [h.VH];rfl
theorem KT {x:ByteArray} (hs:SI c) (hx:dP c x=false) (hl:Tryz.fZ c x=[]):kids c x=[]:=by
 refine List.eq_nil_iff_forall_not_mem.2 fun k hk=>?_
 have hall:∀k∈kids c x,dP c k=true:=fun k hk=>by
  cases h:dP c k with
  |true=>rfl
  |false =>
   have:=pq.2 ⟨hk,h⟩
   rw [hl] at this;cases this
 have hdir:∀k∈kids c x,k∈D c x:=fun k hk=>by
  obtain ⟨p,y,hy,hd⟩:=je.1 (hall k hk)
  obtain ⟨d,hp⟩:=hd.KN
  rcases cu hp with ⟨_,e⟩|⟨j,z,_,h1,hz⟩
  ·have h2 := jK hy
   rw [←e] at h2 hy
   rw [pg hs hk h2];exact hy
  ·rw [pg hs hz hk] at h1
   have:=je.2 ⟨p,y,hy,h1.desc⟩
   rw [hx] at this;cases this
 have h1:=hdir k hk
 rw [T0 hs] at h1
 by_cases Zp:KO c x=true
 ·rw [if_pos Zp] at h1
  split at h1
  ·rename_i o ho
   have ho':o∈kids c x:=(List.mem_filter.1 (show o∈(kids c x).filter (dH c) by rw [ho];exact List.mem_singleton.2 rfl)).1
   have h2:=hdir o ho'
   rw [T0 hs,if_pos Zp,ho] at h2
   have:=(List.mem_filter.1 h2).2
   simp at this
  ·cases h1
 ·rw [if_neg Zp] at h1;cases h1
theorem fx_D (h:Fx c n) (hko:kids c n.2.2.1=[]) (p:ByteArray):D (c++[n]) p=D c p:=by
 rw [T0 h.si,T0 h.Zo,T1]
 have hf:∀l:List ByteArray,l.filter (dH (c++[n]))=l.filter (dH c):=fun l=>List.filter_congr fun k _=>h.rul k
 by_cases hpn:n.1=p
 ·subst hpn
  rw [h.VH,h.nk]
  simp
 ·rw [decide_eq_false fun e => hpn e.1, Bool.or_false, hf]
  by_cases e:p=n.2.2.1
  ·subst e
   rw [h.ZV,if_pos rfl,hko,List.nil_append,List.filter_cons_of_neg (by rw [h.nr];simp)]
   simp
  ·rw [h.ZV,if_neg e]
theorem Zq (h:Fx c n) (hv:iM c n.2.2.1=some t):Tk c t∧ga (c++[n]) t=(ga c t).filter (fun k => !decide (k=n.2.2.1))++[n.1]∧(∀p,D (c++[n]) p=D c p)∧dP c n.2.2.1=false:=by
 obtain ⟨h1,h2⟩:=fe.1 hv
 obtain ⟨ht,hsk,_⟩:=(cU h.si h.k3).1 h2
 have hko:=KT h.si hsk h1
 have hD:=fx_D h hko
 refine ⟨ht,?_,hD,hsk⟩
 rw [Px h.si h.k3 ht,Px h.Zo h.k3' (h.tk.2 ht),List.filter_append,List.map_append]
 have hvn:iM (c++[n]) n.1=some t:=fe.2 ⟨h.aez,by rw [h.VJ hD,h2]⟩
 rw [List.filter_cons_of_pos (by simpa using hvn),List.filter_nil,List.map_cons,List.map_nil,List.filter_map,List.filter_filter]
 congr 2
 refine List.filter_congr fun x hx=>?_
 have hxn:x.1≠n.1:=fun e=>by
  have:=bD.2 (List.mem_map.2 ⟨x,hx,rfl⟩:x.1∈ids c)
  rw [e,h.ni] at this;cases this
 simp only [Function.comp_apply]
 by_cases e:x.1=n.2.2.1
 ·rw [e]
  have:iM (c++[n]) n.2.2.1=none:=by
   unfold iM
   rw [h.aey hD,hsk,if_neg (by simp)]
  rw [this]
  simp
 ·have:iM (c++[n]) x.1=iM c x.1:=by
   unfold iM
   rw [h.fZ hD e,h.fI hD hxn]
  rw [this]
  simp [e]
theorem qa {a : ByteArray} : ∀ {l : List ByteArray}, l.Nodup → a ∈ l → (l.filter (fun k => !decide (k = a))).length + 1 = l.length
 |[],_,h=>by cases h
 |x::l,hn,h=>by
  rw [List.nodup_cons] at hn
  by_cases e:x=a
  ·subst e
   rw [List.filter_cons_of_neg (by simp),List.filter_eq_self.2,List.length_cons]
   intro k hk
   simp only [Bool.not_eq_true',decide_eq_false_iff_not]
   rintro rfl
   exact hn.1 hk
  ·rw [List.filter_cons_of_pos (by simpa using e),List.length_cons,List.length_cons,qa hn.2 ((List.mem_cons.1 h).resolve_left fun h=>e h.symm)]
def zg (c:List Mg):List Mg:=c.filter fun m=>(iM c m.1).isSome
theorem k9_0 (hs:SI c) (hk:Cs c) (hl:c.length≤9) {v1 v2:Int} {v7:List Mg}:iter (fun a=>aq (g9_0 a)) (v1,v2,v7,c,(0:Nat),c,((c.length:Nat):Int),(0:Int),[],())=some (v1,v2,v7,c,(zg c).length,zg c,()):=by
 refine aO c (fun k (o : List Mg) => (v1, v2, v7, c, o.length, c, ((c.length : Nat) : Int), (k : Int), o, ()))
  (fun o r=>(v1,v2,v7,c,(o++r.filter fun m=>(iM c m.1).isSome).length,o++r.filter fun m=>(iM c m.1).isSome,())) (fun pre o=>o.length≤pre.length) ?_ ?_ (s:=[]) (Nat.le_refl _)
 ·intro pre z post o hz ho
  have hlen:c.length=pre.length+(post.length+1):=by rw [hz];simp
  have hd:c.getD pre.length (bs [],(0:Int),bs [],bs [],(0:Int))=z:=by rw [hz];exact bg rfl
  have i1:fh (pre.length:Int) ((c.length:Nat):Int)=true:=bX (by omega) (by omega)
  have r1:gH .i64 ((pre.length:Int)+1)=true:=aJ (by omega) (by omega)
  have d1:decide (o.length+1<cg)=true:=decide_eq_true (by rw [fc];omega)
  obtain ⟨r,h35,hr⟩:=k35' hs hk hl (m:=z) (by rw [hz];simp)
  have T3:aq (F35 c (z.1,z.2.1,z.2.2.1,z.2.2.2.1,z.2.2.2.2))=_:=h35
  have e1:(([(z.1,z.2.1,z.2.2.1,z.2.2.2.1,z.2.2.2.2)]:List Mg).take 1)=[z]:=rfl
  left
  cases hv:(iM c z.1).isSome with
  |true =>
   refine ⟨o++[z],?_,by simp;omega,by rw [List.filter_cons_of_pos (by simpa using hv)];simp⟩
   simp only [g9_0,av,bf,aU,aQ,aa,aA,Int.toNat_natCast,hd,i1,ak,bp]
   rw [if_pos (by omega),aj T3]
   simp only [hv,bM,List.drop_zero,e1,List.length_singleton,d1,r1,ak,List.take_length,List.length_append]
   rfl
  |false =>
   refine ⟨o,?_,by simp;omega,by rw [List.filter_cons_of_neg (by simp [hv])]⟩
   simp only [g9_0,av,bf,aU,aQ,aa,aA,Int.toNat_natCast,hd,i1,ak,bp]
   rw [if_pos (by omega),aj T3]
   simp only [hv,b8,r1,ak]
   rfl
 ·intro o _
  simp only [g9_0,av,aa,bp]
  rw [if_neg (by omega)]
  simp
theorem k9_1 {l8:Nat} {m:Mg} {A b3:List ByteArray} {m5:List (Mg×Bool)} (hl:A.length<1000000) :
  iter (fun a=>aq (g9_1 a)) (A.length,l8,(0:Nat),A.length,((A.length:Nat):Int),(0:Int),m.1,m.2.1,m.2.2.1,m.2.2.2.1,m.2.2.2.2,A,b3,[],m5,()) =
   some (A.length,l8,(A.filter fun k => !decide (k=m.1)).length,A,b3,A.filter fun k => !decide (k=m.1),m5,()):=by
 refine aO A (fun k (o : List ByteArray) => (A.length, l8, o.length, A.length, ((A.length : Nat) : Int), (k : Int), m.1, m.2.1, m.2.2.1, m.2.2.2.1, m.2.2.2.2, A, b3, o, m5, ()))
  (fun o r=>(A.length,l8,(o++r.filter fun k => !decide (k=m.1)).length,A,b3,o++r.filter fun k => !decide (k=m.1),m5,())) (fun pre o=>o.length≤pre.length) ?_ ?_ (s:=[]) (Nat.le_refl _)
 ·intro pre z post o hz ho
  have hlen:A.length=pre.length+(post.length+1):=by rw [hz];simp
  have hd:A.getD pre.length (bs [])=z:=by rw [hz];exact bg rfl
  have i1:fh (pre.length:Int) ((A.length:Nat):Int)=true:=bX (by omega) (by omega)
  have r1:gH .i64 ((pre.length:Int)+1)=true:=aJ (by omega) (by omega)
  have d0:decide (pre.length<A.length)=true:=decide_eq_true (by omega)
  have d1:decide (o.length+1<cg)=true:=decide_eq_true (by rw [fc];omega)
  left
  by_cases e:z=m.1
  ·refine ⟨o, ?_, by simp; omega, by rw [List.filter_cons_of_neg (by simpa using e)]⟩
   simp only [g9_1,av,bf,aU,aQ,aa,Int.toNat_natCast,Nat.zero_add,hd,i1,d0,r1,ak,bp,bP,seq_eq]
   rw [if_pos (by omega),if_pos e]
   rfl
  ·refine ⟨o ++ [z], ?_, by simp; omega, by rw [List.filter_cons_of_pos (by simpa using e)]; simp⟩
   simp only [g9_1,av,bf,aU,aQ,aa,Int.toNat_natCast,Nat.zero_add,hd,i1,d0,r1,ak,bp,bP,seq_eq]
   rw [if_pos (by omega),if_neg e]
   simp only [List.drop_zero,List.take_succ_cons,List.take_zero,List.length_singleton,d1,ak,List.take_length,List.length_append]
   rfl
 ·intro o _
  simp only [g9_1,av,aa,bp]
  rw [if_neg (by omega)]
  simp
theorem k42 (a b d:ByteArray) (z:Int):aq (F42 a b d z)=some ((a,2,b,d,z),()):=rfl
theorem T4 {a b d:ByteArray} {z:Int} (h1:eU a=true) (h2:eU b=true) (h:b≠a) (h3:eU d=true) (hz : -1000≤z∧z≤1000):sj (a,2,b,d,z)=0:=by
 simp [sj,oF,mb,h1,h2,h,h3,hz,I2]
theorem Zr (hC:CN c) {x a d:ByteArray} {z:Int} (hx:x∈jE) (hs':SI (c++[(a,(2:Int),x,d,z)])) (ha:∀y∈jE,slt y a=true):Fx c (a,(2:Int),x,d,z):=by
 have hne:∀y∈jE,y≠a:=fun y hy e=>by have:=ha y hy;rw [e,pz] at this;cases this
 refine ⟨hC.si,hC.k3,hs',rfl,?_,?_,?_,fun e=>hne x hx e.symm⟩
 ·cases h:mg c a with
  |false=>rfl
  |true=>exact absurd rfl (hne _ (Zn hC h))
 ·refine List.eq_nil_iff_forall_not_mem.2 fun k hk => ?_
  obtain ⟨m,hm,_,h2,h3⟩:=gX.1 hk
  exact hne _ ((hC.byN m hm).of (by omega)) h3
 ·cases h:dH c a with
  |false=>rfl
  |true =>
   obtain ⟨m,hm,h2⟩:=List.any_eq_true.1 h
   have h2:=of_decide_eq_true h2
   exact absurd h2.2 (hne _ ((hC.byN m hm).of (by omega)))
end
end Go.Proofs.Tryz
end
section
namespace Go.Proofs.Tryz
open Go.AM
set_option maxRecDepth 100000
set_option maxHeartbeats 2000000
theorem Zt:∀x∈jE,Sh x:=by unfold Sh;decide
theorem PJ:eU (bs [110,101,119])=true∧Sh (bs [110,101,119]):=by unfold Sh;decide
theorem KU:∀a∈uP,eU a=true:=by decide
section
variable {c:List Mg} {n:Mg} {t:ByteArray}
theorem T5 (h:Fx c n) (hv:iM c n.2.2.1=some t):pZ (c++[n]) t=((ga c t).filter (fun k => !decide (k=n.2.2.1))++[n.1],0)∧pZ c t=(ga c t,0) ∧
  ek (c++[n]) n.2.2.1=(3,0)∧((ga c t).filter (fun k => !decide (k=n.2.2.1))).length+1=(ga c t).length∧ek (c++[n]) n.1=if 1<(ga c t).length then (5,0) else (4,0):=by
 obtain ⟨ht,T6,hD,hsk⟩:=Zq h hv
 obtain ⟨hlv,hst⟩:=fe.1 hv
 obtain ⟨m0,hm0,e0,hk0⟩:=ht
 have ht:Tk c t:=⟨m0,hm0,e0,hk0⟩
 have hMt:mg c t=true:=bD.2 ht.ids
 have Jv:(msg c t).2.1=1:=by rw [←e0,fG h.si hm0];exact hk0
 have hin:n.2.2.1∈ga c t:=(Cj h.si h.k3 ht).2 hv
 have hMm:mg c n.2.2.1=true:=PE h.si h.k3 ht hin
 have WO:(ga c t).Nodup:=vA h.si (ht.top h.si) .zero
 have hl:=qa WO hin
 have hMn:mg (c++[n]) n.1=true:=by rw [Ck,decide_eq_true rfl,Bool.or_true]
 have hmn:msg (c++[n]) n.1=n:=fG h.Zo (List.mem_append_right _ (List.mem_singleton.2 rfl))
 have hsn:dP (c++[n]) n.1=false:=by rw [h.PI hD,hsk]
 have hk3:(msg c n.2.2.1).2.1≠3:=by
  obtain ⟨q1,q2⟩:=sv h.si hMm
  exact KR h.si h.k3 q1 (by rw [q2,hv];rfl)
 refine ⟨?_,?_,?_,hl,?_⟩
 ·unfold pZ
  rw [Ck,hMt,Bool.true_or,if_pos rfl,Jf h.si h.Zo hMt,if_pos Jv,T6]
 ·unfold pZ
  rw [if_pos hMt,if_pos Jv]
 ·have hb:EB n.2.2.1 (ga (c++[n]) t)=false:=by
   cases hb:EB n.2.2.1 (ga (c++[n]) t) with
   |false=>rfl
   |true =>
    have:=sw.1 hb
    rw [T6,List.mem_append] at this
    rcases this with h1|h1
    ·have:=(List.mem_filter.1 h1).2;simp at this
    ·rw [List.mem_singleton] at h1;exact absurd h1.symm h.no
  unfold ek
  rw [Ck,hMm,Bool.true_or,if_pos rfl,Jf h.si h.Zo hMm,if_neg hk3,h.stk hD h.no.symm,hsk,if_neg (by simp),h.fI hD h.no.symm,hst]
  simp only
  rw [hb,if_neg (by simp)]
 ·have hb : EB n.1 (ga (c ++ [n]) t) = true := sw.2 (by rw [T6]; simp)
  unfold ek
  rw [if_pos hMn,hmn,if_neg (by have:=h.k2;omega),hsn,if_neg (by simp),h.VJ hD,hst]
  simp only
  rw [if_pos hb]
  have:(ga (c++[n]) t).length=(ga c t).length:=by rw [T6,List.length_append,←hl];rfl
  rw [this]
end
theorem k9 {p:List Nu} {w b:Int} (hp:∀x∈p,K9 x) (hw:U8 w) (hb:U8 b):aq (F9 p w b)=some (true,()):=by
 have hml:=mw p
 have hL:=nF.told (cH p)
 have hC:=TY hp
 have hs:=hC.si
 have hk:=hC.k3
 have h8:=hC.len
 have hid:=PF hp
 have htl:=PG (p:=p)
 unfold F9
 simp only [aA]
 rw [aj (k28 hp)]
 simp only
 rw [aj (PA hp)]
 simp only [bG]
 rw [aj (k9_0 hs hk (by omega))]
 simp only [av,bI]
 by_cases h0:(zg (cnt (cR (cH p)))).length=0
 ·rw [if_pos (by omega),aA,aj k17];rfl
 rw [if_neg (by omega)]
 have hfl:(zg (cnt (cR (cH p)))).length≤8:=Nat.le_trans (List.length_filter_le ..) h8
 have ht:=EH hw.1 (((zg (cnt (cR (cH p)))).length:Nat):Int) (by omega)
 generalize hi:Int.tmod w (((zg (cnt (cR (cH p)))).length:Nat):Int)=i at ht
 have hw1:=hw.1
 have hw2:=hw.2
 have iq:=hb.1
 have eB:=hb.2
 have hit:i.toNat<(zg (cnt (cR (cH p)))).length:=by omega
 have hmm:(zg (cnt (cR (cH p)))).getD i.toNat zM∈zg (cnt (cR (cH p))):=by
  rw [List.getD_eq_getElem?_getD,List.getElem?_eq_getElem hit];exact List.getElem_mem hit
 simp only [aQ,aU,bf,aA,bG,hi,Nat.zero_add]
 rw [fP (by omega) (by omega),gn (by rw [Bool.not_eq_true',beq_eq_false_iff_ne];omega),DD (by omega) (by omega),b7 hit]
 have hgz:(bs [],(0:Int),bs [],bs [],(0:Int))=zM:=rfl
 rw [hgz]
 generalize (zg (cnt (cR (cH p)))).getD i.toNat zM=m at hmm ⊢
 obtain ⟨hm,hq⟩:=List.mem_filter.1 hmm
 obtain ⟨t,hv⟩:=Option.isSome_iff_exists.1 hq
 obtain ⟨r,h35,hr⟩:=k35' hs hk (by omega) hm
 have T3:aq (F35 (cnt (cR (cH p))) (m.1,m.2.1,m.2.2.1,m.2.2.2.1,m.2.2.2.2))=_:=h35
 obtain rfl:=hr t hv
 have Mt:=(hC.byN m hm).id
 have hmn:=yz m.1 Mt
 have tb:=EH iq 3 (by omega)
 have td:=TS iq eB
 have hac:=Jd tb.1 tb.2
 have hne:m.1≠bs [110,101,119]:=fun e=>by have:=hmn.2.2;rw [e,pz] at this;cases this
 have hck:=T4 (a:=bs [110,101,119]) (b:=m.1) (d:=p0 120 (Int.tmod b 3)) (z:=Int.tdiv b 3 - 40) PJ.1 hmn.1 hne (KU _ hac) (by omega)
 have hsh:K8 (bs [110,101,119],(2:Int),m.1,p0 120 (Int.tmod b 3),Int.tdiv b 3 - 40):=⟨PJ.2,Zt _ Mt,TT _ hac⟩
 obtain ⟨hs',hcn⟩:=TZ (n:=(bs [110,101,119],(2:Int),m.1,p0 120 (Int.tmod b 3),Int.tdiv b 3 - 40)) hL fun y hy=>(yz y.1 (hid y hy)).2.2
 have hL':=Zg hL hck (by omega)
 have hF:=Zr hC Mt hs' fun y hy=>(yz y hy).2.2
 obtain ⟨q1,q2,q3,q4,q5⟩:=T5 hF hv
 rw [←hcn] at q1 q3 q5
 simp only at q1 q3 q4 q5
 have hvl:(ga (cnt (cR (cH p))) r).length<1000000:=by
  have ht:=(cU hs hk).1 (fe.1 hv).2
  have:=kL hs (ht.1.top hs) ht.1.ids (n:=(cnt (cR (cH p))).length+1) .zero
  unfold ga
  omega
 rw [aj T3]
 simp only
 rw [aj (O6 (by omega) (I3 p))]
 simp only
 rw [aj (O6 (by omega) (I3 p))]
 simp only
 rw [aj (Zb hL r),q2]
 simp only
 rw [fP (by omega) (by omega),gn n83.2.1,aj (k43 (by omega) tb.1 (by omega))]
 simp only
 rw [fP (by omega) (by omega),gn n83.2.1,fP (by omega) (by omega),fP (by omega) (by omega),aj (k42 _ _ _ _)]
 simp only
 rw [aj (kT hL hsh hck (by omega))]
 simp only [av,bP,bI,reduceIte,aA]
 rw [aj (Zb hL' r),q1]
 simp only [av,bP,bI,reduceIte,aA]
 rw [if_pos (by rw [List.length_append,List.length_singleton];omega),aj (zf hL' m.1 3),q3]
 simp only [decide_true,bP,bM,bG,av,aA]
 rw [aj (k9_1 (by omega))]
 simp only [aU,List.drop_zero,List.take_succ_cons,List.take_zero,List.length_singleton]
 rw [b7 (by rw [fc];omega)]
 have FI : aq (F36 ((((ga (cnt (cR (cH p))) r).filter fun k => !decide (k = m.1)) ++ [bs [110, 101, 119]]).take (((ga (cnt (cR (cH p))) r).filter fun k => !decide (k = m.1)) ++ [bs [110, 101, 119]]).length)
   (((((ga (cnt (cR (cH p))) r).filter fun k => !decide (k=m.1)).take ((ga (cnt (cR (cH p))) r).filter fun k => !decide (k=m.1)).length)++[bs [110,101,119]]).take (((ga (cnt (cR (cH p))) r).filter fun k => !decide (k=m.1)).length+1)))=some (true,()):=by
  rw [List.take_length,List.take_length,List.take_of_length_le (by simp),k36 (by rw [List.length_append,List.length_singleton];omega)]
  simp
 simp only [av,bI,bP,bp]
 by_cases h1:(ga (cnt (cR (cH p))) r).length=1
 ·rw [if_neg (by omega)] at q5
  rw [if_pos (by omega)]
  simp only [aA]
  rw [aj (zf hL' _ 4),q5]
  simp only [decide_true,bP,bM,av,bp]
  rw [if_neg (by omega)]
  simp only [aA]
  rw [aj FI]
  simp only [av,bM,aA]
  rw [aj k17]
  rfl
 ·rw [if_pos (by omega)] at q5
  rw [if_neg (by omega),if_pos (by omega)]
  simp only [aA]
  rw [aj (zf hL' _ 5),q5]
  simp only [decide_true,bP,bM,av,aA]
  rw [aj FI]
  simp only [av,bM,aA]
  rw [aj k17]
  rfl
theorem law9 (p:List Nu) (w b:Int) (hW:DC [.list nuT,Zh,Zh] (p,w,b,())):aq (F9 p w b)=some (true,()):=k9 (fun x hx=>aeq (hW.1.2 x hx)) (AB hW.2.1) (AB hW.2.2.1)
end Go.Proofs.Tryz
end
