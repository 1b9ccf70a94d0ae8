/- Maps that are kept in order: what stands in them. Plain Lean. Messages: names, what is wrong with them. Books: telling, all messages in order. DeleteFunc, Clone, the keys of maps. The messages that count, and what they say of each other. Striking: what is struck, and what corrects it. A book's desk. The versions of a ticket. The versions of a ticket: walked. States and versions. Sums. Spans, sums, accounts. The examples: what works() and Known come to. Messages by numbers. Books that were told good messages. Joins; books that answer the same. TicketOrder. TicketOrder: the row. TicketKept. Ways up to a ticket. Struck, the chain, versions: walked. Ways up: what they say. The messages that count: the first of each id. TicketStates. TicketExact. A book that was told one message more. TicketRuled. -/
import Derived.Test.YthemjfloiapaaaaGreatW81
set_option linter.unusedSectionVars false
set_option linter.unusedVariables false
set_option linter.unusedSimpArgs false
section
namespace Go.AM
theorem lD {α : Type} {r : α → α → Prop} (irr : ∀ a, ¬ r a a) (asy : ∀ a b, r a b → ¬ r b a) : ∀ {l l' : List α}, l.Pairwise r → l'.Pairwise r → (∀ x, x ∈ l ↔ x ∈ l') → l = l'
 |[],[],_,_,_=>rfl
 |[],b::s,_,_,h=>by have:=(h b).2 (List.mem_cons_self ..);cases this
 |a::r',[],_,_,h=>by have:=(h a).1 (List.mem_cons_self ..);cases this
 |a::l,b::s,h1,h2,h=>by
  rw [List.pairwise_cons] at h1 h2
  have e:a=b:=by
   rcases List.mem_cons.1 ((h a).1 (List.mem_cons_self ..)) with e|ha
   ·exact e
   rcases List.mem_cons.1 ((h b).2 (List.mem_cons_self ..)) with e|hb
   ·exact e.symm
   ·exact absurd (h2.1 a ha) (asy _ _ (h1.1 b hb))
  subst e
  rw [lD irr asy h1.2 h2.2 fun x=>?_]
  constructor
  ·intro hx
   rcases List.mem_cons.1 ((h x).1 (List.mem_cons_of_mem _ hx)) with e|hx'
   ·subst e;exact absurd (h1.1 x hx) (irr x)
   ·exact hx'
  ·intro hx
   rcases List.mem_cons.1 ((h x).2 (List.mem_cons_of_mem _ hx)) with e|hx'
   ·subst e;exact absurd (h2.1 x hx) (irr x)
   ·exact hx'
section
variable {t:Ty} {ks:List Kd} {β:Type}
theorem kf (hk:bL t=some ks) {x:t.den}:dM t x x=true:=kV x hk
theorem Df (hk:bL t=some ks) {x y:t.den}:dM t x y=true↔x=y:=⟨bS,fun h=>by subst h;exact kf hk⟩
theorem gu (hk:bL t=some ks) (x:t.den):gq t x x=false:=by
 cases h:gq t x x with
 |false=>rfl
 |true=>exact (dB hk h h).elim
theorem Vk (hk:bL t=some ks) {x y:t.den} (h:gq t x y=true):dM t x y=false:=by
 cases h':dM t x y with
 |false=>rfl
 |true=>rw [bS h',gu hk] at h;cases h
def gV (t:Ty) (es:List (t.den×β)):Prop:=es.Pairwise fun a b=>gq t a.1 b.1=true
theorem gV.kd (hk:bL t=some ks) {es:List (t.den×β)} (h:gV t es):KD t es:=List.Pairwise.imp (fun h=>Vk hk h) h
theorem FB {es:List (t.den×β)} {x:t.den} {v:β} {e:t.den×β}:e∈qm t es x v↔e=(x,v)∨e∈es:=by
 rw [ko.mem_iff];simp
theorem gV.mins (hk : bL t = some ks) {x : t.den} {v : β} : ∀ {es : List (t.den × β)}, gV t es → aQ t es x = false → gV t (qm t es x v)
 |[],_,_=>by unfold gV;simp [qm]
 |e::r,h,hn=>by
  unfold gV at h
  rw [List.pairwise_cons] at h
  have hne:=tX hn (List.mem_cons_self ..)
  have hnr:aQ t r x=false:=by simpa [aQ,hne] using hn
  unfold qm
  split
  ·rename_i hlt
   unfold gV
   rw [List.pairwise_cons]
   refine ⟨fun b hb=>?_,List.pairwise_cons.2 h⟩
   rcases List.mem_cons.1 hb with rfl|hb
   ·exact hlt
   ·exact iP hk hlt (h.1 b hb)
  ·rename_i hlt
   unfold gV
   rw [List.pairwise_cons]
   refine ⟨fun b hb=>?_,gV.mins hk h.2 hnr⟩
   rcases FB.1 hb with rfl|hb
   ·cases hlt':gq t e.1 x with
    |true=>rfl
    |false =>
     have:=gM hk (by simpa using hlt) hlt'
     rw [this,kf hk] at hne;cases hne
   ·exact h.1 b hb
theorem gV.iC (hk:bL t=some ks) {x:t.den} {v:β} {es:List (t.den×β)} (h:gV t es):gV t (bp t es x v):=by
 unfold bp
 split
 ·unfold gV
  rw [List.pairwise_map]
  refine List.Pairwise.imp ?_ h
  intro a b hab
  split<;>split
  ·rename_i h1 h2
   rw [←bS h1,←bS h2,gu hk] at hab;cases hab
  ·rename_i h1 h2
   rw [←bS h1] at hab;exact hab
  ·rename_i h1 h2
   rw [←bS h2] at hab;exact hab
  ·exact hab
 ·rename_i hn
  exact h.mins hk (by simpa using hn)
theorem dD (hk:bL t=some ks) {es:List (t.den×β)} {x:t.den}:aQ t es x=true↔∃v,(x,v)∈es:=by
 unfold aQ
 rw [List.any_eq_true]
 constructor
 ·rintro ⟨e,he,hx⟩;rw [bS hx];exact ⟨e.2,he⟩
 ·rintro ⟨v,hv⟩;exact ⟨_,hv,kf hk⟩
theorem gm (hk:bL t=some ks) {es:List (t.den×β)} {x:t.den} {v d:β} (h:gV t es) (hm:(x,v)∈es):aA t d es x=v:=nD (h.kd hk) hm (kf hk)
theorem gn (hk:bL t=some ks) {es:List (t.den×β)} {x:t.den} {v:β} (h:gV t es) {e:t.den×β}:e∈bp t es x v↔e=(x,v)∨(e∈es∧e.1≠x):=by
 unfold bp
 split
 ·rename_i hh
  obtain ⟨u,hu⟩:=(dD hk).1 hh
  rw [List.mem_map]
  constructor
  ·rintro ⟨e', he', rfl⟩
   split
   ·exact .inl rfl
   ·rename_i hne;exact .inr ⟨he',fun e=>hne (by rw [e];exact kf hk)⟩
  ·rintro (rfl | ⟨he, hne⟩)
   ·exact ⟨(x,u),hu,by simp [kf hk]⟩
   ·exact ⟨e,he,by rw [if_neg];intro h;exact hne (bS h).symm⟩
 ·rename_i hh
  rw [FB]
  constructor
  ·rintro (h | h)
   ·exact .inl h
   ·refine .inr ⟨h, fun e' => hh ?_⟩
    rw [←e'];exact (dD hk).2 ⟨_,h⟩
  ·rintro (h | h)
   ·exact .inl h
   ·exact .inr h.1
theorem Bt (hk:bL t=some ks) {es:List (t.den×β)} {x y:t.den} {v d:β} (h:gV t es):aA t d (bp t es x v) y=if dM t y x=true then v else aA t d es y:=by
 have hc:=h.iC (x:=x) (v:=v) hk
 split
 ·rename_i e; have e := bS e; subst e
  exact gm hk hc ((gn hk h).2 (.inl rfl))
 ·rename_i e0
  have e:y≠x:=fun h=>e0 ((Df hk).2 h)
  cases hm:aQ t es y with
  |true =>
   obtain ⟨u,hu⟩:=(dD hk).1 hm
   rw [gm hk h hu]
   exact gm hk hc ((gn hk h).2 (.inr ⟨hu,e⟩))
  |false =>
   rw [fD hm,fD]
   cases hm':aQ t (bp t es x v) y with
   |false=>rfl
   |true =>
    obtain ⟨u,hu⟩:=(dD hk).1 hm'
    rcases (gn hk h).1 hu with e'|⟨h',_⟩
    ·cases e';exact absurd rfl e
    ·rw [(dD hk).2 ⟨u,h'⟩] at hm;cases hm
theorem qb (hk:bL t=some ks) {es:List (t.den×β)} {x y:t.den} {v:β} (h:gV t es):aQ t (bp t es x v) y=(dM t y x||aQ t es y):=by
 rw [Bool.eq_iff_iff,dD hk,Bool.or_eq_true,Df hk,dD hk]
 constructor
 ·rintro ⟨u, hu⟩
  rcases (gn hk h).1 hu with e|⟨h',_⟩
  ·cases e;exact .inl rfl
  ·exact .inr ⟨u,h'⟩
 ·by_cases e : y = x
  ·subst e;exact fun _=>⟨v,(gn hk h).2 (.inl rfl)⟩
  ·rintro (h' | ⟨u, hu⟩)
   ·exact absurd h' e
   ·exact ⟨u,(gn hk h).2 (.inr ⟨hu,e⟩)⟩
theorem J4 (hk:bL t=some ks) {es es':List (t.den×β)} (h:gV t es) (h':gV t es') (hm:∀e,e∈es↔e∈es'):es=es' :=
 lD (r:=fun a b:t.den×β=>gq t a.1 b.1=true) (fun a h=>by rw [gu hk] at h;cases h) (fun a b h1 h2=>dB hk h1 h2) h h' hm
theorem gV.keys (hk:bL t=some ks) {es:List (t.den×β)} (h:gV t es):Bh t (es.map (·.1)):=by
 unfold Bh
 rw [List.pairwise_map]
 refine List.Pairwise.imp (fun {a b} hab=>?_) h
 cases hba:gq t b.1 a.1 with
 |false=>rfl
 |true=>exact (dB hk hab hba).elim
theorem gV.nil:gV (β:=β) t []:=List.Pairwise.nil
theorem Qz {es:List (t.den×Bool)} (hk:bL t=some ks) (h:gV t es) (ht:∀e∈es,e.2=true) {x:t.den}:∀e∈bp t es x true,e.2=true:=fun e he=>by
 rcases (gn hk h).1 he with rfl|⟨h',_⟩
 ·rfl
 ·exact ht e h'
theorem QA {es:List (t.den×Bool)} (hk:bL t=some ks) (h:gV t es) (ht:∀e∈es,e.2=true) {x:t.den}:aA t false es x=aQ t es x:=by
 cases hm:aQ t es x with
 |false=>exact fD hm
 |true =>
  obtain ⟨u,hu⟩:=(dD hk).1 hm
  rw [gm hk h hu];exact ht _ hu
theorem QB (hk:bL t=some ks) {es es':List (t.den×Bool)} (h:gV t es) (h':gV t es') (ht:∀e∈es,e.2=true) (ht':∀e∈es',e.2=true) (hm:∀x,aQ t es x=aQ t es' x):es=es':=by
 refine J4 hk h h' fun e=>?_
 have key:∀{es es':List (t.den×Bool)},(∀e∈es,e.2=true)→(∀e∈es',e.2=true)→(∀x,aQ t es x=aQ t es' x)→e∈es→e∈es':=fun {es es'} ht ht' hm he=>by
  have h1:aQ t es' e.1=true:=by rw [←hm];exact (dD hk).2 ⟨e.2,he⟩
  obtain ⟨u,hu⟩:=(dD hk).1 h1
  have e1:=ht e he
  have e2:=ht' _ hu
  obtain ⟨a,b⟩:=e
  simp only at e1 e2;subst e1;subst e2;exact hu
 exact ⟨key ht ht' hm,key ht' ht fun x=>(hm x).symm⟩
end
end Go.AM
end
section
namespace Go.Proofs.Tryz
open Go.AM
set_option maxRecDepth 100000
abbrev Mg:=ByteArray×Int×ByteArray×ByteArray×Int
abbrev tM:Ty:=.prod .str (.prod (.int .i64) (.prod .str (.prod .str (.int .i64))))
abbrev kM:bL tM=some [.s,.i,.s,.s,.i]:=rfl
abbrev kS:bL .str=some [.s]:=rfl
theorem seq_eq (a b:ByteArray):seq a b=decide (a=b):=by
 unfold seq
 rw [Go.ByteArray.toList_eq,Go.ByteArray.toList_eq]
 by_cases h:a=b
 ·subst h;simp
 ·rw [decide_eq_false h, beq_eq_false_iff_ne]
  intro e;apply h
  obtain ⟨x⟩:=a;obtain ⟨y⟩:=b
  simp at e;rw [e]
theorem sX (a b:ByteArray):dM .str a b=decide (a=b):=by
 rw [←seq_eq];simp only [dM,seq,Go.ByteArray.toList_eq]
def zj (i:Nat) (b:Int):Bool:=decide (97≤b∧b≤122)||decide (i≠0∧48≤b∧b≤57)
def Vl : Nat → List Int → Bool
 |_,[]=>true
 |i,b::r=>zj i b&&Vl (i+1) r
def iw (s:ByteArray):Bool:=Vl 0 (fB s)&&decide (0<s.size∧s.size≤10)
theorem k65 (s:ByteArray) (hs:s.size<1000000000):ak (F65 s)=some (iw s,()):=by
 have hl:(fB s).length=s.size:=EF s
 unfold F65
 simp only [ay,bg]
 refine bind_eq (aL (fB s) (fun k (_:Nat)=>(s,fB s,((fB s).length:Int),(k:Int),())) (fun i r=>if Vl i r=true then .inr (s,()) else .inl ()) (fun pre i=>i=pre.length) ?_ ?_ (s:=0) rfl) ?_
 ·intro pre x post i hx hi
  subst hi
  have hlen:(fB s).length=pre.length+(post.length+1):=by rw [hx];simp
  have hd:(fB s).getD pre.length 0=x:=by rw [hx];exact aT rfl
  have key:run (fun _=>none) (g65_0 (s,fB s,((fB s).length:Int),(pre.length:Int),()))=if zj pre.length x=true then some (.inl (s,fB s,((fB s).length:Int),((pre.length+1:Nat):Int),())) else some (.inr (.inl ())):=by
   simp only [g65_0,ai,aP,aG,aW,aa,Int.toNat_natCast,hd,aU,aS]
   rw [if_pos (by omega),EC (by omega) (by omega)]
   unfold zj;simp only [Bool.or_eq_true,decide_eq_true_eq]
   by_cases h1:x<97
   ·rw [if_pos h1]
    by_cases h2:(pre.length:Int)=0
    ·rw [if_pos h2,if_neg (by omega)]
    ·rw [if_neg h2]
     by_cases h3:x<48
     ·rw [if_pos h3,if_neg (by omega)]
     ·rw [if_neg h3]
      by_cases h4:57<x
      ·rw [if_pos h4,if_neg (by omega)]
      ·rw [if_neg h4, if_pos, mS (by omega) (by omega)]; · rfl
       omega
   ·rw [if_neg h1]
    by_cases h5:122<x
    ·rw [if_pos h5]
     by_cases h2:(pre.length:Int)=0
     ·rw [if_pos h2,if_neg (by omega)]
     ·rw [if_neg h2]
      by_cases h3:x<48
      ·omega
      ·rw [if_neg h3,if_pos (by omega),if_neg (by omega)]
    ·rw [if_neg h5, if_pos, mS (by omega) (by omega)]; · rfl
     omega
  rw [key]
  by_cases hb:zj pre.length x=true
  ·left
   exact ⟨pre.length+1,by rw [if_pos hb],by simp,by simp [Vl,hb]⟩
  ·right
   rw [if_neg hb]
   have:Vl pre.length (x::post)=false:=by simp [Vl,hb]
   simp [this]
 ·intro i _
  simp only [g65_0,ai,aU]
  rw [if_neg (by omega)]
  simp [Vl,aa]
 ·unfold iw
  by_cases h:Vl 0 (fB s)=true
  ·rw [if_pos h, h]
   simp only [gF,ai,aa,aU]
   by_cases h0:(0:Int)<((s.size:Nat):Int)
   ·rw [if_pos h0, Bool.true_and]
    congr 2
    exact decide_eq_decide.2 (by omega)
   ·rw [if_neg h0]
    simp;omega
  ·rw [if_neg h]
   simp [h,jG,aa]
def Al (l:List Int):Int:=(l.find? (· != 0)).getD 0
theorem k86 (l:List Int) (hl:l.length<1000000000):ak (F86 l)=some (Al l,()):=by
 unfold F86
 simp only [ay,bg]
 refine bind_eq (aL l (fun k (_:Nat)=>((0:Int),l,((l.length:Nat):Int),(k:Int),())) (fun i r=>if (r.find? (· != 0)).isSome then .inl (Al r,()) else .inr (0,())) (fun pre i=>i=pre.length) ?_ ?_ (s:=0) rfl) ?_
 ·intro pre x post i hx hi
  subst hi
  have hlen:l.length=pre.length+(post.length+1):=by rw [hx];simp
  have hd:l.getD pre.length 0=x:=by rw [hx];exact aT rfl
  have hin:ee (pre.length:Int) (l.length:Int)=true:=bJ (by omega) (by omega)
  have hni:eV .i64 ((pre.length:Int)+1)=true:=aH (by omega) (by omega)
  by_cases h:x=0
  ·left
   refine ⟨pre.length+1,?_,by simp,by simp [h,Al]⟩
   simp only [g86_0,ai,aP,aG,aa,Int.toNat_natCast,hd,aU,aS,aZ,hin,hni,af]
   rw [if_pos (by omega),if_pos h];rfl
  ·right
   simp only [g86_0,ai,aP,aG,aa,Int.toNat_natCast,hd,aU,aS,aZ,hin,hni,af]
   rw [if_pos (by omega),if_neg h]
   simp [h,Al]
 ·intro i _
  simp only [g86_0,ai,aU]
  rw [if_neg (by omega)]
  simp [aa]
 ·cases h:(l.find? (· != 0)).isSome with
  |true=>rw [if_pos rfl];simp only [jG,aa]
  |false =>
   rw [if_neg (by simp)]
   have:Al l=0:=by
    unfold Al
    cases h':l.find? (· != 0) with
    |none=>rfl
    |some _=>rw [h'] at h;cases h
   rw [this];simp only [gF,aa]
def lE (m:Mg):Int:=if m.2.1=1 then (if m.2.2.1=bs [] then 0 else 22) else if iw m.2.2.1=true then (if m.2.2.1=m.1 then 22 else 0) else 8
def jr (m:Mg):Int:=if m.2.1=3 then (if m.2.2.2.1=bs []∧m.2.2.2.2=0 then 0 else 22) else if iw m.2.2.2.1=true then (if -1000≤m.2.2.2.2∧m.2.2.2.2≤1000 then 0 else 2) else 8
def qc (m:Mg):Int:=if m.2.1<1∨3<m.2.1 then 18 else if iw m.1=true then Al [lE m,jr m] else 8
def Sh (s:ByteArray):Prop:=s.size<1000000000
def H7 (m:Mg):Prop:=Sh m.1∧Sh m.2.2.1∧Sh m.2.2.2.1
theorem k87 (m:Mg) (h:H7 m):ak (F87 m)=some (lE m,()):=by
 unfold F87 lE
 simp only [ai,ay,aa,aS,k65 _ h.2.1,aD,aZ,seq_eq,aU]
 split
 ·split<;>rfl
 ·rw [jT]
  split
  ·split<;>rfl
  ·rfl
theorem k88 (m:Mg) (h:H7 m):ak (F88 m)=some (jr m,()):=by
 unfold F88 jr
 simp only [ai,ay,aa,aS,k65 _ h.2.2,aD,aZ,seq_eq,aU]
 split
 ·by_cases h1 : m.2.2.2.1 = bs []
  ·by_cases h2:m.2.2.2.2=0<;>simp [h1,h2]
  ·simp [h1]
 ·rw [jT]
  split
  ·by_cases h1 : m.2.2.2.2 < -1000
   ·rw [if_pos h1,if_neg (by omega)]
   ·rw [if_neg h1]
    by_cases h2:1000<m.2.2.2.2
    ·rw [if_pos h2,if_neg (by omega)]
    ·rw [if_neg h2,if_pos (by omega)]
  ·rfl
theorem k55 (m:Mg) (h:H7 m):ak (F55 m)=some (qc m,()):=by
 have h86:=k86 [lE m,jr m] (by simp)
 unfold F55 qc
 simp only [ai,ay,aa,aU,k65 _ h.1,aD,aZ,k87 m h,k88 m h]
 have hl:((lE m::jr m::[]).drop 0).take 2=[lE m,jr m]:=rfl
 simp only [hl,h86,aD]
 by_cases h1:m.2.1<1
 ·rw [if_pos h1,if_pos (.inl h1)]
 ·rw [if_neg h1]
  by_cases h2:3<m.2.1
  ·rw [if_pos h2,if_pos (.inr h2)]
  ·rw [if_neg h2, if_neg (by omega), jT]
   split<;>rfl
end Go.Proofs.Tryz
end
section
namespace Go.Proofs.Tryz
open Go.AM
set_option maxRecDepth 100000
def bk (L:List Mg):List (Mg×Bool):=L.map fun m=>(m,true)
def SL (L:List Mg):Prop:=L.Pairwise fun a b=>gq tM a b=true
theorem SL.can {L:List Mg} (h:SL L):gV tM (bk L):=by
 unfold gV bk;rw [List.pairwise_map];exact h
theorem bk_t {L:List Mg}:∀e∈bk L,e.2=true:=fun e he=>by
 obtain ⟨m,_,rfl⟩:=List.mem_map.1 he;rfl
theorem H8 {L:List Mg} {m:Mg} {b:Bool}:(m,b)∈bk L↔m∈L∧b=true:=by
 unfold bk;rw [List.mem_map]
 constructor
 ·rintro ⟨x,hx,h⟩;cases h;exact ⟨hx,rfl⟩
 ·rintro ⟨h,rfl⟩;exact ⟨m,h,rfl⟩
theorem J5 {L:List Mg}:(bk L).map (·.1)=L:=by simp [bk,List.map_map,Function.comp_def]
theorem QC {L:List Mg}:(bk L).length=L.length:=by simp [bk]
theorem agb {es:List (Mg×Bool)} (h:∀e∈es,e.2=true):bk (es.map (·.1))=es:=by
 unfold bk;rw [List.map_map]
 conv=>rhs;rw [←List.map_id es]
 refine List.map_congr_left fun e he=>?_
 obtain ⟨a,b⟩:=e
 have:=h _ he
 simp only at this;subst this;rfl
def pF (L:List Mg) (m:Mg):List Mg:=(bp tM (bk L) m true).map (·.1)
theorem H9 {L:List Mg} (h:SL L) {m:Mg}:bk (pF L m)=bp tM (bk L) m true:=agb (Qz kM h.can bk_t)
theorem mY {L:List Mg} (h:SL L) {m x:Mg}:x∈pF L m↔x=m∨x∈L:=by
 have:x∈pF L m↔(x,true)∈bk (pF L m):=by rw [H8];simp
 rw [this,H9 h,gn kM h.can]
 constructor
 ·rintro (e | ⟨h1, h2⟩)
  ·cases e;exact .inl rfl
  ·exact .inr (H8.1 h1).1
 ·by_cases e : x = m
  ·subst e;exact fun _=>.inl rfl
  ·rintro (e' | h')
   ·exact absurd e' e
   ·exact .inr ⟨H8.2 ⟨h',rfl⟩,e⟩
theorem SL.ins {L:List Mg} (h:SL L) {m:Mg}:SL (pF L m):=by
 have:=h.can.iC (x:=m) (v:=true) kM
 rw [←H9 h] at this
 unfold gV bk at this;rw [List.pairwise_map] at this;exact this
theorem SL.ext {L L':List Mg} (h:SL L) (h':SL L') (hm:∀x,x∈L↔x∈L'):L=L' :=
 lD (fun a h=>by rw [gu kM] at h;cases h) (fun a b h1 h2=>dB kM h1 h2) h h' hm
theorem zk {L:List Mg} {m:Mg}:(pF L m).length≤L.length+1:=by
 unfold pF bp
 rw [List.length_map]
 split
 ·simp [bk]
 ·rw [ko.length_eq];simp [bk]
theorem Ia (m:List (Mg×Bool)):ak (FH54 m)=some (false,m,()):=rfl
def gP (L:List Mg) (m:Mg):Int×List Mg:=if qc m=0 then (if 60<(pF L m).length then (15,L) else (0,pF L m)) else (qc m,L)
theorem g56 {mm m1:List (Mg×Bool)} {b3:List Mg} {n:Nat} {k:Nat} (hn:n=b3.length) (hb:n<1000000000) (hk:k<n) :
  ak (gH56_0 (n,((n:Nat):Int),(k:Int),mm,b3,m1,()))=some (.inl (n,((n:Nat):Int),((k+1:Nat):Int),bp tM mm (b3.getD k (bs [],(0:Int),bs [],bs [],(0:Int))) true,b3,m1,())):=by
 have hin:ee (k:Int) (n:Int)=true:=bJ (by omega) (by omega)
 have hni:eV .i64 ((k:Int)+1)=true:=aH (by omega) (by omega)
 simp only [gH56_0,ai,aP,aW,aG,aa,Int.toNat_natCast,Nat.zero_add,aU,hin,hni,af]
 rw [if_pos (by omega),cz (by omega)]
 rfl
theorem g56e {mm m1:List (Mg×Bool)} {b3:List Mg} {n:Nat}:ak (gH56_0 (n,((n:Nat):Int),(n:Int),mm,b3,m1,()))=some (.inr (mm,m1,())):=by
 simp only [gH56_0,ai,aa,aU]
 rw [if_neg (by omega)]
theorem kH56 {L:List Mg} (h:SL L) (hl:L.length≤60) (m:Mg):ak (FH56 m.1 m.2.1 m.2.2.1 m.2.2.2.1 m.2.2.2.2 (bk L))=some (if 60<(pF L m).length then (15,bk L,()) else (0,bk (pF L m),())):=by
 have hit:iter (fun x=>ak (gH56_0 x)) ((1:Nat),((1:Nat):Int),(0:Int),bk L,[m],bk L,())=some (bk (pF L m),bk L,()):=by
  rw [H9 h]
  exact kQ (g56 (b3:=[m]) (n:=1) (k:=0) rfl (by omega) (by omega)) (ga g56e)
 unfold FH56
 simp only [ay,FH89,FH193,aa,aD,bg]
 refine bind_eq hit ?_
 simp only [ai,aa,aU,QC]
 by_cases hc:60<(pF L m).length
 ·rw [if_pos (by omega),if_pos hc]
 ·rw [if_neg (by omega),if_neg hc]
theorem aba {L:List Mg} (h:SL L) (hl:L.length≤60) {m:Mg} (hm:H7 m):ak (FH20 m (bk L))=some ((gP L m).1,bk (gP L m).2,()):=by
 have h55:=k55 m hm
 unfold FH20
 simp only [ay,Ia,aD,ai,aV]
 rw [ag (show ak (F55 (m.1,m.2.1,m.2.2.1,m.2.2.2.1,m.2.2.2.2))=_ from h55)]
 simp only [aZ,aS]
 unfold gP
 by_cases hc:qc m=0
 ·rw [if_pos hc, if_pos hc]
  rw [ag (kH56 h hl m)]
  split<;>rfl
 ·rw [if_neg hc,if_neg hc];rfl
structure jW (L:List Mg):Prop where
 s:SL L
 len:L.length≤60
 qc:∀m∈L,qc m=0
theorem jW.nil:jW []:=⟨.nil,by simp,fun m h=>by cases h⟩
theorem jW.tell {L:List Mg} (h:jW L) (m:Mg):jW (gP L m).2:=by
 unfold gP
 split
 ·rename_i hc
  split
  ·exact h
  ·rename_i h60
   refine ⟨h.s.ins,by simp only;omega,fun x hx=>?_⟩
   rcases (mY h.s).1 hx with rfl|hx
   ·exact hc
   ·exact h.qc x hx
 ·exact h
def bD (l:List Mg):List Mg:=l.foldl (fun L m=>(gP L m).2) []
theorem jW.fold {L : List Mg} (h : jW L) : ∀ l : List Mg, jW (l.foldl (fun L m => (gP L m).2) L)
 |[]=>h
 |m::l=>jW.fold (h.tell m) l
theorem jW.told (l:List Mg):jW (bD l):=jW.nil.fold l
theorem Mx {l:List Mg} (hl:l.length<1000000000) (hs:∀m∈l,H7 m):ak (FH29 l)=some (bk (bD l),()):=by
 unfold FH29
 simp only [ay,FH18,aa,aD,bg]
 refine bind_eq (aL l (fun k (L:List Mg)=>(l,(k:Int),bk L,())) (fun L r=>(bk (r.foldl (fun L m=>(gP L m).2) L),())) (fun _ L=>jW L) ?_ ?_ (s:=[]) jW.nil) rfl
 ·intro pre x post L hx hL
  have hlen:l.length=pre.length+(post.length+1):=by rw [hx];simp
  have hd:l.getD pre.length (bs [],(0:Int),bs [],bs [],(0:Int))=x:=by rw [hx];exact aT rfl
  have hin:ee (pre.length:Int) (l.length:Int)=true:=bJ (by omega) (by omega)
  have hni:eV .i64 ((pre.length:Int)+1)=true:=aH (by omega) (by omega)
  left
  refine ⟨(gP L x).2,?_,hL.tell x,rfl⟩
  simp only [gH29_0,ai,aP,aG,aa,ay,Int.toNat_natCast,aU,hin,hni,af]
  rw [if_pos (by omega)]
  have hk:=aba hL.s hL.len (hs x (by rw [hx];simp))
  rw [hd]
  rw [ag (show ak (FH20 (x.1,x.2.1,x.2.2.1,x.2.2.2.1,x.2.2.2.2) (bk L))=_ from hk)]
  rfl
 ·intro L _
  simp only [gH29_0,ai,aa,aU]
  rw [if_neg (by omega)]
  rfl
theorem FC {E A : Type} {step : E → A → Option A} (f : A → E → A) (I : A → Prop) : ∀ (l : List E) (x : A), I x → (∀ e ∈ l, ∀ x, I x → step e x = some (f x e) ∧ I (f x e)) → AW step l x = some (l.foldl f x) ∧ I (l.foldl f x)
 |[],x,hx,_=>⟨rfl,hx⟩
 |e::l,x,hx,h=>by
  obtain ⟨h1,h2⟩:=h e (List.mem_cons_self ..) x hx
  obtain ⟨h3,h4⟩:=FC f I l (f x e) h2 fun e he=>h e (List.mem_cons_of_mem _ he)
  exact ⟨by simp only [AW,h1];exact h3,h4⟩
theorem sY {K V M : Type} {step : K × V → M × Nat × List K × Unit → Option (M × Nat × List K × Unit)} {m : M} {l : List (K × V)} (hl : l.length < 1000000000)
  (h:∀e n b,n<1000000000→step e (m,n,b,())=some (m,n+1,(b.drop 0).take n++[e.1],())):AW step l (m,0,[],())=some (m,l.length,l.map (·.1),()):=by
 have key:∀(l:List (K×V)) (b:List K),b.length+l.length<1000000000→AW step l (m,b.length,b,())=some (m,b.length+l.length,b++l.map (·.1),()):=by
  intro l
  induction l with
  |nil=>intro b _;simp [AW]
  |cons e l ih =>
   intro b hb
   simp only [List.length_cons] at hb
   simp only [AW,h e b.length b (by omega)]
   have:=ih (b++[e.1]) (by simp;omega)
   simp only [List.drop_zero,List.take_length]
   rw [List.length_append,List.length_singleton] at this
   rw [this]
   simp only [List.length_cons,List.map_cons,List.append_assoc,List.singleton_append]
   congr 3
   omega
 have:=key l [] (by simpa using hl)
 simpa using this
theorem pG {t:Ty} {ks:List Kd} (hk:bL t=some ks) {l s:List t.den} (hp:s.Perm l) (hs:Bh t s) (hl:l.length<1000000000):vE t l l.length=some (s,()):=by
 unfold vE
 rw [if_pos ⟨Nat.le_refl _,by rw [eB];omega⟩,List.take_length,List.drop_length,List.append_nil,sC hk hp hs]
theorem SL.srt {L:List Mg} (h:SL L):Bh tM L:=by
 have:=h.can.keys kM
 rwa [J5] at this
theorem kH83 {L:List Mg} (h:SL L) (hl:L.length<1000000000):ak (FH83 (bk L))=some (L.length,L,bk L,()):=by
 unfold FH83
 refine Eq.trans CB (gK fun l hp=>?_)
 have zK:l.length=L.length:=by rw [hp.length_eq,QC]
 simp only [ay,CC]
 refine bind_eq (sY (m:=bk L) (l:=l) (by rw [zK];exact hl) fun e n b hn=>?_) ?_
 ·simp only [gH83f109f128_0i_0, aW, aa, dK, af]
  rw [cz (show _<cg by rw [eB];simp;omega)]
  rfl
 ·simp only [FH110, yA]
  have hpk:L.Perm (l.map (·.1)):=by
   have:=(hp.map (·.1)).symm
   rwa [J5] at this
  have:=pG kM hpk h.srt (by rw [List.length_map];omega)
  rw [List.length_map] at this
  rw [ag this,zK]
  rfl
theorem kH47 {L:List Mg} (h:SL L) (hl:L.length<1000000000):ak (FH47 (bk L))=some (L.length,L,bk L,()):=by
 unfold FH47
 simp only [ay,Ia,aD,ai,aV,FH84,aa]
 rw [ag (kH83 h hl)]
end Go.Proofs.Tryz
end
section
namespace Go.Proofs.Tryz
open Go.AM
set_option maxRecDepth 100000
abbrev Bu:=List (ByteArray×Mg)
abbrev Gg:=List (ByteArray×List ByteArray)
abbrev fQ:=List (ByteArray×Bool)
theorem kH98 {l:List ByteArray} (hl:l.length<1000000000):ak (FH98 l)=some (l.length,l,()):=by
 simp only [FH98,ai,YO,aW,aa,aS]
 rw [ER (by omega)]
 split
 ·have : l = [] := List.length_eq_zero_iff.1 (by omega)
  subst this
  simp only [List.length_nil,List.drop_nil,List.take_nil,List.append_nil,Nat.add_zero]
  exact AY
 ·simp
def eN (del : ByteArray → Bool) : Nat → List ByteArray → Option Nat
 |_,[]=>none
 |k,x::r=>if del x=true then some k else eN del (k+1) r
theorem mc (del : ByteArray → Bool) : ∀ (l : List ByteArray) (k : Nat), (∃ p x q, l = p ++ x :: q ∧ (∀ c ∈ p, del c = false) ∧ del x = true ∧ eN del k l = some (k + p.length)) ∨ ((∀ c ∈ l, del c = false) ∧ eN del k l = none)
 |[],k=>.inr ⟨by simp,rfl⟩
 |y::l,k=>by
  by_cases h:del y=true
  ·left
   exact ⟨[],y,l,rfl,by simp,h,by simp [eN,h]⟩
  ·rcases mc del l (k + 1) with ⟨p, x, q, h1, h2, h3, h4⟩ | ⟨h1, h2⟩
   ·left
    refine ⟨y::p,x,q,by rw [h1];rfl,fun c hc=>?_,h3,?_⟩
    ·rcases List.mem_cons.1 hc with rfl | hc
     ·simpa using h
     ·exact h2 c hc
    ·unfold eN;rw [if_neg h,h4,List.length_cons,show k+1+p.length=k+(p.length+1) by omega]
   ·right
    refine ⟨fun c hc=>?_,by unfold eN;rw [if_neg h,h2]⟩
    rcases List.mem_cons.1 hc with rfl|hc
    ·simpa using h
    ·exact h1 c hc
theorem sZ {del:ByteArray→Bool} {l:List ByteArray} (h:∀c∈l,del c=false):l.filter (fun c => !del c)=l:=List.filter_eq_self.2 fun c hc=>by rw [h c hc];rfl
section
variable {m3:Bu} {m4:Gg} {m5 m6:fQ}
theorem kH99 (v:ByteArray):ak (FH99 v m3 m4 m5 m6)=some (!(aA .str false m5 v),m3,m4,m5,m6,()):=rfl
theorem agf {l:List ByteArray} (hl:l.length<1000000000):ak (FH119 l.length l m3 m4 m5 m6)=some ((match eN (fun v => !(aA .str false m5 v)) 0 l with|some k=>((k:Nat):Int)|none => -1),m3,m4,m5,m6,l,()):=by
 have hi := aL (f := fun a => run (fun _ => none) (gH119_0 a)) l (fun k (_ : Nat) => (l.length, ((l.length : Nat) : Int), (k : Int), l, m3, m4, m5, m6, ())) (fun k r => match eN (fun v => !(aA .str false m5 v)) k r with | some k => .inl (((k : Nat) : Int), m3, m4, m5, m6, l, ()) | none => .inr (m3, m4, m5, m6, l, ())) (fun pre k => k = pre.length) (by
  rintro pre x post k hx rfl
  have hlen:l.length=pre.length+(post.length+1):=by rw [hx];simp
  have hd:l.getD pre.length (bs [])=x:=by rw [hx];exact aT rfl
  have i1:ee (pre.length:Int) ((l.length:Nat):Int)=true:=bJ (by omega) (by omega)
  have r1:eV .i64 ((pre.length:Int)+1)=true:=aH (by omega) (by omega)
  have d1:decide (pre.length<l.length)=true:=decide_eq_true (by omega)
  simp only [gH119_0,ai,ay,aP,aW,aG,aa,Int.toNat_natCast,Nat.zero_add,hd,kH99,aD,i1,r1,d1,af,aU]
  rw [if_pos (by omega)]
  by_cases h:(!(aA .str false m5 x))=true
  ·right;rw [h,aO];simp only [eN,h,if_true]
  ·left
   refine ⟨pre.length+1,?_⟩
   rw [Hj (by simpa using h)]
   refine ⟨rfl,by simp,?_⟩
   simp only [eN,h,if_false];rfl) (by
  rintro k _
  simp only [gH119_0,ai,aU,aa]
  rw [if_neg (by omega)];rfl) (s:=0) rfl
 simp only [FH119,ay,bg]
 refine bind_eq hi ?_
 split<;>rfl
theorem kH97 {l:List ByteArray} (hl:l.length<1000000000):∃b,b.length=l.length∧b.take (l.filter fun v => !(!(aA .str false m5 v))).length=l.filter (fun v => !(!(aA .str false m5 v)))∧ak (FH97 l.length l m3 m4 m5 m6)=some (0,(l.filter fun v => !(!(aA .str false m5 v))).length,b,m3,m4,m5,m6,()):=by
 have abb:=agf (m3:=m3) (m4:=m4) (m5:=m5) (m6:=m6) hl
 simp only [FH97,ay,bg,ai,aa,aG,aW,aS]
 rw [ag abb]
 rcases mc (fun v => !(aA .str false m5 v)) l 0 with ⟨p,x,q,h1,h2,h3,h4⟩|⟨h1,h2⟩
 case inr =>
  rw [h2]
  simp only [if_true]
  rw [sZ h1]
  exact ⟨l,rfl,List.take_length ..,rfl⟩
 rw [h4]
 simp only [Nat.zero_add]
 have hlen:l.length=p.length+(q.length+1):=by rw [h1];simp
 rw [if_neg (by omega),mS (by omega) (by omega)]
 have hk:l.filter (fun v => !(!(aA .str false m5 v)))=p++q.filter fun v => !(!(aA .str false m5 v)):=by
  have e1:=sZ h2
  have e2:(x::q).filter (fun v => !(!(aA .str false m5 v)))=q.filter fun v => !(!(aA .str false m5 v)):=by rw [List.filter_cons_of_neg];simpa using h3
  rw [h1,List.filter_append,e2]
  rw [show p.filter (fun v => !(!(aA .str false m5 v)))=p from e1]
 obtain ⟨res, hres, m, b, rfl, hb, hm, ht⟩ := Jo (step := fun a => run (fun _ => none) (gH97_0 a)) q.length
  (fun k x=>∃(i:Nat) (b:List ByteArray),x=(l.length,(i:Int),((p.length+1+k:Nat):Int),b,m3,m4,m5,m6,())∧b.length=l.length∧i≤p.length+k∧b.take i=p++(q.take k).filter (fun v => !(!(aA .str false m5 v)))∧b.drop (p.length+1+k)=q.drop k)
  (fun r => ∃ (m : Nat) (b : List ByteArray), r = (l.length, (m : Int), b, m3, m4, m5, m6, ()) ∧ b.length = l.length ∧ m ≤ l.length ∧ b.take m = p ++ q.filter fun v => !(!(aA .str false m5 v))) (by
   rintro k _ hk ⟨i,b,rfl,hb,hi,ht,hd⟩
   have hx:b.getD (p.length+1+k) (bs [])=q.getD k (bs []):=by
    have:=congrArg (fun l=>l.getD 0 (bs [])) hd
    simpa [List.getD_eq_getElem?_getD] using this
   have hqk:q.take (k+1)=q.take k++[q.getD k (bs [])]:=by
    rw [List.take_succ_eq_append_getElem hk];simp [List.getD_eq_getElem?_getD,List.getElem?_eq_getElem hk]
   generalize q.getD k (bs [])=y at hx hqk
   have i1:ee ((p.length+1+k:Nat):Int) ((l.length:Nat):Int)=true:=bJ (by omega) (by omega)
   have i2:ee (i:Int) ((l.length:Nat):Int)=true:=bJ (by omega) (by omega)
   have d1:decide (p.length+1+k<b.length)=true:=decide_eq_true (by omega)
   have d2:decide (i<b.length)=true:=decide_eq_true (by omega)
   have r1:eV .i64 ((i:Int)+1)=true:=aH (by omega) (by omega)
   have r2:eV .i64 (((p.length+1+k:Nat):Int)+1)=true:=aH (by omega) (by omega)
   simp only [gH97_0,ai,ay,aP,aW,aG,aa,Int.toNat_natCast,Nat.zero_add,hx,kH99,aD,i1,i2,d1,d2,r1,r2,af,aU]
   rw [if_pos (by omega)]
   by_cases hy:(!(aA .str false m5 y))=true
   ·refine ⟨_, by rw [Hj (by rw [hy]; rfl)], i, b, by rw [show ((p.length + 1 + (k + 1) : Nat) : Int) = ((p.length + 1 + k : Nat) : Int) + 1 by omega], hb, by omega, ?_, ?_⟩
    ·rw [ht,hqk,List.filter_append,List.filter_cons_of_neg (by rw [hy];simp)];simp
    ·have := congrArg (List.drop 1) hd
     simpa [List.drop_drop,Nat.add_assoc] using this
   ·refine ⟨_, by rw [OK (by rw [Bool.eq_false_iff.2 hy]; rfl)], i + 1, b.set i y, by rw [show ((p.length + 1 + (k + 1) : Nat) : Int) = ((p.length + 1 + k : Nat) : Int) + 1 by omega, show ((i + 1 : Nat) : Int) = (i : Int) + 1 by omega], by simp [hb], by omega, ?_, ?_⟩
    ·have e:(b.set i y).take (i+1)=b.take i++[y]:=by
      rw [List.take_succ_eq_append_getElem (by simp;omega)]
      simp [List.take_set_of_le]
     rw [e,ht,hqk,List.filter_append,List.filter_cons_of_pos (by simpa using hy)];simp
    ·have := congrArg (List.drop 1) hd
     rw [List.drop_set_of_lt (by omega)]
     simpa [List.drop_drop,Nat.add_assoc] using this) (by
   rintro _ ⟨i,b,rfl,hb,hi,ht,hd⟩
   simp only [gH97_0,ai,aa,aU]
   rw [if_neg (by omega)]
   exact ⟨_,rfl,i,b,rfl,hb,by omega,by rw [ht,List.take_length]⟩) (x:=(l.length,(p.length:Int),(p.length:Int)+1,l,m3,m4,m5,m6,())) ⟨p.length,l,by simp,rfl,by omega,by rw [h1];simp,by rw [h1];simp⟩
 rw [ag hres]
 have hml:m=(l.filter fun v => !(!(aA .str false m5 v))).length:=by rw [hk,←ht,List.length_take];omega
 simp only [Int.toNat_natCast,Nat.zero_add,BE,Int.toNat_zero,Nat.sub_zero]
 rw [cz (by omega),cz (by omega),cz (by omega),cz (by omega),cz (by omega),cz (by omega)]
 refine ⟨b.take m++List.replicate (l.length - m) (bs [])++b.drop (m+(l.length - m)),?_,?_,by rw [←hml]⟩
 ·simp only [List.length_append,List.length_take,List.length_replicate,List.length_drop];omega
 ·rw [←hml,List.take_append_of_le_length (by simp;omega),List.take_append_of_le_length (by simp;omega),List.take_take,Nat.min_self,ht,hk]
theorem Xv (v:ByteArray):ak (FH123 v m3 m4 m5 m6)=some (aA .str false m6 v,m3,m4,m5,m6,()):=rfl
theorem QD {l:List ByteArray} (hl:l.length<1000000000):ak (FH119_v1 l.length l m3 m4 m5 m6)=some ((match eN (fun v=>aA .str false m6 v) 0 l with|some k=>((k:Nat):Int)|none => -1),m3,m4,m5,m6,l,()):=by
 have hi := aL (f := fun a => run (fun _ => none) (gH119_v1_0 a)) l (fun k (_ : Nat) => (l.length, ((l.length : Nat) : Int), (k : Int), l, m3, m4, m5, m6, ())) (fun k r => match eN (fun v => aA .str false m6 v) k r with | some k => .inl (((k : Nat) : Int), m3, m4, m5, m6, l, ()) | none => .inr (m3, m4, m5, m6, l, ())) (fun pre k => k = pre.length) (by
  rintro pre x post k hx rfl
  have hlen:l.length=pre.length+(post.length+1):=by rw [hx];simp
  have hd:l.getD pre.length (bs [])=x:=by rw [hx];exact aT rfl
  have i1:ee (pre.length:Int) ((l.length:Nat):Int)=true:=bJ (by omega) (by omega)
  have r1:eV .i64 ((pre.length:Int)+1)=true:=aH (by omega) (by omega)
  have d1:decide (pre.length<l.length)=true:=decide_eq_true (by omega)
  simp only [gH119_v1_0,ai,ay,aP,aW,aG,aa,Int.toNat_natCast,Nat.zero_add,hd,Xv,aD,i1,r1,d1,af,aU]
  rw [if_pos (by omega)]
  by_cases h:(aA .str false m6 x)=true
  ·right;rw [h,aO];simp only [eN,h,if_true]
  ·left
   refine ⟨pre.length+1,?_⟩
   rw [Hj (by simpa using h)]
   refine ⟨rfl,by simp,?_⟩
   simp only [eN,h,if_false];rfl) (by
  rintro k _
  simp only [gH119_v1_0,ai,aU,aa]
  rw [if_neg (by omega)];rfl) (s:=0) rfl
 simp only [FH119_v1,ay,bg]
 refine bind_eq hi ?_
 split<;>rfl
theorem Vm {l:List ByteArray} (hl:l.length<1000000000):∃b,b.length=l.length∧b.take (l.filter fun v => !(aA .str false m6 v)).length=l.filter (fun v => !(aA .str false m6 v))∧ak (FH97_v1 l.length l m3 m4 m5 m6)=some (0,(l.filter fun v => !(aA .str false m6 v)).length,b,m3,m4,m5,m6,()):=by
 have abb:=QD (m3:=m3) (m4:=m4) (m5:=m5) (m6:=m6) hl
 simp only [FH97_v1,ay,bg,ai,aa,aG,aW,aS]
 rw [ag abb]
 rcases mc (fun v=>aA .str false m6 v) l 0 with ⟨p,x,q,h1,h2,h3,h4⟩|⟨h1,h2⟩
 case inr =>
  rw [h2]
  simp only [if_true]
  rw [sZ h1]
  exact ⟨l,rfl,List.take_length ..,rfl⟩
 rw [h4]
 simp only [Nat.zero_add]
 have hlen:l.length=p.length+(q.length+1):=by rw [h1];simp
 rw [if_neg (by omega),mS (by omega) (by omega)]
 have hk:l.filter (fun v => !(aA .str false m6 v))=p++q.filter fun v => !(aA .str false m6 v):=by
  have e1:=sZ h2
  have e2:(x::q).filter (fun v => !(aA .str false m6 v))=q.filter fun v => !(aA .str false m6 v):=by rw [List.filter_cons_of_neg];simpa using h3
  rw [h1,List.filter_append,e2]
  rw [show p.filter (fun v => !(aA .str false m6 v))=p from e1]
 obtain ⟨res, hres, m, b, rfl, hb, hm, ht⟩ := Jo (step := fun a => run (fun _ => none) (gH97_v1_0 a)) q.length
  (fun k x=>∃(i:Nat) (b:List ByteArray),x=(l.length,(i:Int),((p.length+1+k:Nat):Int),b,m3,m4,m5,m6,())∧b.length=l.length∧i≤p.length+k∧b.take i=p++(q.take k).filter (fun v => !(aA .str false m6 v))∧b.drop (p.length+1+k)=q.drop k)
  (fun r => ∃ (m : Nat) (b : List ByteArray), r = (l.length, (m : Int), b, m3, m4, m5, m6, ()) ∧ b.length = l.length ∧ m ≤ l.length ∧ b.take m = p ++ q.filter fun v => !(aA .str false m6 v)) (by
   rintro k _ hk ⟨i,b,rfl,hb,hi,ht,hd⟩
   have hx:b.getD (p.length+1+k) (bs [])=q.getD k (bs []):=by
    have:=congrArg (fun l=>l.getD 0 (bs [])) hd
    simpa [List.getD_eq_getElem?_getD] using this
   have hqk:q.take (k+1)=q.take k++[q.getD k (bs [])]:=by
    rw [List.take_succ_eq_append_getElem hk];simp [List.getD_eq_getElem?_getD,List.getElem?_eq_getElem hk]
   generalize q.getD k (bs [])=y at hx hqk
   have i1:ee ((p.length+1+k:Nat):Int) ((l.length:Nat):Int)=true:=bJ (by omega) (by omega)
   have i2:ee (i:Int) ((l.length:Nat):Int)=true:=bJ (by omega) (by omega)
   have d1:decide (p.length+1+k<b.length)=true:=decide_eq_true (by omega)
   have d2:decide (i<b.length)=true:=decide_eq_true (by omega)
   have r1:eV .i64 ((i:Int)+1)=true:=aH (by omega) (by omega)
   have r2:eV .i64 (((p.length+1+k:Nat):Int)+1)=true:=aH (by omega) (by omega)
   simp only [gH97_v1_0,ai,ay,aP,aW,aG,aa,Int.toNat_natCast,Nat.zero_add,hx,Xv,aD,i1,i2,d1,d2,r1,r2,af,aU]
   rw [if_pos (by omega)]
   by_cases hy:(aA .str false m6 y)=true
   ·refine ⟨_, by rw [Hj (by rw [hy]; rfl)], i, b, by rw [show ((p.length + 1 + (k + 1) : Nat) : Int) = ((p.length + 1 + k : Nat) : Int) + 1 by omega], hb, by omega, ?_, ?_⟩
    ·rw [ht,hqk,List.filter_append,List.filter_cons_of_neg (by rw [hy];simp)];simp
    ·have := congrArg (List.drop 1) hd
     simpa [List.drop_drop,Nat.add_assoc] using this
   ·refine ⟨_, by rw [OK (by rw [Bool.eq_false_iff.2 hy]; rfl)], i + 1, b.set i y, by rw [show ((p.length + 1 + (k + 1) : Nat) : Int) = ((p.length + 1 + k : Nat) : Int) + 1 by omega, show ((i + 1 : Nat) : Int) = (i : Int) + 1 by omega], by simp [hb], by omega, ?_, ?_⟩
    ·have e:(b.set i y).take (i+1)=b.take i++[y]:=by
      rw [List.take_succ_eq_append_getElem (by simp;omega)]
      simp [List.take_set_of_le]
     rw [e,ht,hqk,List.filter_append,List.filter_cons_of_pos (by simpa using hy)];simp
    ·have := congrArg (List.drop 1) hd
     rw [List.drop_set_of_lt (by omega)]
     simpa [List.drop_drop,Nat.add_assoc] using this) (by
   rintro _ ⟨i,b,rfl,hb,hi,ht,hd⟩
   simp only [gH97_v1_0,ai,aa,aU]
   rw [if_neg (by omega)]
   exact ⟨_,rfl,i,b,rfl,hb,by omega,by rw [ht,List.take_length]⟩) (x:=(l.length,(p.length:Int),(p.length:Int)+1,l,m3,m4,m5,m6,())) ⟨p.length,l,by simp,rfl,by omega,by rw [h1];simp,by rw [h1];simp⟩
 rw [ag hres]
 have hml:m=(l.filter fun v => !(aA .str false m6 v)).length:=by rw [hk,←ht,List.length_take];omega
 simp only [Int.toNat_natCast,Nat.zero_add,BE,Int.toNat_zero,Nat.sub_zero]
 rw [cz (by omega),cz (by omega),cz (by omega),cz (by omega),cz (by omega),cz (by omega)]
 refine ⟨b.take m++List.replicate (l.length - m) (bs [])++b.drop (m+(l.length - m)),?_,?_,by rw [←hml]⟩
 ·simp only [List.length_append,List.length_take,List.length_replicate,List.length_drop];omega
 ·rw [←hml,List.take_append_of_le_length (by simp;omega),List.take_append_of_le_length (by simp;omega),List.take_take,Nat.min_self,ht,hk]
end
end Go.Proofs.Tryz
end
section
namespace Go.Proofs.Tryz
open Go.AM
set_option maxRecDepth 100000
abbrev zM:Mg:=(bs [],(0:Int),bs [],bs [],(0:Int))
def jJ (es:Bu) (m:Mg):Bu:=if aQ .str es m.1=true then es else bp .str es m.1 m
def qB (L:List Mg):Bu:=L.foldl jJ []
def cnt (L:List Mg):List Mg:=(qB L).map (·.2)
theorem zm {es:Bu} (h:gV .str es) (m:Mg):gV .str (jJ es m):=by
 unfold jJ;split
 ·exact h
 ·exact h.iC kS
theorem zn : ∀ {L : List Mg} {es : Bu}, gV .str es → gV .str (L.foldl jJ es)
 |[],_,h=>h
 |m::L,es,h=>zn (L:=L) (es:=jJ es m) (zm h m)
theorem My (L:List Mg):gV .str (qB L):=zn .nil
theorem zo : ∀ {L : List Mg} {es : Bu} {e : ByteArray × Mg}, gV .str es → (e ∈ L.foldl jJ es ↔ e ∈ es ∨ (aQ .str es e.1 = false ∧ ∃ pre post, L = pre ++ e.2 :: post ∧ e.2.1 = e.1 ∧ ∀ x ∈ pre, x.1 ≠ e.1))
 |[],es,e,_=>by simp
 |m::L,es,e,h=>by
  rw [List.foldl_cons,zo (zm h m)]
  have hs:jJ es m=es∧aQ .str es m.1=true∨jJ es m=bp .str es m.1 m∧aQ .str es m.1=false:=by
   unfold jJ
   cases hm:aQ .str es m.1
   ·right;simp
   ·left;simp
  rcases hs with ⟨hs,hm⟩|⟨hs,hm⟩
  ·rw [hs]
   refine or_congr_right ?_
   constructor
   ·rintro ⟨h1, pre, post, rfl, h2, h3⟩
    refine ⟨h1,m::pre,post,rfl,h2,fun x hx=>?_⟩
    rcases List.mem_cons.1 hx with rfl|hx
    ·intro e';rw [e'] at hm;rw [hm] at h1;cases h1
    ·exact h3 x hx
   ·rintro ⟨h1, pre, post, h2, h3, h4⟩
    cases pre with
    |nil =>
     simp only [List.nil_append,List.cons.injEq] at h2
     rw [h2.1] at hm;rw [h3] at hm;rw [hm] at h1;cases h1
    |cons p pre =>
     simp only [List.cons_append,List.cons.injEq] at h2
     exact ⟨h1,pre,post,h2.2,h3,fun x hx=>h4 x (List.mem_cons_of_mem _ hx)⟩
  ·rw [hs, gn kS h, qb kS h]
   have hk:∀{v:Mg},(m.1,v)∉es:=fun {v} hv=>by rw [(dD kS).2 ⟨v,hv⟩] at hm;cases hm
   constructor
   ·rintro ((h1 | ⟨h1, _⟩) | ⟨h1, pre, post, rfl, h2, h3⟩)
    ·subst h1
     exact .inr ⟨hm,[],L,rfl,rfl,by simp⟩
    ·exact .inl h1
    ·simp only [Bool.or_eq_false_iff] at h1
     have hne:e.1≠m.1:=fun e'=>by have:=h1.1;rw [e',kf kS] at this;cases this
     refine .inr ⟨h1.2,m::pre,post,rfl,h2,fun x hx=>?_⟩
     rcases List.mem_cons.1 hx with rfl|hx
     ·exact Ne.symm hne
     ·exact h3 x hx
   ·rintro (h1 | ⟨h1, pre, post, h2, h3, h4⟩)
    ·refine .inl (.inr ⟨h1, fun e' => ?_⟩)
     obtain ⟨a,b⟩:=e
     simp only at e';subst e';exact hk h1
    ·cases pre with
     |nil =>
      simp only [List.nil_append,List.cons.injEq] at h2
      obtain ⟨a,b⟩:=e
      simp only at h2 h3
      exact .inl (.inl (by rw [←h3,h2.1]))
     |cons p pre =>
      simp only [List.cons_append,List.cons.injEq] at h2
      have hne:e.1≠m.1:=fun e'=>by
       have:=h4 p (List.mem_cons_self ..)
       rw [←h2.1,e'] at this;exact this rfl
      refine .inr ⟨?_,pre,post,h2.2,h3,fun x hx=>h4 x (List.mem_cons_of_mem _ hx)⟩
      rw [Bool.or_eq_false_iff]
      refine ⟨?_,h1⟩
      cases hd:dM .str e.1 m.1 with
      |false=>rfl
      |true=>exact absurd (bS hd) hne
theorem uF {L:List Mg} {e:ByteArray×Mg}:e∈qB L↔∃pre post,L=pre++e.2::post∧e.2.1=e.1∧∀x∈pre,x.1≠e.1:=by
 unfold qB
 rw [zo .nil]
 simp [aQ]
theorem FD {L:List Mg} {e:ByteArray×Mg} (h:e∈qB L):e.2.1=e.1:=by
 obtain ⟨_,_,_,h,_⟩:=uF.1 h;exact h
theorem FE (L:List Mg):qB L=(cnt L).map fun m=>(m.1,m):=by
 unfold cnt
 rw [List.map_map]
 conv=>lhs;rw [←List.map_id (qB L)]
 refine List.map_congr_left fun e he=>?_
 have:=FD he
 obtain ⟨a,b⟩:=e
 simp only at this;subst this;rfl
theorem J6 {L:List Mg} {m:Mg}:m∈cnt L↔(m.1,m)∈qB L:=by
 unfold cnt
 rw [List.mem_map]
 constructor
 ·rintro ⟨e, he, rfl⟩
  have:=FD he
  obtain ⟨a,b⟩:=e
  simp only at this;subst this;exact he
 ·intro h;exact ⟨_,h,rfl⟩
def SI (c:List Mg):Prop:=c.Pairwise fun a b=>slt a.1 b.1=true
theorem eC (L:List Mg):SI (cnt L):=by
 have h:=My L
 rw [FE] at h
 unfold gV at h;rw [List.pairwise_map] at h;exact h
theorem SI.Xw {c:List Mg} (h:SI c):gV .str (c.map fun m=>(m.1,m)):=by
 unfold gV;rw [List.pairwise_map];exact h
theorem SI.inj {c:List Mg} (h:SI c) {m m':Mg} (hm:m∈c) (hm':m'∈c) (e:m.1=m'.1):m=m':=by
 have h1:=gm (d:=zM) kS h.Xw (List.mem_map.2 ⟨m,hm,rfl⟩)
 have h2:=gm (d:=zM) kS h.Xw (List.mem_map.2 ⟨m',hm',rfl⟩)
 rw [←h1,←h2,e]
theorem th {L:List Mg} {m:Mg} (h:m∈cnt L):m∈L:=by
 obtain ⟨pre,post,h,_⟩:=uF.1 (J6.1 h)
 rw [h];simp
theorem wC {L:List Mg} (hL:SL L) {m:Mg}:m∈cnt L↔m∈L∧∀x∈L,x.1=m.1→x=m∨gq tM m x=true:=by
 rw [J6,uF]
 constructor
 ·rintro ⟨pre, post, h, _, h2⟩
  simp only at h h2
  subst h
  refine ⟨by simp,fun x hx e=>?_⟩
  rcases List.mem_append.1 hx with hx|hx
  ·exact absurd e (h2 x hx)
  ·rcases List.mem_cons.1 hx with rfl | hx
   ·exact .inl rfl
   ·unfold SL at hL
    rw [List.pairwise_append,List.pairwise_cons] at hL
    exact .inr (hL.2.1.1 x hx)
 ·rintro ⟨h1, h2⟩
  obtain ⟨pre,post,h⟩:=List.append_of_mem h1
  refine ⟨pre,post,h,rfl,fun x hx e=>?_⟩
  subst h
  unfold SL at hL
  rw [List.pairwise_append] at hL
  have h3:=hL.2.2 x hx m (List.mem_cons_self ..)
  rcases h2 x (by simp [hx]) e with rfl|h4
  ·rw [gu kM] at h3;cases h3
  ·exact dB kM h3 h4
theorem agh {L:List Mg} {m1:List (Mg×Bool)} (hl:L.length<1000000000):iter (fun x=>ak (gH66_0 x)) (L.length,((L.length:Nat):Int),(0:Int),L,m1,[],[],[],[],())=some (m1,qB L,[],[],[],()):=by
 refine aL L (fun k (es:Bu)=>(L.length,((L.length:Nat):Int),(k:Int),L,m1,es,[],[],[],())) (fun es r=>(m1,r.foldl jJ es,[],[],[],())) (fun _ _=>True) ?_ ?_ (s:=[]) trivial
 ·intro pre x post es hx _
  have hlen:L.length=pre.length+(post.length+1):=by rw [hx];simp
  have hd:L.getD pre.length zM=x:=by rw [hx];exact aT rfl
  have i1:ee (pre.length:Int) ((L.length:Nat):Int)=true:=bJ (by omega) (by omega)
  have r1:eV .i64 ((pre.length:Int)+1)=true:=aH (by omega) (by omega)
  have d1:decide (pre.length<L.length)=true:=decide_eq_true (by omega)
  left
  refine ⟨jJ es x,?_,trivial,rfl⟩
  simp only [gH66_0,ai,aP,aW,aG,aa,Int.toNat_natCast,Nat.zero_add,hd,i1,r1,d1,af,aU]
  rw [if_pos (by omega)]
  unfold jJ
  cases hm:aQ .str es x.1
  ·rw [OK (by rfl)];rfl
  ·rw [Hj (by rfl)];rfl
 ·intro es _
  simp only [gH66_0,ai,aa,aU]
  rw [if_neg (by omega)]
  rfl
theorem Vn {c:List Mg} (h:SI c) (hl:c.length<1000000000):ak (FH81 (c.map fun m=>(m.1,m)))=some (c.length,c.map (·.1),c.map (fun m=>(m.1,m)),()):=by
 unfold FH81
 refine Eq.trans CB (gK fun l hp=>?_)
 have zK:l.length=c.length:=by rw [hp.length_eq,List.length_map]
 simp only [ay,CC]
 refine bind_eq (sY (m:=c.map fun m=>(m.1,m)) (l:=l) (by rw [zK];exact hl) fun e n b hn=>?_) ?_
 ·simp only [gH81f107f126_0i_0, aW, aa, dK, af]
  rw [cz (show _<cg by rw [eB];simp;omega)]
  rfl
 ·simp only [FH105, yA]
  have hpk:(c.map (·.1)).Perm (l.map (·.1)):=by
   have:=(hp.map (·.1)).symm
   rwa [List.map_map] at this
  have hs:Bh .str (c.map (·.1)):=by
   have:=h.Xw.keys kS
   rwa [List.map_map] at this
  have:=pG kS hpk hs (by rw [List.length_map];omega)
  rw [List.length_map] at this
  rw [ag this,zK]
  rfl
def kids (c:List Mg) (x:ByteArray):List ByteArray:=(c.filter fun m=>decide (m.2.1=2∧m.2.2.1=x)).map (·.1)
def cw (c:List Mg) (x:ByteArray):Bool:=c.any fun m=>decide (m.2.1=3∧m.2.2.1=x)
def jK (t:Gg) (m:Mg):Gg:=if m.2.1=2 then bp .str t m.2.2.1 (aA .str [] t m.2.2.1++[m.1]) else t
def jL (t:fQ) (m:Mg):fQ:=if m.2.1=3 then bp .str t m.2.2.1 true else t
def bY (c:List Mg):Gg:=c.foldl jK []
def cK (c:List Mg):fQ:=c.foldl jL []
theorem Ib {t:Gg} (h:gV .str t) (m:Mg):gV .str (jK t m):=by
 unfold jK;split
 ·exact h.iC kS
 ·exact h
theorem Ic {t:fQ} (h:gV .str t) (m:Mg):gV .str (jL t m):=by
 unfold jL;split
 ·exact h.iC kS
 ·exact h
theorem zq : ∀ {c : List Mg} {t : Gg}, gV .str t → gV .str (c.foldl jK t) ∧ (∀ x, aA .str [] (c.foldl jK t) x = aA .str [] t x ++ kids c x) ∧ ∀ x, aQ .str (c.foldl jK t) x = (aQ .str t x || !(kids c x).isEmpty)
 |[],t,h=>⟨h,fun x=>by simp [kids],fun x=>by simp [kids]⟩
 |m::c,t,h=>by
  obtain ⟨h1,h2,h3⟩:=zq (c:=c) (Ib h m)
  refine ⟨h1,fun x=>?_,fun x=>?_⟩
  ·rw [List.foldl_cons, h2]
   unfold jK kids
   by_cases hk:m.2.1=2
   ·rw [if_pos hk, Bt kS h]
    by_cases hx:m.2.2.1=x
    ·subst hx
     rw [if_pos (kf kS),List.filter_cons_of_pos (by simp [hk])]
     simp
    ·rw [if_neg (fun h=>hx (bS h).symm),List.filter_cons_of_neg (by simp [hx])]
   ·rw [if_neg hk,List.filter_cons_of_neg (by simp [hk])]
  ·rw [List.foldl_cons, h3]
   unfold jK kids
   by_cases hk:m.2.1=2
   ·rw [if_pos hk, qb kS h]
    by_cases hx:m.2.2.1=x
    ·subst hx
     rw [kf kS,List.filter_cons_of_pos (by simp [hk])]
     simp
    ·have:dM .str x m.2.2.1=false:=by
      cases hd:dM .str x m.2.2.1 with
      |false=>rfl
      |true=>exact absurd (bS hd).symm hx
     rw [this,List.filter_cons_of_neg (by simp [hx]),Bool.false_or]
   ·rw [if_neg hk,List.filter_cons_of_neg (by simp [hk])]
theorem J7 (c:List Mg):gV .str (bY c):=(zq .nil).1
theorem wD (c:List Mg) (x:ByteArray):aA .str [] (bY c) x=kids c x:=by
 exact ((zq (c:=c) (t:=[]) .nil).2.1 x).trans (by simp [aA])
theorem J8 (c:List Mg) (x:ByteArray):aQ .str (bY c) x = !(kids c x).isEmpty:=by
 exact ((zq (c:=c) (t:=[]) .nil).2.2 x).trans (by simp [aQ])
theorem wE {c:List Mg} {e:ByteArray×List ByteArray}:e∈bY c↔e.2=kids c e.1∧kids c e.1≠[]:=by
 constructor
 ·intro h
  have h1:=gm (d:=[]) kS (J7 c) (show (e.1,e.2)∈bY c from h)
  rw [wD] at h1
  refine ⟨h1.symm,fun h2=>?_⟩
  have h3:=(dD kS).2 ⟨e.2,(show (e.1,e.2)∈bY c from h)⟩
  rw [J8,h2] at h3;cases h3
 ·rintro ⟨h1, h2⟩
  have h3:aQ .str (bY c) e.1=true:=by
   rw [J8]
   cases hk:kids c e.1 with
   |nil=>exact absurd hk h2
   |cons _ _=>rfl
  obtain ⟨v,hv⟩:=(dD kS).1 h3
  have h4:=gm (d:=[]) kS (J7 c) hv
  rw [wD] at h4
  obtain ⟨a,b⟩:=e
  simp only at h1 h4 hv
  rw [h1,h4];exact hv
theorem QE : ∀ {c : List Mg} {t : fQ}, gV .str t → (∀ e ∈ t, e.2 = true) → gV .str (c.foldl jL t) ∧ (∀ e ∈ c.foldl jL t, e.2 = true) ∧ ∀ x, aQ .str (c.foldl jL t) x = (aQ .str t x || cw c x)
 |[],t,h,ht=>⟨h,ht,fun x=>by simp [cw]⟩
 |m::c,t,h,ht=>by
  obtain ⟨h1, h0, h2⟩ := QE (c := c) (Ic h m) (by
   unfold jL;split
   ·exact Qz kS h ht
   ·exact ht)
  refine ⟨h1,h0,fun x=>?_⟩
  rw [List.foldl_cons,h2]
  unfold jL cw
  by_cases hk:m.2.1=3
  ·rw [if_pos hk, qb kS h, List.any_cons]
   have:dM .str x m.2.2.1=decide (m.2.1=3∧m.2.2.1=x):=by
    rw [sX];exact decide_eq_decide.2 ⟨fun e=>⟨hk,e.symm⟩,fun e=>e.2.symm⟩
   rw [this,Bool.or_comm (decide _) (aQ .str t x),Bool.or_assoc]
  ·rw [if_neg hk, List.any_cons]
   simp [hk]
theorem Vo (c:List Mg) (x:ByteArray):aA .str false (cK c) x=cw c x:=by
 have h:=QE (c:=c) (t:=[]) .nil (fun e h=>by cases h)
 rw [show cK c=c.foldl jL [] from rfl,QA kS h.1 h.2.1,h.2.2]
 simp [aQ]
theorem mZ (c:List Mg) (x:ByteArray):(kids c x).length≤c.length:=by
 unfold kids;rw [List.length_map];exact List.length_filter_le ..
theorem agi {c:List Mg} {m1:List (Mg×Bool)} (h:SI c) (hl:c.length<1000000):iter (fun x=>ak (gH66_1 x)) (c.length,((c.length:Nat):Int),(0:Int),c.map (·.1),m1,c.map (fun m=>(m.1,m)),[],[],[],()) =
  some (m1,c.map (fun m=>(m.1,m)),bY c,cK c,[],()):=by
 have zK:(c.map (·.1)).length=c.length:=List.length_map ..
 refine aL c (fun k (s : Gg × fQ) => (c.length, ((c.length : Nat) : Int), (k : Int), c.map (·.1), m1, c.map (fun m => (m.1, m)), s.1, s.2, [], ())) (fun s r => (m1, c.map (fun m => (m.1, m)), r.foldl jK s.1, r.foldl jL s.2, [], ()))
  (fun pre s=>s.1=pre.foldl jK []) ?_ ?_ (s:=([],[])) rfl
 ·rintro pre x post ⟨t, r⟩ hx ht
  simp only at ht
  have hlen:c.length=pre.length+(post.length+1):=by rw [hx];simp
  have hd:(c.map (·.1)).getD pre.length (bs [])=x.1:=by rw [hx,List.map_append,List.map_cons];exact aT (by simp)
  have hg:aA .str zM (c.map fun m=>(m.1,m)) x.1=x:=gm kS h.Xw (List.mem_map.2 ⟨x,by rw [hx];simp,rfl⟩)
  have i1:ee (pre.length:Int) ((c.length:Nat):Int)=true:=bJ (by omega) (by omega)
  have r1:eV .i64 ((pre.length:Int)+1)=true:=aH (by omega) (by omega)
  have d1:decide (pre.length<(c.map (·.1)).length)=true:=decide_eq_true (by omega)
  left
  refine ⟨(jK t x,jL r x),?_,by simp only;rw [ht,List.foldl_append];rfl,rfl⟩
  simp only [gH66_1,ai,aP,aW,aG,aa,Int.toNat_natCast,Nat.zero_add,hd,hg,i1,r1,d1,af,aU,aS]
  rw [if_pos (by omega)]
  unfold jK jL
  by_cases h3:x.2.1=3
  ·rw [if_pos h3,if_pos h3,if_neg (by omega)];rfl
  ·rw [if_neg h3, if_neg h3]
   by_cases h2:x.2.1=2
   ·rw [if_pos h2, if_pos h2]
    have hlt:(aA .str [] t x.2.2.1).length≤c.length:=by
     have:=(zq (c:=pre) (t:=[]) .nil).2.1 x.2.2.1
     rw [←ht] at this
     rw [this]
     have:=mZ pre x.2.2.1
     simp only [aA,List.nil_append];omega
    rw [cz (show _<cg by rw [eB];omega)]
    rfl
   ·rw [if_neg h2,if_neg h2];rfl
 ·rintro ⟨t, r⟩ _
  simp only [gH66_1,ai,aa,aU]
  rw [if_neg (by omega)]
  rfl
end Go.Proofs.Tryz
end
section
namespace Go.Proofs.Tryz
open Go.AM
set_option maxRecDepth 100000
theorem Vp {A B : Type} {F : (A → Option B) → A → Option B} (R : A → B → Prop) (m : A → Nat)
  (h:∀rec x y,R x y→(∀x' y',R x' y'→m x'<m x→rec x'=some y')→F rec x=some y):∀x y,R x y→yy F x=some y:=by
 have key:∀n x y,R x y→m x<n→MQ F n x=some y:=by
  intro n
  induction n with
  |zero=>intro x y _ hm;omega
  |succ n ih=>intro x y hx hm;exact h _ x y hx fun x' y' hx' hm'=>ih x' y' hx' (by omega)
 intro x y hx
 exact Jh (N:=m x+1) fun n hn=>key n x y hx (by omega)
structure pH (S:fQ):Prop where
 c:gV .str S
 t:∀e∈S,e.2=true
theorem pH.nil:pH []:=⟨.nil,fun e h=>by cases h⟩
theorem pH.put {S:fQ} (h:pH S) (x:ByteArray):pH (bp .str S x true):=⟨h.c.iC kS,Qz kS h.c h.t⟩
abbrev has (S:fQ) (x:ByteArray):Bool:=aQ .str S x
def Sub (S S':fQ):Prop:=∀x,has S x=true→has S' x=true
theorem Sub.rfl {S:fQ}:Sub S S:=fun _ h=>h
theorem Sub.trans {S S' Cv:fQ} (h:Sub S S') (h':Sub S' Cv):Sub S Cv:=fun x hx=>h' x (h x hx)
theorem qd {S:fQ} (h:pH S) {x y:ByteArray}:has (bp .str S x true) y=true↔y=x∨has S y=true:=by
 unfold has
 rw [qb kS h.c,Bool.or_eq_true,Df kS]
theorem Sub.put {S:fQ} (h:pH S) (x:ByteArray):Sub S (bp .str S x true):=fun y hy=>(qd h).2 (.inr hy)
theorem pH.ext {S S':fQ} (h:pH S) (h':pH S') (hx:∀x,has S x=true↔has S' x=true):S=S' :=
 QB kS h.c h'.c h.t h'.t fun x=>by rw [Bool.eq_iff_iff];exact hx x
section
variable {c:List Mg}
inductive js (c : List Mg) : ByteArray → ByteArray → Prop
 |refl (x):js c x x
 |step {x y z} (h:js c x y) (hz:z∈kids c y):js c x z
theorem js.trans {x y z:ByteArray} (h:js c x y) (h':js c y z):js c x z:=by
 induction h' with
 |refl=>exact h
 |step _ hz ih=>exact .step ih hz
theorem js.cons {x y z:ByteArray} (hy:y∈kids c x) (h:js c y z):js c x z:=(js.step (.refl x) hy).trans h
def ids (c:List Mg):List ByteArray:=c.map (·.1)
theorem jt {x z:ByteArray} (h:z∈kids c x):z∈ids c:=by
 unfold kids at h
 obtain ⟨m,hm,rfl⟩:=List.mem_map.1 h
 exact List.mem_map.2 ⟨m,(List.mem_filter.1 hm).1,rfl⟩
def Du (c:List Mg) (S:fQ):Nat:=((ids c).filter fun x => !has S x).length
theorem QF (S:fQ):Du c S≤c.length:=by
 unfold Du ids;exact Nat.le_trans (List.length_filter_le ..) (by simp)
theorem nU {α : Type} {p q : α → Bool} : ∀ {l : List α}, (∀ x ∈ l, p x = true → q x = true) → (l.filter p).length ≤ (l.filter q).length
 |[],_=>by simp
 |a::l,h=>by
  have ih:=nU (l:=l) fun x hx=>h x (List.mem_cons_of_mem _ hx)
  by_cases hp:p a=true
  ·rw [List.filter_cons_of_pos hp, List.filter_cons_of_pos (h a (List.mem_cons_self ..) hp)]
   simp only [List.length_cons];omega
  ·rw [List.filter_cons_of_neg hp]
   by_cases hq:q a=true
   ·rw [List.filter_cons_of_pos hq];simp only [List.length_cons];omega
   ·rw [List.filter_cons_of_neg hq];exact ih
theorem tj {α : Type} {p q : α → Bool} : ∀ {l : List α}, (∀ x ∈ l, p x = true → q x = true) → ∀ {y : α}, y ∈ l → q y = true → p y = false → (l.filter p).length < (l.filter q).length
 |[],_,y,h,_,_=>by cases h
 |a::l,h,y,hy,hq,hp=>by
  have hl:∀x∈l,p x=true→q x=true:=fun x hx=>h x (List.mem_cons_of_mem _ hx)
  rcases List.mem_cons.1 hy with rfl|hy
  ·rw [List.filter_cons_of_neg (by rw [hp]; simp), List.filter_cons_of_pos hq]
   have:=nU hl
   simp only [List.length_cons];omega
  ·have ih := tj hl hy hq hp
   by_cases hpa:p a=true
   ·rw [List.filter_cons_of_pos hpa, List.filter_cons_of_pos (h a (List.mem_cons_self ..) hpa)]
    simp only [List.length_cons];omega
   ·rw [List.filter_cons_of_neg hpa]
    by_cases hqa:q a=true
    ·rw [List.filter_cons_of_pos hqa];simp only [List.length_cons];omega
    ·rw [List.filter_cons_of_neg hqa];exact ih
theorem zu {S S':fQ} (h:Sub S S'):Du c S'≤Du c S:=nU fun x _ hx=>by
 cases hs:has S x with
 |false=>rfl
 |true=>rw [h x hs] at hx;cases hx
theorem Ie {S:fQ} (h:pH S) {x:ByteArray} (hx:x∈ids c) (hn:has S x=false):Du c (bp .str S x true)<Du c S:=by
 refine tj (fun y _ hy=>?_) hx (by rw [hn];rfl) (by rw [(qd h).2 (.inl rfl)];rfl)
 cases hs:has S y with
 |false=>rfl
 |true=>rw [(qd h).2 (.inr hs)] at hy;cases hy
def c7 (c : List Mg) : Nat → ByteArray → fQ → fQ
 |0,_,S=>S
 |n+1,x,S=>if has S x=true then S else (kids c x).foldl (fun S k=>c7 c n k S) (bp .str S x true)
theorem iZ : ∀ {n : Nat} {x : ByteArray} {S : fQ}, pH S → pH (c7 c n x S) ∧ Sub S (c7 c n x S)
 |0,_,_,h=>⟨h,.rfl⟩
 |n+1,x,S,h=>by
  unfold c7
  split
  ·exact ⟨h,.rfl⟩
  ·have key:∀(l:List ByteArray) (S:fQ),pH S→pH (l.foldl (fun S k=>c7 c n k S) S)∧Sub S (l.foldl (fun S k=>c7 c n k S) S):=by
    intro l
    induction l with
    |nil=>intro S h;exact ⟨h,.rfl⟩
    |cons k l ih =>
     intro S h
     obtain ⟨h1,h2⟩:=iZ (n:=n) (x:=k) h
     obtain ⟨h3,h4⟩:=ih _ h1
     exact ⟨h3,h2.trans h4⟩
   obtain ⟨h1,h2⟩:=key (kids c x) _ (h.put x)
   exact ⟨h1,(Sub.put h x).trans h2⟩
theorem tn {n : Nat} : ∀ {l : List ByteArray} {S : fQ}, pH S → pH (l.foldl (fun S k => c7 c n k S) S) ∧ Sub S (l.foldl (fun S k => c7 c n k S) S)
 |[],_,h=>⟨h,.rfl⟩
 |k::l,S,h=>by
  obtain ⟨h1,h2⟩:=iZ (c:=c) (n:=n) (x:=k) h
  obtain ⟨h3,h4⟩:=tn (l:=l) h1
  exact ⟨h3,h2.trans h4⟩
theorem vn : ∀ {n n' : Nat} {x : ByteArray} {S : fQ}, pH S → x ∈ ids c → Du c S < n → Du c S < n' → c7 c n x S = c7 c n' x S
 |0,_,_,_,_,_,h,_=>by omega
 |_+1,0,_,_,_,_,_,h=>by omega
 |n+1,n'+1,x,S,hS,hx,h,h'=>by
  unfold c7
  split
  ·rfl
  ·rename_i hn
   have hn:has S x=false:=by simpa using hn
   have hlt:=Ie hS hx hn
   have key:∀(l:List ByteArray) (S1:fQ),(∀k∈l,k∈ids c)→pH S1→Du c S1<n→Du c S1<n'→l.foldl (fun S k=>c7 c n k S) S1=l.foldl (fun S k=>c7 c n' k S) S1:=by
    intro l
    induction l with
    |nil=>intro _ _ _ _ _;rfl
    |cons k l ih =>
     intro S1 hk h1 h2 h3
     simp only [List.foldl_cons]
     rw [vn (n:=n) (n':=n') h1 (hk k (List.mem_cons_self ..)) h2 h3]
     obtain ⟨h4,h5⟩:=iZ (c:=c) (n:=n') (x:=k) h1
     have:=zu (c:=c) h5
     exact ih _ (fun k hk'=>hk k (List.mem_cons_of_mem _ hk')) h4 (by omega) (by omega)
   exact key _ _ (fun k hk=>jt hk) (hS.put x) (by omega) (by omega)
theorem FF {n:Nat} {x:ByteArray} {S:fQ} (h:pH S) (hn:Du c S<n):has (c7 c n x S) x=true:=by
 cases n with
 |zero=>omega
 |succ n =>
  unfold c7
  split
  ·assumption
  ·exact (tn (h.put x)).2 x ((qd h).2 (.inl rfl))
theorem Bv : ∀ {n : Nat} {x : ByteArray} {S : fQ}, pH S → ∀ y, has (c7 c n x S) y = true → has S y = true ∨ js c x y
 |0,_,_,_,y,hy=>.inl hy
 |n+1,x,S,h,y,hy=>by
  unfold c7 at hy
  split at hy
  ·exact .inl hy
  ·have key:∀(l:List ByteArray) (S1:fQ),(∀k∈l,k∈kids c x)→pH S1→has (l.foldl (fun S k=>c7 c n k S) S1) y=true→has S1 y=true∨js c x y:=by
    intro l
    induction l with
    |nil=>intro S1 _ _ h;exact .inl h
    |cons k l ih =>
     intro S1 hk h1 h2
     simp only [List.foldl_cons] at h2
     rcases ih _ (fun k hk'=>hk k (List.mem_cons_of_mem _ hk')) (iZ h1).1 h2 with h3|h3
     ·rcases Bv h1 y h3 with h4 | h4
      ·exact .inl h4
      ·exact .inr (.cons (hk k (List.mem_cons_self ..)) h4)
     ·exact .inr h3
   rcases key _ _ (fun k hk=>hk) (h.put x) hy with h1|h1
   ·rcases (qd h).1 h1 with rfl | h2
    ·exact .inr (.refl _)
    ·exact .inl h2
   ·exact .inr h1
theorem Bw : ∀ {n : Nat} {x : ByteArray} {S : fQ}, pH S → x ∈ ids c → Du c S < n → ∀ y, has (c7 c n x S) y = true → has S y = false → ∀ z ∈ kids c y, has (c7 c n x S) z = true
 |0,_,_,_,_,h,_,_,_=>by omega
 |n+1,x,S,hS,hx,hlt,y,hy,hyn=>by
  intro z hz
  unfold c7 at hy ⊢
  split at hy
  ·rw [hyn] at hy;cases hy
  ·rename_i hn
   rw [if_neg hn]
   have hn:has S x=false:=by simpa using hn
   have hl:=Ie hS hx hn
   have key:∀(l:List ByteArray) (S1:fQ),(∀k∈l,k∈kids c x)→pH S1→Du c S1<n→(∀k∈l,has (l.foldl (fun S k=>c7 c n k S) S1) k=true) ∧
     (has (l.foldl (fun S k=>c7 c n k S) S1) y=true→has S1 y=false→has (l.foldl (fun S k=>c7 c n k S) S1) z=true):=by
    intro l
    induction l with
    |nil=>intro S1 _ _ _;exact ⟨(fun k hk=>by cases hk),(fun h h'=>by rw [List.foldl_nil,h'] at h;cases h)⟩
    |cons k l ih =>
     intro S1 hk h1 h2
     simp only [List.foldl_cons]
     obtain ⟨h3,h4⟩:=iZ (c:=c) (n:=n) (x:=k) h1
     have h5:=zu (c:=c) h4
     obtain ⟨h6,h7⟩:=ih _ (fun k hk'=>hk k (List.mem_cons_of_mem _ hk')) h3 (by omega)
     have h8:=(tn (c:=c) (n:=n) (l:=l) h3).2
     refine ⟨fun k' hk'=>?_,fun h9 h10=>?_⟩
     ·rcases List.mem_cons.1 hk' with rfl | hk'
      ·exact h8 _ (FF h1 (by omega))
      ·exact h6 k' hk'
     ·cases h11:has (c7 c n k S1) y with
      |false=>exact h7 h9 h11
      |true=>exact h8 _ (Bw h1 (jt (hk k (List.mem_cons_self ..))) h2 y h11 h10 z hz)
   obtain ⟨h1,h2⟩:=key _ _ (fun k hk=>hk) (hS.put x) (by omega)
   by_cases he:y=x
   ·subst he;exact h1 z hz
   ·refine h2 hy ?_
    cases h3:has (bp .str S x true) y with
    |false=>rfl
    |true =>
     rcases (qd hS).1 h3 with h4|h4
     ·exact absurd h4 he
     ·rw [hyn] at h4;cases h4
def Xx (c:List Mg) (S:fQ):Prop:=∀y,has S y=true→∀z∈kids c y,has S z=true
theorem Xx.desc {S:fQ} (h:Xx c S) {x y:ByteArray} (hx:has S x=true) (hd:js c x y):has S y=true:=by
 induction hd with
 |refl=>exact hx
 |step _ hz ih=>exact h _ ih _ hz
theorem QG {n:Nat} {x:ByteArray} {S:fQ} (hS:pH S) (hC:Xx c S) (hx:x∈ids c) (hn:Du c S<n):Xx c (c7 c n x S)∧∀y,has (c7 c n x S) y=true↔has S y=true∨js c x y:=by
 have hc:Xx c (c7 c n x S):=fun y hy z hz=>by
  cases h:has S y with
  |true=>exact (iZ hS).2 z (hC y h z hz)
  |false=>exact Bw hS hx hn y hy h z hz
 refine ⟨hc,fun y=>⟨Bv hS y,?_⟩⟩
 rintro (h|h)
 ·exact (iZ hS).2 y h
 ·exact hc.desc (FF hS hn) h
theorem kH96 {m3:Bu} {m5:fQ} {x:ByteArray} {S:fQ} (hc:c.length<1000000) (hS:pH S) (hx:x∈ids c):ak (FH96fix x m3 (bY c) m5 S)=some (m3,bY c,m5,c7 c (c.length+1) x S,()):=by
 have h0:ak (FH96fix x m3 (bY c) m5 S)=yy (A:=kZ.T) (B:=k9.T) (fun r y=>run r (FH96 y.1 y.2.1 y.2.2.1 y.2.2.2.1 y.2.2.2.2.1)) (x,m3,bY c,m5,S,()):=rfl
 refine h0.trans ?_
 refine Vp (A:=kZ.T) (B:=k9.T) (fun a b=>∃x S,a=(x,m3,bY c,m5,S,())∧pH S∧x∈ids c∧b=(m3,bY c,m5,c7 c (c.length+1) x S,())) (fun a=>Du c a.2.2.2.2.1) ?_ _ _ ⟨x,S,rfl,hS,hx,rfl⟩
 rintro rec _ _ ⟨x,S,rfl,hS,hx,rfl⟩ ih
 have e:(run rec (FH96 x m3 (bY c) m5 S):Option (Bu×Gg×fQ×fQ×Unit))=u9 (aA .str false S x) (some (m3,bY c,m5,S,())) (cW (iter (fun a=>run rec (gH96_0 a)) (aA .str [] (bY c) x,(((aA .str [] (bY c) x).length:Nat):Int),(0:Int),m3,bY c,m5,bp .str S x true,())) fun z=>some (z.1,z.2.1,z.2.2.1,z.2.2.2.1,())):=rfl
 refine Eq.trans (α:=Option (Bu×Gg×fQ×fQ×Unit)) e ?_
 rw [QA kS hS.c hS.t,wD]
 by_cases hh:has S x=true
 ·rw [OK hh]
  have:c7 c (c.length+1) x S=S:=by unfold c7;rw [if_pos hh]
  rw [this];rfl
 ·rw [Hj (by simpa using hh)]
  have hn:has S x=false:=by simpa using hh
  have hlt:=Ie hS hx hn
  have hle:=QF (c:=c) S
  have Rz:=mZ c x
  have he:c7 c (c.length+1) x S=(kids c x).foldl (fun S k=>c7 c (c.length+1) k S) (bp .str S x true):=by
   have:c7 c (c.length+1) x S=c7 c (c.length+2) x S:=vn hS hx (by omega) (by omega)
   rw [this]
   conv=>lhs;unfold c7
   rw [if_neg hh]
  rw [he]
  refine bind_eq (aL (kids c x) (fun k (S:fQ)=>(kids c x,(((kids c x).length:Nat):Int),(k:Int),m3,bY c,m5,S,())) (fun S r=>(m3,bY c,m5,r.foldl (fun S k=>c7 c (c.length+1) k S) S,())) (fun _ S1=>pH S1∧Du c S1<Du c S) ?_ ?_ (s:=bp .str S x true) ⟨hS.put x,hlt⟩) rfl
  ·rintro pre k post S1 hk ⟨h1, h2⟩
   have hlen:(kids c x).length=pre.length+(post.length+1):=by rw [hk];simp
   have hd:(kids c x).getD pre.length (bs [])=k:=by rw [hk];exact aT rfl
   have i1:ee (pre.length:Int) (((kids c x).length:Nat):Int)=true:=bJ (by omega) (by omega)
   have r1:eV .i64 ((pre.length:Int)+1)=true:=aH (by omega) (by omega)
   have hki:k∈ids c:=jt (x:=x) (by rw [hk];simp)
   obtain ⟨h3,h4⟩:=iZ (c:=c) (n:=c.length+1) (x:=k) h1
   have h5:=zu (c:=c) h4
   left
   refine ⟨c7 c (c.length+1) k S1,?_,⟨h3,by omega⟩,rfl⟩
   simp only [gH96_0,ai,aP,aG,aa,ay,YP,Int.toNat_natCast,hd,i1,r1,af,aU]
   rw [if_pos (by omega)]
   have hq:(run rec (Tr.rc (k,m3,bY c,m5,S1,())):Option (Bu×Gg×fQ×fQ×Unit))=some (m3,bY c,m5,c7 c (c.length+1) k S1,()):=ih (k,m3,bY c,m5,S1,()) _ ⟨k,S1,rfl,h1,hki,rfl⟩ h2
   exact bind_eq (A:=Bu×Gg×fQ×fQ×Unit) hq rfl
  ·rintro S1 _
   simp only [gH96_0,ai,aa,aU]
   rw [if_neg (by omega)]
   rfl
end
end Go.Proofs.Tryz
end
section
namespace Go.Proofs.Tryz
open Go.AM
set_option maxRecDepth 100000
def Vq (c:List Mg) (x:ByteArray):Bool:=aQ .str (c.map fun m=>(m.1,m)) x && !((aA .str zM (c.map fun m=>(m.1,m)) x).2.1==3)
def dir (c:List Mg) (e:ByteArray×List ByteArray):List ByteArray:=if Vq c e.1=true then (match e.2.filter (cw c) with|[o]=>e.2.filter (fun k => !decide (k=o))|_=>[]) else []
def pI (c:List Mg) (S:fQ) (e:ByteArray×List ByteArray):fQ:=(dir c e).foldl (fun S k=>c7 c (c.length+1) k S) S
def dh (c:List Mg):fQ:=(bY c).foldl (pI c) []
abbrev b8 (c:List Mg):Bu:=c.map fun m=>(m.1,m)
section
variable {c:List Mg}
theorem nV {e:ByteArray×List ByteArray} {y:ByteArray} (h:y∈dir c e):y∈e.2:=by
 unfold dir at h
 split at h
 ·split at h
  ·exact (List.mem_filter.1 h).1
  ·cases h
 ·cases h
structure ow (c:List Mg) (l:List (ByteArray×List ByteArray)) (S:fQ):Prop where
 ok:pH S
 clo:Xx c S
 iff:∀x,has S x=true↔∃e∈l,∃y∈dir c e,js c y x
theorem agj {l:List ByteArray}:∀{S:fQ},pH S→Xx c S→(∀k∈l,k∈ids c)→pH (l.foldl (fun S k=>c7 c (c.length+1) k S) S)∧Xx c (l.foldl (fun S k=>c7 c (c.length+1) k S) S) ∧
  ∀x,has (l.foldl (fun S k=>c7 c (c.length+1) k S) S) x=true↔has S x=true∨∃y∈l,js c y x:=by
 induction l with
 |nil=>intro S h1 h2 _;exact ⟨h1,h2,fun x=>by simp⟩
 |cons k l ih =>
  intro S h1 h2 h3
  have hn:Du c S<c.length+1:=by have:=QF (c:=c) S;omega
  have hk:=h3 k (List.mem_cons_self ..)
  obtain ⟨h4,h5⟩:=QG h1 h2 hk hn
  obtain ⟨h6,h7,h8⟩:=ih (iZ h1).1 h4 fun k hk=>h3 k (List.mem_cons_of_mem _ hk)
  refine ⟨h6,h7,fun x=>?_⟩
  rw [List.foldl_cons,h8,h5]
  simp only [List.mem_cons,exists_eq_or_imp,or_assoc]
theorem ow.step {l:List (ByteArray×List ByteArray)} {S:fQ} (h:ow c l S) {e:ByteArray×List ByteArray} (he:∀k∈e.2,k∈ids c):ow c (l++[e]) (pI c S e):=by
 obtain ⟨h1,h2,h3⟩:=agj (l:=dir c e) h.ok h.clo fun k hk=>he k (nV hk)
 refine ⟨h1,h2,fun x=>?_⟩
 unfold pI
 rw [h3,h.iff]
 constructor
 ·rintro (⟨e', he', h⟩ | h)
  ·exact ⟨e',by simp [he'],h⟩
  ·exact ⟨e,by simp,h⟩
 ·rintro ⟨e', he', h⟩
  rcases List.mem_append.1 he' with he'|he'
  ·exact .inl ⟨e',he',h⟩
  ·rw [List.mem_singleton] at he';subst he';exact .inr h
theorem ow.all : ∀ {r l : List (ByteArray × List ByteArray)} {S : fQ}, ow c l S → (∀ e ∈ r, ∀ k ∈ e.2, k ∈ ids c) → ow c (l ++ r) (r.foldl (pI c) S)
 |[],l,S,h,_=>by simpa using h
 |e::r,l,S,h,hr=>by
  have:=ow.all (h.step (hr e (List.mem_cons_self ..))) fun e he=>hr e (List.mem_cons_of_mem _ he)
  simpa using this
theorem ow.nil:ow c [] []:=⟨.nil,fun y hy=>by simp [has,aQ] at hy,fun x=>by simp [has,aQ]⟩
theorem J9:∀e∈bY c,∀k∈e.2,k∈ids c:=fun e he k hk=>by
 rw [(wE.1 he).1] at hk;exact jt hk
theorem zw {l:List (ByteArray×List ByteArray)} (hp:l.Perm (bY c)):ow c l (l.foldl (pI c) []):=by
 have:=ow.all (c:=c) (r:=l) (l:=[]) .nil fun e he=>J9 e (hp.mem_iff.1 he)
 simpa using this
theorem uG (c:List Mg):ow c (bY c) (dh c):=zw (.refl _)
theorem abd {l:List (ByteArray×List ByteArray)} (hp:l.Perm (bY c)):l.foldl (pI c) []=dh c :=
 (zw hp).ok.ext (uG c).ok fun x=>by
  rw [(zw hp).iff,(uG c).iff]
  exact ⟨fun ⟨e,he,h⟩=>⟨e,hp.mem_iff.1 he,h⟩,fun ⟨e,he,h⟩=>⟨e,hp.mem_iff.2 he,h⟩⟩
def eD (c:List Mg) (x:ByteArray):Bool:=has (dh c) x
theorem Dg (x:ByteArray):aA .str false (dh c) x=eD c x:=QA kS (uG c).ok.c (uG c).ok.t
theorem lF {x:ByteArray}:eD c x=true↔∃p y,y∈dir c (p,kids c p)∧js c y x:=by
 unfold eD
 rw [(uG c).iff]
 constructor
 ·rintro ⟨⟨p, l⟩, he, y, hy, hd⟩
  have:=(wE.1 he).1
  simp only at this;subst this
  exact ⟨p,y,hy,hd⟩
 ·rintro ⟨p, y, hy, hd⟩
  refine ⟨(p,kids c p),wE.2 ⟨rfl,fun h=>?_⟩,y,hy,hd⟩
  have:=nV hy
  simp only at this h
  rw [h] at this;cases this
theorem Vr {x z:ByteArray} (h:eD c x=true) (hz:z∈kids c x):eD c z=true:=(uG c).clo x h z hz
theorem abe {m1:List (Mg×Bool)} {m6:Bu} {E0:Int} {E1:Bool} {l RA:List ByteArray} {o:ByteArray} {m:Mg} {S:fQ} (hc:c.length<1000000) (hl:l.length≤c.length) (Se:∀k∈l,k∈ids c) (hb:RA.getD 0 (bs [])=o) (rE:0<RA.length) (hS:pH S) :
  iter (fun x=>ak (gH66_2b_3 x)) (0,1,E0,E1,l,((l.length:Nat):Int),(0:Int),RA,bY c,m.1,m.2.1,m.2.2.1,m.2.2.2.1,m.2.2.2.2,m6,cK c,S,m1,()) =
   some (E0,E1,bY c,m.1,m.2.1,m.2.2.1,m.2.2.2.1,m.2.2.2.2,m6,cK c,(l.filter fun k => !decide (k=o)).foldl (fun S k=>c7 c (c.length+1) k S) S,m1,()):=by
 refine aL l (fun k (S : fQ) => (0, 1, E0, E1, l, ((l.length : Nat) : Int), (k : Int), RA, bY c, m.1, m.2.1, m.2.2.1, m.2.2.2.1, m.2.2.2.2, m6, cK c, S, m1, ()))
  (fun S r=>(E0,E1,bY c,m.1,m.2.1,m.2.2.1,m.2.2.2.1,m.2.2.2.2,m6,cK c,(r.filter fun k => !decide (k=o)).foldl (fun S k=>c7 c (c.length+1) k S) S,m1,())) (fun _ S=>pH S) ?_ ?_ (s:=S) hS
 ·intro pre x post S hx hS
  have hlen:l.length=pre.length+(post.length+1):=by rw [hx];simp
  have hd:l.getD pre.length (bs [])=x:=by rw [hx];exact aT rfl
  have i1:ee (pre.length:Int) ((l.length:Nat):Int)=true:=bJ (by omega) (by omega)
  have i2:ee (0:Int) ((1:Nat):Int)=true:=bJ (by omega) (by omega)
  have r1:eV .i64 ((pre.length:Int)+1)=true:=aH (by omega) (by omega)
  have d1:decide (0<RA.length)=true:=decide_eq_true rE
  left
  by_cases MO:x=o
  ·refine ⟨S, ?_, hS, by rw [List.filter_cons_of_neg (by simp [MO])]⟩
   simp only [gH66_2b_3,ai,aP,aW,aG,aa,ay,Int.toNat_natCast,Int.toNat_zero,Nat.zero_add,Nat.add_zero,hd,hb,i1,i2,r1,d1,af,aU,seq_eq,MO]
   rw [if_pos (by omega),Hj (by simp)]
   rfl
  ·refine ⟨c7 c (c.length + 1) x S, ?_, (iZ hS).1, by rw [List.filter_cons_of_pos (by simp [MO])]; rfl⟩
   simp only [gH66_2b_3,ai,aP,aW,aG,aa,ay,Int.toNat_natCast,Int.toNat_zero,Nat.zero_add,Nat.add_zero,hd,hb,i1,i2,r1,d1,af,aU,seq_eq]
   rw [if_pos (by omega),OK (by simp [MO])]
   rw [ag (kH96 hc hS (Se x (by rw [hx];simp)))]
   rfl
 ·intro S _
  simp only [gH66_2b_3,ai,aa,aU]
  rw [if_neg (by omega)]
  rfl
theorem agk {m1:List (Mg×Bool)} {e:ByteArray×List ByteArray} {S:fQ} (hc:c.length<1000000) (he:e∈bY c) (hS:pH S):ak (gH66_2 e (bY c,m1,b8 c,cK c,S,()))=some (bY c,m1,b8 c,cK c,pI c S e,()):=by
 have Ro:=(wE.1 he).1
 have hl:e.2.length≤c.length:=by rw [Ro];exact mZ c e.1
 simp only [gH66_2,ai,aW,aa,ay,bg,dK,af,aZ]
 unfold pI dir Vq
 cases hh:aQ .str (b8 c) e.1 with
 |false=>rw [aV];simp
 |true =>
  rw [aO]
  by_cases h3:(aA .str zM (b8 c) e.1).2.1=3
  ·rw [aS, if_pos h3, if_neg (by simp [h3])]
   rfl
  ·rw [aS, if_neg h3, if_pos (by simp [h3])]
   rw [ag (kH98 (by omega))]
   obtain ⟨b,jh,eW,Dm⟩:=kH97 (m3:=b8 c) (m4:=bY c) (m5:=cK c) (m6:=S) (l:=e.2) (by omega)
   rw [ag Dm]
   have hf:(e.2.filter fun v => !(!aA .str false (cK c) v))=e.2.filter (cw c):=List.filter_congr fun v _=>by rw [Vo];simp
   rw [hf] at eW ⊢
   simp only [dK,af,aS]
   by_cases h1:(e.2.filter (cw c)).length=1
   ·rw [if_pos (by omega)]
    obtain ⟨o,ho⟩:=List.length_eq_one_iff.1 h1
    rw [ho] at eW h1 ⊢
    simp only [List.length_singleton] at eW ⊢
    have rE:0<b.length:=by
     cases b with
     |nil=>simp at eW
     |cons _ _=>simp
    have hbo:b.getD 0 (bs [])=o:=by
     cases b with
     |nil=>simp at eW
     |cons x r=>simp at eW;simp [eW]
    rw [ag (abe (m:=aA .str zM (b8 c) e.1) (o:=o) hc hl (J9 e he) hbo rE hS)]
    simp only [dK,af]
   ·rw [if_neg (by omega)]
    have:(match e.2.filter (cw c) with|[o]=>e.2.filter (fun k => !decide (k=o))|_=>[])=([]:List ByteArray):=by
     split
     ·rename_i o ho;rw [ho] at h1;simp at h1
     ·rfl
    rw [this]
    rfl
theorem QH {L:List Mg} (h:jW L):ak (FH66 (bk L))=some (bk L,b8 (cnt L),bY (cnt L),cK (cnt L),dh (cnt L),()):=by
 have hl:=h.len
 have zL:(cnt L).length≤60:=by
  have:(cnt L).length≤L.length:=by
   have hn:(cnt L).Nodup:=List.Pairwise.imp (fun {a b} h e=>by subst e;rw [show slt a.1 a.1=false from gu (t:=.str) kS a.1] at h;cases h) (eC L)
   exact List.Nodup.length_le_of_subset hn fun m hm=>th hm
  omega
 have hby:qB L=b8 (cnt L):=FE L
 unfold FH66
 simp only [ay,bg,aW]
 rw [ag (kH47 h.s (by omega))]
 simp only
 rw [ag (agh (by omega))]
 simp only [FH95,aa,aD]
 rw [hby,ag (Vn (eC L) (by omega))]
 simp only [List.isEmpty_nil,af]
 rw [ag (agi (eC L) (by omega))]
 simp only
 have hmq:run (fun _=>none) (.mq gH66_2 (bY (cnt L)) (bY (cnt L),bk L,b8 (cnt L),cK (cnt L),[],()))=some (bY (cnt L),bk L,b8 (cnt L),cK (cnt L),dh (cnt L),()):=by
  refine Eq.trans Hl (gK fun l hp=>?_)
  have := (FC (step := fun e a => run (fun _ => none) (gH66_2 e a)) (fun (a : Gg × List (Mg × Bool) × Bu × fQ × fQ × Unit) e => (bY (cnt L), bk L, b8 (cnt L), cK (cnt L), pI (cnt L) a.2.2.2.2.1 e, ())) (fun a => ∃ S, a = (bY (cnt L), bk L, b8 (cnt L), cK (cnt L), S, ()) ∧ pH S) l (bY (cnt L), bk L, b8 (cnt L), cK (cnt L), [], ()) ⟨[], rfl, .nil⟩ (by
   rintro e he _ ⟨S,rfl,hS⟩
   refine ⟨agk (by omega) (hp.mem_iff.1 he) hS,_,rfl,?_⟩
   exact (tn hS).1)).1
  rw [this]
  have key:∀(l:List (ByteArray×List ByteArray)) (S:fQ),l.foldl (fun (a:Gg×List (Mg×Bool)×Bu×fQ×fQ×Unit) e=>(bY (cnt L),bk L,b8 (cnt L),cK (cnt L),pI (cnt L) a.2.2.2.2.1 e,())) (bY (cnt L),bk L,b8 (cnt L),cK (cnt L),S,())=(bY (cnt L),bk L,b8 (cnt L),cK (cnt L),l.foldl (pI (cnt L)) S,()):=by
   intro l
   induction l with
   |nil=>intro S;rfl
   |cons e l ih=>intro S;exact ih _
  rw [key,abd hp]
 rw [ag hmq]
end
end Go.Proofs.Tryz
end
section
namespace Go.Proofs.Tryz
open Go.AM
set_option maxRecDepth 100000
theorem Vs {A B : Type} {F : (A → Option B) → A → Option B} (R : Nat → A → B → Prop)
  (h:∀rec n x y,R n x y→(∀n' x' y',n'<n→R n' x' y'→rec x'=some y')→F rec x=some y):∀n x y,R n x y→yy F x=some y:=by
 have key:∀k n x y,R n x y→n<k→MQ F k x=some y:=by
  intro k
  induction k with
  |zero=>intro n x y _ hm;omega
  |succ k ih=>intro n x y hx hm;exact h _ n x y hx fun n' x' y' hn' hx'=>ih n' x' y' hx' (by omega)
 intro n x y hx
 exact Jh (N:=n+1) fun k hk=>key k n x y hx (by omega)
section
variable {c:List Mg}
theorem gp {x y:ByteArray}:y∈kids c x↔∃m∈c,m.1=y∧m.2.1=2∧m.2.2.1=x:=by
 unfold kids
 rw [List.mem_map]
 constructor
 ·rintro ⟨m, hm, rfl⟩
  obtain ⟨h1,h2⟩:=List.mem_filter.1 hm
  simp only [decide_eq_true_eq] at h2
  exact ⟨m,h1,rfl,h2⟩
 ·rintro ⟨m, hm, rfl, h⟩
  exact ⟨m,List.mem_filter.2 ⟨hm,by simpa using h⟩,rfl⟩
theorem wF (hs:SI c) {x x' y:ByteArray} (h:y∈kids c x) (h':y∈kids c x'):x=x':=by
 obtain ⟨m,h1,h2,_,h3⟩:=gp.1 h
 obtain ⟨m',h1',h2',_,h3'⟩:=gp.1 h'
 have:=hs.inj h1 h1' (h2.trans h2'.symm)
 subst this
 exact h3.symm.trans h3'
inductive iS (c : List Mg) (x : ByteArray) : Nat → ByteArray → Prop
 |zero:iS c x 0 x
 |step {n y z} (h:iS c x n y) (hz:z∈kids c y):iS c x (n+1) z
theorem iS.add {n m:Nat} {x y z:ByteArray} (h:iS c x n y) (h':iS c y m z):iS c x (n+m) z:=by
 induction h' with
 |zero=>exact h
 |step _ hz ih=>exact .step ih hz
theorem iS.up (hs:SI c) {n:Nat} {x y:ByteArray} (h:iS c x n y):∀{m:Nat} {x':ByteArray},iS c x' m y→n≤m→iS c x' (m - n) x:=by
 induction h with
 |zero=>intro m x' h' _;exact h'
 |step h hz ih =>
  intro m x' h' hle
  cases h' with
  |zero=>omega
  |step h2 qE =>
   have e:=wF hs hz qE
   subst e
   have:=ih h2 (by omega)
   rwa [Nat.add_sub_add_right]
theorem iS.desc {n:Nat} {x y:ByteArray} (h:iS c x n y):js c x y:=by
 induction h with
 |zero=>exact .refl _
 |step _ hz ih=>exact .step ih hz
theorem js.pth {x y:ByteArray} (h:js c x y):∃n,iS c x n y:=by
 induction h with
 |refl=>exact ⟨0,.zero⟩
 |step _ hz ih=>obtain ⟨n,h⟩:=ih;exact ⟨n+1,.step h hz⟩
def RB (c:List Mg) (t:ByteArray):Prop:=∀x,t∉kids c x
theorem iS.deep (hs:SI c) {t:ByteArray} (ht:RB c t) {n m:Nat} {y:ByteArray} (h:iS c t n y) (h':iS c t m y):n=m:=by
 have key:∀{n m:Nat},iS c t n y→iS c t m y→n≤m→n=m:=fun {n m} h h' hle=>by
  have:=h.up hs h' hle
  generalize hk:m - n=k at this
  cases this with
  |zero=>omega
  |step _ hz=>exact absurd hz (ht _)
 rcases Nat.le_total n m with hle|hle
 ·exact key h h' hle
 ·exact (key h' h hle).symm
theorem iS.short (hs:SI c) {t:ByteArray} (ht:RB c t) (Dq:t∈ids c) {n:Nat} {y:ByteArray} (h:iS c t n y):n<c.length:=by
 have key:∃l:List ByteArray,l.length=n+1∧l.Nodup∧∀a∈l,a∈ids c∧∃i,i≤n∧iS c t i a:=by
  induction h with
  |zero=>exact ⟨[t],rfl,by simp,fun a ha=>by rw [List.mem_singleton] at ha;subst ha;exact ⟨Dq,0,Nat.le_refl _,.zero⟩⟩
  |step h hz ih =>
   rename_i n' y' z
   obtain ⟨l,h1,h2,h3⟩:=ih
   have hp:iS c t (n'+1) z:=.step h hz
   refine ⟨z::l,by simp [h1],List.nodup_cons.2 ⟨fun hzl=>?_,h2⟩,fun a ha=>?_⟩
   ·obtain ⟨_, i, hi, hpi⟩ := h3 z hzl
    have:=hpi.deep hs ht hp
    omega
   ·rcases List.mem_cons.1 ha with rfl | ha
    ·exact ⟨jt hz,n'+1,Nat.le_refl _,hp⟩
    ·obtain ⟨q1, i, hi, hpi⟩ := h3 a ha
     exact ⟨q1,i,by omega,hpi⟩
 obtain ⟨l,h1,h2,h3⟩:=key
 have:=List.Nodup.length_le_of_subset h2 (fun a ha=>(h3 a ha).1)
 have hl:(ids c).length=c.length:=by simp [ids]
 omega
def iD (c:List Mg) (x:ByteArray):List ByteArray:=(kids c x).filter fun k => !eD c k
theorem wG {x y:ByteArray} (h:y∈iD c x):y∈kids c x:=(List.mem_filter.1 h).1
theorem Vt (x:ByteArray):(iD c x).length≤c.length:=Nat.le_trans (List.length_filter_le ..) (mZ c x)
def cG (c : List Mg) : Nat → ByteArray → List ByteArray
 |0,_=>[]
 |n+1,x=>match iD c x with
  |[]=>[x]
  |k::l=>oZ .str ((k::l).flatMap (cG c n))
def fS (c:List Mg) (t:ByteArray):List ByteArray:=cG c (c.length+1) t
theorem Ka (hs:SI c) (x:ByteArray):(kids c x).Nodup:=by
 unfold kids List.Nodup
 rw [List.pairwise_map]
 refine List.Pairwise.imp (fun {a b} h e=>?_) (List.Pairwise.filter _ hs)
 rw [e,show slt b.1 b.1=false from gu (t:=.str) kS b.1] at h;cases h
theorem nc : ∀ {n : Nat} {x y : ByteArray}, y ∈ cG c n x → js c x y
 |0,_,_,h=>by cases h
 |n+1,x,y,h=>by
  unfold cG at h
  split at h
  ·rw [List.mem_singleton] at h;subst h;exact .refl _
  ·rename_i k l hl
   rw [(eA (t:=.str) _).mem_iff,List.mem_flatMap] at h
   obtain ⟨a,ha,h⟩:=h
   exact .cons (wG (by rw [hl];exact ha)) (nc h)
theorem tq (hs : SI c) {t : ByteArray} (ht : RB c t) : ∀ {n d : Nat} {x : ByteArray}, iS c t d x → (cG c n x).Nodup
 |0,_,_,_=>.nil
 |n+1,d,x,hp=>by
  unfold cG
  split
  ·simp
  ·rename_i k l hl
   refine (eA (t:=.str) _).nodup_iff.2 ?_
   have hn:(k::l).Nodup:=by rw [←hl];exact List.Pairwise.filter _ (Ka hs x)
   have hk:∀a∈k::l,a∈kids c x:=fun a ha=>wG (by rw [hl];exact ha)
   refine List.pairwise_flatMap.2 ⟨fun a ha=>tq hs ht (hp.step (hk a ha)),List.Pairwise.imp_of_mem (fun {a b} ha hb hab=>?_) hn⟩
   intro y hya y' hyb e
   subst e
   obtain ⟨i,hi⟩:=(nc hya).pth
   obtain ⟨j,hj⟩:=(nc hyb).pth
   have h1:=(hp.step (hk a ha)).add hi
   have h2:=(hp.step (hk b hb)).add hj
   have:=h1.deep hs ht h2
   have he:i=j:=by omega
   subst he
   have:=hi.up hs hj (Nat.le_refl _)
   rw [Nat.sub_self] at this
   cases this
   exact hab rfl
theorem nh (hs:SI c) {t:ByteArray} (ht:RB c t) (Dq:t∈ids c) {n d:Nat} {x:ByteArray} (hp:iS c t d x):(cG c n x).length≤c.length:=by
 have h:=List.Nodup.length_le_of_subset (tq hs ht (n:=n) hp) (l₂:=ids c) fun y hy=>by
  have hd:js c t y:=hp.desc.trans (nc hy)
  cases hd with
  |refl=>exact Dq
  |step _ hz=>exact jt hz
 have hl:(ids c).length=c.length:=by simp [ids]
 omega
end
end Go.Proofs.Tryz
end
section
namespace Go.Proofs.Tryz
open Go.AM
set_option maxRecDepth 100000
section
variable {c:List Mg}
theorem agm (hc:c.length<1000000) (x:ByteArray):∃b,b.take (iD c x).length=iD c x∧(iD c x).length≤b.length∧ak (FH104 x (b8 c) (bY c) (cK c) (dh c))=some (0,(iD c x).length,b,b8 c,bY c,cK c,dh c,()):=by
 have hk:=mZ c x
 obtain ⟨b,h1,h2,h3⟩:=Vm (m3:=b8 c) (m4:=bY c) (m5:=cK c) (m6:=dh c) (l:=kids c x) (by omega)
 have hf:(kids c x).filter (fun v => !(aA .str false (dh c) v))=iD c x:=List.filter_congr fun v _=>by rw [Dg]
 rw [hf] at h2 h3
 refine ⟨b,h2,by rw [h1];exact List.length_filter_le ..,?_⟩
 unfold FH104
 simp only [ay,wD]
 rw [ag (kH98 (by omega))]
 simp only
 rw [ag h3]
 rfl
abbrev D76:=Nat×List ByteArray×Bu×Gg×fQ×fQ×Unit
theorem QI (hs:SI c) (hc:c.length<1000000) {t:ByteArray} (ht:RB c t) (Dq:t∈ids c):ak (FH76fix t (b8 c) (bY c) (cK c) (dh c))=some ((fS c t).length,fS c t,b8 c,bY c,cK c,dh c,()):=by
 have h0:ak (FH76fix t (b8 c) (bY c) (cK c) (dh c))=yy (A:=lg.T) (B:=lp.T) (fun r y=>run r (FH76 y.1 y.2.1 y.2.2.1 y.2.2.2.1 y.2.2.2.2.1)) (t,b8 c,bY c,cK c,dh c,()):=rfl
 refine h0.trans ?_
 refine Vs (A:=lg.T) (B:=lp.T) (fun n a b=>∃z d,a=(z,b8 c,bY c,cK c,dh c,())∧iS c t d z∧d+n=c.length∧b=((cG c (n+1) z).length,cG c (n+1) z,b8 c,bY c,cK c,dh c,())) ?_ c.length _ _ ⟨t,0,rfl,.zero,by omega,rfl⟩
 rintro rec n _ _ ⟨z,d,rfl,hp,hn,rfl⟩ ih
 have hshort:=hp.short hs ht Dq
 obtain ⟨b,jh,eW,Dm⟩:=agm hc z
 have zK:=Vt (c:=c) z
 have hvl:=nh hs ht Dq (n:=n+1) hp
 have e : (run rec (FH76 z (b8 c) (bY c) (cK c) (dh c)) : Option D76) = cW (ak (FH104 z (b8 c) (bY c) (cK c) (dh c))) fun y0 => u9 (((y0.2.1 : Nat) : Int) == 0) (some (1, [z], y0.2.2.2.1, y0.2.2.2.2.1, y0.2.2.2.2.2.1, y0.2.2.2.2.2.2.1, ()))
   (cW (iter (fun a=>run rec (gH76_0 a)) (0,y0.1,y0.2.1,((y0.2.1:Nat):Int),(0:Int),[],y0.2.2.1,y0.2.2.2.1,y0.2.2.2.2.1,y0.2.2.2.2.2.1,y0.2.2.2.2.2.2.1,())) fun z2=>cW (ak (FH105 z2.1 z2.2.1)) fun y3=>some (z2.1,y3.1,z2.2.2.1,z2.2.2.2.1,z2.2.2.2.2.1,z2.2.2.2.2.2.1,())):=rfl
 refine Eq.trans (α:=Option D76) e ?_
 rw [ag Dm]
 simp only [aS]
 cases hl:iD c z with
 |nil =>
  have hv:cG c (n+1) z=[z]:=by unfold cG;rw [hl]
  rw [hv];rfl
 |cons k0 l0 =>
  have hlen:(iD c z).length=l0.length+1:=by rw [hl];rfl
  rw [←hl,if_neg (by omega)]
  have hv:cG c (n+1) z=oZ .str ((iD c z).flatMap (cG c n)):=by
   conv=>lhs;unfold cG
   rw [hl]
  have hfl:((iD c z).flatMap (cG c n)).length≤c.length:=by
   have:=(eA (t:=.str) ((iD c z).flatMap (cG c n))).length_eq
   rw [←hv] at this
   omega
  have hit : iter (fun a => run rec (gH76_0 a)) (0, 0, (iD c z).length, (((iD c z).length : Nat) : Int), (0 : Int), [], b, b8 c, bY c, cK c, dh c, ()) = some (((iD c z).flatMap (cG c n)).length, (iD c z).flatMap (cG c n), b8 c, bY c, cK c, dh c, ()) := (aL (iD c z) (fun k (o : List ByteArray) => (o.length, 0, (iD c z).length, (((iD c z).length : Nat) : Int), (k : Int), o, b, b8 c, bY c, cK c, dh c, ())) (fun o r => ((o ++ r.flatMap (cG c n)).length, o ++ r.flatMap (cG c n), b8 c, bY c, cK c, dh c, ()))
   (fun pre o => o = pre.flatMap (cG c n)) (by
    rintro pre k post _ hx rfl
    have hlen:(iD c z).length=pre.length+(post.length+1):=by rw [hx];simp
    have hd:b.getD pre.length (bs [])=k:=by
     have:(b.take (iD c z).length).getD pre.length (bs [])=k:=by rw [jh,hx];exact aT rfl
     rw [getD_take (by omega)] at this;exact this
    have hkk:k∈kids c z:=wG (by rw [hx];simp)
    have i1:ee (pre.length:Int) (((iD c z).length:Nat):Int)=true:=bJ (by omega) (by omega)
    have r1:eV .i64 ((pre.length:Int)+1)=true:=aH (by omega) (by omega)
    have d1:decide (pre.length<b.length)=true:=decide_eq_true (by omega)
    have Rp:=hp.step hkk
    have hsh:=Rp.short hs ht Dq
    left
    refine ⟨pre.flatMap (cG c n)++cG c n k,?_,by simp,by simp [List.flatMap_cons]⟩
    have e2 : (run rec (gH76_0 ((pre.flatMap (cG c n)).length, 0, (iD c z).length, (((iD c z).length : Nat) : Int), (pre.length : Int), pre.flatMap (cG c n), b, b8 c, bY c, cK c, dh c, ()))) = u9 (decide ((pre.length : Int) < (((iD c z).length : Nat) : Int))) (need (ee (pre.length : Int) (((iD c z).length : Nat) : Int)) (need (decide (0 + Int.toNat (pre.length : Int) < b.length))
      (cW (rec (b.getD (0 + Int.toNat (pre.length : Int)) (bs []), b8 c, bY c, cK c, dh c, ()) : Option D76) fun y1 => need (decide ((pre.flatMap (cG c n)).length + ((y1.2.1.drop 0).take y1.1).length < cg)) (need (eV .i64 ((pre.length : Int) + 1))
       (some (.inl ((pre.flatMap (cG c n)).length+((y1.2.1.drop 0).take y1.1).length,0,(iD c z).length,(((iD c z).length:Nat):Int),(pre.length:Int)+1,(((pre.flatMap (cG c n)).drop 0).take (pre.flatMap (cG c n)).length)++((y1.2.1.drop 0).take y1.1),b,y1.2.2.1,y1.2.2.2.1,y1.2.2.2.2.1,y1.2.2.2.2.2.1,())))))))
      (some (.inr ((pre.flatMap (cG c n)).length,pre.flatMap (cG c n),b8 c,bY c,cK c,dh c,()))):=rfl
    rw [e2,Int.toNat_natCast,Nat.zero_add,hd,i1,af,d1,af,aU,if_pos (by omega)]
    obtain ⟨n',rfl⟩:∃n',n=n'+1:=⟨n - 1,by omega⟩
    have hq:(rec (k,b8 c,bY c,cK c,dh c,()):Option D76)=some ((cG c (n'+1) k).length,cG c (n'+1) k,b8 c,bY c,cK c,dh c,()):=ih n' (k,b8 c,bY c,cK c,dh c,()) _ (by omega) ⟨k,d+1,rfl,Rp,by omega,rfl⟩
    refine bind_eq (A:=D76) hq ?_
    simp only [List.drop_zero,List.take_length,r1,af]
    have hle:(pre.flatMap (cG c (n'+1))).length+(cG c (n'+1) k).length≤c.length:=by
     have:((iD c z).flatMap (cG c (n'+1))).length=(pre.flatMap (cG c (n'+1))).length+((cG c (n'+1) k).length+(post.flatMap (cG c (n'+1))).length):=by rw [hx];simp
     omega
    rw [cz (show _<cg by rw [eB];omega)]
    simp only [List.length_append]
    rfl) (by
    rintro o _
    have e2 : (run rec (gH76_0 (o.length, 0, (iD c z).length, (((iD c z).length : Nat) : Int), (((iD c z).length : Nat) : Int), o, b, b8 c, bY c, cK c, dh c, ()))) = u9 (decide ((((iD c z).length : Nat) : Int) < (((iD c z).length : Nat) : Int))) (need (ee (((iD c z).length : Nat) : Int) (((iD c z).length : Nat) : Int)) (need (decide (0 + Int.toNat (((iD c z).length : Nat) : Int) < b.length))
      (cW (rec (b.getD (0 + Int.toNat (((iD c z).length : Nat) : Int)) (bs []), b8 c, bY c, cK c, dh c, ()) : Option D76) fun y1 => need (decide (o.length + ((y1.2.1.drop 0).take y1.1).length < cg)) (need (eV .i64 ((((iD c z).length : Nat) : Int) + 1))
       (some (.inl (o.length+((y1.2.1.drop 0).take y1.1).length,0,(iD c z).length,(((iD c z).length:Nat):Int),(((iD c z).length:Nat):Int)+1,((o.drop 0).take o.length)++((y1.2.1.drop 0).take y1.1),b,y1.2.2.1,y1.2.2.2.1,y1.2.2.2.2.1,y1.2.2.2.2.2.1,())))))))
      (some (.inr (o.length,o,b8 c,bY c,cK c,dh c,()))):=rfl
    rw [e2,aU,if_neg (by omega)]
    simp) (s:=[]) rfl)
  refine bind_eq (A:=Nat×List ByteArray×Bu×Gg×fQ×fQ×Unit) hit ?_
  simp only [FH105,yA]
  have hsrt:vE .str ((iD c z).flatMap (cG c n)) ((iD c z).flatMap (cG c n)).length=some (oZ .str ((iD c z).flatMap (cG c n)),()):=pG kS (eA _) (pZ kS _) (by omega)
  refine bind_eq hsrt ?_
  rw [hv]
  have hpl:=(eA (t:=.str) ((iD c z).flatMap (cG c n))).length_eq
  rw [hpl]
  rfl
end
end Go.Proofs.Tryz
end
section
namespace Go.Proofs.Tryz
open Go.AM
set_option maxRecDepth 100000
def msg (c:List Mg) (x:ByteArray):Mg:=aA .str zM (b8 c) x
def lG (c:List Mg) (x:ByteArray):Bool:=aQ .str (b8 c) x
section
variable {c:List Mg}
theorem bV {x:ByteArray}:lG c x=true↔x∈ids c:=by
 unfold lG ids
 rw [dD kS]
 constructor
 ·rintro ⟨v, hv⟩
  obtain ⟨m,hm,h⟩:=List.mem_map.1 hv
  exact List.mem_map.2 ⟨m,hm,congrArg Prod.fst h⟩
 ·intro h
  obtain ⟨m,hm,rfl⟩:=List.mem_map.1 h
  exact ⟨m,List.mem_map.2 ⟨m,hm,rfl⟩⟩
theorem fk (hs:SI c) {m:Mg} (hm:m∈c):msg c m.1=m:=gm kS hs.Xw (List.mem_map.2 ⟨m,hm,rfl⟩)
theorem me (hs:SI c) {x:ByteArray} (h:lG c x=true):msg c x∈c∧(msg c x).1=x:=by
 obtain ⟨m,hm,rfl⟩:=List.mem_map.1 (bV.1 h)
 rw [fk hs hm];exact ⟨hm,rfl⟩
theorem lH (hs:SI c) {x:ByteArray} (h:lG c x=true) (hk:(msg c x).2.1=1):RB c x:=by
 intro y hy
 obtain ⟨m,hm,h1,h2,_⟩:=gp.1 hy
 subst h1
 rw [fk hs hm] at hk
 omega
def Am (c : List Mg) : Nat → ByteArray → Option ByteArray
 |0,_=>none
 |n+1,x=>if lG c x=true then (if (msg c x).2.1=3 then none else if eD c x=true then none else if (msg c x).2.1=1 then some x else Am c n (msg c x).2.2.1) else none
theorem FG (hs : SI c) : ∀ {n : Nat} {x t : ByteArray}, Am c n x = some t → lG c t = true ∧ (msg c t).2.1 = 1 ∧ eD c t = false
 |0,_,_,h=>by cases h
 |n+1,x,t,h=>by
  unfold Am at h
  split at h<;>try (cases h;done)
  rename_i h1
  split at h<;>try (cases h;done)
  split at h<;>try (cases h;done)
  rename_i h3
  split at h
  ·rename_i h4;cases h;exact ⟨h1,h4,by simpa using h3⟩
  ·exact FG hs h
abbrev iE (c:List Mg) (x:ByteArray):Option ByteArray:=Am c c.length x
theorem kH74 (hs:SI c) (hc:c.length<1000000) (x:ByteArray):ak (FH74 x (b8 c) (bY c) (cK c) (dh c)) =
  some (match iE c x with|some t=>((fS c t).length,true,fS c t,b8 c,bY c,cK c,dh c,())|none=>(0,false,[],b8 c,bY c,cK c,dh c,())):=by
 have key:∀(l:List (ByteArray×Mg)) (x:ByteArray),∃x',zX (fun e a=>run (fun _=>none) (gH74_0 e a)) l (x,b8 c,bY c,cK c,dh c,()) =
   some (match Am c l.length x with|some t=>.inr ((fS c t).length,true,fS c t,b8 c,bY c,cK c,dh c,())|none=>x') ∧
   (Am c l.length x=none→x' = .inr (0,false,[],b8 c,bY c,cK c,dh c,())∨∃y,x' = .inl (y,b8 c,bY c,cK c,dh c,())):=by
  intro l
  induction l with
  |nil=>intro x;exact ⟨.inl (x,b8 c,bY c,cK c,dh c,()),rfl,fun _=>.inr ⟨x,rfl⟩⟩
  |cons e l ih =>
   intro x
   have hg:run (fun _=>none) (gH74_0 e (x,b8 c,bY c,cK c,dh c,()))=if lG c x=true then (if (msg c x).2.1=3 then some (.inr (0,false,[],b8 c,bY c,cK c,dh c,())) else if eD c x=true then some (.inr (0,false,[],b8 c,bY c,cK c,dh c,())) else if (msg c x).2.1=1 then some (.inr ((fS c x).length,true,fS c x,b8 c,bY c,cK c,dh c,())) else some (.inl ((msg c x).2.2.1,b8 c,bY c,cK c,dh c,()))) else some (.inr (0,false,[],b8 c,bY c,cK c,dh c,())):=by
    simp only [gH74_0,ai,ay,aW,aa,dK,af,aZ,aS,Dg]
    rw [show aQ .str (b8 c) x=lG c x from rfl,show aA .str zM (b8 c) x=msg c x from rfl,jT]
    split
    ·rename_i h1
     split
     ·rfl
     ·rw [jT]
      split
      ·rfl
      ·split
       ·rename_i h4
        rw [ag (QI hs hc (lH hs h1 h4) (bV.1 h1))]
       ·rfl
    ·rfl
   simp only [zX,hg,List.length_cons,Am]
   by_cases h1:lG c x=true
   ·rw [if_pos h1, if_pos h1]
    by_cases h2:(msg c x).2.1=3
    ·rw [if_pos h2,if_pos h2];exact ⟨_,rfl,fun _=>.inl rfl⟩
    ·rw [if_neg h2, if_neg h2]
     by_cases h3:eD c x=true
     ·rw [if_pos h3,if_pos h3];exact ⟨_,rfl,fun _=>.inl rfl⟩
     ·rw [if_neg h3, if_neg h3]
      by_cases h4:(msg c x).2.1=1
      ·rw [if_pos h4,if_pos h4];exact ⟨.inr (0,false,[],b8 c,bY c,cK c,dh c,()),rfl,fun h=>by cases h⟩
      ·rw [if_neg h4,if_neg h4];exact ih _
   ·rw [if_neg h1,if_neg h1];exact ⟨_,rfl,fun _=>.inl rfl⟩
 unfold FH74
 simp only [ay]
 have hmp:∃x',run (fun _=>none) (.mp gH74_0 (b8 c) (x,b8 c,bY c,cK c,dh c,()))=some (match iE c x with|some t=>.inr ((fS c t).length,true,fS c t,b8 c,bY c,cK c,dh c,())|none=>x') ∧
   (iE c x=none→x' = .inr (0,false,[],b8 c,bY c,cK c,dh c,())∨∃y,x' = .inl (y,b8 c,bY c,cK c,dh c,())):=by
  obtain ⟨x',h1,h2⟩:=key (b8 c) x
  have hlen:(b8 c).length=c.length:=List.length_map ..
  rw [hlen] at h1 h2
  refine ⟨x',Eq.trans YQ (gK fun l hp=>?_),h2⟩
  have zK:l.length=(b8 c).length:=hp.length_eq
  have hany:∀(l l':List (ByteArray×Mg)) (a:ByteArray×Bu×Gg×fQ×fQ×Unit),l.length=l'.length→zX (fun e a=>run (fun _=>none) (gH74_0 e a)) l a=zX (fun e a=>run (fun _=>none) (gH74_0 e a)) l' a:=by
   intro l
   induction l with
   |nil =>
    intro l' a h
    cases l' with
    |nil=>rfl
    |cons _ _=>simp at h
   |cons e l ih =>
    intro l' a h
    cases l' with
    |nil=>simp at h
    |cons e' l' =>
     have hs:run (fun _=>none) (gH74_0 e a)=run (fun _=>none) (gH74_0 e' a):=rfl
     simp only [zX,hs]
     split
     ·rfl
     ·exact ih l' _ (by simpa using h)
     ·rfl
  rw [hany l (b8 c) _ zK]
  exact h1
 obtain ⟨x',h1,h2⟩:=hmp
 rw [ag h1]
 cases hst:iE c x with
 |some t=>simp only [gF,aa]
 |none =>
  rcases h2 hst with rfl|⟨y,rfl⟩
  ·simp only [gF,aa]
  ·simp only [jG,aa]
def vO (x:ByteArray) (l:List ByteArray):Bool:=l.any fun y=>decide (y=x)
theorem pJ {x:ByteArray} {l:List ByteArray}:vO x l=true↔x∈l:=by
 unfold vO;rw [List.any_eq_true]
 constructor
 ·rintro ⟨y,hy,h⟩;have:=of_decide_eq_true h;subst this;exact hy
 ·intro h;exact ⟨x,h,decide_eq_true rfl⟩
theorem k75 {l:List ByteArray} (hl:l.length<1000000000) (x:ByteArray):ak (F75 l x)=some (vO x l,()):=by
 have hi:iter (fun a=>run (fun _=>none) (g103_0 a)) (l,x,((l.length:Nat):Int),(0:Int),())=some (match eN (fun y=>decide (y=x)) 0 l with|some k=>Sum.inl (((k:Nat):Int),())|none=>Sum.inr ()):=by
  refine aL l (fun k (_:Nat)=>(l,x,((l.length:Nat):Int),(k:Int),())) (fun k r=>match eN (fun y=>decide (y=x)) k r with|some k=>Sum.inl (((k:Nat):Int),())|none=>Sum.inr ()) (fun pre k=>k=pre.length) ?_ ?_ (s:=0) rfl
  ·rintro pre y post k hx rfl
   have hlen:l.length=pre.length+(post.length+1):=by rw [hx];simp
   have hd:l.getD pre.length (bs [])=y:=by rw [hx];exact aT rfl
   have i1:ee (pre.length:Int) ((l.length:Nat):Int)=true:=bJ (by omega) (by omega)
   have r1:eV .i64 ((pre.length:Int)+1)=true:=aH (by omega) (by omega)
   simp only [g103_0,ai,aP,aG,aa,Int.toNat_natCast,hd,i1,r1,af,aU,seq_eq]
   rw [if_pos (by omega)]
   by_cases h:y=x
   ·right
    rw [if_pos h.symm]
    simp [eN,h]
   ·left
    refine ⟨pre.length+1,?_,by simp,?_⟩
    ·rw [if_neg (fun e=>h e.symm)];rfl
    ·simp [eN,h]
  ·rintro k _
   simp only [g103_0,ai,aU,aa]
   rw [if_neg (by omega)];rfl
 unfold F75 F103
 simp only [ay,bg]
 rcases mc (fun y=>decide (y=x)) l 0 with ⟨p,y,q,h1,h2,h3,h4⟩|⟨h1,h2⟩
 ·rw [h4] at hi
  rw [ag hi]
  have hy:y=x:=by simpa using h3
  simp only [jG,aa,aD]
  congr 2
  rw [Bool.eq_iff_iff,decide_eq_true_eq,pJ]
  exact ⟨fun _=>by rw [h1,hy];simp,fun _=>by omega⟩
 ·rw [h2] at hi
  rw [ag hi]
  simp only [gF,aa,aD]
  congr 2
  rw [Bool.eq_iff_iff,decide_eq_true_eq,pJ]
  refine ⟨fun h=>by omega,fun h=>?_⟩
  have:=h1 x h
  simp at this
def bA (c:List Mg) (x:ByteArray):Int×Int :=
 if lG c x=true then (if (msg c x).2.1=3 then (0,18) else if eD c x=true then (2,0) else match iE c x with
  |none=>(1,0)
  |some t=>if vO x (fS c t)=true then (if 1<(fS c t).length then (5,0) else (4,0)) else (3,0)) else (0,5)
def jv (c:List Mg) (x:ByteArray):List ByteArray×Int:=if lG c x=true then (if (msg c x).2.1=1 then (fS c x,0) else ([],18)) else ([],5)
theorem nW {L:List Mg} (h:jW L):(cnt L).length≤60:=by
 have hn:(cnt L).Nodup:=List.Pairwise.imp (fun {a b} h e=>by subst e;rw [show slt a.1 a.1=false from gu (t:=.str) kS a.1] at h;cases h) (eC L)
 have:=List.Nodup.length_le_of_subset hn (fun m hm=>th hm)
 have:=h.len
 omega
theorem Vu {L:List Mg} (h:jW L) (x:ByteArray):ak (FH32 x (bk L))=some ((bA (cnt L) x).1,(bA (cnt L) x).2,bk L,()):=by
 have hs:=eC L
 have hc:=nW h
 unfold FH32
 simp only [ay,Ia,aD,ai,aV]
 rw [ag (QH h)]
 simp only [aa,aZ,aS,Dg]
 rw [show aQ .str (b8 (cnt L)) x=lG (cnt L) x from rfl,show aA .str zM (b8 (cnt L)) x=msg (cnt L) x from rfl,jT]
 unfold bA
 by_cases h1:lG (cnt L) x=true
 ·rw [if_pos h1, if_pos h1, if_pos trivial]
  by_cases h2:(msg (cnt L) x).2.1=3
  ·rw [if_pos h2,if_pos h2]
  ·rw [if_neg h2, if_neg h2, jT]
   by_cases h3:eD (cnt L) x=true
   ·rw [if_pos h3,if_pos h3]
   ·rw [if_neg h3, if_neg h3]
    rw [ag (kH74 hs (by omega) x)]
    cases hst:iE (cnt L) x with
    |none=>simp
    |some t =>
     obtain ⟨ht1,ht2,_⟩:=FG hs hst
     have hvl:(fS (cnt L) t).length≤(cnt L).length:=nh hs (lH hs ht1 ht2) (bV.1 ht1) .zero
     simp only [aO,List.drop_zero,List.take_length]
     rw [ag (k75 (by omega) x)]
     rw [jT]
     simp only [aU]
     by_cases h4:vO x (fS (cnt L) t)=true
     ·rw [if_pos h4, if_pos h4]
      by_cases h5:1<(fS (cnt L) t).length
      ·rw [if_pos (by omega),if_pos h5]
      ·rw [if_neg (by omega),if_neg h5]
     ·rw [if_neg h4,if_neg h4]
 ·rw [if_neg h1,if_neg h1,if_neg (by omega)]
theorem kH33 {L:List Mg} (h:jW L) (x:ByteArray):ak (FH33 x (bk L))=some ((jv (cnt L) x).1.length,(jv (cnt L) x).2,(jv (cnt L) x).1,bk L,()):=by
 have hs:=eC L
 have hc:=nW h
 unfold FH33
 simp only [ay,Ia,aD,ai,aV]
 rw [ag (QH h)]
 simp only [aa,aZ,aS]
 rw [show aQ .str (b8 (cnt L)) x=lG (cnt L) x from rfl,show aA .str zM (b8 (cnt L)) x=msg (cnt L) x from rfl,jT]
 unfold jv
 by_cases h1:lG (cnt L) x=true
 ·rw [if_pos h1, if_pos h1, if_pos trivial]
  by_cases h2:(msg (cnt L) x).2.1=1
  ·rw [if_pos h2,if_pos h2,ag (QI hs (by omega) (lH hs h1 h2) (bV.1 h1))]
  ·rw [if_neg h2,if_neg h2];rfl
 ·rw [if_neg h1,if_neg h1,if_neg (by omega)];rfl
theorem An {L:List Mg} (h:jW L) (x:ByteArray) (n:Int):ak (FH40 x n (bk L))=some (decide (bA (cnt L) x=(n,0)),bk L,()):=by
 unfold FH40
 simp only [ay]
 rw [ag (Vu h x)]
 simp only [ai,aa,aS]
 by_cases h1:(bA (cnt L) x).2=0
 ·rw [if_pos h1]
  congr 2
  rw [Bool.eq_iff_iff,beq_iff_eq,decide_eq_true_eq]
  exact ⟨fun h=>Prod.ext h h1,fun h=>by rw [h]⟩
 ·rw [if_neg h1]
  congr 2
  exact (decide_eq_false fun h=>h1 (by rw [h])).symm
end
end Go.Proofs.Tryz
end
section
namespace Go.Proofs.Tryz
open Go.AM
set_option maxRecDepth 100000
abbrev Zs:=List (Int×Unit)
abbrev kI:bL (.int .i64)=some [.i]:=rfl
def lS (l:Zs) (n:Int) (nx:Zs):Zs:=l.foldl (fun nx e=>bp (.int .i64) nx (e.1+n) ()) nx
def CZ (z:Zs):Prop:=gV (.int .i64) z
def wH (Z:Zs) (z:Int):Prop:=(z,())∈Z
theorem CZ.put {Z:Zs} (h:CZ Z) (z:Int):CZ (bp (.int .i64) Z z ()):=gV.iC kI h
theorem wI {Z:Zs} (h:CZ Z) {z y:Int}:wH (bp (.int .i64) Z z ()) y↔y=z∨wH Z y:=by
 unfold wH
 rw [gn kI h]
 constructor
 ·rintro (e | ⟨h, _⟩)
  ·cases e;exact .inl rfl
  ·exact .inr h
 ·by_cases e : y = z
  ·subst e;exact fun _=>.inl rfl
  ·rintro (e' | h)
   ·exact absurd e' e
   ·exact .inr ⟨h,e⟩
theorem mg {n : Int} : ∀ {l nx : Zs}, CZ nx → CZ (lS l n nx) ∧ ∀ z, wH (lS l n nx) z ↔ wH nx z ∨ ∃ x, wH l x ∧ z = x + n
 |[],nx,h=>⟨h,fun z=>by simp [lS,wH]⟩
 |e::l,nx,h=>by
  obtain ⟨h1,h2⟩:=mg (n:=n) (l:=l) (h.put (e.1+n))
  refine ⟨h1,fun z=>?_⟩
  have h3:lS (e::l) n nx=lS l n (bp (.int .i64) nx (e.1+n) ()):=rfl
  rw [h3,h2,wI h]
  constructor
  ·rintro ((h | h) | ⟨x, hx, h⟩)
   ·exact .inr ⟨e.1,List.mem_cons_self ..,h⟩
   ·exact .inl h
   ·exact .inr ⟨x,List.mem_cons_of_mem _ hx,h⟩
  ·rintro (h | ⟨x, hx, h⟩)
   ·exact .inl (.inr h)
   ·rcases List.mem_cons.1 hx with e' | hx
    ·exact .inl (.inl (by rw [h,←e']))
    ·exact .inr ⟨x,hx,h⟩
theorem CZ.ext {Z Z':Zs} (h:CZ Z) (h':CZ Z') (hz:∀z,wH Z z↔wH Z' z):Z=Z':=J4 kI h h' fun e=>hz e.1
theorem Bx {l l' nx:Zs} {n:Int} (h:CZ nx) (hp:l.Perm l'):lS l n nx=lS l' n nx :=
 (mg h).1.ext (mg h).1 fun z=>by
  rw [(mg h).2,(mg h).2]
  exact or_congr_right ⟨fun ⟨x,hx,e⟩=>⟨x,hp.mem_iff.1 hx,e⟩,fun ⟨x,hx,e⟩=>⟨x,hp.mem_iff.2 hx,e⟩⟩
def jw (f:ByteArray→Int) (can:Zs) (vs:List ByteArray):Zs:=vs.foldl (fun nx v=>lS can (f v) nx) []
theorem FH {f : ByteArray → Int} {can : Zs} : ∀ {vs : List ByteArray} {nx : Zs}, CZ nx → CZ (vs.foldl (fun nx v => lS can (f v) nx) nx) ∧ ∀ z, wH (vs.foldl (fun nx v => lS can (f v) nx) nx) z ↔ wH nx z ∨ ∃ v ∈ vs, ∃ x, wH can x ∧ z = x + f v
 |[],nx,h=>⟨h,fun z=>by simp⟩
 |v::vs,nx,h=>by
  obtain ⟨h1,h2⟩:=mg (n:=f v) (l:=can) h
  obtain ⟨h3,h4⟩:=FH (f:=f) (can:=can) (vs:=vs) h1
  refine ⟨h3,fun z=>?_⟩
  rw [List.foldl_cons,h4,h2]
  simp only [List.mem_cons,exists_eq_or_imp,or_assoc]
theorem lI {f:ByteArray→Int} {can:Zs} {vs:List ByteArray}:CZ (jw f can vs)∧∀z,wH (jw f can vs) z↔∃v∈vs,∃x,wH can x∧z=x+f v:=by
 obtain ⟨h1,h2⟩:=FH (f:=f) (can:=can) (vs:=vs) (nx:=[]) .nil
 exact ⟨h1,fun z=>(h2 z).trans (by simp [wH])⟩
def pK (c:List Mg):List ByteArray:=(c.filter fun m=>decide (m.2.1=1)).map (·.1)
def jy (c:List Mg) (f:ByteArray→Int) (ts:List ByteArray) (can:Zs):Zs:=ts.foldl (fun can t=>jw f can (fS c t)) can
def eO:Zs:=bp (.int .i64) [] 0 ()
def jX (c:List Mg) (f:ByteArray→Int):List Int:=(jy c f (pK c) eO).map (·.1)
theorem dn:CZ eO∧∀z,wH eO z↔z=0:=⟨CZ.put .nil 0,fun z=>(wI .nil).trans (by simp [wH])⟩
theorem wJ {c : List Mg} {f : ByteArray → Int} : ∀ {ts : List ByteArray} {can : Zs}, CZ can → CZ (jy c f ts can)
 |[],_,h=>h
 |t::ts,can,_=>wJ (ts:=ts) lI.1
def BZ (B:Int) (Z:Zs):Prop:=∀z,wH Z z → -B≤z∧z≤B
theorem tr {f:ByteArray→Int} {can:Zs} {vs:List ByteArray} {B:Int} (h:BZ B can) (hf:∀v∈vs,-1000≤f v∧f v≤1000):BZ (B+1000) (jw f can vs):=fun z hz=>by
 obtain ⟨v,hv,x,hx,rfl⟩:=(lI.2 z).1 hz
 have:=h x hx;have:=hf v hv;omega
section
variable {c:List Mg}
theorem Kb (hs:SI c) {t v:ByteArray} (ht:lG c t=true) (hk:(msg c t).2.1=1) (hv:v∈fS c t):lG c v=true∧((msg c v).2.1=1∨(msg c v).2.1=2):=by
 have hd:=nc hv
 cases hd with
 |refl=>exact ⟨ht,.inl hk⟩
 |step _ hz =>
  obtain ⟨m,hm,h1,h2,_⟩:=gp.1 hz
  subst h1
  exact ⟨bV.2 (List.mem_map.2 ⟨m,hm,rfl⟩),.inr (by rw [fk hs hm];exact h2)⟩
theorem Vv {m:Mg} (h:qc m=0) (hk:m.2.1=1∨m.2.1=2) : -1000≤m.2.2.2.2∧m.2.2.2.2≤1000:=by
 unfold qc at h
 split at h
 ·cases h
 split at h
 ·unfold Al at h
  have h3:jr m=0:=by
   by_cases h1:lE m=0
   ·by_cases h2 : jr m = 0
    ·exact h2
    ·simp [h1,h2] at h
   ·simp [h1] at h
  unfold jr at h3
  rw [if_neg (by omega)] at h3
  split at h3
  ·split at h3
   ·assumption
   ·cases h3
  ·cases h3
 ·cases h
def fA (c:List Mg) (a v:ByteArray):Int:=if (msg c v).2.2.2.1=a then (msg c v).2.2.2.2 else 0
def fT (c:List Mg) (v:ByteArray):Int:=(msg c v).2.2.2.2
def Xy (c:List Mg) (f:ByteArray→Int):Prop:=∀t v,lG c t=true→(msg c t).2.1=1→v∈fS c t → -1000≤f v∧f v≤1000
theorem bndT (hs:SI c) (hc:∀m∈c,qc m=0):Xy c (fT c):=fun t v h1 h2 h3=>by
 obtain ⟨h4,h5⟩:=Kb hs h1 h2 h3
 exact Vv (hc _ (me hs h4).1) h5
theorem abh (hs:SI c) (hc:∀m∈c,qc m=0) (a:ByteArray):Xy c (fA c a):=fun t v h1 h2 h3=>by
 have:=bndT hs hc t v h1 h2 h3
 unfold fA;unfold fT at this
 split<;>omega
theorem k68 (m:Mg) (a:ByteArray):ak (F68 m a)=some (if m.2.2.2.1=a then m.2.2.2.2 else 0,()):=by
 simp only [F68,ai,aa,aZ,seq_eq,aU]
 split<;>rfl
theorem k78 (m:Mg):ak (F78 m)=some (m.2.2.2.2,()):=rfl
theorem Ke (z:Int) (m:Zs):ak (FH100 z m)=some (bp (.int .i64) m z (),()):=rfl
theorem Xz {Z:Zs} (h:CZ Z) (hl:Z.length<1000000000):ak (FH102 Z)=some (Z.length,Z.map (·.1),Z,()):=by
 unfold FH102
 refine Eq.trans CB (gK fun l hp=>?_)
 have zK:l.length=Z.length:=hp.length_eq
 simp only [ay,CC]
 refine bind_eq (sY (m:=Z) (l:=l) (by rw [zK];exact hl) fun e n b hn=>?_) ?_
 ·simp only [gH102f121f133_0i_0, aW, aa, dK, af]
  rw [cz (show _<cg by rw [eB];simp;omega)]
  rfl
 ·simp only [FH122, yA]
  have hpk:(Z.map (·.1)).Perm (l.map (·.1)):=(hp.map (·.1)).symm
  have:=pG kI hpk (gV.keys kI h) (by rw [List.length_map];omega)
  rw [List.length_map] at this
  rw [ag this,zK]
  rfl
theorem Ig {Z:Zs} {B:Nat} (h:CZ Z) (hb:BZ (B:Int) Z):Z.length≤2 * B+1:=by
 have hn:(Z.map (·.1)).Nodup:=by
  unfold List.Nodup
  rw [List.pairwise_map]
  exact List.Pairwise.imp (fun {a b} h e=>by rw [e,gu kI] at h;cases h) h
 have h2:((Z.map (·.1)).map fun z:Int=>(z+(B:Int)).toNat).Nodup:=by
  unfold List.Nodup
  rw [List.pairwise_map]
  refine List.Pairwise.imp_of_mem (fun {a b} ha hb' hab e=>hab ?_) hn
  obtain ⟨p,hp,rfl⟩:=List.mem_map.1 ha
  obtain ⟨q,hq,rfl⟩:=List.mem_map.1 hb'
  have h3:=hb p.1 hp
  have h4:=hb q.1 hq
  omega
 have:=List.Nodup.length_le_of_subset h2 (l₂:=List.range (2 * B+1)) fun z hz=>by
  obtain ⟨y,hy,rfl⟩:=List.mem_map.1 hz
  obtain ⟨p,hp,rfl⟩:=List.mem_map.1 hy
  have h3:=hb p.1 hp
  rw [List.mem_range];omega
 simpa using this
theorem kA67 {a:ByteArray} {nv:Nat} {w1 w2 n:Int} {qi jA:List ByteArray} {can nx:Zs} (hx:CZ nx) (hb:BZ 1000000 can) (hn : -1000≤n∧n≤1000):ak (gH67_0b_2 (nv,w1,w2,n,qi,b8 c,bY c,cK c,dh c,a,jA,can,nx,()))=some (nv,w1,w2,qi,b8 c,bY c,cK c,dh c,a,jA,can,lS can n nx,()):=by
 unfold gH67_0b_2
 simp only [ay]
 refine bind_eq (Eq.trans Hl (gK (b:=(nv,w1,w2,can,b8 c,bY c,cK c,dh c,a,n,qi,jA,lS can n nx,())) fun l hp=>?_)) rfl
 have key:∀(l:Zs) (nx:Zs),(∀e∈l,e∈can)→AW (fun e a=>run (fun _=>none) (gH67_0b_2i_0 e a)) l (nv,w1,w2,can,b8 c,bY c,cK c,dh c,a,n,qi,jA,nx,())=some (nv,w1,w2,can,b8 c,bY c,cK c,dh c,a,n,qi,jA,lS l n nx,()):=by
  intro l
  induction l with
  |nil=>intro nx _;rfl
  |cons e l ih =>
   intro nx hm
   have hz:=hb e.1 (hm e (List.mem_cons_self ..))
   have hs:run (fun _=>none) (gH67_0b_2i_0 e (nv,w1,w2,can,b8 c,bY c,cK c,dh c,a,n,qi,jA,nx,()))=some (nv,w1,w2,can,b8 c,bY c,cK c,dh c,a,n,qi,jA,bp (.int .i64) nx (e.1+n) (),()):=by
    simp only [gH67_0b_2i_0,aG,ay,aW,aa,Ke,aD,dK,af]
    rw [gA (aH (by omega) (by omega))]
   simp only [AW,hs]
   exact ih _ fun e he=>hm e (List.mem_cons_of_mem _ he)
 rw [key l nx fun e he=>hp.mem_iff.1 he,Bx hx hp]
theorem kB67 {a:ByteArray} {jA:List ByteArray} {can:Zs} {vs:List ByteArray} (hvl:vs.length<1000000) (hb:BZ 1000000 can) (hf:∀v∈vs,-1000≤fA c a v∧fA c a v≤1000) :
  iter (fun x=>ak (gH67_0b_1 x)) (vs.length,((vs.length:Nat):Int),(0:Int),vs,b8 c,bY c,cK c,dh c,a,jA,can,[],())=some (b8 c,bY c,cK c,dh c,a,jA,vs,can,jw (fA c a) can vs,()):=by
 refine aL vs (fun k (nx:Zs)=>(vs.length,((vs.length:Nat):Int),(k:Int),vs,b8 c,bY c,cK c,dh c,a,jA,can,nx,())) (fun nx r=>(b8 c,bY c,cK c,dh c,a,jA,vs,can,r.foldl (fun nx v=>lS can (fA c a v) nx) nx,())) (fun _ nx=>CZ nx) ?_ ?_ (s:=[]) .nil
 ·intro pre v post nx hx IX
  have hlen:vs.length=pre.length+(post.length+1):=by rw [hx];simp
  have hd:vs.getD pre.length (bs [])=v:=by rw [hx];exact aT rfl
  have i1:ee (pre.length:Int) ((vs.length:Nat):Int)=true:=bJ (by omega) (by omega)
  have r1:eV .i64 ((pre.length:Int)+1)=true:=aH (by omega) (by omega)
  have d1:decide (pre.length<vs.length)=true:=decide_eq_true (by omega)
  left
  refine ⟨lS can (fA c a v) nx,?_,(mg IX).1,rfl⟩
  simp only [gH67_0b_1,ai,aP,aW,aG,ay,aa,Int.toNat_natCast,Nat.zero_add,hd,i1,d1,af,aU,FH101,FH120,aD]
  rw [if_pos (by omega)]
  rw [ag (show ak (F68 ((aA .str zM (b8 c) v).1,(aA .str zM (b8 c) v).2.1,(aA .str zM (b8 c) v).2.2.1,(aA .str zM (b8 c) v).2.2.2.1,(aA .str zM (b8 c) v).2.2.2.2) a)=some (fA c a v,()) from k68 _ _)]
  rw [ag (kA67 IX hb (hf v (by rw [hx];simp)))]
  simp only [r1,af]
  rfl
 ·intro nx _
  simp only [gH67_0b_1,ai,aa,aU]
  rw [if_neg (by omega)]
  rfl
theorem kC67 {a:ByteArray} (hs:SI c) (hl:c.length≤60) (hB:Xy c (fA c a)):iter (fun x=>ak (gH67_0i_0 x)) (c.length,((c.length:Nat):Int),(0:Int),c.map (·.1),b8 c,bY c,cK c,dh c,a,eO,()) =
  some (b8 c,bY c,cK c,dh c,a,jy c (fA c a) (pK c) eO,()):=by
 have zK:(c.map (·.1)).length=c.length:=List.length_map ..
 refine aL c (fun k (can:Zs)=>(c.length,((c.length:Nat):Int),(k:Int),c.map (·.1),b8 c,bY c,cK c,dh c,a,can,())) (fun can r=>(b8 c,bY c,cK c,dh c,a,jy c (fA c a) ((r.filter fun m=>decide (m.2.1=1)).map (·.1)) can,())) (fun pre can=>CZ can∧BZ (1000 * (pre.length:Int)) can) ?_ ?_ (s:=eO) ⟨dn.1,fun z hz=>by rw [(dn.2 z).1 hz];simp⟩
 ·rintro pre m post can hx ⟨Vw, hbz⟩
  have hlen:c.length=pre.length+(post.length+1):=by rw [hx];simp
  have hm:m∈c:=by rw [hx];simp
  have hd:(c.map (·.1)).getD pre.length (bs [])=m.1:=by rw [hx,List.map_append,List.map_cons];exact aT (by simp)
  have hg:aA .str zM (b8 c) m.1=m:=fk hs hm
  have i1:ee (pre.length:Int) ((c.length:Nat):Int)=true:=bJ (by omega) (by omega)
  have r1:eV .i64 ((pre.length:Int)+1)=true:=aH (by omega) (by omega)
  have d1:decide (pre.length<(c.map (·.1)).length)=true:=decide_eq_true (by omega)
  have hpl:((pre++[m]).length:Int)=(pre.length:Int)+1:=by simp
  left
  by_cases hk:m.2.1=1
  ·have him : lG c m.1 = true := bV.2 (List.mem_map.2 ⟨m, hm, rfl⟩)
   have hkm:(msg c m.1).2.1=1:=by rw [fk hs hm];exact hk
   have hvl:(fS c m.1).length≤c.length:=nh hs (lH hs him hkm) (bV.1 him) .zero
   refine ⟨jw (fA c a) can (fS c m.1),?_,⟨lI.1,?_⟩,?_⟩
   ·simp only [gH67_0i_0, ai, aP, aW, aG, ay, bg, aa, Int.toNat_natCast, Nat.zero_add, hd, hg, i1, d1, af, aU, aS]
    rw [if_pos (by omega),if_pos hk,ag (QI hs (by omega) (lH hs him hkm) (bV.1 him))]
    rw [ag (kB67 (vs:=fS c m.1) (by omega) (fun z hz=>by have:=hbz z hz;omega) (fun v hv=>hB m.1 v him hkm hv))]
    simp only [r1,af]
    rfl
   ·have := tr (f := (fA c a)) (vs := fS c m.1) hbz fun v hv => hB m.1 v him hkm hv
    intro z hz
    have:=this z hz
    omega
   ·rw [List.filter_cons_of_pos (by simpa using hk)]
    rfl
  ·refine ⟨can, ?_, ⟨Vw, fun z hz => by have := hbz z hz; omega⟩, ?_⟩
   ·simp only [gH67_0i_0, ai, aP, aW, aG, ay, bg, aa, Int.toNat_natCast, Nat.zero_add, hd, hg, i1, d1, r1, af, aU, aS]
    rw [if_pos (by omega),if_neg hk]
    rfl
   ·rw [List.filter_cons_of_neg (by simpa using hk)]
 ·rintro can _
  simp only [gH67_0i_0,ai,aa,aU]
  rw [if_neg (by omega)]
  rfl
theorem kH67 {a:ByteArray} (hs:SI c) (hl:c.length≤60) (hB:Xy c (fA c a)):ak (FH67 a (b8 c) (bY c) (cK c) (dh c))=some ((jX c (fA c a)).length,jX c (fA c a),b8 c,bY c,cK c,dh c,a,()):=by
 have Vw:CZ (jy c (fA c a) (pK c) eO):=wJ dn.1
 have hbz:BZ 1000000 (jy c (fA c a) (pK c) eO):=by
  have key:∀(ts:List ByteArray) (can:Zs) (B:Int),(∀t∈ts,lG c t=true∧(msg c t).2.1=1)→BZ B can→BZ (B+1000 * ts.length) (jy c (fA c a) ts can):=by
   intro ts
   induction ts with
   |nil=>intro can B _ h;simpa [jy] using h
   |cons t ts ih =>
    intro can B ht h
    have h1:=ht t (List.mem_cons_self ..)
    have:=ih (jw (fA c a) can (fS c t)) (B+1000) (fun t h=>ht t (List.mem_cons_of_mem _ h)) (tr h fun v hv=>hB t v h1.1 h1.2 hv)
    intro z hz
    have:=this z hz
    simp only [List.length_cons]
    omega
  have h1:=key (pK c) eO 0 (fun t ht=>by
   obtain ⟨m,hm,rfl⟩:=List.mem_map.1 ht
   obtain ⟨h1,h2⟩:=List.mem_filter.1 hm
   exact ⟨bV.2 (List.mem_map.2 ⟨m,h1,rfl⟩),by rw [fk hs h1];simpa using h2⟩) (fun z hz=>by rw [(dn.2 z).1 hz];simp)
  have hle:(pK c).length≤c.length:=by unfold pK;rw [List.length_map];exact List.length_filter_le ..
  intro z hz
  have:=h1 z hz
  omega
 have hlen:=Ig (B:=1000000) Vw (by simpa using hbz)
 unfold FH67 gH67_0
 simp only [ay,Ke,aD,FH79,FH95,aa,bg]
 rw [ag (Vn hs (by omega))]
 refine bind_eq (bind_eq (kC67 hs hl hB) rfl) ?_
 simp only [aD,FH101,FH120,ay,aa]
 rw [ag (Xz Vw (by omega))]
 unfold jX
 rw [List.length_map]
theorem Vx {nv:Nat} {w1 w2 n:Int} {qi jA:List ByteArray} {can nx:Zs} (hx:CZ nx) (hb:BZ 1000000 can) (hn : -1000≤n∧n≤1000):ak (gH67_v1_0b_2 (nv,w1,w2,n,qi,b8 c,bY c,cK c,dh c,jA,can,nx,()))=some (nv,w1,w2,qi,b8 c,bY c,cK c,dh c,jA,can,lS can n nx,()):=by
 unfold gH67_v1_0b_2
 simp only [ay]
 refine bind_eq (Eq.trans Hl (gK (b:=(nv,w1,w2,can,b8 c,bY c,cK c,dh c,n,qi,jA,lS can n nx,())) fun l hp=>?_)) rfl
 have key:∀(l:Zs) (nx:Zs),(∀e∈l,e∈can)→AW (fun e a=>run (fun _=>none) (gH67_v1_0b_2i_0 e a)) l (nv,w1,w2,can,b8 c,bY c,cK c,dh c,n,qi,jA,nx,())=some (nv,w1,w2,can,b8 c,bY c,cK c,dh c,n,qi,jA,lS l n nx,()):=by
  intro l
  induction l with
  |nil=>intro nx _;rfl
  |cons e l ih =>
   intro nx hm
   have hz:=hb e.1 (hm e (List.mem_cons_self ..))
   have hs:run (fun _=>none) (gH67_v1_0b_2i_0 e (nv,w1,w2,can,b8 c,bY c,cK c,dh c,n,qi,jA,nx,()))=some (nv,w1,w2,can,b8 c,bY c,cK c,dh c,n,qi,jA,bp (.int .i64) nx (e.1+n) (),()):=by
    simp only [gH67_v1_0b_2i_0,aG,ay,aW,aa,Ke,aD,dK,af]
    rw [gA (aH (by omega) (by omega))]
   simp only [AW,hs]
   exact ih _ fun e he=>hm e (List.mem_cons_of_mem _ he)
 rw [key l nx fun e he=>hp.mem_iff.1 he,Bx hx hp]
theorem Vy {jA:List ByteArray} {can:Zs} {vs:List ByteArray} (hvl:vs.length<1000000) (hb:BZ 1000000 can) (hf:∀v∈vs,-1000≤fT c v∧fT c v≤1000) :
  iter (fun x=>ak (gH67_v1_0b_1 x)) (vs.length,((vs.length:Nat):Int),(0:Int),vs,b8 c,bY c,cK c,dh c,jA,can,[],())=some (b8 c,bY c,cK c,dh c,jA,vs,can,jw (fT c) can vs,()):=by
 refine aL vs (fun k (nx:Zs)=>(vs.length,((vs.length:Nat):Int),(k:Int),vs,b8 c,bY c,cK c,dh c,jA,can,nx,())) (fun nx r=>(b8 c,bY c,cK c,dh c,jA,vs,can,r.foldl (fun nx v=>lS can (fT c v) nx) nx,())) (fun _ nx=>CZ nx) ?_ ?_ (s:=[]) .nil
 ·intro pre v post nx hx IX
  have hlen:vs.length=pre.length+(post.length+1):=by rw [hx];simp
  have hd:vs.getD pre.length (bs [])=v:=by rw [hx];exact aT rfl
  have i1:ee (pre.length:Int) ((vs.length:Nat):Int)=true:=bJ (by omega) (by omega)
  have r1:eV .i64 ((pre.length:Int)+1)=true:=aH (by omega) (by omega)
  have d1:decide (pre.length<vs.length)=true:=decide_eq_true (by omega)
  left
  refine ⟨lS can (fT c v) nx,?_,(mg IX).1,rfl⟩
  simp only [gH67_v1_0b_1,ai,aP,aW,aG,ay,aa,Int.toNat_natCast,Nat.zero_add,hd,i1,d1,af,aU,FH101,FH120,aD]
  rw [if_pos (by omega)]
  rw [ag (show ak (F78 ((aA .str zM (b8 c) v).1,(aA .str zM (b8 c) v).2.1,(aA .str zM (b8 c) v).2.2.1,(aA .str zM (b8 c) v).2.2.2.1,(aA .str zM (b8 c) v).2.2.2.2))=some (fT c v,()) from k78 _)]
  rw [ag (Vx IX hb (hf v (by rw [hx];simp)))]
  simp only [r1,af]
  rfl
 ·intro nx _
  simp only [gH67_v1_0b_1,ai,aa,aU]
  rw [if_neg (by omega)]
  rfl
theorem Vz (hs:SI c) (hl:c.length≤60) (hB:Xy c (fT c)):iter (fun x=>ak (gH67_v1_0i_0 x)) (c.length,((c.length:Nat):Int),(0:Int),c.map (·.1),b8 c,bY c,cK c,dh c,eO,()) =
  some (b8 c,bY c,cK c,dh c,jy c (fT c) (pK c) eO,()):=by
 have zK:(c.map (·.1)).length=c.length:=List.length_map ..
 refine aL c (fun k (can:Zs)=>(c.length,((c.length:Nat):Int),(k:Int),c.map (·.1),b8 c,bY c,cK c,dh c,can,())) (fun can r=>(b8 c,bY c,cK c,dh c,jy c (fT c) ((r.filter fun m=>decide (m.2.1=1)).map (·.1)) can,())) (fun pre can=>CZ can∧BZ (1000 * (pre.length:Int)) can) ?_ ?_ (s:=eO) ⟨dn.1,fun z hz=>by rw [(dn.2 z).1 hz];simp⟩
 ·rintro pre m post can hx ⟨Vw, hbz⟩
  have hlen:c.length=pre.length+(post.length+1):=by rw [hx];simp
  have hm:m∈c:=by rw [hx];simp
  have hd:(c.map (·.1)).getD pre.length (bs [])=m.1:=by rw [hx,List.map_append,List.map_cons];exact aT (by simp)
  have hg:aA .str zM (b8 c) m.1=m:=fk hs hm
  have i1:ee (pre.length:Int) ((c.length:Nat):Int)=true:=bJ (by omega) (by omega)
  have r1:eV .i64 ((pre.length:Int)+1)=true:=aH (by omega) (by omega)
  have d1:decide (pre.length<(c.map (·.1)).length)=true:=decide_eq_true (by omega)
  have hpl:((pre++[m]).length:Int)=(pre.length:Int)+1:=by simp
  left
  by_cases hk:m.2.1=1
  ·have him : lG c m.1 = true := bV.2 (List.mem_map.2 ⟨m, hm, rfl⟩)
   have hkm:(msg c m.1).2.1=1:=by rw [fk hs hm];exact hk
   have hvl:(fS c m.1).length≤c.length:=nh hs (lH hs him hkm) (bV.1 him) .zero
   refine ⟨jw (fT c) can (fS c m.1),?_,⟨lI.1,?_⟩,?_⟩
   ·simp only [gH67_v1_0i_0, ai, aP, aW, aG, ay, bg, aa, Int.toNat_natCast, Nat.zero_add, hd, hg, i1, d1, af, aU, aS]
    rw [if_pos (by omega),if_pos hk,ag (QI hs (by omega) (lH hs him hkm) (bV.1 him))]
    rw [ag (Vy (vs:=fS c m.1) (by omega) (fun z hz=>by have:=hbz z hz;omega) (fun v hv=>hB m.1 v him hkm hv))]
    simp only [r1,af]
    rfl
   ·have := tr (f := (fT c)) (vs := fS c m.1) hbz fun v hv => hB m.1 v him hkm hv
    intro z hz
    have:=this z hz
    omega
   ·rw [List.filter_cons_of_pos (by simpa using hk)]
    rfl
  ·refine ⟨can, ?_, ⟨Vw, fun z hz => by have := hbz z hz; omega⟩, ?_⟩
   ·simp only [gH67_v1_0i_0, ai, aP, aW, aG, ay, bg, aa, Int.toNat_natCast, Nat.zero_add, hd, hg, i1, d1, r1, af, aU, aS]
    rw [if_pos (by omega),if_neg hk]
    rfl
   ·rw [List.filter_cons_of_neg (by simpa using hk)]
 ·rintro can _
  simp only [gH67_v1_0i_0,ai,aa,aU]
  rw [if_neg (by omega)]
  rfl
theorem VA (hs:SI c) (hl:c.length≤60) (hB:Xy c (fT c)):ak (FH67_v1 (b8 c) (bY c) (cK c) (dh c))=some ((jX c (fT c)).length,jX c (fT c),b8 c,bY c,cK c,dh c,()):=by
 have Vw:CZ (jy c (fT c) (pK c) eO):=wJ dn.1
 have hbz:BZ 1000000 (jy c (fT c) (pK c) eO):=by
  have key:∀(ts:List ByteArray) (can:Zs) (B:Int),(∀t∈ts,lG c t=true∧(msg c t).2.1=1)→BZ B can→BZ (B+1000 * ts.length) (jy c (fT c) ts can):=by
   intro ts
   induction ts with
   |nil=>intro can B _ h;simpa [jy] using h
   |cons t ts ih =>
    intro can B ht h
    have h1:=ht t (List.mem_cons_self ..)
    have:=ih (jw (fT c) can (fS c t)) (B+1000) (fun t h=>ht t (List.mem_cons_of_mem _ h)) (tr h fun v hv=>hB t v h1.1 h1.2 hv)
    intro z hz
    have:=this z hz
    simp only [List.length_cons]
    omega
  have h1:=key (pK c) eO 0 (fun t ht=>by
   obtain ⟨m,hm,rfl⟩:=List.mem_map.1 ht
   obtain ⟨h1,h2⟩:=List.mem_filter.1 hm
   exact ⟨bV.2 (List.mem_map.2 ⟨m,h1,rfl⟩),by rw [fk hs h1];simpa using h2⟩) (fun z hz=>by rw [(dn.2 z).1 hz];simp)
  have hle:(pK c).length≤c.length:=by unfold pK;rw [List.length_map];exact List.length_filter_le ..
  intro z hz
  have:=h1 z hz
  omega
 have hlen:=Ig (B:=1000000) Vw (by simpa using hbz)
 unfold FH67_v1 gH67_v1_0
 simp only [ay,Ke,aD,FH79,FH95,aa,bg]
 rw [ag (Vn hs (by omega))]
 refine bind_eq (bind_eq (Vz hs hl hB) rfl) ?_
 simp only [aD,FH101,FH120,ay,aa]
 rw [ag (Xz Vw (by omega))]
 unfold jX
 rw [List.length_map]
def mE (c:List Mg) (a:ByteArray):List Int×Int:=if iw a=true then (jX c (fA c a),0) else ([],8)
theorem tu {L:List Mg} (h:jW L):∀m∈cnt L,qc m=0:=fun m hm=>h.qc m (th hm)
theorem QJ {L:List Mg} (h:jW L) {a:ByteArray} (ha:Sh a):ak (FH23 a (bk L))=some ((mE (cnt L) a).1.length,(mE (cnt L) a).2,(mE (cnt L) a).1,bk L,()):=by
 unfold FH23
 simp only [ay,Ia,aD,ai,aV,k65 a ha,aZ]
 rw [jT]
 unfold mE
 split
 ·rw [ag (QH h)]
  simp only
  rw [ag (kH67 (eC L) (nW h) (abh (eC L) (tu h) a))]
  rfl
 ·rfl
end
end Go.Proofs.Tryz
end
section
namespace Go.Proofs.Tryz
open Go.AM
set_option maxRecDepth 100000
def Kf (l:List Int):Int×Int:=(l.getD 0 0,l.getD (l.length - 1) 0)
theorem k72 {l:List Int} (h0:0<l.length) (hl:l.length<1000000000):ak (F72 l)=some (Kf l,()):=by
 unfold F72
 simp only [aP,aG,aa]
 rw [bJ (by omega) (by omega),af,gA (aH (by omega) (by omega)),bJ (by omega) (by omega),af]
 rw [show ((l.length:Int) - 1).toNat=l.length - 1 by omega]
 rfl
section
variable {c:List Mg}
theorem QK {f:ByteArray→Int} {can:Zs} {vs:List ByteArray} (hc:∃z,wH can z) (hv:vs≠[]):∃z,wH (jw f can vs) z:=by
 obtain ⟨z,hz⟩:=hc
 cases vs with
 |nil=>exact absurd rfl hv
 |cons v vs=>exact ⟨z+f v,(lI.2 _).2 ⟨v,List.mem_cons_self ..,z,hz,rfl⟩⟩
def Kg (c:List Mg) (a:ByteArray):(Int×Int)×Int:=if (mE c a).2=0 then (Kf (mE c a).1,0) else ((0,0),(mE c a).2)
def zx (c:List Mg):Int×Int:=Kf (jX c (fT c))
abbrev Ss:=List (ByteArray×Unit)
def zy (c:List Mg) (vs:List ByteArray) (m:Ss):Ss:=vs.foldl (fun m v=>bp .str m (msg c v).2.2.2.1 ()) m
def uH (c:List Mg) (ts:List ByteArray) (m:Ss):Ss:=ts.foldl (fun m t=>zy c (fS c t) m) m
def Dh (c:List Mg):List ByteArray:=(uH c (pK c) []).map (·.1)
theorem QL {vs:List ByteArray}:∀{m:Ss},gV .str m→gV .str (zy c vs m):=by
 induction vs with
 |nil=>exact fun h=>h
 |cons v vs ih=>exact fun h=>ih (h.iC kS)
theorem QM {ts:List ByteArray}:∀{m:Ss},gV .str m→gV .str (uH c ts m):=by
 induction ts with
 |nil=>exact fun h=>h
 |cons t ts ih=>exact fun h=>ih (QL h)
theorem FI : ∀ {m : Ss} {k : ByteArray}, (qm .str m k ()).length = m.length + 1
 |[],_=>rfl
 |e::m,k=>by
  unfold qm
  split
  ·simp
  ·rw [List.length_cons,FI];rfl
theorem QN {m:Ss} {k:ByteArray}:(bp .str m k ()).length≤m.length+1:=by
 unfold bp
 split
 ·rw [List.length_map];omega
 ·rw [FI];exact Nat.le_refl _
theorem VB {Z:Ss} (h:gV .str Z) (hl:Z.length<1000000000):ak (FH81_v1 Z)=some (Z.length,Z.map (·.1),Z,()):=by
 unfold FH81_v1
 refine Eq.trans CB (gK fun l hp=>?_)
 have zK:l.length=Z.length:=hp.length_eq
 simp only [ay,CC]
 refine bind_eq (sY (m:=Z) (l:=l) (by rw [zK];exact hl) fun e n b hn=>?_) ?_
 ·simp only [gH81_v1f107f126_0i_0, aW, aa, dK, af]
  rw [cz (show _<cg by rw [eB];simp;omega)]
  rfl
 ·simp only [FH105, yA]
  have hpk:(Z.map (·.1)).Perm (l.map (·.1)):=(hp.map (·.1)).symm
  have:=pG kS hpk (gV.keys kS h) (by rw [List.length_map];omega)
  rw [List.length_map] at this
  rw [ag this,zK]
  rfl
theorem kB45 {m1:List (Mg×Bool)} {jA vs:List ByteArray} (hvl:vs.length<1000000) {m:Ss} :
  iter (fun x=>ak (gH45_0b_1 x)) (vs.length,((vs.length:Nat):Int),(0:Int),vs,b8 c,bY c,cK c,dh c,m1,jA,m,())=some (m1,b8 c,bY c,cK c,dh c,jA,vs,zy c vs m,()):=by
 refine aL vs (fun k (m:Ss)=>(vs.length,((vs.length:Nat):Int),(k:Int),vs,b8 c,bY c,cK c,dh c,m1,jA,m,())) (fun m r=>(m1,b8 c,bY c,cK c,dh c,jA,vs,zy c r m,())) (fun _ _=>True) ?_ ?_ (s:=m) trivial
 ·intro pre v post nx hx _
  have hlen:vs.length=pre.length+(post.length+1):=by rw [hx];simp
  have hd:vs.getD pre.length (bs [])=v:=by rw [hx];exact aT rfl
  have i1:ee (pre.length:Int) ((vs.length:Nat):Int)=true:=bJ (by omega) (by omega)
  have r1:eV .i64 ((pre.length:Int)+1)=true:=aH (by omega) (by omega)
  have d1:decide (pre.length<vs.length)=true:=decide_eq_true (by omega)
  left
  refine ⟨bp .str nx (msg c v).2.2.2.1 (),?_,trivial,rfl⟩
  simp only [gH45_0b_1,ai,aP,aW,aG,ay,aa,Int.toNat_natCast,Nat.zero_add,hd,i1,d1,r1,af,aU,FH80,aD]
  rw [if_pos (by omega)]
  rfl
 ·intro nx _
  simp only [gH45_0b_1,ai,aa,aU]
  rw [if_neg (by omega)]
  rfl
theorem kC45 {m1:List (Mg×Bool)} (hs:SI c) (hl:c.length≤60):iter (fun x=>ak (gH45_0i_0 x)) (c.length,((c.length:Nat):Int),(0:Int),c.map (·.1),b8 c,bY c,cK c,dh c,m1,[],()) =
  some (m1,b8 c,bY c,cK c,dh c,uH c (pK c) [],()):=by
 have zK:(c.map (·.1)).length=c.length:=List.length_map ..
 refine aL c (fun k (m:Ss)=>(c.length,((c.length:Nat):Int),(k:Int),c.map (·.1),b8 c,bY c,cK c,dh c,m1,m,())) (fun m r=>(m1,b8 c,bY c,cK c,dh c,uH c ((r.filter fun m=>decide (m.2.1=1)).map (·.1)) m,())) (fun _ _=>True) ?_ ?_ (s:=[]) trivial
 ·rintro pre m post can hx _
  have hlen:c.length=pre.length+(post.length+1):=by rw [hx];simp
  have hm:m∈c:=by rw [hx];simp
  have hd:(c.map (·.1)).getD pre.length (bs [])=m.1:=by rw [hx,List.map_append,List.map_cons];exact aT (by simp)
  have hg:aA .str zM (b8 c) m.1=m:=fk hs hm
  have i1:ee (pre.length:Int) ((c.length:Nat):Int)=true:=bJ (by omega) (by omega)
  have r1:eV .i64 ((pre.length:Int)+1)=true:=aH (by omega) (by omega)
  have d1:decide (pre.length<(c.map (·.1)).length)=true:=decide_eq_true (by omega)
  left
  by_cases hk:m.2.1=1
  ·have him : lG c m.1 = true := bV.2 (List.mem_map.2 ⟨m, hm, rfl⟩)
   have hkm:(msg c m.1).2.1=1:=by rw [fk hs hm];exact hk
   have hvl:(fS c m.1).length≤c.length:=nh hs (lH hs him hkm) (bV.1 him) .zero
   refine ⟨zy c (fS c m.1) can,?_,trivial,?_⟩
   ·simp only [gH45_0i_0, ai, aP, aW, aG, ay, bg, aa, Int.toNat_natCast, Nat.zero_add, hd, hg, i1, d1, af, aU, aS]
    rw [if_pos (by omega),if_pos hk,ag (QI hs (by omega) (lH hs him hkm) (bV.1 him))]
    rw [ag (kB45 (vs:=fS c m.1) (by omega))]
    simp only [r1,af]
    rfl
   ·rw [List.filter_cons_of_pos (by simpa using hk)]
    rfl
  ·refine ⟨can, ?_, trivial, ?_⟩
   ·simp only [gH45_0i_0, ai, aP, aW, aG, ay, bg, aa, Int.toNat_natCast, Nat.zero_add, hd, hg, i1, d1, r1, af, aU, aS]
    rw [if_pos (by omega),if_neg hk]
    rfl
   ·rw [List.filter_cons_of_neg (by simpa using hk)]
 ·rintro can _
  simp only [gH45_0i_0,ai,aa,aU]
  rw [if_neg (by omega)]
  rfl
theorem QO {vs:List ByteArray}:∀{m:Ss},(zy c vs m).length≤m.length+vs.length:=by
 induction vs with
 |nil=>exact Nat.le_refl _
 |cons v vs ih =>
  intro m
  have h1:=ih (m:=bp .str m (msg c v).2.2.2.1 ())
  have h2:=QN (m:=m) (k:=(msg c v).2.2.2.1)
  simp only [List.length_cons]
  exact Nat.le_trans h1 (by omega)
theorem Di (hs:SI c) {t:ByteArray} (ht:t∈pK c):lG c t=true∧(msg c t).2.1=1:=by
 obtain ⟨m,hm,rfl⟩:=List.mem_map.1 ht
 obtain ⟨h1,h2⟩:=List.mem_filter.1 hm
 exact ⟨bV.2 (List.mem_map.2 ⟨m,h1,rfl⟩),by rw [fk hs h1];simpa using h2⟩
theorem Kh:(pK c).length≤c.length:=by unfold pK;rw [List.length_map];exact List.length_filter_le ..
theorem VC (hs:SI c) {t:ByteArray} (ht:lG c t=true) (hk:(msg c t).2.1=1):(fS c t).length≤c.length:=nh hs (lH hs ht hk) (bV.1 ht) .zero
theorem FJ (hs : SI c) : ∀ {ts : List ByteArray} {m : Ss}, (∀ t ∈ ts, lG c t = true ∧ (msg c t).2.1 = 1) → (uH c ts m).length ≤ m.length + ts.length * c.length
 |[],m,_=>by simp [uH]
 |t::ts,m,h=>by
  have h1:=FJ hs (ts:=ts) (m:=zy c (fS c t) m) fun t h'=>h t (List.mem_cons_of_mem _ h')
  have h2:=QO (c:=c) (vs:=fS c t) (m:=m)
  have h3:=VC hs (h t (List.mem_cons_self ..)).1 (h t (List.mem_cons_self ..)).2
  have h4:(ts.length+1) * c.length=ts.length * c.length+c.length:=Nat.succ_mul ..
  simp only [List.length_cons,h4]
  exact Nat.le_trans h1 (by omega)
theorem kH45 {L:List Mg} (h:jW L):ak (FH45 (bk L))=some ((Dh (cnt L)).length,Dh (cnt L),bk L,()):=by
 have hs:=eC L
 have hc:=nW h
 have hz:=FJ hs (ts:=pK (cnt L)) (m:=[]) fun t ht=>Di hs ht
 have hq:(pK (cnt L)).length * (cnt L).length≤60 * 60:=Nat.mul_le_mul (Nat.le_trans Kh hc) hc
 have hzl:(uH (cnt L) (pK (cnt L)) []).length<1000000000:=by simp only [List.length_nil] at hz;omega
 unfold FH45 gH45_0
 simp only [ay,Ia,aD,ai,aV]
 rw [ag (QH h)]
 simp only [FH79,FH95,aa,aD,bg]
 rw [ag (Vn hs (by omega))]
 refine bind_eq (bind_eq (kC45 hs hc) rfl) ?_
 simp only [FH82,FH108,ay,aa,aD]
 rw [ag (VB (QM .nil) hzl)]
 unfold Dh
 rw [List.length_map]
theorem abi {Z:Zs} (h:∃z,wH Z z):0<Z.length:=by
 obtain ⟨z,hz⟩:=h
 exact List.length_pos_of_mem hz
theorem Ki (hs : SI c) {t : ByteArray} (ht : RB c t) (Dq : t ∈ ids c) : ∀ {n d : Nat} {x : ByteArray}, iS c t d x → d + n = c.length → cG c (n + 1) x ≠ []
 |0,d,x,hp,hd=>by have:=hp.short hs ht Dq;omega
 |n+1,d,x,hp,hd=>by
  unfold cG
  split
  ·simp
  ·rename_i k l hl
   intro h
   have h1:=(eA (t:=.str) ((k::l).flatMap (cG c (n+1)))).length_eq
   rw [show oZ .str ((k::l).flatMap (cG c (n+1)))=[] from h] at h1
   have h2:=Ki hs ht Dq (n:=n) (hp.step (wG (by rw [hl];exact List.mem_cons_self ..))) (by omega)
   have h3:0<(cG c (n+1) k).length:=List.length_pos_iff.2 h2
   rw [List.flatMap_cons,List.length_append] at h1
   simp only [List.length_nil] at h1
   omega
theorem Ih (hs:SI c) {t:ByteArray} (ht:lG c t=true∧(msg c t).2.1=1):fS c t≠[]:=Ki hs (lH hs ht.1 ht.2) (bV.1 ht.1) .zero (by omega)
theorem Kj (hs : SI c) {f : ByteArray → Int} : ∀ {ts : List ByteArray} {can : Zs}, (∀ t ∈ ts, lG c t = true ∧ (msg c t).2.1 = 1) → (∃ z, wH can z) → ∃ z, wH (jy c f ts can) z
 |[],_,_,h=>h
 |t::ts,can,ht,h=>Kj hs (ts:=ts) (fun t h=>ht t (List.mem_cons_of_mem _ h)) (QK h (Ih hs (ht t (List.mem_cons_self ..))))
theorem Kk (hs:SI c) {f:ByteArray→Int}:0<(jX c f).length:=by
 unfold jX
 rw [List.length_map]
 exact abi (Kj hs (fun t ht=>Di hs ht) ⟨0,(dn.2 0).2 rfl⟩)
theorem VD (hs:SI c) (hl:c.length≤60) {f:ByteArray→Int} (hB:Xy c f):BZ 60000 (jy c f (pK c) eO):=by
 have key:∀(ts:List ByteArray) (can:Zs) (B:Int),(∀t∈ts,lG c t=true∧(msg c t).2.1=1)→BZ B can→BZ (B+1000 * ts.length) (jy c f ts can):=by
  intro ts
  induction ts with
  |nil=>intro can B _ h;simpa [jy] using h
  |cons t ts ih =>
   intro can B ht h
   have h1:=ht t (List.mem_cons_self ..)
   have:=ih (jw f can (fS c t)) (B+1000) (fun t h=>ht t (List.mem_cons_of_mem _ h)) (tr h fun v hv=>hB t v h1.1 h1.2 hv)
   intro z hz
   have:=this z hz
   simp only [List.length_cons]
   omega
 have h1:=key (pK c) eO 0 (fun t ht=>Di hs ht) (fun z hz=>by rw [(dn.2 z).1 hz];simp)
 have hle:=Kh (c:=c)
 intro z hz
 have:=h1 z hz
 omega
theorem zz (hs:SI c) (hl:c.length≤60) {f:ByteArray→Int} (hB:Xy c f):(jX c f).length<1000000:=by
 have:=Ig (B:=60000) (wJ dn.1) (by simpa using VD hs hl hB)
 unfold jX
 rw [List.length_map]
 omega
theorem VE {L:List Mg} (h:jW L):ak (FH37 (bk L))=some (zx (cnt L),0,bk L,()):=by
 have hs:=eC L
 have hc:=nW h
 have hB:=bndT hs (tu h)
 unfold FH37
 simp only [ay,Ia,aD,ai,aV]
 rw [ag (QH h)]
 simp only
 rw [ag (VA hs hc hB)]
 simp only [List.drop_zero,List.take_length]
 rw [ag (k72 (Kk hs) (by have:=zz hs hc hB;omega))]
 rfl
theorem kH25 {L:List Mg} (h:jW L) {a:ByteArray} (ha:Sh a):ak (FH25 a (bk L))=some ((Kg (cnt L) a).1,(Kg (cnt L) a).2,bk L,()):=by
 have hs:=eC L
 have hc:=nW h
 have hB:=abh hs (tu h) a
 unfold FH25
 simp only [ay]
 rw [ag (QJ h ha)]
 simp only [ai,aZ,aS,aa,List.drop_zero,List.take_length]
 unfold Kg
 by_cases h0:(mE (cnt L) a).2=0
 ·rw [if_pos h0, if_pos h0]
  have h1:(mE (cnt L) a).1=jX (cnt L) (fA (cnt L) a):=by
   revert h0
   unfold mE
   split
   ·intro _;rfl
   ·intro h;cases h
  rw [h1,ay,ag (k72 (Kk hs) (by have:=zz hs hc hB;omega))]
  rfl
 ·rw [if_neg h0,if_neg h0]
theorem k36 {l l':List ByteArray} (hl:l.length<1000000000):ak (F36 l l')=some (decide (l=l'),()):=by
 by_cases hn:l.length=l'.length
 ·have hi:iter (fun a=>run (fun _=>none) (g36_0 a)) (l,l',(0:Int),())=some (if l=l'.drop 0 then Sum.inr () else Sum.inl ()):=by
   refine aL l (fun k (_:Nat)=>(l,l',(k:Int),())) (fun k r=>if r=l'.drop k then Sum.inr () else Sum.inl ()) (fun pre k=>k=pre.length) ?_ ?_ (s:=0) rfl
   ·rintro pre x post k hx rfl
    have hlen:l.length=pre.length+(post.length+1):=by rw [hx];simp
    have hlt:pre.length<l'.length:=by omega
    have hd:l.getD pre.length (bs [])=x:=by rw [hx];exact aT rfl
    have hd':l'.getD pre.length (bs [])=l'[pre.length]:=by rw [List.getD_eq_getElem?_getD,List.getElem?_eq_getElem hlt];rfl
    have i1:ee (pre.length:Int) ((l.length:Nat):Int)=true:=bJ (by omega) (by omega)
    have i2:ee (pre.length:Int) ((l'.length:Nat):Int)=true:=bJ (by omega) (by omega)
    have r1:eV .i64 ((pre.length:Int)+1)=true:=aH (by omega) (by omega)
    simp only [g36_0,ai,aP,aG,aa,Int.toNat_natCast,hd,hd',i1,i2,r1,af,aU,seq_eq,aZ]
    rw [if_pos (by omega),List.drop_eq_getElem_cons hlt]
    by_cases h:x=l'[pre.length]
    ·left
     refine ⟨pre.length+1,?_,by simp,?_⟩
     ·rw [if_pos h];rfl
     ·rw [h];simp only [List.cons.injEq,true_and]
    ·right
     rw [if_neg h,if_neg (fun e=>h (List.cons.inj e).1)]
   ·rintro k rfl
    simp only [g36_0,ai,aU,aa]
    rw [if_neg (by omega),if_pos (by rw [hn,List.drop_length])]
  unfold F36
  simp only [ai,ay,bg,aZ,aS]
  rw [if_pos (by omega),ag hi,List.drop_zero]
  by_cases h:l=l'
  ·rw [if_pos h];simp only [gF,aa,h,decide_true]
  ·rw [if_neg h];simp only [jG,aa,h,decide_false]
 ·unfold F36
  simp only [ai,aZ,aS,aa]
  rw [if_neg (by omega),decide_eq_false fun e=>hn (by rw [e])]
theorem k27 {l l':List Int} (hl:l.length<1000000000):ak (F27 l l')=some (decide (l=l'),()):=by
 by_cases hn:l.length=l'.length
 ·have hi:iter (fun a=>run (fun _=>none) (g27_0 a)) (l,l',(0:Int),())=some (if l=l'.drop 0 then Sum.inr () else Sum.inl ()):=by
   refine aL l (fun k (_:Nat)=>(l,l',(k:Int),())) (fun k r=>if r=l'.drop k then Sum.inr () else Sum.inl ()) (fun pre k=>k=pre.length) ?_ ?_ (s:=0) rfl
   ·rintro pre x post k hx rfl
    have hlen:l.length=pre.length+(post.length+1):=by rw [hx];simp
    have hlt:pre.length<l'.length:=by omega
    have hd:l.getD pre.length (0:Int)=x:=by rw [hx];exact aT rfl
    have hd':l'.getD pre.length (0:Int)=l'[pre.length]:=by rw [List.getD_eq_getElem?_getD,List.getElem?_eq_getElem hlt];rfl
    have i1:ee (pre.length:Int) ((l.length:Nat):Int)=true:=bJ (by omega) (by omega)
    have i2:ee (pre.length:Int) ((l'.length:Nat):Int)=true:=bJ (by omega) (by omega)
    have r1:eV .i64 ((pre.length:Int)+1)=true:=aH (by omega) (by omega)
    simp only [g27_0,ai,aP,aG,aa,Int.toNat_natCast,hd,hd',i1,i2,r1,af,aU,aZ,aS]
    rw [if_pos (by omega),List.drop_eq_getElem_cons hlt]
    by_cases h:x=l'[pre.length]
    ·left
     refine ⟨pre.length+1,?_,by simp,?_⟩
     ·rw [if_pos h];rfl
     ·rw [h];simp only [List.cons.injEq,true_and]
    ·right
     rw [if_neg h,if_neg (fun e=>h (List.cons.inj e).1)]
   ·rintro k rfl
    simp only [g27_0,ai,aU,aa]
    rw [if_neg (by omega),if_pos (by rw [hn,List.drop_length])]
  unfold F27
  simp only [ai,ay,bg,aZ,aS]
  rw [if_pos (by omega),ag hi,List.drop_zero]
  by_cases h:l=l'
  ·rw [if_pos h];simp only [gF,aa,h,decide_true]
  ·rw [if_neg h];simp only [jG,aa,h,decide_false]
 ·unfold F27
  simp only [ai,aZ,aS,aa]
  rw [if_neg (by omega),decide_eq_false fun e=>hn (by rw [e])]
end
end Go.Proofs.Tryz
end
section
namespace Go.Proofs.Tryz
open Go.AM
set_option maxRecDepth 100000
def XL:List Mg:=[(bs [116,49],1,bs [],bs [97,110,97],40),(bs [116,50],1,bs [],bs [98,101,110],25),(bs [99,49],2,bs [116,49],bs [97,110,97],42),(bs [99,50],2,bs [116,49],bs [99,121],40),(bs [99,51],2,bs [99,49],bs [97,110,97],41),(bs [119,49],2,bs [120,57],bs [98,101,110],5),(bs [114,49],3,bs [99,49],bs [],0),(bs [114,50],3,bs [99,50],bs [],0)]
theorem k46:ak F46=some (XL,()):=by
 unfold F46
 simp only [ay,F50,F42,F39,aa,aD]
 rfl
def L6:List Mg:=bD ((XL.drop (Int.toNat 0)).take (Int.toNat 6 - Int.toNat 0))
def L7:List Mg:=bD ((XL.drop (Int.toNat 0)).take (Int.toNat 7 - Int.toNat 0))
def L8:List Mg:=bD XL
theorem x1:jv (cnt L6) (bs [116,49])=([bs [99,50],bs [99,51]],0):=by kernel_rfl
theorem x2:mE (cnt L6) (bs [97,110,97])=([0,41],0):=by kernel_rfl
theorem x3:mE (cnt L7) (bs [97,110,97])=([41],0):=by kernel_rfl
theorem x4:zx (cnt L6)=(65,66):=by kernel_rfl
theorem x5:Kg (cnt L8) (bs [99,121])=((0,40),0):=by kernel_rfl
theorem x6:Dh (cnt L6)=[bs [97,110,97],bs [98,101,110],bs [99,121]]:=by kernel_rfl
theorem x7:bA (cnt L6) (bs [116,49])=(3,0):=by kernel_rfl
theorem x8:bA (cnt L6) (bs [116,50])=(4,0):=by kernel_rfl
theorem x9:bA (cnt L6) (bs [99,51])=(5,0):=by kernel_rfl
theorem x10:bA (cnt L6) (bs [119,49])=(1,0):=by kernel_rfl
theorem x11:bA (cnt L7) (bs [99,50])=(2,0):=by kernel_rfl
theorem x12:bA (cnt L7) (bs [99,51])=(4,0):=by kernel_rfl
theorem x13:bA (cnt L8) (bs [99,50])=(5,0):=by kernel_rfl
theorem x14:L8.length=8:=by kernel_rfl
instance (m:Mg):Decidable (H7 m):=by unfold H7 Sh;infer_instance
theorem agp:ak (FH29 ((XL.drop (Int.toNat 0)).take (Int.toNat 6 - Int.toNat 0)))=some (bk L6,()):=Mx (by decide) (by decide +kernel)
theorem agq:ak (FH29 ((XL.drop (Int.toNat 0)).take (Int.toNat 7 - Int.toNat 0)))=some (bk L7,()):=Mx (by decide) (by decide +kernel)
theorem agr:ak (FH29 XL)=some (bk L8,()):=Mx (by decide) (by decide +kernel)
theorem o6:jW L6:=jW.told _
theorem o7:jW L7:=jW.told _
theorem o8:jW L8:=jW.told _
theorem xl:XL.length=8:=rfl
theorem QS:Sh (bs [97,110,97]):=by unfold Sh;decide +kernel
theorem ags:Sh (bs [99,121]):=by unfold Sh;decide +kernel
theorem e1:ak (FH33 (bs [116,49]) (bk L6))=some (2,0,[bs [99,50],bs [99,51]],bk L6,()):=by rw [kH33 o6,x1];rfl
theorem e2:ak (FH23 (bs [97,110,97]) (bk L6))=some (2,0,[0,41],bk L6,()):=by rw [QJ o6 QS,x2];rfl
theorem e3:ak (FH23 (bs [97,110,97]) (bk L7))=some (1,0,[41],bk L7,()):=by rw [QJ o7 QS,x3];rfl
theorem e4:ak (FH37 (bk L6))=some ((65,66),0,bk L6,()):=by rw [VE o6,x4]
theorem e5:ak (FH25 (bs [99,121]) (bk L8))=some ((0,40),0,bk L8,()):=by rw [kH25 o8 ags,x5]
theorem e6:ak (FH45 (bk L6))=some (3,[bs [97,110,97],bs [98,101,110],bs [99,121]],bk L6,()):=by rw [kH45 o6,x6];rfl
theorem e7:ak (F36 (([bs [99,50],bs [99,51]].drop 0).take 2) (([bs [99,50],bs [99,51]].drop 0).take 2))=some (true,()):=by rw [k36 (by decide)];rfl
theorem e8:ak (F27 ((([0,41]:List Int).drop 0).take 2) ((([0,41]:List Int).drop 0).take 2))=some (true,()):=by rw [k27 (by decide)];rfl
theorem e9:ak (F27 ((([41]:List Int).drop 0).take 1) ((([41]:List Int).drop 0).take 1))=some (true,()):=by rw [k27 (by decide)];rfl
theorem e10:ak (F36 (([bs [97,110,97],bs [98,101,110],bs [99,121]].drop 0).take 3) (([bs [97,110,97],bs [98,101,110],bs [99,121]].drop 0).take 3))=some (true,()):=by rw [k36 (by decide)];rfl
theorem e11:ak (FH40 (bs [116,49]) 3 (bk L6))=some (true,bk L6,()):=by rw [An o6,x7];rfl
theorem e12:ak (FH40 (bs [116,50]) 4 (bk L6))=some (true,bk L6,()):=by rw [An o6,x8];rfl
theorem e13:ak (FH40 (bs [99,51]) 5 (bk L6))=some (true,bk L6,()):=by rw [An o6,x9];rfl
theorem e14:ak (FH40 (bs [119,49]) 1 (bk L6))=some (true,bk L6,()):=by rw [An o6,x10];rfl
theorem e15:ak (FH40 (bs [99,50]) 2 (bk L7))=some (true,bk L7,()):=by rw [An o7,x11];rfl
theorem e16:ak (FH40 (bs [99,51]) 4 (bk L7))=some (true,bk L7,()):=by rw [An o7,x12];rfl
theorem e17:ak (FH40 (bs [99,50]) 5 (bk L8))=some (true,bk L8,()):=by rw [An o8,x13];rfl
theorem e18:ak (FH47 (bk L8))=some (8,L8,bk L8,()):=by rw [kH47 o8.s (by rw [x14];decide),x14]
theorem k17:ak F17=some (true,()):=by
 unfold F17
 simp only [ay,aW,ai,aa,k46,aD,agp,agq,agr,xl,e1,e2,e3,e4,e5,e6,e11,e12,e13,e14,e15,e16,e17,e18,aS]
 rw [cz (by decide),cz (by decide),cz (by decide),cz (by decide)]
 rw [if_pos trivial,if_pos trivial,if_pos trivial,if_pos trivial,if_pos trivial,ag e7]
 simp only [aO]
 rw [ag e8]
 simp only [aO]
 rw [ag e9]
 simp only [aO]
 rw [show (((65,66):Int×Int).1==65&&(((65,66):Int×Int).2==66&&true))=true from by decide,show (((0,40):Int×Int).1==0&&(((0,40):Int×Int).2==40&&true))=true from by decide]
 simp only [aO]
 rw [ag e10]
 simp only [aO]
 refine (cz (by decide)).trans ?_
 refine (cz (by decide)).trans ?_
 rfl
def mC:Mg:=(bs [99,49],2,bs [116,49],bs [97,110,97],43)
def L9:List Mg:=(gP L8 mC).2
theorem y1:(gP L8 mC).1=0:=by kernel_rfl
theorem y2:bA (cnt L9) (bs [114,49])=(0,18):=by kernel_rfl
theorem y3:jv (cnt L9) (bs [99,49])=([],18):=by kernel_rfl
theorem y4:bA (cnt L9) (bs [122,122])=(0,5):=by kernel_rfl
theorem y5:L9.length=9:=by kernel_rfl
theorem y6:bA (cnt L9) (bs [99,49])=(3,0):=by kernel_rfl
end Go.Proofs.Tryz
end
section
namespace Go.Proofs.Tryz
open Go.AM
set_option maxRecDepth 100000
abbrev Nu:=Int×Int×Int×Int
def U8 (z:Int):Prop:=0≤z∧z≤255
def Kl (x:Nu):Prop:=U8 x.1∧U8 x.2.1∧U8 x.2.2.1∧U8 x.2.2.2
theorem QT {z:Int} (h1:0≤z) (h2:z≤255):eV .u8 z=true:=by
 have e1:IntKind.u8.min=0:=by decide
 have e2:IntKind.u8.max=255:=by decide
 unfold eV
 rw [e1,e2]
 simp [h1,h2]
def tw (f n:Int):ByteArray:=vp [f+n]
theorem k43 {f n:Int} (h1:0≤f) (h2:0≤n) (h3:f+n≤255):ak (F43 f n)=some (tw f n,()):=by
 unfold F43
 simp only [aW,aa]
 rw [gA (QT h2 (by omega)),gA (QT (by omega) h3)]
 rfl
def VF (x:Nu):Int:=if Int.tmod x.1 8=Int.tmod x.2.1 8 then Int.tmod (Int.tmod x.2.1 8+1) 8 else Int.tmod x.2.1 8
def Gi (x:Nu):Mg :=
 let i:=tw 97 (Int.tmod x.1 8)
 let a:=tw 120 (Int.tmod x.2.2.1 3)
 let n:=Int.tmod (Int.tdiv x.2.2.1 3) 12 - 3
 let k:=Int.tmod x.2.2.2 8
 if k=0∨k=1∨k=2 then (i,1,bs [],a,n) else if k=3 then (i,3,tw 97 (VF x),bs [],0) else (i,2,tw 97 (VF x),a,n)
theorem Gj {a:Int} (h:0≤a) (n:Int) (hn:0<n):0≤Int.tmod a n∧Int.tmod a n<n:=⟨Int.tmod_nonneg _ h,Int.tmod_lt_of_pos _ hn⟩
theorem abk {a:Int} (h:0≤a) (h2:a≤255):0≤Int.tdiv a 3∧Int.tdiv a 3≤255:=by
 rw [Int.tdiv_eq_ediv_of_nonneg h];omega
theorem n83:(!((8:Int)==0))=true∧(!((3:Int)==0))=true∧(!((12:Int)==0))=true:=by decide
theorem ln4 {a b c d:Int}:decide (0<[a,b,c,d].length)=true∧decide (1<[a,b,c,d].length)=true∧decide (2<[a,b,c,d].length)=true∧decide (3<[a,b,c,d].length)=true:=⟨rfl,rfl,rfl,rfl⟩
theorem gd4 {a b c d:Int}:[a,b,c,d].getD 0 0=a∧[a,b,c,d].getD 1 0=b∧[a,b,c,d].getD 2 0=c∧[a,b,c,d].getD 3 0=d:=⟨rfl,rfl,rfl,rfl⟩
theorem k44 {x:Nu} (h:Kl x):ak (F44 x)=some (Gi x,()):=by
 obtain ⟨a,b,c,d⟩:=x
 obtain ⟨⟨a1,a2⟩,⟨b1,b2⟩,⟨c1,c2⟩,d1,d2⟩:=h
 simp only at a1 a2 b1 b2 c1 c2 d1 d2
 have ta:=Gj a1 8 (by omega)
 have tb:=Gj b1 8 (by omega)
 have tc:=Gj c1 3 (by omega)
 have td:=Gj d1 8 (by omega)
 have te:=abk c1 c2
 have tf:=Gj te.1 12 (by omega)
 have tg:=Gj (show 0≤Int.tmod b 8+1 by omega) 8 (by omega)
 have ra:=aH (z:=a) (by omega) (by omega)
 have rb:=aH (z:=b) (by omega) (by omega)
 have rc:=aH (z:=c) (by omega) (by omega)
 have rd:=aH (z:=d) (by omega) (by omega)
 have re:=aH (z:=Int.tdiv c 3) (by omega) (by omega)
 have rf:=aH (z:=Int.tmod (Int.tdiv c 3) 12 - 3) (by omega) (by omega)
 have rg:=aH (z:=Int.tmod b 8+1) (by omega) (by omega)
 unfold F44 Gi VF
 simp only [aW,aG,ai,ay,aa,ln4.1,ln4.2.1,ln4.2.2.1,ln4.2.2.2,gd4.1,gd4.2.1,gd4.2.2.1,gd4.2.2.2,n83.1,n83.2.1,n83.2.2,af,ra,rb,rc,rd,re,rf,rg,aS]
 have q1:=k43 (f:=97) (n:=Int.tmod a 8) (by omega) (by omega) (by omega)
 have q2:=k43 (f:=97) (n:=Int.tmod b 8) (by omega) (by omega) (by omega)
 have q3:=k43 (f:=97) (n:=Int.tmod (Int.tmod b 8+1) 8) (by omega) (by omega) (by omega)
 have q4:=k43 (f:=120) (n:=Int.tmod c 3) (by omega) (by omega) (by omega)
 simp only [q1,q2,q3,q4,aD]
 by_cases e:Int.tmod a 8=Int.tmod b 8
 ·simp only [if_pos e]
  by_cases e0:Int.tmod d 8=0
  ·simp only [e0,if_true,true_or]
  ·by_cases e1 : Int.tmod d 8 = 1
   ·simp [e1]
   ·by_cases e2 : Int.tmod d 8 = 2
    ·simp [e2]
    ·by_cases e3 : Int.tmod d 8 = 3
     ·simp [e3]
     ·simp [e0,e1,e2,e3]
 ·simp only [if_neg e]
  by_cases e0:Int.tmod d 8=0
  ·simp only [e0,if_true,true_or]
  ·by_cases e1 : Int.tmod d 8 = 1
   ·simp [e1]
   ·by_cases e2 : Int.tmod d 8 = 2
    ·simp [e2]
    ·by_cases e3 : Int.tmod d 8 = 3
     ·simp [e3]
     ·simp [e0,e1,e2,e3]
def bH (p:List Nu):List Mg:=(p.take 10).map Gi
theorem iU (p:List Nu):(bH p).length≤10:=by unfold bH;rw [List.length_map,List.length_take];omega
theorem k28 {p:List Nu} (h:∀x∈p,Kl x):ak (F28 p)=some (bH p,()):=by
 have hi:iter (fun a=>run (fun _=>none) (g28_0 a)) (p,0,(0:Int),[],())=some ((bH p).length,bH p,()):=by
  have:=aL (p.take 10) (fun k (o:List Mg)=>(p,o.length,(k:Int),o,())) (fun o r=>((o++r.map Gi).length,o++r.map Gi,())) (fun pre o=>o=pre.map Gi) (f:=fun a=>run (fun _=>none) (g28_0 a)) (s:=[]) ?_ ?_ rfl
  ·simpa [bH] using this
  ·rintro pre x post _ hx rfl
   have hlen:(p.take 10).length=pre.length+(post.length+1):=by rw [hx];simp
   rw [List.length_take] at hlen
   have hd:p.getD pre.length ((0:Int),(0:Int),(0:Int),(0:Int))=x:=by
    have:(p.take 10).getD pre.length ((0:Int),(0:Int),(0:Int),(0:Int))=x:=by rw [hx];exact aT rfl
    rw [getD_take (by omega)] at this;exact this
   have hxm:x∈p:=List.mem_of_mem_take (i:=10) (by rw [hx];simp)
   have i1:ee (pre.length:Int) ((p.length:Nat):Int)=true:=bJ (by omega) (by omega)
   have r1:eV .i64 ((pre.length:Int)+1)=true:=aH (by omega) (by omega)
   left
   refine ⟨(pre++[x]).map Gi,?_,rfl,?_⟩
   ·simp only [g28_0, ai, aP, ay, aW, aG, aa, Int.toNat_natCast, hd, i1, r1, af, aU]
    rw [if_pos (by omega),if_pos (by omega),ag (k44 (x:=(x.1,x.2.1,x.2.2.1,x.2.2.2)) (h x hxm))]
    rw [cz (show _<cg by rw [eB];simp;omega)]
    simp
    exact List.take_of_length_le (by simp)
   ·simp
  ·rintro _ rfl
   simp only [g28_0,ai,aa,aU]
   have:(p.take 10).length=min 10 p.length:=List.length_take
   by_cases h1:(((p.take 10).length:Nat):Int)<((p.length:Nat):Int)
   ·rw [if_pos h1,if_neg (by omega)];simp
   ·rw [if_neg h1];simp
 unfold F28
 simp only [ay,bg]
 rw [ag hi]
 simp only [aa,List.drop_zero,List.take_length]
theorem lt_size (f n:Int):(tw f n).size=1:=rfl
theorem zA (f n:Int):Sh (tw f n):=by unfold Sh;rw [lt_size];omega
theorem QU:Sh (bs []):=by unfold Sh;decide
theorem agt (x:Nu):H7 (Gi x):=by
 unfold Gi
 simp only
 split
 ·exact ⟨zA _ _,QU,zA _ _⟩
 ·split
  ·exact ⟨zA _ _,zA _ _,QU⟩
  ·exact ⟨zA _ _,zA _ _,zA _ _⟩
end Go.Proofs.Tryz
end
section
namespace Go.Proofs.Tryz
open Go.AM
set_option maxRecDepth 100000
theorem QV {l:List Int} (h:∀z∈l,0≤z∧z≤255):fB (vp l)=l:=by
 unfold fB vp
 rw [List.map_map]
 conv=>rhs;rw [←List.map_id l]
 refine List.map_congr_left fun z hz=>?_
 have:=h z hz
 simp only [Function.comp_apply,id]
 rw [UInt8.toNat_ofNat']
 omega
theorem Ii {f n:Int} (h1:0≤f+n) (h2:f+n≤255):fB (tw f n)=[f+n]:=QV fun z hz=>by
 rw [List.mem_singleton] at hz;subst hz;exact ⟨h1,h2⟩
theorem abl {f n m:Int} (h1:0≤f+n) (h2:f+n≤255) (h3:0≤f+m) (h4:f+m≤255) (e:tw f n=tw f m):n=m:=by
 have:=congrArg fB e
 rw [Ii h1 h2,Ii h3 h4] at this
 have:=(List.cons.inj this).1
 omega
theorem Dj {f n:Int} (h1:97≤f+n) (h2:f+n≤122):iw (tw f n)=true:=by
 unfold iw
 rw [Ii (by omega) (by omega),lt_size]
 simp [Vl,zj,h1,h2]
theorem Km:Al [0,0]=0:=by decide
theorem XA {x:Nu} (h:Kl x):0≤VF x∧VF x<8∧Int.tmod x.1 8≠VF x:=by
 obtain ⟨⟨a1,a2⟩,⟨b1,b2⟩,_⟩:=h
 have ta:=Gj a1 8 (by omega)
 have tb:=Gj b1 8 (by omega)
 have tg:=Gj (show 0≤Int.tmod x.2.1 8+1 by omega) 8 (by omega)
 unfold VF
 split
 ·rename_i e
  refine ⟨tg.1,tg.2,?_⟩
  rw [e,Int.tmod_eq_emod_of_nonneg (by omega:0≤Int.tmod x.2.1 8+1)]
  omega
 ·rename_i e
  exact ⟨tb.1,tb.2,e⟩
theorem QW {x:Nu} (h:Kl x):qc (Gi x)=0:=by
 have ho:=XA h
 obtain ⟨⟨a1,a2⟩,⟨b1,b2⟩,⟨c1,c2⟩,d1,d2⟩:=h
 have ta:=Gj a1 8 (by omega)
 have tc:=Gj c1 3 (by omega)
 have te:=abk c1 c2
 have tf:=Gj te.1 12 (by omega)
 have n1:iw (tw 97 (Int.tmod x.1 8))=true:=Dj (by omega) (by omega)
 have n2:iw (tw 97 (VF x))=true:=Dj (by omega) (by omega)
 have n3:iw (tw 120 (Int.tmod x.2.2.1 3))=true:=Dj (by omega) (by omega)
 have n4:tw 97 (VF x)≠tw 97 (Int.tmod x.1 8):=fun e=>ho.2.2 (abl (by omega) (by omega) (by omega) (by omega) e).symm
 have n5 : -1000≤Int.tmod (Int.tdiv x.2.2.1 3) 12 - 3∧Int.tmod (Int.tdiv x.2.2.1 3) 12 - 3≤1000:=by omega
 unfold Gi
 simp only
 split
 ·simp [qc,lE,jr,n1,n3,n5,Km]
 ·split
  ·simp [qc,lE,jr,n1,n2,n4,Km]
  ·simp [qc,lE,jr,n1,n2,n3,n4,n5,Km]
theorem Dk {L:List Mg} {m:Mg} (hc:qc m=0) (hl:L.length+1≤60):gP L m=(0,pF L m):=by
 unfold gP
 have:=zk (L:=L) (m:=m)
 rw [if_pos hc,if_neg (by omega)]
def Gd (l:List Mg):Prop:=∀m∈l,qc m=0
theorem FK : ∀ {l L : List Mg}, jW L → Gd l → L.length + l.length ≤ 60 → ∀ x, x ∈ l.foldl (fun L m => (gP L m).2) L ↔ x ∈ L ∨ x ∈ l
 |[],L,_,_,_,x=>by simp
 |m::l,L,h,hg,hl,x=>by
  rw [List.length_cons] at hl
  have hc:=hg m (List.mem_cons_self ..)
  have ht:=Dk (L:=L) hc (by omega)
  have h2:=h.tell m
  rw [ht] at h2
  have:=zk (L:=L) (m:=m)
  rw [List.foldl_cons,ht,FK h2 (fun z hz=>hg z (List.mem_cons_of_mem _ hz)) (by simp only;omega)]
  simp only [mY h.s,List.mem_cons]
  constructor
  ·rintro ((h | h) | h)
   ·exact .inr (.inl h)
   ·exact .inl h
   ·exact .inr (.inr h)
  ·rintro (h | h | h)
   ·exact .inl (.inr h)
   ·exact .inl (.inl h)
   ·exact .inr h
theorem lJ {l:List Mg} (hg:Gd l) (hl:l.length≤60) (x:Mg):x∈bD l↔x∈l:=by
 have:=FK jW.nil hg (by simpa using hl) x
 simpa [bD] using this
theorem tA {p:List Nu} (h:∀x∈p,Kl x):Gd (bH p):=fun m hm=>by
 obtain ⟨x,hx,rfl⟩:=List.mem_map.1 hm
 exact QW (h x (List.mem_of_mem_take hx))
theorem wK (p:List Nu):∀m∈bH p,H7 m:=fun m hm=>by
 obtain ⟨x,hx,rfl⟩:=List.mem_map.1 hm
 exact agt x
theorem kT {L:List Mg} (h:jW L) {m:Mg} (hm:H7 m) (hc:qc m=0) (hl:L.length+1≤60):ak (FH20 (m.1,m.2.1,m.2.2.1,m.2.2.2.1,m.2.2.2.2) (bk L))=some (0,bk (pF L m),()):=by
 have:=aba h.s h.len hm
 rw [Dk hc hl] at this
 exact this
theorem abm {L:List Mg} (h:jW L) {m:Mg} (hc:qc m=0) (hl:L.length+1≤60):jW (pF L m):=by
 have:=h.tell m
 rwa [Dk hc hl] at this
end Go.Proofs.Tryz
end
section
namespace Go.Proofs.Tryz
open Go.AM
set_option maxRecDepth 100000
theorem SL.nd {L:List Mg} (h:SL L):L.Nodup:=List.Pairwise.imp (fun {a b} h e=>by subst e;rw [gu kM] at h;cases h) h
def lT:List ByteArray:=[bs [120],bs [121],bs [122]]
def fU:List ByteArray:=[bs [97],bs [98],bs [99],bs [100],bs [101],bs [102],bs [103],bs [104]]
theorem Kn:∀a∈lT,Sh a:=by unfold lT Sh;decide
theorem QX {L:List Mg} (h:jW L) (a:ByteArray):(mE (cnt L) a).1.length<1000000000:=by
 unfold mE
 split
 ·have := zz (eC L) (nW h) (abh (eC L) (tu h) a)
  simp only;omega
 ·simp
abbrev B2:=List (Mg×Bool)×List (Mg×Bool)×Unit
theorem kH41 {L L':List Mg} (h:jW L) (h':jW L') (ht:∀a∈lT,mE (cnt L) a=mE (cnt L') a) (hs:zx (cnt L)=zx (cnt L')) :
  ak (FH41 (bk L) (bk L'))=some (true,bk L,bk L',()):=by
 have hit:iter (fun x=>ak (gH41_0 x)) (lT,((lT.length:Nat):Int),(0:Int),bk L,bk L',())=some (Sum.inr (bk L,bk L',()):B2 ⊕ B2):=by
  refine aL lT (fun k (_:Unit)=>(lT,((lT.length:Nat):Int),(k:Int),bk L,bk L',())) (fun _ _=>(Sum.inr (bk L,bk L',()):B2 ⊕ B2)) (fun _ _=>True) ?_ ?_ (s:=()) trivial
  ·intro pre a post _ hx _
   have hlen:lT.length=pre.length+(post.length+1):=by rw [hx];simp
   have h3:lT.length=3:=rfl
   have ha:a∈lT:=by rw [hx];simp
   have hd:lT.getD pre.length (bs [])=a:=by rw [hx];exact aT rfl
   have i1:ee (pre.length:Int) ((lT.length:Nat):Int)=true:=bJ (by omega) (by omega)
   have r1:eV .i64 ((pre.length:Int)+1)=true:=aH (by omega) (by omega)
   left
   refine ⟨(),?_,trivial,rfl⟩
   simp only [gH41_0,ai,aP,aG,ay,aa,Int.toNat_natCast,hd,i1,r1,af,aU]
   rw [if_pos (by omega),ag (QJ h (Kn a ha))]
   simp only
   rw [ag (QJ h' (Kn a ha))]
   simp only [List.drop_zero,List.take_length]
   rw [ag (k27 (QX h a)),ht a ha]
   simp only [decide_true,Bool.not_true,aV,beq_self_eq_true]
   rfl
  ·intro _ _
   simp only [gH41_0,ai,aa,aU]
   rw [if_neg (by omega)]
 unfold FH41 F38
 simp only [ay,aa,aD,bg]
 refine Eq.trans (ag hit) ?_
 simp only [gF,ay,ai,aa]
 rw [ag (VE h)]
 simp only
 rw [ag (VE h'),hs]
 simp
end Go.Proofs.Tryz
end
section
namespace Go.Proofs.Tryz
open Go.AM
set_option maxRecDepth 100000
end Go.Proofs.Tryz
end
section
namespace Go.Proofs.Tryz
open Go.AM
set_option maxRecDepth 100000
abbrev u8T:Ty:=.int .u8
abbrev nuT:Ty:=.prod u8T (.prod u8T (.prod u8T u8T))
theorem FL {z:Int} (h:Wf u8T z):U8 z:=by
 have e1:IntKind.u8.min=0:=by decide
 have e2:IntKind.u8.max=255:=by decide
 simp only [Wf,e1,e2] at h
 exact h
theorem agu {x:Nu} (h:Wf nuT x):Kl x:=⟨FL h.1,FL h.2.1,FL h.2.2.1,FL h.2.2.2⟩
end Go.Proofs.Tryz
end
section
namespace Go.Proofs.Tryz
open Go.AM
set_option maxRecDepth 100000
def sev (m:Mg):Mg:=if m.2.1=3 then m else (m.1,m.2.1,m.2.2.1,m.2.2.2.1,7)
structure KS where
 met:List (ByteArray×Bool)
 out:List Mg
 s:Int
def ij (z:KS) (m:Mg):KS:=if aA .str false z.met m.1=true then z else ⟨bp .str z.met m.1 true,z.out++[sev m],if m.2.1=1 then z.s+7 else z.s⟩
structure KI (z:KS):Prop where
 Xw:gV .str z.met
 met:∀x,aA .str false z.met x=true↔x∈z.out.map (·.1)
 nd:(z.out.map (·.1)).Nodup
 gd:Gd z.out
 sh:∀m∈z.out,H7 m
 am:∀m∈z.out,m.2.1≠3→m.2.2.2.2=7
 s:z.s=7 * ((z.out.filter fun m=>decide (m.2.1=1)).length:Int)
theorem agv (m:Mg):(sev m).1=m.1∧(sev m).2.1=m.2.1:=by unfold sev;split<;>exact ⟨rfl,rfl⟩
theorem VG {m:Mg} (h:qc m=0):qc (sev m)=0:=by
 unfold sev
 split
 ·exact h
 ·rename_i h3
  unfold qc at h ⊢
  simp only at h ⊢
  split at h
  ·cases h
  rename_i hk
  rw [if_neg hk]
  split at h
  ·rename_i hn
   rw [if_pos hn]
   have e1:lE (m.1,m.2.1,m.2.2.1,m.2.2.2.1,(7:Int))=lE m:=rfl
   rw [e1]
   unfold Al at h ⊢
   have h1:lE m=0:=by
    by_cases h1:lE m=0
    ·exact h1
    ·simp [h1] at h
   have h2:jr m=0:=by
    by_cases h2:jr m=0
    ·exact h2
    ·simp [h1,h2] at h
   have h4:jr (m.1,m.2.1,m.2.2.1,m.2.2.2.1,(7:Int))=0:=by
    unfold jr at h2 ⊢
    rw [if_neg h3] at h2
    simp only
    rw [if_neg h3]
    split at h2
    ·rename_i hn;rw [if_pos hn,if_pos (by omega)]
    ·cases h2
   simp [h1,h4]
  ·cases h
theorem FM {z:KS} {m:Mg} (h:KI z) (hc:qc m=0) (hs:H7 m):KI (ij z m):=by
 unfold ij
 split
 ·exact h
 ·rename_i hm
  have hk:=agv m
  have hni:m.1∉z.out.map (·.1):=fun hi=>hm ((h.met m.1).2 hi)
  refine ⟨h.Xw.iC kS,fun x=>?_,?_,?_,?_,?_,?_⟩
  ·simp only
   rw [Bt kS h.Xw,List.map_append,List.mem_append,List.map_cons,List.map_nil,List.mem_singleton,hk.1]
   simp only [sX,decide_eq_true_eq]
   by_cases e:x=m.1
   ·subst e;simp
   ·rw [if_neg e,h.met x];simp [e]
  ·rw [List.map_append, List.nodup_append]
   refine ⟨h.nd,by simp,fun a ha b hb=>?_⟩
   simp only [List.map_cons,List.map_nil,List.mem_singleton] at hb
   rintro rfl
   rw [hb,hk.1] at ha
   exact hni ha
  ·intro x hx
   rcases List.mem_append.1 hx with hx|hx
   ·exact h.gd x hx
   ·rw [List.mem_singleton] at hx;subst hx;exact VG hc
  ·intro x hx
   rcases List.mem_append.1 hx with hx|hx
   ·exact h.sh x hx
   ·rw [List.mem_singleton] at hx; subst hx
    unfold sev;split
    ·exact hs
    ·exact hs
  ·intro x hx
   rcases List.mem_append.1 hx with hx|hx
   ·exact h.am x hx
   ·rw [List.mem_singleton] at hx; subst hx
    intro h3
    rw [hk.2] at h3
    unfold sev;rw [if_neg h3]
  ·simp only [List.filter_append, List.length_append]
   by_cases h1:m.2.1=1
   ·have e : [sev m].filter (fun m => decide (m.2.1 = 1)) = [sev m] := by rw [List.filter_cons_of_pos (by rw [hk.2]; simpa using h1)]; rfl
    rw [if_pos h1,h.s,e];simp;omega
   ·have e : [sev m].filter (fun m => decide (m.2.1 = 1)) = [] := by rw [List.filter_cons_of_neg (by rw [hk.2]; simpa using h1)]; rfl
    rw [if_neg h1,h.s,e];simp
theorem QY : ∀ {l : List Mg}, (l.map (·.1)).Nodup → ∀ {a b : Mg}, a ∈ l → b ∈ l → a.1 = b.1 → a = b
 |[],_,_,_,h,_,_=>by cases h
 |m::l,hn,a,b,ha,hb,e=>by
  rw [List.map_cons,List.nodup_cons] at hn
  rcases List.mem_cons.1 ha with h1|h1<;>rcases List.mem_cons.1 hb with h2|h2
  ·rw [h1,h2]
  ·exact (hn.1 (List.mem_map.2 ⟨b,h2,by rw [←e,h1]⟩)).elim
  ·exact (hn.1 (List.mem_map.2 ⟨a,h1,by rw [e,h2]⟩)).elim
  ·exact QY hn.2 h1 h2 e
theorem Ko {l:List Mg} (hg:Gd l) (hl:l.length≤60) (hn:(l.map (·.1)).Nodup) (x:Mg):x∈cnt (bD l)↔x∈l:=by
 rw [wC (jW.told l).s,lJ hg hl]
 refine ⟨fun h=>h.1,fun h=>⟨h,fun y hy e=>.inl ?_⟩⟩
 exact QY hn ((lJ hg hl y).1 hy) h e
def only (Z:Zs) (y:Int):Prop:=CZ Z∧∀z,wH Z z↔z=y
theorem Mz {Z:Zs} {y:Int} (h:only Z y):Z=[(y,())]:=by
 have h1:CZ (bp (.int .i64) ([]:Zs) y ()):=CZ.put .nil y
 exact h.1.ext h1 fun z=>by rw [h.2];exact ⟨fun e=>(wI .nil).2 (.inl e),fun h=>((wI .nil).1 h).elim id fun h=>by cases h⟩
theorem MA {f:ByteArray→Int} {can:Zs} {vs:List ByteArray} {y n:Int} (h:only can y) (hv:vs≠[]) (hf:∀v∈vs,f v=n):only (jw f can vs) (y+n):=by
 refine ⟨lI.1,fun z=>?_⟩
 rw [lI.2]
 constructor
 ·rintro ⟨v, hv, x, hx, rfl⟩
  rw [(h.2 x).1 hx,hf v hv]
 ·rintro rfl
  obtain ⟨v,hv⟩:=List.exists_mem_of_ne_nil _ hv
  exact ⟨v,hv,y,(h.2 y).2 rfl,by rw [hf v hv]⟩
theorem FN {c : List Mg} {f : ByteArray → Int} {n : Int} : ∀ {ts : List ByteArray} {can : Zs} {y : Int}, only can y → (∀ t ∈ ts, fS c t ≠ [] ∧ ∀ v ∈ fS c t, f v = n) → only (jy c f ts can) (y + n * ts.length)
 |[],_,y,h,_=>by simpa [jy] using h
 |t::ts,can,y,h,ht=>by
  have h1:=ht t (List.mem_cons_self ..)
  have:=FN (ts:=ts) (MA h h1.1 h1.2) fun t h=>ht t (List.mem_cons_of_mem _ h)
  have e:y+n+n * (ts.length:Int)=y+n * ((ts.length+1:Nat):Int):=by
   rw [Int.natCast_add,Int.mul_add];omega
  rw [e] at this
  exact this
theorem sum7 {c:List Mg} (hs:SI c) (hc:∀m∈c,qc m=0) (h7:∀m∈c,m.2.1≠3→m.2.2.2.2=7):zx c=(7 * ((pK c).length:Int),7 * ((pK c).length:Int)):=by
 have h:=FN (c:=c) (f:=fT c) (n:=7) (ts:=pK c) (can:=eO) (y:=0) dn fun t ht=>by
  have h1:=Di hs ht
  refine ⟨Ih hs h1,fun v hv=>?_⟩
  obtain ⟨h2,h3⟩:=Kb hs h1.1 h1.2 hv
  exact h7 _ (me hs h2).1 (by omega)
 unfold zx jX
 rw [Mz h]
 simp [Kf]
theorem VH {l:List Mg} (hg:Gd l) (hl:l.length≤60) (hn:(l.map (·.1)).Nodup):(pK (cnt (bD l))).length=(l.filter fun m=>decide (m.2.1=1)).length:=by
 have h1:(cnt (bD l)).Nodup:=List.Pairwise.imp (fun {a b} h e=>by subst e;rw [show slt a.1 a.1=false from gu (t:=.str) kS a.1] at h;cases h) (eC (bD l))
 have h2:l.Nodup:=(List.pairwise_map.1 hn).imp fun h e=>h (by rw [e])
 have hp:(cnt (bD l)).Perm l:=(List.perm_ext_iff_of_nodup h1 h2).2 fun x=>Ko hg hl hn x
 unfold pK
 rw [List.length_map]
 exact (hp.filter _).length_eq
theorem VI {l:List Mg} (hl:l.length<1000000000) (hs:∀m∈l,H7 m):ak (FH29_v1 l.length l)=some (l,bk (bD l),()):=by
 unfold FH29_v1
 simp only [ay,FH18,aa,aD,bg]
 refine bind_eq (aL l (fun k (L:List Mg)=>(l.length,(k:Int),l,bk L,())) (fun L r=>(l,bk (r.foldl (fun L m=>(gP L m).2) L),())) (fun _ L=>jW L) ?_ ?_ (s:=[]) jW.nil) rfl
 ·intro pre x post L hx hL
  have hlen:l.length=pre.length+(post.length+1):=by rw [hx];simp
  have hd:l.getD pre.length (bs [],(0:Int),bs [],bs [],(0:Int))=x:=by rw [hx];exact aT rfl
  have hin:ee (pre.length:Int) (l.length:Int)=true:=bJ (by omega) (by omega)
  have hni:eV .i64 ((pre.length:Int)+1)=true:=aH (by omega) (by omega)
  have d1:decide (pre.length<l.length)=true:=decide_eq_true (by omega)
  left
  refine ⟨(gP L x).2,?_,hL.tell x,rfl⟩
  simp only [gH29_v1_0,ai,aP,aW,aG,aa,ay,Int.toNat_natCast,Nat.zero_add,aU,hin,hni,d1,af]
  rw [if_pos (by omega)]
  have hk:=aba hL.s hL.len (hs x (by rw [hx];simp))
  rw [hd]
  rw [ag (show ak (FH20 (x.1,x.2.1,x.2.2.1,x.2.2.2.1,x.2.2.2.2) (bk L))=_ from hk)]
  rfl
 ·intro L _
  simp only [gH29_v1_0,ai,aa,aU]
  rw [if_neg (by omega)]
  rfl
theorem abn {l:List Mg} (hl:l.length≤10) (hg:Gd l) (hS:∀m∈l,H7 m):∃z:KS,KI z∧z.out.length≤10∧iter (fun x=>ak (g7_0 x)) ((0:Int),(0:Nat),l,((l.length:Nat):Int),(0:Int),[],[],())=some (z.s,z.out.length,z.out,()):=by
 have h0:KI ⟨[],[],0⟩:=⟨.nil,fun x=>by simp [aA],.nil,fun m h=>(by cases h),fun m h=>(by cases h),fun m h=>(by cases h),rfl⟩
 have xg:∀(r:List Mg) (z:KS),KI z→(∀m∈r,m∈l)→KI (r.foldl ij z)∧(r.foldl ij z).out.length≤z.out.length+r.length:=by
  intro r
  induction r with
  |nil=>intro z h _;exact ⟨h,by simp⟩
  |cons m r ih =>
   intro z h hm
   obtain ⟨h1,h2⟩:=ih (ij z m) (FM h (hg m (hm m (List.mem_cons_self ..))) (hS m (hm m (List.mem_cons_self ..)))) fun x hx=>hm x (List.mem_cons_of_mem _ hx)
   refine ⟨h1,Nat.le_trans h2 ?_⟩
   have:(ij z m).out.length≤z.out.length+1:=by unfold ij;split<;>simp
   simp only [List.length_cons];omega
 obtain ⟨q1,q2⟩:=xg l _ h0 fun m h=>h
 refine ⟨l.foldl ij ⟨[],[],0⟩,q1,by simpa using Nat.le_trans q2 (by simpa using hl),?_⟩
 refine aL l (fun k (z:KS)=>(z.s,z.out.length,l,((l.length:Nat):Int),(k:Int),z.met,z.out,())) (fun z r=>((r.foldl ij z).s,(r.foldl ij z).out.length,(r.foldl ij z).out,())) (fun pre z=>KI z∧z.out.length≤pre.length ∧ -100≤z.s∧z.s≤7 * pre.length) ?_ ?_ (s:=⟨[],[],0⟩) ⟨h0,by simp,by simp,by simp⟩
 ·rintro pre m post z hx ⟨hz, hzl, hs1, hs2⟩
  have hlen:l.length=pre.length+(post.length+1):=by rw [hx];simp
  have hd:l.getD pre.length (bs [],(0:Int),bs [],bs [],(0:Int))=m:=by rw [hx];exact aT rfl
  have i1:ee (pre.length:Int) ((l.length:Nat):Int)=true:=bJ (by omega) (by omega)
  have r1:eV .i64 ((pre.length:Int)+1)=true:=aH (by omega) (by omega)
  have r2:eV .i64 (z.s+7)=true:=aH (by omega) (by omega)
  have d1:decide (z.out.length+1<cg)=true:=decide_eq_true (by rw [eB];omega)
  have hml:m∈l:=by rw [hx];simp
  have hto:z.out.take z.out.length=z.out:=List.take_length
  left
  refine ⟨ij z m,?_,⟨FM hz (hg m hml) (hS m hml),?_,?_,?_⟩,rfl⟩
  ·unfold g7_0 ij
   simp only [ai,aP,aW,aG,uu,ay,aa,Int.toNat_natCast,hd,i1,r1,af,aU,aZ,aS]
   rw [if_pos (by omega),jT]
   by_cases hm:aA .str false z.met m.1=true
   ·rw [if_pos hm,if_pos hm];rfl
   ·rw [if_neg hm, if_neg hm]
    unfold sev
    by_cases h3:m.2.1=3
    ·have h1 : m.2.1 ≠ 1 := by omega
     simp only [if_pos h3,if_neg h1,aD,Af,List.drop_zero,List.take_succ_cons,List.take_zero,List.length_cons,List.length_nil,Nat.zero_add,d1,r1,af,hto,List.length_append]
     rfl
    ·by_cases h1 : m.2.1 = 1
     ·simp only [if_neg h3, if_pos h1, aD, Af, List.drop_zero, List.take_succ_cons, List.take_zero, List.length_cons, List.length_nil, Nat.zero_add, d1, r1, r2, af, hto, List.length_append]
      rfl
     ·simp only [if_neg h3, if_neg h1, aD, Af, List.drop_zero, List.take_succ_cons, List.take_zero, List.length_cons, List.length_nil, Nat.zero_add, d1, r1, af, hto, List.length_append]
      rfl
  ·unfold ij;split<;>simp<;>omega
  ·unfold ij; split
   ·exact hs1
   ·simp only;split<;>omega
  ·have : ((pre ++ [m]).length : Int) = pre.length + 1 := by simp
   unfold ij;split
   ·omega
   ·simp only;split<;>omega
 ·rintro z _
  unfold g7_0
  simp only [ai,aa,aU]
  rw [if_neg (by omega)]
  rfl
theorem k7 {p:List Nu} (hp:∀x∈p,Kl x):ak (F7 p)=some (true,()):=by
 have hml:=iU p
 obtain ⟨z,hz,hzl,hi⟩:=abn hml (tA hp) (wK p)
 have ho:=jW.told z.out
 have hsum:=sum7 (eC (bD z.out)) (tu ho) fun m hm h3=>hz.am m ((Ko hz.gd (by omega) hz.nd m).1 hm) h3
 rw [VH hz.gd (by omega) hz.nd,←hz.s] at hsum
 unfold F7
 simp only [ay]
 rw [ag (k28 hp)]
 simp only [bg]
 rw [ag hi]
 simp only
 rw [ag (VI (by omega) hz.sh)]
 simp only
 rw [ag (VE ho),hsum]
 simp only [ai,beq_self_eq_true,Bool.and_self,aO,ay]
 rw [ag k17]
 rfl
end Go.Proofs.Tryz
end
section
namespace Go.Proofs.Tryz
open Go.AM
set_option maxRecDepth 100000
section
variable {c:List Mg}
def Kq (c:List Mg) (x:ByteArray):Bool:=c.any fun m=>decide (m.1=x∧m.2.1≠3)
def iV (c:List Mg) (x:Mg):Bool:=Kq c x.2.2.1 && !cw c x.1&&decide ((c.filter fun m=>decide (m.2.1=2∧m.2.2.1=x.2.2.1∧m.1≠x.1∧cw c m.1=true)).length=1)
theorem VJ (hs:SI c) {x:ByteArray}:Kq c x=true↔lG c x=true∧(msg c x).2.1≠3:=by
 unfold Kq
 rw [List.any_eq_true]
 constructor
 ·rintro ⟨m, hm, h⟩
  obtain ⟨rfl,h3⟩:=of_decide_eq_true h
  exact ⟨bV.2 (List.mem_map.2 ⟨m,hm,rfl⟩),by rw [fk hs hm];exact h3⟩
 ·rintro ⟨h1, h3⟩
  obtain ⟨h4,h5⟩:=me hs h1
  exact ⟨msg c x,h4,decide_eq_true ⟨h5,h3⟩⟩
theorem Kr (hs:SI c) (x:ByteArray):Vq c x=Kq c x:=by
 rw [Bool.eq_iff_iff,VJ hs]
 unfold Vq
 rw [Bool.and_eq_true,Bool.not_eq_true',beq_eq_false_iff_ne]
 exact Iff.rfl
theorem nX {m:Mg} (hm:m∈c) (h:m.2.1=2):m.1∈kids c m.2.2.1:=gp.2 ⟨m,hm,rfl,h,rfl⟩
theorem QZ (hs:SI c) {x:Mg} (hx:x∈c) (hk:x.2.1=2):iV c x=true↔x.1∈dir c (x.2.2.1,kids c x.2.2.1):=by
 have hxk:=nX hx hk
 have hlen:cw c x.1=false→(c.filter fun m=>decide (m.2.1=2∧m.2.2.1=x.2.2.1∧m.1≠x.1∧cw c m.1=true)).map (·.1)=(kids c x.2.2.1).filter (cw c):=by
  intro hr
  unfold kids
  rw [List.filter_map,List.filter_filter]
  refine congrArg (List.map _) (List.filter_congr fun m hm=>?_)
  rw [Bool.eq_iff_iff]
  simp only [Function.comp_apply,Bool.and_eq_true,decide_eq_true_eq]
  constructor
  ·rintro ⟨h1,h2,_,h4⟩;exact ⟨h4,h1,h2⟩
  ·rintro ⟨h4, h1, h2⟩
   exact ⟨h1,h2,(fun e=>by rw [e,hr] at h4;cases h4),h4⟩
 unfold iV dir
 rw [←Kr hs]
 simp only [Bool.and_eq_true,Bool.not_eq_true',decide_eq_true_eq]
 constructor
 ·rintro ⟨⟨h1, h2⟩, h3⟩
  rw [if_pos h1]
  have h4:=hlen h2
  have h5:((kids c x.2.2.1).filter (cw c)).length=1:=by rw [←h4,List.length_map];exact h3
  obtain ⟨o,ho⟩:=List.length_eq_one_iff.1 h5
  rw [ho]
  refine List.mem_filter.2 ⟨hxk,?_⟩
  have h6:cw c o=true:=(List.mem_filter.1 (show o∈(kids c x.2.2.1).filter (cw c) by rw [ho];exact List.mem_singleton.2 rfl)).2
  simp only [Bool.not_eq_true',decide_eq_false_iff_not]
  intro e;rw [e,h6] at h2;cases h2
 ·intro h
  split at h
  ·rename_i h1
   split at h
   ·rename_i o ho
    obtain ⟨_,h2⟩:=List.mem_filter.1 h
    simp only [Bool.not_eq_true',decide_eq_false_iff_not] at h2
    have hr:cw c x.1=false:=by
     cases hr:cw c x.1 with
     |false=>rfl
     |true =>
      have:x.1∈(kids c x.2.2.1).filter (cw c):=List.mem_filter.2 ⟨hxk,hr⟩
      rw [ho,List.mem_singleton] at this
      exact absurd this h2
    have h4:=congrArg List.length (hlen hr)
    rw [List.length_map,ho] at h4
    exact ⟨⟨h1,hr⟩,h4⟩
   ·cases h
  ·cases h
def par (c:List Mg) (m:Mg):Option Mg:=c.find? fun x=>decide (x.1=m.2.2.1∧x.2.1≠3)
def way (c : List Mg) : Nat → Mg → List Mg
 |0,_=>[]
 |n+1,m=>m::(if m.2.1=1 then [] else match par c m with|some x=>way c n x|none=>[])
theorem wL {m x:Mg} (h:par c m=some x):x∈c∧x.1=m.2.2.1∧x.2.1≠3:=by
 have h1:=List.find?_some h
 have h2:=List.mem_of_find?_eq_some h
 exact ⟨h2,(of_decide_eq_true h1).1,(of_decide_eq_true h1).2⟩
theorem Q2 (hs:SI c) {m x:Mg} (hx:x∈c) (h1:x.1=m.2.2.1) (h3:x.2.1≠3):par c m=some x:=by
 cases h:par c m with
 |none =>
  have:=List.find?_eq_none.1 h x hx
  exact absurd (decide_eq_true ⟨h1,h3⟩) this
 |some y =>
  obtain ⟨h4,h5,_⟩:=wL h
  rw [hs.inj h4 hx (by rw [h5,h1])]
end
end Go.Proofs.Tryz
end
section
namespace Go.Proofs.Tryz
open Go.AM
set_option maxRecDepth 100000
set_option maxHeartbeats 1000000
theorem agx {c bt:List Mg} {v5 v6:Bool} {v7 cZ aK:Int} {v50 U1 U2 v59:ByteArray} {v53 v60:Bool} (hc:c.length<1000000000) (y x:Mg) :
  iter (fun a=>ak (g77_1 a)) (c,v5,v6,v7,false,bt,cZ,aK,v50,U1,v53,U2,v59,v60,c,((c.length:Nat):Int),(0:Int),y.1,y.2.1,y.2.2.1,y.2.2.2.1,y.2.2.2.2,x.1,x.2.1,x.2.2.1,x.2.2.2.1,x.2.2.2.2,()) =
   some (c,v5,v6,v7,cw c x.1,bt,cZ,aK,v50,U1,v53,U2,v59,v60,y.1,y.2.1,y.2.2.1,y.2.2.2.1,y.2.2.2.2,()):=by
 refine aL c (fun k (b : Bool) => (c, v5, v6, v7, b, bt, cZ, aK, v50, U1, v53, U2, v59, v60, c, ((c.length : Nat) : Int), (k : Int), y.1, y.2.1, y.2.2.1, y.2.2.2.1, y.2.2.2.2, x.1, x.2.1, x.2.2.1, x.2.2.2.1, x.2.2.2.2, ()))
  (fun b r=>(c,v5,v6,v7,b||cw r x.1,bt,cZ,aK,v50,U1,v53,U2,v59,v60,y.1,y.2.1,y.2.2.1,y.2.2.2.1,y.2.2.2.2,())) (fun _ _=>True) ?_ ?_ (s:=false) trivial
 ·intro pre z post b hz _
  have hlen:c.length=pre.length+(post.length+1):=by rw [hz];simp
  have hd:c.getD pre.length (bs [],(0:Int),bs [],bs [],(0:Int))=z:=by rw [hz];exact aT rfl
  have i1:ee (pre.length:Int) ((c.length:Nat):Int)=true:=bJ (by omega) (by omega)
  have r1:eV .i64 ((pre.length:Int)+1)=true:=aH (by omega) (by omega)
  left
  refine ⟨b||decide (z.2.1=3∧z.2.2.1=x.1),?_,trivial,by simp only [cw,List.any_cons,Bool.or_assoc]⟩
  simp only [g77_1,ai,aP,aG,aa,Int.toNat_natCast,hd,i1,r1,af,aU,aS,seq_eq]
  rw [if_pos (by omega)]
  cases b
  ·rw [aV]
   by_cases h3:z.2.1=3
   ·rw [if_pos h3];simp [h3]
   ·rw [if_neg h3];simp [h3]
  ·rw [aO];simp
 ·intro b _
  simp only [g77_1,ai,aa,aU]
  rw [if_neg (by omega)]
  simp [cw]
def zB (c:List Mg) (y:Mg) (s:Bool×Bool×Nat) (z:Mg):Bool×Bool×Nat :=
 (s.1||decide (z.1=y.2.2.1∧z.2.1≠3),s.2.1||decide (z.2.1=3∧z.2.2.1=y.1),if z.2.1=2∧z.2.2.1=y.2.2.1∧z.1≠y.1∧cw c z.1=true then s.2.2+1 else s.2.2)
theorem FO (c : List Mg) (y : Mg) : ∀ (l : List Mg) (s : Bool × Bool × Nat), l.foldl (zB c y) s = (s.1 || Kq l y.2.2.1, s.2.1 || cw l y.1, s.2.2 + (l.filter fun m => decide (m.2.1 = 2 ∧ m.2.2.1 = y.2.2.1 ∧ m.1 ≠ y.1 ∧ cw c m.1 = true)).length)
 |[],s=>by simp [Kq,cw]
 |z::l,s=>by
  rw [List.foldl_cons,FO c y l]
  unfold zB Kq cw
  simp only [List.any_cons,Bool.or_assoc,List.filter_cons,decide_eq_true_eq]
  congr 2
  split<;>simp<;>omega
theorem k77 {c:List Mg} (hc:c.length<1000000000) (y:Mg):ak (F77 c y)=some (iV c y,()):=by
 have hit:iter (fun a=>ak (g77_0 a)) (c,false,false,(0:Int),c,((c.length:Nat):Int),(0:Int),y.1,y.2.1,y.2.2.1,y.2.2.2.1,y.2.2.2.2,()) =
   some ((c.foldl (zB c y) (false,false,0)).1,(c.foldl (zB c y) (false,false,0)).2.1,(((c.foldl (zB c y) (false,false,0)).2.2:Nat):Int),()):=by
  refine aL c (fun k (s : Bool × Bool × Nat) => (c, s.1, s.2.1, ((s.2.2 : Nat) : Int), c, ((c.length : Nat) : Int), (k : Int), y.1, y.2.1, y.2.2.1, y.2.2.2.1, y.2.2.2.2, ()))
   (fun s r=>((r.foldl (zB c y) s).1,(r.foldl (zB c y) s).2.1,(((r.foldl (zB c y) s).2.2:Nat):Int),())) (fun pre s=>s.2.2≤pre.length) ?_ ?_ (s:=(false,false,0)) (Nat.le_refl _)
  ·rintro pre z post ⟨a, b, n⟩ hz hn
   have hlen:c.length=pre.length+(post.length+1):=by rw [hz];simp
   have hd:c.getD pre.length (bs [],(0:Int),bs [],bs [],(0:Int))=z:=by rw [hz];exact aT rfl
   have i1:ee (pre.length:Int) ((c.length:Nat):Int)=true:=bJ (by omega) (by omega)
   have r1:eV .i64 ((pre.length:Int)+1)=true:=aH (by omega) (by omega)
   simp only at hn
   have r2:eV .i64 ((n:Int)+1)=true:=aH (by omega) (by omega)
   left
   refine ⟨zB c y (a,b,n) z,?_,?_,rfl⟩
   ·unfold zB
    simp only [g77_0,ai,aP,aG,aa,ay,bg,Int.toNat_natCast,hd,i1,r1,af,aZ,seq_eq,agx hc,aD,jT]
    rw [if_pos (show decide ((pre.length:Int)<((c.length:Nat):Int))=true from decide_eq_true (by omega))]
    generalize hk:z.2.1=k
    generalize hi:z.1=i
    generalize ho:z.2.2.1=o
    have hr0:cw c z.1=cw c i:=by rw [hi]
    by_cases h3:k=3
    ·have h2 : k ≠ 2 := by omega
     rcases Classical.propComplete (i=y.2.2.1) with h1|h1<;>cases a<;>cases b<;>simp [h3,h1]
    ·by_cases h2 : k = 2
     ·rcases Classical.propComplete (i=y.2.2.1) with h1|h1<;>rcases Classical.propComplete (o=y.2.2.1) with h4|h4<;>rcases Classical.propComplete (i=y.1) with h5|h5<;>cases hr:cw c i<;>cases a<;>cases b<;>simp [h2,h1,h4,h5,r2]
     ·rcases Classical.propComplete (i=y.2.2.1) with h1|h1<;>cases a<;>cases b<;>simp [h2,h3,h1]
   ·have : (pre ++ [z]).length = pre.length + 1 := by simp
    rw [this]
    unfold zB
    simp only
    split<;>omega
  ·rintro s _
   simp only [g77_0,ai,aa,aU]
   rw [if_neg (by omega)]
   rfl
 unfold F77
 simp only [ay,bg]
 rw [ag hit,FO]
 simp only [ai,aa,aZ,jT,Bool.false_or,Nat.zero_add]
 have hN:∀n:Nat,(((n:Nat):Int)==1)=decide (n=1):=fun n=>by
  rw [Bool.eq_iff_iff,beq_iff_eq,decide_eq_true_eq];omega
 unfold iV
 rw [hN]
 cases Kq c y.2.2.1<;>cases cw c y.1<;>simp
theorem agy {c b1:List Mg} {Ak:Nat} {v6:Bool} {v7:Int} (hc:c.length<1000000000) (y:Mg) :
  iter (fun a=>ak (g34_1 a)) (c,Ak,v6,v7,c,((c.length:Nat):Int),(0:Int),y.1,y.2.1,y.2.2.1,y.2.2.2.1,y.2.2.2.2,b1,()) =
   some (match par c y with|some x=>(c,Ak,v6,v7,true,x.1,x.2.1,x.2.2.1,x.2.2.2.1,x.2.2.2.2,b1,())|none=>(c,Ak,v6,v7,false,y.1,y.2.1,y.2.2.1,y.2.2.2.1,y.2.2.2.2,b1,())):=by
 refine aL c (fun k (_ : Unit) => (c, Ak, v6, v7, c, ((c.length : Nat) : Int), (k : Int), y.1, y.2.1, y.2.2.1, y.2.2.2.1, y.2.2.2.2, b1, ()))
  (fun _ r=>match par r y with|some x=>(c,Ak,v6,v7,true,x.1,x.2.1,x.2.2.1,x.2.2.2.1,x.2.2.2.2,b1,())|none=>(c,Ak,v6,v7,false,y.1,y.2.1,y.2.2.1,y.2.2.2.1,y.2.2.2.2,b1,())) (fun _ _=>True) ?_ ?_ (s:=()) trivial
 ·intro pre z post _ hz _
  have hlen:c.length=pre.length+(post.length+1):=by rw [hz];simp
  have hd:c.getD pre.length (bs [],(0:Int),bs [],bs [],(0:Int))=z:=by rw [hz];exact aT rfl
  have i1:ee (pre.length:Int) ((c.length:Nat):Int)=true:=bJ (by omega) (by omega)
  have r1:eV .i64 ((pre.length:Int)+1)=true:=aH (by omega) (by omega)
  by_cases h:z.1=y.2.2.1∧z.2.1≠3
  ·right
   have hp:par (z::post) y=some z:=by unfold par;rw [List.find?_cons_of_pos];simpa using h
   rw [hp]
   simp only [g34_1,ai,aP,aG,aa,Int.toNat_natCast,hd,i1,r1,af,aU,aS,aZ,seq_eq]
   rw [if_pos (by omega),if_pos h.1,if_neg h.2]
  ·left
   have hp:par (z::post) y=par post y:=by unfold par;rw [List.find?_cons_of_neg];simpa using h
   refine ⟨(),?_,trivial,by rw [hp]⟩
   simp only [g34_1,ai,aP,aG,aa,Int.toNat_natCast,hd,i1,r1,af,aU,aS,aZ,seq_eq]
   rw [if_pos (by omega)]
   by_cases h1:z.1=y.2.2.1
   ·rw [if_pos h1,if_pos (Classical.byContradiction fun h3=>h ⟨h1,h3⟩)];rfl
   ·rw [if_neg h1];rfl
 ·intro _ _
  simp only [g34_1,ai,aa,aU]
  rw [if_neg (by omega)]
  rfl
def dP (c : List Mg) : Nat → Mg → Bool → List Mg × Bool × Bool
 |0,_,o=>([],false,o)
 |n+1,m,o=>if m.2.1=1 then ([m],!o,o) else match par c m with
  |some x=>(m::(dP c n x (o||iV c m)).1,(dP c n x (o||iV c m)).2)
  |none=>([m],false,o||iV c m)
theorem XB {c:List Mg} (hc:c.length<1000000):∀(n k:Nat) (m:Mg) (pre:List Mg) (o:Bool),k+n=9→pre.length≤k →
  (iter (fun a=>ak (g34_0 a)) (c,pre.length,o,(k:Int),m.1,m.2.1,m.2.2.1,m.2.2.2.1,m.2.2.2.2,pre,())=some (.inl ((pre++(dP c n m o).1).length,(dP c n m o).2.1,(dP c n m o).2.2,pre++(dP c n m o).1,()))) ∨
  (iter (fun a=>ak (g34_0 a)) (c,pre.length,o,(k:Int),m.1,m.2.1,m.2.2.1,m.2.2.2.1,m.2.2.2.2,pre,())=some (.inr ((pre++(dP c n m o).1).length,(dP c n m o).2.2,pre++(dP c n m o).1,()))∧(dP c n m o).2.1=false)
 |0,k,m,pre,o,hk,hp=>by
  right
  refine ⟨ga ?_,rfl⟩
  simp only [g34_0,ai,aa,aU]
  rw [if_neg (by omega)]
  simp [dP]
 |n+1,k,m,pre,o,hk,hp=>by
  have e1:((([(m.1,m.2.1,m.2.2.1,m.2.2.2.1,m.2.2.2.2)]:List Mg).drop 0).take 1)=[m]:=rfl
  have e2:(pre.drop 0).take pre.length=pre:=by simp
  have d1:decide (pre.length+1<cg)=true:=decide_eq_true (by rw [eB];omega)
  have r1:eV .i64 ((k:Int)+1)=true:=aH (by omega) (by omega)
  have hpl:pre.length+1=(pre++[m]).length:=by simp
  have h77:=k77 (show c.length<1000000000 by omega) m
  have h341:=fun o=>agy (c:=c) (b1:=pre++[m]) (Ak:=pre.length+1) (v6:=o) (v7:=(k:Int)) (by omega) m
  by_cases h1:m.2.1=1
  ·left
   have Nc:dP c (n+1) m o=([m],!o,o):=by unfold dP;rw [if_pos h1]
   rw [Nc]
   refine ga ?_
   simp only [g34_0,ai,aW,aa,aU,aS,e1,e2,List.length_singleton,d1,af]
   rw [if_pos (by omega),if_pos h1,hpl]
  ·have hs:∀o',o'=(o||iV c m)→ak (g34_0 (c,pre.length,o,(k:Int),m.1,m.2.1,m.2.2.1,m.2.2.2.1,m.2.2.2.2,pre,()))=(match par c m with
     |some x=>some (.inl (c,pre.length+1,o',((k+1:Nat):Int),x.1,x.2.1,x.2.2.1,x.2.2.2.1,x.2.2.2.2,pre++[m],()))
     |none=>some (.inr (.inl (pre.length+1,false,o',pre++[m],())))):=by
    rintro o' rfl
    simp only [g34_0,ai,aW,aa,ay,bg,aG,aU,aS,e1,e2,List.length_singleton,d1,af]
    rw [if_pos (by omega),if_neg h1]
    cases o
    ·rw [aV, ag (show ak (F77 c (m.1, m.2.1, m.2.2.1, m.2.2.2.1, m.2.2.2.2)) = _ from h77)]
     simp only
     rw [ag (h341 (iV c m))]
     simp only [Bool.false_or]
     cases hp:par c m with
     |none=>simp only [Bool.not_false,aO]
     |some x=>simp only [Bool.not_true,aV,r1,af];rfl
    ·rw [aO, ag (h341 true)]
     simp only [Bool.true_or]
     cases hp:par c m with
     |none=>simp only [Bool.not_false,aO]
     |some x=>simp only [Bool.not_true,aV,r1,af];rfl
   have hs:=hs _ rfl
   cases Rp:par c m with
   |none =>
    rw [Rp] at hs
    left
    have Nc:dP c (n+1) m o=([m],false,o||iV c m):=by conv=>lhs;unfold dP;rw [if_neg h1,Rp]
    rw [Nc]
    refine ga ?_
    rw [←hpl];exact hs
   |some x =>
    rw [Rp] at hs
    have Nc:dP c (n+1) m o=(m::(dP c n x (o||iV c m)).1,(dP c n x (o||iV c m)).2):=by conv=>lhs;unfold dP;rw [if_neg h1,Rp]
    rw [Nc]
    have ih:=XB hc n (k+1) x (pre++[m]) (o||iV c m) (by omega) (by simp;omega)
    rw [←hpl] at ih
    simp only [List.append_assoc,List.singleton_append] at ih
    rcases ih with ih|⟨ih,h⟩
    ·left;exact kQ hs ih
    ·right;exact ⟨kQ hs ih,h⟩
theorem k34 {c:List Mg} (hc:c.length<1000000) (m:Mg):ak (F34 c m)=some ((dP c 9 m false).1,(dP c 9 m false).2.1,(dP c 9 m false).2.2,()):=by
 unfold F34
 simp only [ay,bg]
 rcases XB hc 9 0 m [] false rfl (Nat.le_refl _) with h|⟨h,hf⟩
 ·refine Eq.trans (ag h) ?_
  simp only [jG,aa,List.nil_append,List.drop_zero,List.take_length]
 ·refine Eq.trans (ag h) ?_
  rw [hf]
  simp only [gF,aa,List.nil_append,List.drop_zero,List.take_length]
def Q3 (c:List Mg) (m:Mg):Bool:=c.any fun x=>decide (x.2.1=2∧x.2.2.1=m.1∧(dP c 9 x false).2.1=true)
theorem agA {c w:List Mg} {s:Bool} (hc:c.length<1000000) (m:Mg) :
  iter (fun a=>ak (g35_0 a)) (c,w,s,c,((c.length:Nat):Int),(0:Int),m.1,m.2.1,m.2.2.1,m.2.2.2.1,m.2.2.2.2,())=some (if Q3 c m=true then Sum.inl (bs [],()) else Sum.inr (w,s,())):=by
 refine aL c (fun k (_ : Unit) => (c, w, s, c, ((c.length : Nat) : Int), (k : Int), m.1, m.2.1, m.2.2.1, m.2.2.2.1, m.2.2.2.2, ()))
  (fun _ r=>if (r.any fun x=>decide (x.2.1=2∧x.2.2.1=m.1∧(dP c 9 x false).2.1=true))=true then Sum.inl (bs [],()) else Sum.inr (w,s,())) (fun _ _=>True) ?_ ?_ (s:=()) trivial
 ·intro pre z post _ hz _
  have hlen:c.length=pre.length+(post.length+1):=by rw [hz];simp
  have hd:c.getD pre.length (bs [],(0:Int),bs [],bs [],(0:Int))=z:=by rw [hz];exact aT rfl
  have i1:ee (pre.length:Int) ((c.length:Nat):Int)=true:=bJ (by omega) (by omega)
  have r1:eV .i64 ((pre.length:Int)+1)=true:=aH (by omega) (by omega)
  have RC:ak (F34 c (z.1,z.2.1,z.2.2.1,z.2.2.2.1,z.2.2.2.2))=_:=k34 hc z
  by_cases h:z.2.1=2∧z.2.2.1=m.1∧(dP c 9 z false).2.1=true
  ·right
   rw [if_pos (by rw [List.any_cons,decide_eq_true h];rfl)]
   simp only [g35_0,ai,aP,aG,aa,ay,Int.toNat_natCast,hd,i1,r1,af,aU,aS,seq_eq]
   rw [if_pos (by omega),if_pos h.1,if_pos h.2.1,ag RC]
   simp only [h.2.2,aO]
  ·left
   refine ⟨(),?_,trivial,by rw [List.any_cons,decide_eq_false h,Bool.false_or]⟩
   simp only [g35_0,ai,aP,aG,aa,ay,Int.toNat_natCast,hd,i1,r1,af,aU,aS,seq_eq]
   rw [if_pos (by omega)]
   by_cases h2:z.2.1=2
   ·rw [if_pos h2]
    by_cases h4:z.2.2.1=m.1
    ·rw [if_pos h4, ag RC]
     have:(dP c 9 z false).2.1=false:=by
      cases hh:(dP c 9 z false).2.1 with
      |false=>rfl
      |true=>exact absurd ⟨h2,h4,hh⟩ h
     simp only [this,aV]
     rfl
    ·rw [if_neg h4];rfl
   ·rw [if_neg h2];rfl
 ·intro _ _
  simp only [g35_0,ai,aa,aU]
  rw [if_neg (by omega)]
  simp
theorem Q4 {c:List Mg} {n:Nat} {m:Mg} {o:Bool}:(dP c (n+1) m o).1≠[]:=by
 unfold dP
 split
 ·simp
 ·split<;>simp
theorem k35 {c:List Mg} (hc:c.length<1000000) (m:Mg):ak (F35 c m)=some (if m.2.1=3 then (bs [],false,()) else if Q3 c m=true then (bs [],false,()) else (((dP c 9 m false).1.getD ((dP c 9 m false).1.length - 1) zM).1,(dP c 9 m false).2.1,())):=by
 have RC:ak (F34 c (m.1,m.2.1,m.2.2.1,m.2.2.2.1,m.2.2.2.2))=_:=k34 hc m
 have hne:0<(dP c 9 m false).1.length:=List.length_pos_iff.2 Q4
 have hle:∀(n:Nat) (m:Mg) (o:Bool),(dP c n m o).1.length≤n:=by
  intro n
  induction n with
  |zero=>intro m o;simp [dP]
  |succ n ih =>
   intro m o
   unfold dP
   split
   ·simp
   ·split
    ·simp only [List.length_cons];have:=ih ‹_› (o||iV c m);omega
    ·simp
 have hle:=hle 9 m false
 unfold F35
 simp only [ai,aa,ay,bg,aS]
 by_cases h3:m.2.1=3
 ·rw [if_pos h3,if_pos h3]
 ·rw [if_neg h3, if_neg h3, ag RC]
  simp only
  rw [ag (agA hc m)]
  cases Q3 c m with
  |true=>simp only [if_true,jG,aa]
  |false =>
   simp only [Bool.false_eq_true,if_false,gF,aG,aP,aa]
   rw [mS (by omega) (by omega),bJ (by omega) (by omega),af,show Int.toNat (((dP c 9 m false).1.length:Int) - 1)=(dP c 9 m false).1.length - 1 by omega]
end Go.Proofs.Tryz
end
section
namespace Go.Proofs.Tryz
open Go.AM
set_option maxRecDepth 100000
section
variable {c:List Mg}
def vo (c:List Mg):Prop:=∀m∈c,m.2.1=1∨m.2.1=2∨m.2.1=3
def Tk (c:List Mg) (t:ByteArray):Prop:=∃m∈c,m.1=t∧m.2.1=1
def NR (c:List Mg) (t:ByteArray):Prop:=∃m∈c,m.1=t∧m.2.1≠3
theorem nY (hs:SI c) {m:Mg} (hm:m∈c) {y:ByteArray} (h:m.1∈kids c y):m.2.1=2∧m.2.2.1=y:=by
  obtain ⟨m',hm',e,h2,h3⟩:=gp.1 h
  rw [hs.inj hm' hm e] at h2 h3;exact ⟨h2,h3⟩
theorem Tk.top (hs:SI c) {t:ByteArray} (h:Tk c t):RB c t:=by
  obtain ⟨m,hm,rfl,h1⟩:=h
  intro x hx
  have:=(nY hs hm hx).1
  omega
theorem Tk.ids {t:ByteArray} (h:Tk c t):t∈ids c:=by obtain ⟨m,hm,rfl,_⟩:=h;exact List.mem_map.2 ⟨m,hm,rfl⟩
theorem Tk.nr {t:ByteArray} (h:Tk c t):NR c t:=by obtain ⟨m,hm,rfl,h1⟩:=h;exact ⟨m,hm,rfl,by omega⟩
theorem Ks {x y:ByteArray} (h:y∈kids c x):NR c y:=by
  obtain ⟨m,hm,rfl,h2,_⟩:=gp.1 h;exact ⟨m,hm,rfl,by omega⟩
theorem cC {x z:ByteArray} {n:Nat} (h:iS c x n z):(n=0∧z=x)∨∃k y,n=k+1∧iS c x k y∧z∈kids c y:=by
  cases h with
  |zero=>exact .inl ⟨rfl,rfl⟩
  |step h hz=>exact .inr ⟨_,_,rfl,h,hz⟩
theorem wM {n:Nat} {x y:ByteArray} (h:iS c x n y) (hx:x∈ids c):y∈ids c:=by
  rcases cC h with ⟨_,rfl⟩|⟨_,_,_,_,hz⟩
  · exact hx
  · exact jt hz
theorem zC {n:Nat} {x y:ByteArray} (h:iS c x n y) (hx:NR c x):NR c y:=by
  rcases cC h with ⟨_,rfl⟩|⟨_,_,_,_,hz⟩
  · exact hx
  · exact Ks hz
theorem wN {x : ByteArray} : ∀ {b a : Nat} {z : ByteArray}, iS c x (a + b) z → ∃ y, iS c x a y ∧ iS c y b z
  |0,_,z,h=>⟨z,h,.zero⟩
  |b+1,a,z,h=>by
    rcases cC h with ⟨h0,_⟩|⟨k,y,hk,h1,hz⟩
    · omega
    · obtain rfl : k = a + b := by omega
      obtain ⟨w,h2,h3⟩:=wN h1
      exact ⟨w,h2,.step h3 hz⟩
theorem MB {y x:ByteArray} (hy:y∈ids c) (d:Nat):iS c y d x→∃d',d'<c.length∧iS c y d' x:=by
  induction d using Nat.strongRecOn with
  |_ d ih =>
    intro h
    by_cases hd:d<c.length
    · exact ⟨d,hd,h⟩
    · have hex : ∀ i, i ≤ d → ∃ z, iS c y (d - i) z ∧ iS c z i x := fun i hi => wN (b := i) (a := d - i) (by rw [Nat.sub_add_cancel hi]; exact h)
      have hex2:∀i,∃z,i≤d→iS c y (d - i) z∧iS c z i x:=fun i=>by
        by_cases hi:i≤d
        · obtain ⟨z,hz⟩:=hex i hi;exact ⟨z,fun _=>hz⟩
        · exact ⟨y,fun h=>absurd h hi⟩
      obtain ⟨f,hf⟩:=Classical.axiomOfChoice hex2
      by_cases mA:∃i j,i<j∧j≤d∧f i=f j
      · obtain ⟨i, j, hij, hj, e⟩ := mA
        have h1:=(hf j hj).1
        have h2:=(hf i (by omega)).2
        rw [e] at h2
        exact ih (d - j+i) (by omega) (h1.add h2)
      · have hnd:((List.range (d+1)).map f).Nodup:=by
          unfold List.Nodup
          rw [List.pairwise_map]
          refine List.Pairwise.imp_of_mem ?_ List.pairwise_lt_range
          intro a b ha hb hab e
          exact mA ⟨a,b,hab,by have:=List.mem_range.1 hb;omega,e⟩
        have := List.Nodup.length_le_of_subset hnd (l₂ := ids c) (by
          intro z hz
          obtain ⟨i,hi,rfl⟩:=List.mem_map.1 hz
          exact wM (hf i (by have:=List.mem_range.1 hi;omega)).1 hy)
        have hl:(ids c).length=c.length:=by simp [ids]
        simp at this
        omega
theorem Kt (hs:SI c) (hk:vo c):∀(n:Nat) {m:Mg} {o:Bool},m∈c→m.2.1≠3 →
    ((dP c n m o).2.2=true↔o=true∨∃d,d<n∧∃p y,y∈dir c (p,kids c p)∧iS c y d m.1)
  |0,m,o,_,_=>by simp [dP]
  |n+1,m,o,hm,h3=>by
    by_cases h1:m.2.1=1
    · have e : dP c (n + 1) m o = ([m], !o, o) := by unfold dP; rw [if_pos h1]
      rw [e]
      refine ⟨.inl,?_⟩
      rintro (h|⟨d,_,p,y,hy,hp⟩)
      · exact h
      · have ht : RB c m.1 := Tk.top hs ⟨m, hm, rfl, h1⟩
        rcases cC hp with ⟨_,e⟩|⟨_,_,_,_,hz⟩
        · rw [←e] at hy;exact absurd (nV hy) (ht _)
        · exact absurd hz (ht _)
    · have h2 : m.2.1 = 2 := by rcases hk m hm with h | h | h <;> omega
      have hS:=QZ hs hm h2
      have AF:∀p y,y∈dir c (p,kids c p)→m.1=y→iV c m=true:=fun p y hy e=>by
        have h4:=nV hy
        rw [←e] at h4 hy
        rw [hS,(nY hs hm h4).2];exact hy
      cases hp:par c m with
      |none =>
        have e:dP c (n+1) m o=([m],false,o||iV c m):=by conv=>lhs;unfold dP;rw [if_neg h1,hp]
        rw [e]
        simp only [Bool.or_eq_true]
        constructor
        · rintro (h | h)
          · exact .inl h
          · exact .inr ⟨0,by omega,_,_,hS.1 h,.zero⟩
        · rintro (h | ⟨d, hd, p, y, hy, hpt⟩)
          · exact .inl h
          · rcases cC hpt with ⟨_, e⟩ | ⟨k, z, _, h4, hz⟩
            · exact .inr (AF p y hy e)
            · obtain ⟨x, hx, h5, h6⟩ := zC h4 (Ks (nV hy))
              rw [Q2 hs hx (by rw [h5];exact (nY hs hm hz).2.symm) h6] at hp
              cases hp
      |some x =>
        have e:dP c (n+1) m o=(m::(dP c n x (o||iV c m)).1,(dP c n x (o||iV c m)).2):=by conv=>lhs;unfold dP;rw [if_neg h1,hp]
        rw [e]
        obtain ⟨hx,hx1,I2⟩:=wL hp
        have ih:=Kt hs hk n (o:=o||iV c m) hx I2
        rw [ih,Bool.or_eq_true]
        have gT:m.1∈kids c x.1:=by rw [hx1];exact nX hm h2
        constructor
        · rintro ((h | h) | ⟨d, hd, p, y, hy, hpt⟩)
          · exact .inl h
          · exact .inr ⟨0,by omega,_,_,hS.1 h,.zero⟩
          · exact .inr ⟨d+1,by omega,p,y,hy,.step hpt gT⟩
        · rintro (h | ⟨d, hd, p, y, hy, hpt⟩)
          · exact .inl (.inl h)
          · rcases cC hpt with ⟨_, e⟩ | ⟨k, z, hk', h4, hz⟩
            · exact .inl (.inr (AF p y hy e))
            · rw [wF hs hz gT] at h4
              exact .inr ⟨k,by omega,p,y,hy,h4⟩
theorem Ku (hs:SI c) (hk:vo c):∀(n:Nat) {m:Mg} {o:Bool},m∈c→m.2.1≠3 →
    ((dP c n m o).2.1=true↔(dP c n m o).2.2=false∧∃d,d<n∧∃t,Tk c t∧iS c t d m.1)
  |0,m,o,_,_=>by simp [dP]
  |n+1,m,o,hm,h3=>by
    by_cases h1:m.2.1=1
    · have e : dP c (n + 1) m o = ([m], !o, o) := by unfold dP; rw [if_pos h1]
      rw [e]
      simp only [Bool.not_eq_true']
      exact ⟨fun h=>⟨h,0,by omega,m.1,⟨m,hm,rfl,h1⟩,.zero⟩,fun h=>h.1⟩
    · have h2 : m.2.1 = 2 := by rcases hk m hm with h | h | h <;> omega
      have AF:∀t,Tk c t→m.1=t→False:=fun t ht e=>ht.top hs m.2.2.1 (show t∈kids c m.2.2.1 by rw [←e];exact nX hm h2)
      cases hp:par c m with
      |none =>
        have e:dP c (n+1) m o=([m],false,o||iV c m):=by conv=>lhs;unfold dP;rw [if_neg h1,hp]
        rw [e]
        simp only [Bool.false_eq_true,false_iff]
        rintro ⟨_,d,hd,t,ht,hpt⟩
        rcases cC hpt with ⟨_,e⟩|⟨k,z,_,h4,hz⟩
        · exact AF t ht e
        · obtain ⟨x, hx, h5, h6⟩ := zC h4 ht.nr
          rw [Q2 hs hx (by rw [h5];exact (nY hs hm hz).2.symm) h6] at hp
          cases hp
      |some x =>
        have e:dP c (n+1) m o=(m::(dP c n x (o||iV c m)).1,(dP c n x (o||iV c m)).2):=by conv=>lhs;unfold dP;rw [if_neg h1,hp]
        rw [e]
        obtain ⟨hx,hx1,I2⟩:=wL hp
        have gT:m.1∈kids c x.1:=by rw [hx1];exact nX hm h2
        rw [Ku hs hk n (o:=o||iV c m) hx I2]
        refine and_congr_right fun _=>?_
        constructor
        · rintro ⟨d, hd, t, ht, hpt⟩
          exact ⟨d+1,by omega,t,ht,.step hpt gT⟩
        · rintro ⟨d, hd, t, ht, hpt⟩
          rcases cC hpt with ⟨_,e⟩|⟨k,z,hk',h4,hz⟩
          · exact (AF t ht e).elim
          · rw [wF hs hz gT] at h4
            exact ⟨k,by omega,t,ht,h4⟩
theorem MC {m:Mg} {l:List Mg} (h:l≠[]):(m::l).getD ((m::l).length - 1) zM=l.getD (l.length - 1) zM:=by
  cases l with
  |nil=>exact absurd rfl h
  |cons a l=>rfl
theorem FP (hs:SI c) (hk:vo c):∀(n:Nat) {m:Mg} {o:Bool},m∈c→m.2.1≠3→(dP c n m o).2.1=true →
    Tk c ((dP c n m o).1.getD ((dP c n m o).1.length - 1) zM).1∧∃d,iS c ((dP c n m o).1.getD ((dP c n m o).1.length - 1) zM).1 d m.1
  |0,m,o,_,_,h=>by simp [dP] at h
  |n+1,m,o,hm,h3,h=>by
    by_cases h1:m.2.1=1
    · have e : dP c (n + 1) m o = ([m], !o, o) := by unfold dP; rw [if_pos h1]
      rw [e]
      exact ⟨⟨m,hm,rfl,h1⟩,0,.zero⟩
    · have h2 : m.2.1 = 2 := by rcases hk m hm with h | h | h <;> omega
      cases hp:par c m with
      |none =>
        have e:dP c (n+1) m o=([m],false,o||iV c m):=by conv=>lhs;unfold dP;rw [if_neg h1,hp]
        rw [e] at h;cases h
      |some x =>
        have e:dP c (n+1) m o=(m::(dP c n x (o||iV c m)).1,(dP c n x (o||iV c m)).2):=by conv=>lhs;unfold dP;rw [if_neg h1,hp]
        rw [e] at h ⊢
        obtain ⟨hx,hx1,I2⟩:=wL hp
        have gT:m.1∈kids c x.1:=by rw [hx1];exact nX hm h2
        have hn:(dP c n x (o||iV c m)).1≠[]:=by
          cases n with
          |zero=>simp [dP] at h
          |succ n=>exact Q4
        rw [MC hn]
        obtain ⟨q1,d,q2⟩:=FP hs hk n hx I2 h
        exact ⟨q1,d+1,.step q2 gT⟩
theorem VK {t:ByteArray} (ht:RB c t):eD c t=false:=by
  cases h:eD c t with
  |false=>rfl
  |true =>
    obtain ⟨p,y,hy,hd⟩:=lF.1 h
    obtain ⟨n,hp⟩:=hd.pth
    rcases cC hp with ⟨_,e⟩|⟨_,_,_,_,hz⟩
    · rw [←e] at hy;exact absurd (nV hy) (ht _)
    · exact absurd hz (ht _)
theorem Q5 {x z:ByteArray} (h:eD c z=false) (hz:z∈kids c x):eD c x=false:=by
  cases h':eD c x with
  |false=>rfl
  |true=>rw [Vr h' hz] at h;cases h
theorem Kv {n:Nat} {x z:ByteArray} (hp:iS c x n z) (h:eD c z=false):eD c x=false:=by
  induction hp with
  |zero=>exact h
  |step _ hz ih=>exact ih (Q5 h hz)
theorem Kw (hs : SI c) (hk : vo c) : ∀ {n : Nat} {x t : ByteArray}, Am c n x = some t ↔ Tk c t ∧ eD c x = false ∧ ∃ d, d < n ∧ iS c t d x
  |0,x,t=>by simp [Am]
  |n+1,x,t=>by
    unfold Am
    by_cases hm:lG c x=true
    · rw [if_pos hm]
      obtain ⟨fq,hm2⟩:=me hs hm
      by_cases h3:(msg c x).2.1=3
      · rw [if_pos h3]
        simp only [reduceCtorEq,false_iff]
        rintro ⟨ht,_,d,_,hp⟩
        obtain ⟨m,hm',e,h3'⟩:=zC hp ht.nr
        have:=hs.inj hm' fq (by rw [e,hm2])
        rw [this] at h3'
        exact h3' h3
      · rw [if_neg h3]
        by_cases hst:eD c x=true
        · rw [if_pos hst]
          simp only [reduceCtorEq,false_iff]
          rintro ⟨_,h,_⟩
          rw [h] at hst;cases hst
        · rw [if_neg hst]
          have hst:eD c x=false:=by simpa using hst
          by_cases h1:(msg c x).2.1=1
          · rw [if_pos h1]
            have ht:Tk c x:=⟨_,fq,hm2,h1⟩
            constructor
            · intro e
              obtain rfl:=Option.some.inj e
              exact ⟨ht,hst,0,by omega,.zero⟩
            · rintro ⟨_, _, d, _, hp⟩
              rcases cC hp with ⟨_,e⟩|⟨_,_,_,_,hz⟩
              · rw [e]
              · exact absurd hz (ht.top hs _)
          · rw [if_neg h1, Kw hs hk]
            have h2:(msg c x).2.1=2:=by rcases hk _ fq with h|h|h<;>omega
            have gT:x∈kids c (msg c x).2.2.1:=by have:=nX fq h2;rwa [hm2] at this
            constructor
            · rintro ⟨ht, _, d, hd, hp⟩
              exact ⟨ht,hst,d+1,by omega,.step hp gT⟩
            · rintro ⟨ht, _, d, hd, hp⟩
              rcases cC hp with ⟨_,e⟩|⟨k,z,hk',h4,hz⟩
              · exact absurd (by rw [←e];exact gT) (ht.top hs _)
              · rw [wF hs hz gT] at h4
                exact ⟨ht,Q5 hst gT,k,by omega,h4⟩
    · rw [if_neg hm]
      simp only [reduceCtorEq,false_iff]
      rintro ⟨ht,_,d,_,hp⟩
      exact hm (bV.2 (wM hp ht.ids))
theorem c8 (hs:SI c) (hk:vo c) {x t:ByteArray}:iE c x=some t↔Tk c t∧eD c x=false∧∃d,iS c t d x:=by
  rw [Kw hs hk]
  exact and_congr_right fun ht=>and_congr_right fun _=>⟨fun ⟨d,_,h⟩=>⟨d,h⟩,fun ⟨d,h⟩=>⟨d,h.short hs (ht.top hs) ht.ids,h⟩⟩
theorem abo (hs:SI c) {t t' x:ByteArray} {n m:Nat} (ht:Tk c t) (ht':Tk c t') (h:iS c t n x) (h':iS c t' m x):t=t':=by
  rcases Nat.le_total n m with hle|hle
  · rcases cC (h.up hs h' hle) with ⟨_, e⟩ | ⟨_, _, _, _, hz⟩
    · exact e
    · exact absurd hz (ht.top hs _)
  · rcases cC (h'.up hs h hle) with ⟨_, e⟩ | ⟨_, _, _, _, hz⟩
    · exact e.symm
    · exact absurd hz (ht'.top hs _)
theorem Q6 (hs:SI c) (hk:vo c) (hl:c.length≤9) {m:Mg} (hm:m∈c) (h3:m.2.1≠3) :
    (dP c 9 m false).2.2=eD c m.1∧(dP c 9 m false).2.1=(iE c m.1).isSome∧∀t,iE c m.1=some t→((dP c 9 m false).1.getD ((dP c 9 m false).1.length - 1) zM).1=t:=by
  have ho:(dP c 9 m false).2.2=eD c m.1:=by
    rw [Bool.eq_iff_iff,Kt hs hk 9 hm h3,lF]
    simp only [Bool.false_eq_true,false_or]
    constructor
    · rintro ⟨d,_,p,y,hy,hp⟩;exact ⟨p,y,hy,hp.desc⟩
    · rintro ⟨p, y, hy, hd⟩
      obtain ⟨n,hp⟩:=hd.pth
      obtain ⟨d,hd,hp⟩:=MB (jt (nV hy)) n hp
      exact ⟨d,by omega,p,y,hy,hp⟩
  have hst:(dP c 9 m false).2.1=(iE c m.1).isSome:=by
    rw [Bool.eq_iff_iff,Ku hs hk 9 hm h3,Option.isSome_iff_exists,ho]
    simp only [c8 hs hk]
    constructor
    · rintro ⟨h,d,_,t,ht,hp⟩;exact ⟨t,ht,h,d,hp⟩
    · rintro ⟨t, ht, h, d, hp⟩
      exact ⟨h,d,by have:=hp.short hs (ht.top hs) ht.ids;omega,t,ht,hp⟩
  refine ⟨ho,hst,fun t ht=>?_⟩
  obtain ⟨q1,d,q2⟩:=FP hs hk 9 hm h3 (by rw [hst,ht];rfl)
  obtain ⟨h1,_,d',h2⟩:=(c8 hs hk).1 ht
  exact abo hs q1 h1 q2 h2
def eE (c:List Mg) (x:ByteArray):Option ByteArray:=if iD c x=[] then iE c x else none
theorem nj {x t:ByteArray}:eE c x=some t↔iD c x=[]∧iE c x=some t:=by
  unfold eE;split<;>simp [*]
theorem tB {x y:ByteArray}:y∈iD c x↔y∈kids c x∧eD c y=false:=by
  unfold iD;rw [List.mem_filter];simp
theorem Kx (hs:SI c) (hk:vo c) {x y t:ByteArray} (hx:iE c x=some t) (hy:y∈kids c x):(iE c y).isSome = !eD c y:=by
  rw [Bool.eq_iff_iff,Option.isSome_iff_exists,Bool.not_eq_true']
  simp only [c8 hs hk]
  obtain ⟨h1,_,d,h2⟩:=(c8 hs hk).1 hx
  exact ⟨fun ⟨_,_,h,_⟩=>h,fun h=>⟨t,h1,h,d+1,.step h2 hy⟩⟩
theorem abp (hs:SI c) (hk:vo c) (hl:c.length≤9) {m:Mg} (hm:m∈c):∃r,ak (F35 c m)=some (r,(eE c m.1).isSome,())∧∀t,eE c m.1=some t→r=t:=by
  rw [k35 (by omega)]
  by_cases h3:m.2.1=3
  · rw [if_pos h3]
    have hn:eE c m.1=none:=by
      cases h:eE c m.1 with
      |none=>rfl
      |some t =>
        obtain ⟨ht,_,d,hp⟩:=(c8 hs hk).1 (nj.1 h).2
        obtain ⟨x,hx,e,h3'⟩:=zC hp ht.nr
        rw [hs.inj hx hm e] at h3'
        exact absurd h3 h3'
    rw [hn]
    exact ⟨_,rfl,fun t h=>by cases h⟩
  · rw [if_neg h3]
    obtain ⟨ho,hst,hla⟩:=Q6 hs hk hl hm h3
    have hkS:Q3 c m=true↔∃y∈kids c m.1,(iE c y).isSome=true:=by
      unfold Q3
      rw [List.any_eq_true]
      constructor
      · rintro ⟨x, hx, h⟩
        obtain ⟨h2,h4,h5⟩:=of_decide_eq_true h
        exact ⟨x.1,by rw [←h4];exact nX hx h2,by rw [←(Q6 hs hk hl hx (by omega)).2.1];exact h5⟩
      · rintro ⟨y, hy, h⟩
        obtain ⟨x,hx,rfl,h2,h4⟩:=gp.1 hy
        exact ⟨x,hx,decide_eq_true ⟨h2,h4,by rw [(Q6 hs hk hl hx (by omega)).2.1];exact h⟩⟩
    cases hs':iE c m.1 with
    |none =>
      have hn:eE c m.1=none:=by unfold eE;rw [hs'];split<;>rfl
      rw [hn]
      split
      · exact ⟨_,rfl,fun t h=>by cases h⟩
      · exact ⟨_,by rw [hst,hs'],fun t h=>by cases h⟩
    |some t =>
      by_cases hlv:iD c m.1=[]
      · have hv : eE c m.1 = some t := by unfold eE; rw [if_pos hlv, hs']
        rw [hv,if_neg,hst,hs',hla t hs']
        · exact ⟨_,rfl,fun t h=>by cases h;rfl⟩
        · rw [hkS]
          rintro ⟨y,hy,h⟩
          rw [Kx hs hk hs' hy,Bool.not_eq_true'] at h
          have:=tB.2 ⟨hy,h⟩
          rw [hlv] at this;cases this
      · have hv : eE c m.1 = none := by unfold eE; rw [if_neg hlv]
        rw [hv,if_pos]
        · exact ⟨_,rfl,fun t h=>by cases h⟩
        · obtain ⟨y, hy⟩ := List.exists_mem_of_ne_nil _ hlv
          obtain ⟨h1,h2⟩:=tB.1 hy
          exact hkS.2 ⟨y,h1,by rw [Kx hs hk hs' h1,h2];rfl⟩
theorem zD {y : ByteArray} : ∀ {n : Nat} {x : ByteArray}, eD c x = false → (y ∈ cG c n x ↔ iD c y = [] ∧ eD c y = false ∧ ∃ d, d < n ∧ iS c x d y)
  |0,x,_=>by simp [cG]
  |n+1,x,hx=>by
    unfold cG
    split
    · rename_i hl
      rw [List.mem_singleton]
      constructor
      · rintro rfl;exact ⟨hl,hx,0,by omega,.zero⟩
      · rintro ⟨_, h2, d, _, hp⟩
        cases d with
        | zero => rcases cC hp with ⟨_, e⟩ | ⟨_, _, h, _, _⟩
                  · exact e
                  · omega
        |succ d =>
          rw [Nat.add_comm] at hp
          obtain ⟨z,hz1,hz2⟩:=wN hp
          rcases cC hz1 with ⟨h,_⟩|⟨k,w,hk,hw,hzk⟩
          · omega
          · obtain rfl : k = 0 := by omega
            rcases cC hw with ⟨_,rfl⟩|⟨_,_,h,_,_⟩
            · have := tB.2 ⟨hzk, Kv hz2 h2⟩
              rw [hl] at this;cases this
            · omega
    · rename_i k l hl
      rw [(eA (t:=.str) _).mem_iff,List.mem_flatMap,←hl]
      constructor
      · rintro ⟨z, hz, h⟩
        obtain ⟨h1,h2⟩:=tB.1 hz
        obtain ⟨h3,h4,d,hd,hp⟩:=(zD h2).1 h
        exact ⟨h3,h4,1+d,by omega,iS.add (.step .zero h1) hp⟩
      · rintro ⟨h3, h4, d, hd, hp⟩
        cases d with
        |zero =>
          rcases cC hp with ⟨_,e⟩|⟨_,_,h,_,_⟩
          · subst e;rw [hl] at h3;cases h3
          · omega
        |succ d =>
          rw [Nat.add_comm] at hp
          obtain ⟨z,hz1,hz2⟩:=wN hp
          rcases cC hz1 with ⟨h,_⟩|⟨k,w,hk,hw,hzk⟩
          · omega
          · obtain rfl : k = 0 := by omega
            rcases cC hw with ⟨_,rfl⟩|⟨_,_,h,_,_⟩
            · have hsz := Kv hz2 h4
              exact ⟨z,tB.2 ⟨hzk,hsz⟩,(zD hsz).2 ⟨h3,h4,d,by omega,hz2⟩⟩
            · omega
theorem tC (hs:SI c) (hk:vo c) {t y:ByteArray} (ht:Tk c t):y∈fS c t↔eE c y=some t:=by
  unfold fS
  rw [zD (VK (ht.top hs)),nj,c8 hs hk]
  refine and_congr_right fun _=>?_
  constructor
  · rintro ⟨h,d,_,hp⟩;exact ⟨ht,h,d,hp⟩
  · rintro ⟨_,h,d,hp⟩;exact ⟨h,d,by have:=hp.short hs (ht.top hs) ht.ids;omega,hp⟩
theorem nZ (x:ByteArray):slt x x=false:=gu (t:=.str) kS x
theorem Ky {x y:ByteArray} (h:slt x y=true) (h':slt y x=true):False:=dB (t:=.str) kS h h'
theorem KA {l l':List ByteArray} (h:l.Pairwise fun a b=>slt a b=true) (h':l'.Pairwise fun a b=>slt a b=true) (hm:∀x,x∈l↔x∈l'):l=l' :=
  lD (r:=fun a b=>slt a b=true) (fun a h=>by rw [nZ] at h;cases h) (fun a b h1 h2=>Ky h1 h2) h h' hm
theorem rA {l:List ByteArray} (h:Bh .str l) (hn:l.Nodup):l.Pairwise fun a b=>slt a b=true:=by
  refine List.Pairwise.imp₂ (fun a b h1 h2=>?_) h hn
  cases hlt:slt a b with
  |true=>rfl
  |false=>exact absurd (gM (t:=.str) kS hlt h1) h2
theorem zF : ∀ {n : Nat} {x : ByteArray}, Bh .str (cG c n x)
  |0,_=>.nil
  |n+1,x=>by
    unfold cG
    split
    · exact List.pairwise_singleton _ _
    · exact pZ (t:=.str) kS _
theorem Ij (hs:SI c) (hk:vo c) {t:ByteArray} (ht:Tk c t):fS c t=(c.filter fun m=>decide (eE c m.1=some t)).map (·.1):=by
  refine KA (rA zF (tq hs (ht.top hs) .zero)) ?_ fun y=>?_
  · rw [List.pairwise_map];exact List.Pairwise.filter _ hs
  · rw [tC hs hk ht, List.mem_map]
    constructor
    · intro h
      obtain ⟨_,_,d,hp⟩:=(c8 hs hk).1 (nj.1 h).2
      obtain ⟨m,hm,rfl⟩:=List.mem_map.1 (wM hp ht.ids)
      exact ⟨m,List.mem_filter.2 ⟨hm,by simpa using h⟩,rfl⟩
    · rintro ⟨m, hm, rfl⟩
      simpa using (List.mem_filter.1 hm).2
end
end Go.Proofs.Tryz
end
section
namespace Go.Proofs.Tryz
open Go.AM
set_option maxRecDepth 100000
set_option maxHeartbeats 1000000
def uI (x:ByteArray) (b z:Mg):Mg:=if z.1=x∧(b.2.1=0∨gq tM z b=true) then z else b
def iy (l:List Mg) (x:ByteArray):Mg:=l.foldl (uI x) zM
def lK (l:List Mg) (r:List ByteArray):List Mg:=(r.map (iy l)).filter fun m=>decide (0<m.2.1)
theorem dltM {z b:Mg} (h:z.1=b.1):gq tM z b=(decide (z.2.1<b.2.1)||(decide (z.2.1=b.2.1)&&(slt z.2.2.1 b.2.2.1||(decide (z.2.2.1=b.2.2.1)&&(slt z.2.2.2.1 b.2.2.2.1||(decide (z.2.2.2.1=b.2.2.2.1)&&decide (z.2.2.2.2<b.2.2.2.2))))))):=by
 have e:gq tM z b=(slt z.1 b.1||(dM .str z.1 b.1&&(decide (z.2.1<b.2.1)||((z.2.1==b.2.1)&&(slt z.2.2.1 b.2.2.1||(dM .str z.2.2.1 b.2.2.1&&(slt z.2.2.2.1 b.2.2.2.1||(dM .str z.2.2.2.1 b.2.2.2.1&&decide (z.2.2.2.2<b.2.2.2.2))))))))):=rfl
 rw [e,h,nZ,sX,sX,sX]
 simp only [decide_true,Bool.false_or,Bool.true_and]
 congr 2
theorem agB {l b0:List Mg} {nv:Nat} {x:ByteArray} {v9:List ByteArray} {v10 v11:Int} (hl:l.length<1000000000) :
  iter (fun a=>ak (g30_1 a)) (l,nv,x,v9,v10,v11,l,((l.length:Nat):Int),(0:Int),b0,bs [],(0:Int),bs [],bs [],(0:Int),()) =
   some (l,nv,v9,v10,v11,b0,(iy l x).1,(iy l x).2.1,(iy l x).2.2.1,(iy l x).2.2.2.1,(iy l x).2.2.2.2,()):=by
 refine aL l (fun k (b : Mg) => (l, nv, x, v9, v10, v11, l, ((l.length : Nat) : Int), (k : Int), b0, b.1, b.2.1, b.2.2.1, b.2.2.2.1, b.2.2.2.2, ()))
  (fun b r=>(l,nv,v9,v10,v11,b0,(r.foldl (uI x) b).1,(r.foldl (uI x) b).2.1,(r.foldl (uI x) b).2.2.1,(r.foldl (uI x) b).2.2.2.1,(r.foldl (uI x) b).2.2.2.2,())) (fun _ b=>b.2.1=0∨b.1=x) ?_ ?_ (s:=zM) (.inl rfl)
 ·intro pre z post b hz hb
  have hlen:l.length=pre.length+(post.length+1):=by rw [hz];simp
  have hd:l.getD pre.length (bs [],(0:Int),bs [],bs [],(0:Int))=z:=by rw [hz];exact aT rfl
  have i1:ee (pre.length:Int) ((l.length:Nat):Int)=true:=bJ (by omega) (by omega)
  have r1:eV .i64 ((pre.length:Int)+1)=true:=aH (by omega) (by omega)
  left
  refine ⟨uI x b z,?_,?_,rfl⟩
  ·simp only [g30_1, ai, aP, aG, aa, Int.toNat_natCast, hd, i1, r1, af, aU, aS, seq_eq]
   rw [if_pos (by omega)]
   simp only [jT]
   unfold uI
   by_cases hx:z.1=x
   ·by_cases h0 : b.2.1 = 0
    ·rw [if_pos hx,if_pos h0,if_pos ⟨hx,.inl h0⟩];rfl
    ·have hbx : b.1 = x := hb.resolve_left h0
     rw [if_pos hx,if_neg h0]
     have hdl:=dltM (z:=z) (b:=b) (by rw [hx,hbx])
     by_cases k1:z.2.1<b.2.1
     ·rw [if_pos k1,if_pos ⟨hx,.inr (by rw [hdl];simp [k1])⟩];rfl
     ·rw [if_neg k1]
      by_cases k2:z.2.1=b.2.1
      ·rw [if_pos k2]
       cases k3:slt z.2.2.1 b.2.2.1 with
       |true=>rw [if_pos rfl,if_pos ⟨hx,.inr (by rw [hdl];simp [k2,k3])⟩];rfl
       |false =>
        rw [if_neg (by simp)]
        by_cases k4:z.2.2.1=b.2.2.1
        ·rw [if_pos k4]
         cases k5:slt z.2.2.2.1 b.2.2.2.1 with
         |true=>rw [if_pos rfl,if_pos ⟨hx,.inr (by rw [hdl];simp [k2,k4,k5])⟩];rfl
         |false =>
          rw [if_neg (by simp)]
          by_cases k6:z.2.2.2.1=b.2.2.2.1
          ·rw [if_pos k6]
           by_cases k7:z.2.2.2.2<b.2.2.2.2
           ·rw [if_pos k7,if_pos ⟨hx,.inr (by rw [hdl];simp [k2,k4,k6,k7])⟩];rfl
           ·rw [if_neg k7, if_neg]; · rfl
            rintro ⟨_,h|h⟩
            ·exact h0 h
            ·rw [hdl,k3,k5] at h;simp [k1,k7] at h
          ·rw [if_neg k6, if_neg]; · rfl
           rintro ⟨_,h|h⟩
           ·exact h0 h
           ·rw [hdl,k3,k5] at h;simp [k1,k6] at h
        ·rw [if_neg k4, if_neg]; · rfl
         rintro ⟨_,h|h⟩
         ·exact h0 h
         ·rw [hdl,k3] at h;simp [k1,k4] at h
      ·rw [if_neg k2, if_neg]; · rfl
       rintro ⟨_,h|h⟩
       ·exact h0 h
       ·rw [hdl] at h;simp [k1,k2] at h
   ·rw [if_neg hx,if_neg (fun h=>hx h.1)];rfl
  ·unfold uI
   split
   ·rename_i h;exact .inr h.1
   ·exact hb
 ·intro b _
  simp only [g30_1,ai,aa,aU]
  rw [if_neg (by omega)]
  rfl
theorem agC {l:List Mg} (hl:l.length<1000000000):iter (fun a=>ak (g30_0 a)) (l,(0:Nat),fU,((fU.length:Nat):Int),(0:Int),[],())=some ((lK l fU).length,lK l fU,()):=by
 refine aL fU (fun k (o:List Mg)=>(l,o.length,fU,((fU.length:Nat):Int),(k:Int),o,())) (fun o r=>((o++lK l r).length,o++lK l r,())) (fun pre o=>o.length≤pre.length) ?_ ?_ (s:=[]) (Nat.le_refl _)
 ·intro pre x post o hx ho
  have hlen:fU.length=pre.length+(post.length+1):=by rw [hx];simp
  have h8:fU.length=8:=rfl
  have hd:fU.getD pre.length (bs [])=x:=by rw [hx];exact aT rfl
  have i1:ee (pre.length:Int) ((fU.length:Nat):Int)=true:=bJ (by omega) (by omega)
  have r1:eV .i64 ((pre.length:Int)+1)=true:=aH (by omega) (by omega)
  have d1:decide (o.length+1<cg)=true:=decide_eq_true (by rw [eB];omega)
  have e1:(([((iy l x).1,(iy l x).2.1,(iy l x).2.2.1,(iy l x).2.2.2.1,(iy l x).2.2.2.2)]:List Mg).take 1)=[iy l x]:=rfl
  have hk:=agB (l:=l) (b0:=o) (nv:=o.length) (x:=x) (v9:=fU) (v10:=((fU.length:Nat):Int)) (v11:=(pre.length:Int)) hl
  left
  by_cases hb:0<(iy l x).2.1
  ·have hc : lK l (x :: post) = iy l x :: lK l post := by unfold lK; rw [List.map_cons, List.filter_cons_of_pos (by simpa using hb)]
   refine ⟨o++[iy l x],?_,by simp;omega,by rw [hc];simp⟩
   simp only [g30_0,ai,ay,bg,aP,aW,aG,aa,Int.toNat_natCast,hd,i1,af,aU]
   rw [if_pos (by omega),ag hk]
   simp only
   rw [if_pos hb]
   simp only [e1,List.length_singleton,d1,r1,af,List.drop_zero,List.take_length,List.length_append]
   rfl
  ·have hc : lK l (x :: post) = lK l post := by unfold lK; rw [List.map_cons, List.filter_cons_of_neg (by simpa using hb)]
   refine ⟨o,?_,by simp;omega,by rw [hc]⟩
   simp only [g30_0,ai,ay,bg,aP,aW,aG,aa,Int.toNat_natCast,hd,i1,af,aU]
   rw [if_pos (by omega),ag hk]
   simp only
   rw [if_neg hb]
   simp only [r1,af]
   rfl
 ·intro o _
  simp only [g30_0,ai,aa,aU]
  rw [if_neg (by omega)]
  simp [lK]
theorem k31:ak F31=some (fU,()):=rfl
def BS (x:ByteArray) (l:List Mg) (b:Mg):Prop:=(b=zM∧∀m∈l,m.1≠x)∨(b∈l∧b.1=x∧∀m∈l,m.1=x→m=b∨gq tM b m=true)
theorem Bz {x : ByteArray} : ∀ {l pre : List Mg} {b : Mg}, (∀ m ∈ pre ++ l, 1 ≤ m.2.1) → BS x pre b → BS x (pre ++ l) (l.foldl (uI x) b)
 |[],pre,b,_,h=>by simpa using h
 |z::l,pre,b,hk,h=>by
  have hn:BS x (pre++[z]) (uI x b z):=by
   unfold uI
   rcases h with ⟨rfl,h⟩|⟨h1,h2,h3⟩
   ·by_cases hx : z.1 = x
    ·rw [if_pos ⟨hx, .inl rfl⟩]
     refine .inr ⟨by simp,hx,fun m hm e=>?_⟩
     rcases List.mem_append.1 hm with hm|hm
     ·exact absurd e (h m hm)
     ·exact .inl (List.mem_singleton.1 hm)
    ·rw [if_neg (fun h => hx h.1)]
     refine .inl ⟨rfl,fun m hm=>?_⟩
     rcases List.mem_append.1 hm with hm|hm
     ·exact h m hm
     ·rw [List.mem_singleton.1 hm];exact hx
   ·have hb0 : ¬ b.2.1 = 0 := by have := hk b (by simp [h1]); omega
    by_cases hc:z.1=x∧(b.2.1=0∨gq tM z b=true)
    ·rw [if_pos hc]
     have Rm:=hc.2.resolve_left hb0
     refine .inr ⟨by simp,hc.1,fun m hm e=>?_⟩
     rcases List.mem_append.1 hm with hm|hm
     ·rcases h3 m hm e with rfl | h4
      ·exact .inr Rm
      ·exact .inr (iP kM Rm h4)
     ·exact .inl (List.mem_singleton.1 hm)
    ·rw [if_neg hc]
     refine .inr ⟨by simp [h1],h2,fun m hm e=>?_⟩
     rcases List.mem_append.1 hm with hm|hm
     ·exact h3 m hm e
     ·rw [List.mem_singleton.1 hm] at e ⊢
      cases h4:gq tM b z with
      |true=>exact .inr rfl
      |false =>
       cases h5:gq tM z b with
       |true=>exact absurd ⟨e,.inr h5⟩ hc
       |false=>exact .inl (gM kM h5 h4)
  have:=Bz (l:=l) (pre:=pre++[z]) (b:=uI x b z) (by simpa using hk) hn
  simpa using this
theorem qe {l:List Mg} (hk:∀m∈l,1≤m.2.1) (x:ByteArray):BS x l (iy l x):=by
 have:=Bz (x:=x) (l:=l) (pre:=[]) (b:=zM) (by simpa using hk) (.inl ⟨rfl,fun m h=>by cases h⟩)
 rw [List.nil_append] at this
 exact this
theorem FQ {m:Mg} (h:qc m=0):m.2.1=1∨m.2.1=2∨m.2.1=3:=by
 unfold qc at h
 split at h
 ·cases h
 ·omega
theorem VL:fU.Pairwise fun a b=>slt a b=true:=of_decide_eq_true (by kernel_rfl)
theorem Q7 {c c':List Mg} (h:SI c) (h':SI c') (hm:∀m,m∈c↔m∈c'):c=c' :=
 lD (r:=fun a b:Mg=>slt a.1 b.1=true) (fun a h=>by rw [nZ] at h;cases h) (fun a b h1 h2=>Ky h1 h2) h h' hm
theorem KB {l:List Mg} (hg:Gd l) (hl:l.length≤60) (hi:∀m∈l,m.1∈fU):lK l fU=cnt (bD l):=by
 have hk:∀m∈l,1≤m.2.1:=fun m hm=>by rcases FQ (hg m hm) with h|h|h<;>omega
 have key:∀r:List ByteArray,(r.Pairwise fun a b=>slt a b=true)→SI (lK l r)∧∀m,m∈lK l r↔∃x∈r,iy l x=m∧m.1=x∧m∈l:=by
  intro r
  have hmem:∀m,m∈lK l r↔∃x∈r,iy l x=m∧m.1=x∧m∈l:=fun m=>by
   unfold lK
   rw [List.mem_filter,List.mem_map]
   constructor
   ·rintro ⟨⟨x, hx, rfl⟩, h0⟩
    rcases qe hk x with ⟨e,_⟩|⟨h1,h2,_⟩
    ·rw [e] at h0;simp at h0
    ·exact ⟨x,hx,rfl,h2,h1⟩
   ·rintro ⟨x, hx, rfl, h2, h1⟩
    exact ⟨⟨x,hx,rfl⟩,by have:=hk _ h1;simp;omega⟩
  refine fun hr=>⟨?_,hmem⟩
  induction r with
  |nil=>exact .nil
  |cons x r ih =>
   rw [List.pairwise_cons] at hr
   have ih':SI (lK l r):=by
    refine ih (fun m=>?_) hr.2
    unfold lK
    rw [List.mem_filter,List.mem_map]
    constructor
    ·rintro ⟨⟨x, hx, rfl⟩, h0⟩
     rcases qe hk x with ⟨e,_⟩|⟨h1,h2,_⟩
     ·rw [e] at h0;simp at h0
     ·exact ⟨x,hx,rfl,h2,h1⟩
    ·rintro ⟨x, hx, rfl, h2, h1⟩
     exact ⟨⟨x,hx,rfl⟩,by have:=hk _ h1;simp;omega⟩
   unfold lK
   rw [List.map_cons]
   by_cases h0:0<(iy l x).2.1
   ·rw [List.filter_cons_of_pos (by simpa using h0)]
    refine List.pairwise_cons.2 ⟨fun m hm=>?_,ih'⟩
    obtain ⟨fq,hm2⟩:=List.mem_filter.1 hm
    obtain ⟨y,hy,rfl⟩:=List.mem_map.1 fq
    rcases qe hk x with ⟨e,_⟩|⟨_,h2,_⟩
    ·rw [e] at h0;simp at h0
    rcases qe hk y with ⟨e,_⟩|⟨_,h4,_⟩
    ·rw [e] at hm2;simp at hm2
    rw [h2,h4];exact hr.1 y hy
   ·rw [List.filter_cons_of_neg (by simpa using h0)]
    exact ih'
 obtain ⟨h1,h2⟩:=key fU VL
 refine Q7 h1 (eC _) fun m=>?_
 rw [h2,wC (jW.told l).s,lJ hg hl]
 constructor
 ·rintro ⟨x, hx, hb, e, hm⟩
  refine ⟨hm,fun y hy e'=>?_⟩
  rcases qe hk x with ⟨q,_⟩|⟨_,_,h3⟩
  ·rw [hb] at q;rw [q] at hm;have:=hk _ hm;simp at this
  ·rw [hb] at h3
   exact h3 y ((lJ hg hl y).1 hy) (by rw [e',e])
 ·rintro ⟨hm, h3⟩
  refine ⟨m.1,hi m hm,?_,rfl,hm⟩
  rcases qe hk m.1 with ⟨_,q⟩|⟨q1,q2,q3⟩
  ·exact absurd rfl (q m hm)
  ·rcases q3 m hm rfl with e | h4
   ·exact e.symm
   ·rcases h3 _ ((lJ hg hl _).2 q1) q2 with e | h5
    ·exact e
    ·exact (dB kM h4 h5).elim
theorem k30 {l:List Mg} (hg:Gd l) (hl:l.length≤60) (hi:∀m∈l,m.1∈fU):ak (F30 l)=some (cnt (bD l),()):=by
 have hlen:(lK l fU).length<1000000:=by
  have:(lK l fU).length≤8:=by unfold lK;exact Nat.le_trans (List.length_filter_le ..) (by simp [fU])
  omega
 unfold F30
 simp only [ay,bg]
 rw [ag k31]
 simp only
 rw [ag (agC (by omega))]
 simp only [aa,List.drop_zero,List.take_length]
 rw [KB hg hl hi]
theorem fG {l:List ByteArray} {k:Nat} (h:k<l.length):l.getD k (bs [])∈l:=by
 rw [List.getD_eq_getElem?_getD,List.getElem?_eq_getElem h];exact List.getElem_mem h
theorem Q8 {n:Int} (h:0≤n) (h2:n<8):tw 97 n∈fU:=by
 have h8:fU.length=8:=rfl
 have:n=0∨n=1∨n=2∨n=3∨n=4∨n=5∨n=6∨n=7:=by omega
 rcases this with rfl|rfl|rfl|rfl|rfl|rfl|rfl|rfl
 ·exact (show fU.getD 0 (bs [])=tw 97 0 by kernel_rfl)▸fG (l:=fU) (k:=0) (by omega)
 ·exact (show fU.getD 1 (bs [])=tw 97 1 by kernel_rfl)▸fG (l:=fU) (k:=1) (by omega)
 ·exact (show fU.getD 2 (bs [])=tw 97 2 by kernel_rfl)▸fG (l:=fU) (k:=2) (by omega)
 ·exact (show fU.getD 3 (bs [])=tw 97 3 by kernel_rfl)▸fG (l:=fU) (k:=3) (by omega)
 ·exact (show fU.getD 4 (bs [])=tw 97 4 by kernel_rfl)▸fG (l:=fU) (k:=4) (by omega)
 ·exact (show fU.getD 5 (bs [])=tw 97 5 by kernel_rfl)▸fG (l:=fU) (k:=5) (by omega)
 ·exact (show fU.getD 6 (bs [])=tw 97 6 by kernel_rfl)▸fG (l:=fU) (k:=6) (by omega)
 ·exact (show fU.getD 7 (bs [])=tw 97 7 by kernel_rfl)▸fG (l:=fU) (k:=7) (by omega)
theorem VM {n:Int} (h:0≤n) (h2:n<3):tw 120 n∈lT:=by
 have h8:lT.length=3:=rfl
 have:n=0∨n=1∨n=2:=by omega
 rcases this with rfl|rfl|rfl
 ·exact (show lT.getD 0 (bs [])=tw 120 0 by kernel_rfl)▸fG (l:=lT) (k:=0) (by omega)
 ·exact (show lT.getD 1 (bs [])=tw 120 1 by kernel_rfl)▸fG (l:=lT) (k:=1) (by omega)
 ·exact (show lT.getD 2 (bs [])=tw 120 2 by kernel_rfl)▸fG (l:=lT) (k:=2) (by omega)
structure ByN (m:Mg):Prop where
 qc:qc m=0
 id:m.1∈fU
 of:m.2.1≠1→m.2.2.1∈fU
 acc:m.2.1≠3→m.2.2.2.1∈lT
 amt : -3≤m.2.2.2.2∧m.2.2.2.2≤8
theorem abq {x:Nu} (h:Kl x):ByN (Gi x):=by
 have ho:=XA h
 have hc:=QW h
 obtain ⟨⟨a1,a2⟩,⟨b1,b2⟩,⟨c1,c2⟩,d1,d2⟩:=h
 have ta:=Gj a1 8 (by omega)
 have tc:=Gj c1 3 (by omega)
 have te:=abk c1 c2
 have tf:=Gj te.1 12 (by omega)
 have n1:=Q8 ta.1 ta.2
 have n2:=Q8 ho.1 ho.2.1
 have n3:=VM tc.1 tc.2
 refine ⟨hc,?_,?_,?_,?_⟩
 ·unfold Gi; simp only; split
  ·exact n1
  ·split<;>exact n1
 ·unfold Gi; simp only; split
  ·intro h;exact absurd rfl h
  ·split<;>exact fun _=>n2
 ·unfold Gi; simp only; split
  ·exact fun _=>n3
  ·split
   ·intro h;exact absurd rfl h
   ·exact fun _=>n3
 ·unfold Gi; simp only; split
  ·simp only;omega
  ·split
   ·simp
   ·simp only;omega
theorem tD {p:List Nu} (hp:∀x∈p,Kl x):∀m∈bH p,ByN m:=fun m hm=>by
 obtain ⟨x,hx,rfl⟩:=List.mem_map.1 hm
 exact abq (hp x (List.mem_of_mem_take hx))
structure CN (c:List Mg):Prop where
 si:SI c
 k3:vo c
 byN:∀m∈c,ByN m
 len:c.length≤8
theorem KC {p:List Nu} (hp:∀x∈p,Kl x):CN (cnt (bD (bH p))):=by
 have hml:=iU p
 have hb:∀m∈cnt (bD (bH p)),ByN m:=fun m hm=>tD hp m ((lJ (tA hp) (by omega) m).1 (th hm))
 refine ⟨eC _,fun m hm=>FQ (hb m hm).qc,hb,?_⟩
 rw [←KB (tA hp) (by omega) fun m hm=>(tD hp m hm).id]
 unfold lK
 exact Nat.le_trans (List.length_filter_le ..) (by simp [fU])
theorem FR {p:List Nu} (hp:∀x∈p,Kl x):ak (F30 (bH p))=some (cnt (bD (bH p)),()) :=
 k30 (tA hp) (by have:=iU p;omega) fun m hm=>(tD hp m hm).id
end Go.Proofs.Tryz
end
section
namespace Go.Proofs.Tryz
open Go.AM
set_option maxRecDepth 100000
set_option maxHeartbeats 2000000
section
variable {c:List Mg}
theorem FT {x:ByteArray} (h:lG c x=false):msg c x=zM:=fD h
theorem MD (hs:SI c) (x:ByteArray):c.foldl (fun b z=>if z.1=x then z else b) zM=msg c x:=by
 have key:∀(l:List Mg) (b:Mg),(∀m∈l,m∈c)→(l.foldl (fun b z=>if z.1=x then z else b) b=b∧∀m∈l,m.1≠x)∨((l.foldl (fun b z=>if z.1=x then z else b) b).1=x∧l.foldl (fun b z=>if z.1=x then z else b) b∈c):=by
  intro l
  induction l with
  |nil=>intro b _;exact .inl ⟨rfl,fun m h=>by cases h⟩
  |cons z l ih =>
   intro b hl
   rw [List.foldl_cons]
   rcases ih (if z.1=x then z else b) fun m hm=>hl m (List.mem_cons_of_mem _ hm) with ⟨h1,h2⟩|h
   ·by_cases hz : z.1 = x
    ·rw [if_pos hz] at h1 ⊢
     rw [h1]
     exact .inr ⟨hz,hl z (List.mem_cons_self ..)⟩
    ·rw [if_neg hz] at h1 ⊢
     refine .inl ⟨h1,fun m hm=>?_⟩
     rcases List.mem_cons.1 hm with rfl|hm
     ·exact hz
     ·exact h2 m hm
   ·exact .inr h
 rcases key c zM fun m h=>h with ⟨h1,h2⟩|⟨h1,h2⟩
 ·rw [h1]
  refine (FT ?_).symm
  cases h:lG c x with
  |false=>rfl
  |true =>
   obtain ⟨h3,h4⟩:=me hs h
   exact absurd h4 (h2 _ h3)
 ·have := fk hs h2
  rw [h1] at this
  exact this.symm
theorem k5_1 {x:ByteArray} {v39:List ByteArray} {v40 v41:Int} {m2:List (Mg×Bool)} (hs:SI c) (hc:c.length<1000000) :
  iter (fun a=>ak (g5_1 a)) (c,x,v39,v40,v41,c,((c.length:Nat):Int),(0:Int),bs [],(0:Int),bs [],bs [],(0:Int),m2,()) =
   some (c,x,v39,v40,v41,(msg c x).1,(msg c x).2.1,(msg c x).2.2.1,(msg c x).2.2.2.1,(msg c x).2.2.2.2,m2,()):=by
 rw [←MD hs x]
 refine aL c (fun k (b : Mg) => (c, x, v39, v40, v41, c, ((c.length : Nat) : Int), (k : Int), b.1, b.2.1, b.2.2.1, b.2.2.2.1, b.2.2.2.2, m2, ()))
  (fun b r=>(c,x,v39,v40,v41,(r.foldl (fun b z=>if z.1=x then z else b) b).1,(r.foldl (fun b z=>if z.1=x then z else b) b).2.1,(r.foldl (fun b z=>if z.1=x then z else b) b).2.2.1,(r.foldl (fun b z=>if z.1=x then z else b) b).2.2.2.1,(r.foldl (fun b z=>if z.1=x then z else b) b).2.2.2.2,m2,())) (fun _ _=>True) ?_ ?_ (s:=zM) trivial
 ·intro pre z post b hz _
  have hlen:c.length=pre.length+(post.length+1):=by rw [hz];simp
  have hd:c.getD pre.length (bs [],(0:Int),bs [],bs [],(0:Int))=z:=by rw [hz];exact aT rfl
  have i1:ee (pre.length:Int) ((c.length:Nat):Int)=true:=bJ (by omega) (by omega)
  have r1:eV .i64 ((pre.length:Int)+1)=true:=aH (by omega) (by omega)
  left
  refine ⟨if z.1=x then z else b,?_,trivial,rfl⟩
  simp only [g5_1,ai,aP,aG,aa,Int.toNat_natCast,hd,i1,r1,af,aU,seq_eq]
  rw [if_pos (by omega)]
  split<;>rfl
 ·intro b _
  simp only [g5_1,ai,aa,aU]
  rw [if_neg (by omega)]
  rfl
def qk (c:List Mg) (t:ByteArray):List ByteArray:=(c.filter fun m=>decide (eE c m.1=some t)).map (·.1)
theorem nk {t:ByteArray}:(qk c t).length≤c.length:=by unfold qk;rw [List.length_map];exact List.length_filter_le ..
theorem KE {x r:ByteArray} (t:ByteArray) (h:∀t,eE c x=some t→r=t):eE c x=some t↔(eE c x).isSome=true∧r=t:=by
 constructor
 ·intro e;rw [e];exact ⟨rfl,h t e⟩
 ·rintro ⟨h1, rfl⟩
  obtain ⟨t,ht⟩:=Option.isSome_iff_exists.1 h1
  rw [h t ht,ht]
theorem VN (hs:SI c) (hk:vo c) (hl:c.length≤9) {v7 t:ByteArray} {v11 v12 cZ v21 v40 v41 sW:Int} {iu:Nat} {v17 LK v20 v75:Bool} {v39 b2:List ByteArray} {m:Mg} {m4:List (Mg×Bool)} :
  iter (fun a=>ak (g5_2 a)) (c,v7,v11,v12,iu,cZ,v17,LK,t,v20,v21,(0:Nat),v39,v40,v41,sW,v75,c,((c.length:Nat):Int),(0:Int),m.1,m.2.1,m.2.2.1,m.2.2.2.1,m.2.2.2.2,b2,[],m4,()) =
   some (c,v7,v11,v12,iu,cZ,v17,LK,v20,v21,(if v20=true then qk c t else []).length,v39,v40,v41,sW,v75,m.1,m.2.1,m.2.2.1,m.2.2.2.1,m.2.2.2.2,b2,if v20=true then qk c t else [],m4,()):=by
 refine aL c (fun k (o : List ByteArray) => (c, v7, v11, v12, iu, cZ, v17, LK, t, v20, v21, o.length, v39, v40, v41, sW, v75, c, ((c.length : Nat) : Int), (k : Int), m.1, m.2.1, m.2.2.1, m.2.2.2.1, m.2.2.2.2, b2, o, m4, ()))
  (fun o r=>(c,v7,v11,v12,iu,cZ,v17,LK,v20,v21,(o++(if v20=true then (r.filter fun m=>decide (eE c m.1=some t)).map (·.1) else [])).length,v39,v40,v41,sW,v75,m.1,m.2.1,m.2.2.1,m.2.2.2.1,m.2.2.2.2,b2,o++(if v20=true then (r.filter fun m=>decide (eE c m.1=some t)).map (·.1) else []),m4,())) (fun pre o=>o.length≤pre.length) ?_ ?_ (s:=[]) (Nat.le_refl _)
 ·intro pre z post o hz ho
  have hlen:c.length=pre.length+(post.length+1):=by rw [hz];simp
  have hd:c.getD pre.length (bs [],(0:Int),bs [],bs [],(0:Int))=z:=by rw [hz];exact aT rfl
  have i1:ee (pre.length:Int) ((c.length:Nat):Int)=true:=bJ (by omega) (by omega)
  have r1:eV .i64 ((pre.length:Int)+1)=true:=aH (by omega) (by omega)
  have d1:decide (o.length+1<cg)=true:=decide_eq_true (by rw [eB];omega)
  obtain ⟨r,h35,hr⟩:=abp hs hk hl (m:=z) (by rw [hz];simp)
  have Ik:ak (F35 c (z.1,z.2.1,z.2.2.1,z.2.2.2.1,z.2.2.2.2))=_:=h35
  have hv:=KE (c:=c) t hr
  left
  by_cases hq:v20=true∧eE c z.1=some t
  ·obtain ⟨rfl, hq⟩ := hq
   obtain ⟨q1,q2⟩:=hv.1 hq
   refine ⟨o++[z.1],?_,by simp;omega,by rw [List.filter_cons_of_pos (by simpa using hq)];simp⟩
   simp only [g5_2,ai,aP,aW,aG,aa,ay,Int.toNat_natCast,hd,i1,r1,af,aU,seq_eq]
   rw [if_pos (by omega),ag Ik]
   simp only [q1,aO,if_pos q2,List.drop_zero,List.take_succ_cons,List.take_zero,List.length_singleton,d1,af,List.take_length,List.length_append]
   rfl
  ·refine ⟨o, ?_, by simp; omega, ?_⟩
   ·simp only [g5_2, ai, aP, aW, aG, aa, ay, Int.toNat_natCast, hd, i1, r1, af, aU, seq_eq]
    rw [if_pos (by omega),ag Ik]
    cases v20 with
    |false=>rw [aV];rfl
    |true =>
     rw [aO]
     cases hi:(eE c z.1).isSome with
     |false=>simp only [aV];rfl
     |true =>
      simp only [aO]
      rw [if_neg fun e=>hq ⟨rfl,hv.2 ⟨hi,e⟩⟩]
      rfl
   ·cases v20 with
    |false=>rfl
    |true=>rw [List.filter_cons_of_neg (by simpa using hq)]
 ·intro o _
  simp only [g5_2,ai,aa,aU]
  rw [if_neg (by omega)]
  simp
theorem k5_3 {v5:List Mg} {v7:ByteArray} {v11 v12 cZ v21 v40 v41 sW:Int} {iu lC:Nat} {v75 v145 v148 Fx:Bool} {v39 b2 A:List ByteArray} {m:Mg} {m4:List (Mg×Bool)} (hA:A.length<1000000) :
  iter (fun a=>ak (g5_3 a)) (v5,v7,v11,v12,iu,cZ,v21,lC,v39,v40,v41,sW,v75,v145,v148,Fx,A.length,((A.length:Nat):Int),(0:Int),m.1,m.2.1,m.2.2.1,m.2.2.2.1,m.2.2.2.2,b2,A,m4,()) =
   some (v5,v7,v11,v12,iu,cZ,if vO v7 A=true then 4 else v21,lC,v39,v40,v41,sW,v75,v145,v148,Fx,m.1,m.2.1,m.2.2.1,m.2.2.2.1,m.2.2.2.2,b2,A,m4,()):=by
 refine aL A (fun k (w : Int) => (v5, v7, v11, v12, iu, cZ, w, lC, v39, v40, v41, sW, v75, v145, v148, Fx, A.length, ((A.length : Nat) : Int), (k : Int), m.1, m.2.1, m.2.2.1, m.2.2.2.1, m.2.2.2.2, b2, A, m4, ()))
  (fun w r=>(v5,v7,v11,v12,iu,cZ,if vO v7 r=true then 4 else w,lC,v39,v40,v41,sW,v75,v145,v148,Fx,m.1,m.2.1,m.2.2.1,m.2.2.2.1,m.2.2.2.2,b2,A,m4,())) (fun _ _=>True) ?_ ?_ (s:=v21) trivial
 ·intro pre z post w hz _
  have hlen:A.length=pre.length+(post.length+1):=by rw [hz];simp
  have hd:A.getD pre.length (bs [])=z:=by rw [hz];exact aT rfl
  have i1:ee (pre.length:Int) ((A.length:Nat):Int)=true:=bJ (by omega) (by omega)
  have r1:eV .i64 ((pre.length:Int)+1)=true:=aH (by omega) (by omega)
  have d1:decide (pre.length<A.length)=true:=decide_eq_true (by omega)
  left
  refine ⟨if z=v7 then 4 else w,?_,trivial,?_⟩
  ·simp only [g5_3, ai, aP, aW, aG, aa, Int.toNat_natCast, Nat.zero_add, hd, i1, r1, d1, af, aU, seq_eq]
   rw [if_pos (by omega)]
   split<;>rfl
  ·unfold vO
   rw [List.any_cons]
   by_cases h:z=v7
   ·rw [if_pos h,decide_eq_true h,Bool.true_or,if_pos rfl];split<;>rfl
   ·rw [if_neg h,decide_eq_false h,Bool.false_or]
 ·intro w _
  simp only [g5_3,ai,aa,aU]
  rw [if_neg (by omega)]
  rfl
theorem Q9 (hs:SI c) (hk:vo c) (hl:c.length≤9) {t:ByteArray} {cZ v40 v41 sW v171 De:Int} {iu:Nat} {v75 v173:Bool} {v39 b1:List ByteArray} {m:Mg} {m4:List (Mg×Bool)} :
  iter (fun a=>ak (g5_4 a)) (c,t,iu,cZ,(0:Nat),v39,v40,v41,sW,v75,v171,De,v173,c,((c.length:Nat):Int),(0:Int),b1,[],m.1,m.2.1,m.2.2.1,m.2.2.2.1,m.2.2.2.2,m4,()) =
   some (c,iu,cZ,(qk c t).length,v39,v40,v41,sW,v75,v171,De,v173,b1,qk c t,m.1,m.2.1,m.2.2.1,m.2.2.2.1,m.2.2.2.2,m4,()):=by
 refine aL c (fun k (o : List ByteArray) => (c, t, iu, cZ, o.length, v39, v40, v41, sW, v75, v171, De, v173, c, ((c.length : Nat) : Int), (k : Int), b1, o, m.1, m.2.1, m.2.2.1, m.2.2.2.1, m.2.2.2.2, m4, ()))
  (fun o r=>(c,iu,cZ,(o++(r.filter fun m=>decide (eE c m.1=some t)).map (·.1)).length,v39,v40,v41,sW,v75,v171,De,v173,b1,o++(r.filter fun m=>decide (eE c m.1=some t)).map (·.1),m.1,m.2.1,m.2.2.1,m.2.2.2.1,m.2.2.2.2,m4,())) (fun pre o=>o.length≤pre.length) ?_ ?_ (s:=[]) (Nat.le_refl _)
 ·intro pre z post o hz ho
  have hlen:c.length=pre.length+(post.length+1):=by rw [hz];simp
  have hd:c.getD pre.length (bs [],(0:Int),bs [],bs [],(0:Int))=z:=by rw [hz];exact aT rfl
  have i1:ee (pre.length:Int) ((c.length:Nat):Int)=true:=bJ (by omega) (by omega)
  have r1:eV .i64 ((pre.length:Int)+1)=true:=aH (by omega) (by omega)
  have d1:decide (o.length+1<cg)=true:=decide_eq_true (by rw [eB];omega)
  obtain ⟨r,h35,hr⟩:=abp hs hk hl (m:=z) (by rw [hz];simp)
  have Ik:ak (F35 c (z.1,z.2.1,z.2.2.1,z.2.2.2.1,z.2.2.2.2))=_:=h35
  have hv:=KE (c:=c) t hr
  left
  by_cases hq:eE c z.1=some t
  ·obtain ⟨q1, q2⟩ := hv.1 hq
   refine ⟨o++[z.1],?_,by simp;omega,by rw [List.filter_cons_of_pos (by simpa using hq)];simp⟩
   simp only [g5_4,ai,aP,aW,aG,aa,ay,Int.toNat_natCast,hd,i1,r1,af,aU,seq_eq]
   rw [if_pos (by omega),ag Ik]
   simp only [q1,aO,if_pos q2,List.drop_zero,List.take_succ_cons,List.take_zero,List.length_singleton,d1,af,List.take_length,List.length_append]
   rfl
  ·refine ⟨o, ?_, by simp; omega, ?_⟩
   ·simp only [g5_4, ai, aP, aW, aG, aa, ay, Int.toNat_natCast, hd, i1, r1, af, aU, seq_eq]
    rw [if_pos (by omega),ag Ik]
    cases hi:(eE c z.1).isSome with
    |false=>simp only [aV];rfl
    |true =>
     simp only [aO]
     rw [if_neg fun e=>hq (hv.2 ⟨hi,e⟩)]
     rfl
   ·rw [List.filter_cons_of_neg (by simpa using hq)]
 ·intro o _
  simp only [g5_4,ai,aa,aU]
  rw [if_neg (by omega)]
  simp
end
theorem k5_0 {L:List Mg} (hL:jW L) (hC:CN (cnt L)) (k:Nat) (hk8:k<8):ak (g5_0 (cnt L,fU,((fU.length:Nat):Int),(k:Int),bk L,()))=some (.inl (cnt L,fU,((fU.length:Nat):Int),((k+1:Nat):Int),bk L,())):=by
 have hs:=hC.si
 have hk:=hC.k3
 have h8:=hC.len
 have Ra:(cnt L).length≤9:=by omega
 have hi8:fU.length=8:=rfl
 have i1:ee (k:Int) ((fU.length:Nat):Int)=true:=bJ (by omega) (by omega)
 have r1:eV .i64 ((k:Int)+1)=true:=aH (by omega) (by omega)
 generalize hx:fU.getD k (bs [])=x
 have h32:=Vu hL x
 have h33:=kH33 hL x
 simp only [g5_0,ai,aP,ay,bg,aU,Int.toNat_natCast,i1,af,hx]
 rw [if_pos (by omega),ag (k5_1 hs (by omega))]
 simp only
 rw [ag h32]
 simp only
 rw [ag h33]
 simp only [ai,aS]
 generalize cnt L=c at *
 by_cases hM:lG c x=true
 ·obtain ⟨fq, hm2⟩ := me hs hM
  have hkk:=hk _ fq
  by_cases h3:(msg c x).2.1=3
  ·have e1 : bA c x = (0, 18) := by unfold bA; rw [if_pos hM, if_pos h3]
   have e2:jv c x=([],18):=by unfold jv;rw [if_pos hM,if_neg (by omega)]
   rw [if_neg (by omega),if_pos h3]
   simp only [uu,ai,aa,aG,aS,if_pos h3,aD,Af,e1,e2,List.length_nil,aZ,reduceIte,r1,af]
   rfl
  ·have RC := k34 (c := c) (by omega) (msg c x)
   obtain ⟨ho,hst,_⟩:=Q6 hs hk Ra fq h3
   obtain ⟨r,h35,hr⟩:=abp hs hk Ra fq
   rw [hm2] at ho hst h35 hr
   have h34':ak (F34 c ((msg c x).1,(msg c x).2.1,(msg c x).2.2.1,(msg c x).2.2.2.1,(msg c x).2.2.2.2))=_:=RC
   have Ik:ak (F35 c ((msg c x).1,(msg c x).2.1,(msg c x).2.2.1,(msg c x).2.2.2.1,(msg c x).2.2.2.2))=_:=h35
   rw [ho,hst] at h34'
   rw [if_neg (by omega),if_neg h3,ag h34']
   simp only
   rw [ag Ik]
   simp only [uu,ai,aa,ay,bg,aZ]
   have Oy:∀(w:Int),bA c x=(w,0)→bA c x=(w,0):=fun w h=>h
   have hvk:∀t,eE c x=some t→r=t:=hr
   -- what comes behind the state: its versions
   have S8:(msg c x).2.1=1→jv c x=(qk c x,0)∧0<(qk c x).length:=fun h1=>by
    have ht:Tk c x:=⟨_,fq,hm2,h1⟩
    have e:qk c x=fS c x:=(Ij hs hk ht).symm
    refine ⟨by unfold jv;rw [if_pos hM,if_pos h1,e],?_⟩
    rw [e];exact List.length_pos_iff.2 (Ih hs ⟨hM,h1⟩)
   have R3:(msg c x).2.1≠1→jv c x=([],18):=fun h1=>by unfold jv;rw [if_pos hM,if_neg h1]
   cases hsk:eD c x with
   |true =>
    have KF:iE c x=none:=by
     cases h:iE c x with
     |none=>rfl
     |some t=>have:=((c8 hs hk).1 h).2.1;rw [hsk] at this;cases this
    have Rb:eE c x=none:=by unfold eE;rw [KF];split<;>rfl
    have e1:bA c x=(2,0):=by unfold bA;rw [if_pos hM,if_neg h3,if_pos hsk]
    simp only [KF,Rb,Option.isSome_none,aO,aV,aS,aZ,reduceIte,aD,Af]
    rw [ag (VN hs hk Ra)]
    simp only [Bool.false_eq_true,if_false,if_true,aO,aV,aS,aZ,reduceIte,aD,Af,e1,List.length_nil,List.drop_zero,List.take_nil,aG,aa,ai,ay,bg]
    by_cases h1:(msg c x).2.1=1
    ·obtain ⟨h5, h6⟩ := S8 h1
     rw [if_pos h1,ag (Q9 hs hk Ra),h5]
     simp only [aS,aZ,reduceIte,List.take_length,List.drop_zero]
     rw [if_neg (by omega),ag (k36 (by have:=nk (c:=c) (t:=x);omega))]
     simp only [decide_true,aO,aG,aa,r1,af]
     rfl
    ·rw [if_neg h1, R3 h1]
     simp only [aS,aZ,reduceIte,List.length_nil,r1,af]
     rfl
   |false =>
    cases KF:iE c x with
    |none =>
     have Rb:eE c x=none:=by unfold eE;rw [KF];split<;>rfl
     have e1:bA c x=(1,0):=by unfold bA;rw [if_pos hM,if_neg h3,if_neg (by simp [hsk]),KF]
     simp only [Rb,Option.isSome_none,aO,aV,aS,aZ,reduceIte,aD,Af]
     rw [ag (VN hs hk Ra)]
     simp only [Bool.false_eq_true,if_false,if_true,aO,aV,aS,aZ,reduceIte,aD,Af,e1,List.length_nil,List.drop_zero,List.take_nil,aG,aa,ai,ay,bg]
     by_cases h1:(msg c x).2.1=1
     ·obtain ⟨h5, h6⟩ := S8 h1
      rw [if_pos h1,ag (Q9 hs hk Ra),h5]
      simp only [aS,aZ,reduceIte,List.take_length,List.drop_zero]
      rw [if_neg (by omega),ag (k36 (by have:=nk (c:=c) (t:=x);omega))]
      simp only [decide_true,aO,aG,aa,r1,af]
      rfl
     ·rw [if_neg h1, R3 h1]
      simp only [aS,aZ,reduceIte,List.length_nil,r1,af]
      rfl
    |some t =>
     have KQ:Tk c t:=((c8 hs hk).1 KF).1
     have hmv:=tC hs hk (y:=x) KQ
     by_cases hlv:iD c x=[]
     ·have Rb : eE c x = some t := nj.2 ⟨hlv, KF⟩
      obtain rfl:=hr t Rb
      have hmem:vO x (qk c r)=true:=pJ.2 (by rw [show qk c r=fS c r from (Ij hs hk KQ).symm];exact hmv.2 Rb)
      have e0:bA c x=if 1<(qk c r).length then (5,0) else (4,0):=by
       unfold bA
       rw [if_pos hM,if_neg h3,if_neg (by simp [hsk]),KF,show qk c r=fS c r from (Ij hs hk KQ).symm]
       simp only
       rw [if_pos (pJ.2 (hmv.2 Rb))]
      have e1p:1<(qk c r).length→bA c x=(5,0):=fun h=>by rw [e0,if_pos h]
      have e1n:¬1<(qk c r).length→bA c x=(4,0):=fun h=>by rw [e0,if_neg h]
      simp only [Rb,Option.isSome_some,aO,aV,aS,aZ,reduceIte,aD,Af]
      rw [ag (VN hs hk Ra)]
      simp only [if_true,aO,aV,aZ,reduceIte,aD,Af,aG,aa,ai,ay,bg]
      rw [ag (k5_3 (by have:=nk (c:=c) (t:=r);omega))]
      simp only [hmem,if_true,aO,aV,aS,aU,aZ,reduceIte,aD,Af]
      by_cases h1l:1<(qk c r).length
      ·rw [if_pos (by omega)]
       have e1:=e1p h1l
       simp only [aD,Af,e1,aG,aa,ai,ay,bg,aS,aZ,reduceIte,List.drop_zero]
       by_cases h1:(msg c x).2.1=1
       ·obtain ⟨h5, h6⟩ := S8 h1
        rw [if_pos h1,ag (Q9 hs hk Ra),h5]
        simp only [aS,aZ,reduceIte,List.take_length,List.drop_zero]
        rw [if_neg (by omega),ag (k36 (by have:=nk (c:=c) (t:=x);omega))]
        simp only [decide_true,aO,aG,aa,r1,af]
        rfl
       ·rw [if_neg h1, R3 h1]
        simp only [aS,aZ,reduceIte,List.length_nil,r1,af]
        rfl
      ·rw [if_neg (by omega)]
       have e1:=e1n h1l
       simp only [aD,Af,e1,aG,aa,ai,ay,bg,aS,aZ,reduceIte,List.drop_zero]
       by_cases h1:(msg c x).2.1=1
       ·obtain ⟨h5, h6⟩ := S8 h1
        rw [if_pos h1,ag (Q9 hs hk Ra),h5]
        simp only [aS,aZ,reduceIte,List.take_length,List.drop_zero]
        rw [if_neg (by omega),ag (k36 (by have:=nk (c:=c) (t:=x);omega))]
        simp only [decide_true,aO,aG,aa,r1,af]
        rfl
       ·rw [if_neg h1, R3 h1]
        simp only [aS,aZ,reduceIte,List.length_nil,r1,af]
        rfl
     ·have Rb : eE c x = none := by unfold eE; rw [if_neg hlv]
      have hmem:vO x (fS c t)=false:=by
       cases h:vO x (fS c t) with
       |false=>rfl
       |true=>have:=hmv.1 (pJ.1 h);rw [Rb] at this;cases this
      have e1:bA c x=(3,0):=by
       unfold bA
       rw [if_pos hM,if_neg h3,if_neg (by simp [hsk]),KF]
       simp only
       rw [if_neg (by simp [hmem])]
      simp only [Rb,Option.isSome_none,Option.isSome_some,aO,aV,aS,aZ,reduceIte,aD,Af]
      rw [ag (VN hs hk Ra)]
      simp only [Bool.false_eq_true,if_false,if_true,aO,aV,aS,aZ,reduceIte,aD,Af,e1,List.length_nil,List.drop_zero,List.take_nil,aG,aa,ai,ay,bg]
      by_cases h1:(msg c x).2.1=1
      ·obtain ⟨h5, h6⟩ := S8 h1
       rw [if_pos h1,ag (Q9 hs hk Ra),h5]
       simp only [aS,aZ,reduceIte,List.take_length,List.drop_zero]
       rw [if_neg (by omega),ag (k36 (by have:=nk (c:=c) (t:=x);omega))]
       simp only [decide_true,aO,aG,aa,r1,af]
       rfl
      ·rw [if_neg h1, R3 h1]
       simp only [aS,aZ,reduceIte,List.length_nil,r1,af]
       rfl
 ·have e0 : msg c x = zM := FT (by simpa using hM)
  have e1:bA c x=(0,5):=by unfold bA;rw [if_neg hM]
  have e2:jv c x=([],5):=by unfold jv;rw [if_neg hM]
  have e03:¬(0:Int)=3:=by omega
  rw [e0,e1,e2]
  simp only [uu,ai,aa,aG,aS,reduceIte,if_neg e03,aD,Af,List.length_nil,aZ,r1,af]
  rfl
theorem k5 {p:List Nu} (hp:∀x∈p,Kl x):ak (F5 p)=some (true,()):=by
 have hml:=iU p
 have hL:=jW.told (bH p)
 have hC:=KC hp
 have hit:iter (fun a=>ak (g5_0 a)) (cnt (bD (bH p)),fU,((fU.length:Nat):Int),(0:Int),bk (bD (bH p)),())=some (.inr ()):=by
  refine qV 8 (fun k=>(cnt (bD (bH p)),fU,((fU.length:Nat):Int),(k:Int),bk (bD (bH p)),())) (fun k hk=>k5_0 hL hC k hk) ?_
  have hi8:fU.length=8:=rfl
  simp only [g5_0,ai,aa,aU]
  rw [if_neg (by omega)]
 unfold F5
 simp only [ay]
 rw [ag (k28 hp)]
 simp only
 rw [ag (Mx (by omega) (wK p))]
 simp only
 rw [ag (FR hp),ag k31]
 simp only [bg]
 refine Eq.trans (ag hit) ?_
 simp only [gF,ay]
 rw [ag k17]
 rfl
end Go.Proofs.Tryz
end
section
namespace Go.Proofs.Tryz
open Go.AM
set_option maxRecDepth 100000
set_option maxHeartbeats 2000000
section
variable {c:List Mg}
theorem abr (hs:SI c):∀t∈pK c,Tk c t:=fun t ht=>by
 obtain ⟨m,hm,rfl⟩:=List.mem_map.1 ht
 obtain ⟨h1,h2⟩:=List.mem_filter.1 hm
 exact ⟨m,h1,rfl,by simpa using h2⟩
end
end Go.Proofs.Tryz
end
section
namespace Go.Proofs.Tryz
open Go.AM
set_option maxRecDepth 100000
theorem VO {α:Type} {a b:Option α} (h:∀t,a=some t↔b=some t):a=b:=by
 cases a with
 |some x=>exact ((h x).1 rfl).symm
 |none =>
  cases b with
  |none=>rfl
  |some y=>exact (h y).2 rfl
theorem VP {L:List Mg} (h:jW L) {n:Mg} (hn:∀m∈L,slt m.1 n.1=true):SI (cnt L++[n])∧cnt (pF L n)=cnt L++[n]:=by
 have hsi:SI (cnt L++[n]):=by
  unfold SI
  rw [List.pairwise_append]
  refine ⟨eC L,List.pairwise_singleton ..,fun a ha b hb=>?_⟩
  rw [List.mem_singleton] at hb;subst hb
  exact hn a (th ha)
 refine ⟨hsi,Q7 (eC _) hsi fun m=>?_⟩
 rw [wC h.s.ins,List.mem_append,List.mem_singleton,wC h.s,mY h.s]
 have hne:∀m∈L,m.1≠n.1:=fun m hm e=>by have:=hn m hm;rw [e,nZ] at this;cases this
 constructor
 ·rintro ⟨rfl | hm, h2⟩
  ·exact .inr rfl
  ·exact .inl ⟨hm,fun x hx e=>h2 x ((mY h.s).2 (.inr hx)) e⟩
 ·rintro (⟨hm, h2⟩ | rfl)
  ·refine ⟨.inr hm, fun x hx e => ?_⟩
   rcases (mY h.s).1 hx with rfl|hx
   ·exact absurd e.symm (hne m hm)
   ·exact h2 x hx e
  ·refine ⟨.inl rfl, fun x hx e => ?_⟩
   rcases (mY h.s).1 hx with rfl|hx
   ·exact .inl rfl
   ·exact absurd e (hne x hx)
section
variable {c c':List Mg} {n:Mg}
abbrev D (c:List Mg) (p:ByteArray):List ByteArray:=dir c (p,kids c p)
theorem VQ (hs:SI c) (p:ByteArray):D c p=if Kq c p=true then (match (kids c p).filter (cw c) with|[o]=>(kids c p).filter (fun k => !decide (k=o))|_=>[]) else []:=by
 unfold D dir
 rw [Kr hs]
 first|done|rfl
theorem tE (x:ByteArray):kids (c++[n]) x=kids c x++if n.2.1=2∧n.2.2.1=x then [n.1] else []:=by
 unfold kids
 rw [List.filter_append,List.map_append]
 congr 1
 by_cases h:n.2.1=2∧n.2.2.1=x
 ·rw [if_pos h,List.filter_cons_of_pos (by simpa using h)];rfl
 ·rw [if_neg h,List.filter_cons_of_neg (by simpa using h)];rfl
theorem FU (x:ByteArray):cw (c++[n]) x=(cw c x||decide (n.2.1=3∧n.2.2.1=x)):=by
 unfold cw;rw [List.any_append];simp
theorem KG (x:ByteArray):Kq (c++[n]) x=(Kq c x||decide (n.1=x∧n.2.1≠3)):=by
 unfold Kq;rw [List.any_append];simp
theorem zG (h:∀x y,y∈kids c x→y∈kids c' x) {k:Nat} {x y:ByteArray} (hp:iS c x k y):iS c' x k y:=by
 induction hp with
 |zero=>exact .zero
 |step _ hz ih=>exact .step ih (h _ _ hz)
theorem uJ (h:∀x y,y∈kids c x→y∈kids c' x) {x y:ByteArray} (hp:js c x y):js c' x y:=by
 induction hp with
 |refl=>exact .refl _
 |step _ hz ih=>exact .step ih (h _ _ hz)
theorem Dl (x:ByteArray):lG (c++[n]) x=(lG c x||decide (n.1=x)):=by
 rw [Bool.eq_iff_iff,Bool.or_eq_true,bV,bV,decide_eq_true_eq]
 unfold ids
 rw [List.map_append,List.mem_append]
 simp only [List.map_cons,List.map_nil,List.mem_singleton]
 exact or_congr_right eq_comm
theorem wO (hs:SI c) (hs':SI (c++[n])) {x:ByteArray} (h:lG c x=true):msg (c++[n]) x=msg c x:=by
 obtain ⟨h1,h2⟩:=me hs h
 have:=fk hs' (List.mem_append_left [n] h1)
 rw [h2] at this
 exact this
theorem Rc (h1:n.2.1≠1) {t:ByteArray}:Tk (c++[n]) t↔Tk c t:=by
 constructor
 ·rintro ⟨m, hm, e, hk⟩
  rcases List.mem_append.1 hm with hm|hm
  ·exact ⟨m,hm,e,hk⟩
  ·rw [List.mem_singleton.1 hm] at hk;exact absurd hk h1
 ·rintro ⟨m,hm,h⟩;exact ⟨m,List.mem_append_left _ hm,h⟩
theorem Re (hk:vo c) (hn:n.2.1=1∨n.2.1=2∨n.2.1=3):vo (c++[n]):=fun m hm=>by
 rcases List.mem_append.1 hm with hm|hm
 ·exact hk m hm
 ·rw [List.mem_singleton.1 hm];exact hn
theorem VR (h1:n.2.1≠1):pK (c++[n])=pK c:=by
 unfold pK
 rw [List.filter_append,List.filter_cons_of_neg (by simpa using h1)]
 simp
theorem VS {t:ByteArray} (hs:SI c) (hk:vo c) (hs':SI c') (hk':vo c') (ht:Tk c t) (ht':Tk c' t) (h:∀y,eE c y=some t↔eE c' y=some t):fS c t=fS c' t :=
 KA (rA zF (tq hs (ht.top hs) .zero)) (rA zF (tq hs' (ht'.top hs') .zero)) fun y=>by
  rw [tC hs hk ht,tC hs' hk' ht',h]
theorem Il {f f':ByteArray→Int} {can:Zs}:∀{vs:List ByteArray} {nx:Zs},(∀v∈vs,f v=f' v)→vs.foldl (fun nx v=>lS can (f v) nx) nx=vs.foldl (fun nx v=>lS can (f' v) nx) nx:=by
 intro vs
 induction vs with
 |nil=>intro nx _;rfl
 |cons v vs ih=>intro nx hv;rw [List.foldl_cons,List.foldl_cons,hv v (List.mem_cons_self ..)];exact ih fun v h=>hv v (List.mem_cons_of_mem _ h)
theorem BA {f:ByteArray→Int} {t:ByteArray} {ts:List ByteArray} {can:Zs}:jy c f (t::ts) can=jy c f ts (jw f can (fS c t)):=by
 unfold jy;rw [List.foldl_cons]
theorem FV {f f':ByteArray→Int} {can:Zs} {vs:List ByteArray} (h:∀v∈vs,f v=f' v):jw f can vs=jw f' can vs:=by
 unfold jw;exact Il h
theorem zH {f f':ByteArray→Int} {ts:List ByteArray}:∀{can:Zs},(∀t∈ts,fS c t=fS c' t∧∀v∈fS c t,f v=f' v)→jy c f ts can=jy c' f' ts can:=by
 induction ts with
 |nil=>intro can _;simp only [jy,List.foldl_nil]
 |cons t ts ih =>
  intro can h
  obtain ⟨h1,h2⟩:=h t (List.mem_cons_self ..)
  rw [BA,BA,FV h2,h1]
  exact ih fun t h'=>h t (List.mem_cons_of_mem _ h')
theorem Im {vs:List ByteArray}:∀{m:Ss},(∀v∈vs,msg c v=msg c' v)→zy c vs m=zy c' vs m:=by
 unfold zy
 induction vs with
 |nil=>intro m _;rfl
 |cons v vs ih=>intro m hv;rw [List.foldl_cons,List.foldl_cons,hv v (List.mem_cons_self ..)];exact ih fun v h=>hv v (List.mem_cons_of_mem _ h)
theorem BC {t:ByteArray} {ts:List ByteArray} {m:Ss}:uH c (t::ts) m=uH c ts (zy c (fS c t) m):=by
 unfold uH;rw [List.foldl_cons]
theorem Io {ts:List ByteArray}:∀{m:Ss},(∀t∈ts,fS c t=fS c' t∧∀v∈fS c t,msg c v=msg c' v)→uH c ts m=uH c' ts m:=by
 induction ts with
 |nil=>intro m _;simp only [uH,List.foldl_nil]
 |cons t ts ih =>
  intro m h
  obtain ⟨h1,h2⟩:=h t (List.mem_cons_self ..)
  rw [BC,BC,Im h2,h1]
  exact ih fun t h'=>h t (List.mem_cons_of_mem _ h')
theorem ME (ht:pK c=pK c') (h:∀t∈pK c,fS c t=fS c' t∧∀v∈fS c t,msg c v=msg c' v):(∀a,mE c a=mE c' a)∧zx c=zx c'∧Dh c=Dh c':=by
 refine ⟨fun a=>?_,?_,?_⟩
 ·unfold mE jX
  rw [←ht,zH (c:=c) (c':=c') (f:=fA c a) (f':=fA c' a) fun t h'=>⟨(h t h').1,fun v hv=>by unfold fA;rw [(h t h').2 v hv]⟩]
 ·unfold zx jX
  rw [←ht,zH (c:=c) (c':=c') (f:=fT c) (f':=fT c') fun t h'=>⟨(h t h').1,fun v hv=>by unfold fT;rw [(h t h').2 v hv]⟩]
 ·unfold Dh
  rw [←ht,Io h]
theorem Rf (gT:∀x,kids c' x=kids c x) (hD:∀p,D c' p=D c p) (x:ByteArray):eD c' x=eD c x:=by
 rw [Bool.eq_iff_iff,lF,lF]
 constructor
 ·rintro ⟨p, y, hy, hd⟩
  exact ⟨p,y,by have:=hD p;unfold D at this;rw [←this];exact hy,uJ (fun x y h=>by rw [←gT];exact h) hd⟩
 ·rintro ⟨p, y, hy, hd⟩
  exact ⟨p,y,by have:=hD p;unfold D at this;rw [this];exact hy,uJ (fun x y h=>by rw [gT];exact h) hd⟩
theorem Rg (hs:SI c) (hk:vo c) (hs':SI c') (hk':vo c') (gT:∀x,kids c' x=kids c x) (hst:∀x,eD c' x=eD c x) (KQ:∀t,Tk c' t↔Tk c t) (x:ByteArray):iE c' x=iE c x∧eE c' x=eE c x:=by
 have h1:iE c' x=iE c x:=VO fun t=>by
  rw [c8 hs' hk',c8 hs hk,KQ,hst]
  exact and_congr_right fun _=>and_congr_right fun _=>exists_congr fun d=>⟨zG fun x y h=>by rw [←gT];exact h,zG fun x y h=>by rw [gT];exact h⟩
 refine ⟨h1,?_⟩
 have h2:iD c' x=iD c x:=by
  unfold iD
  rw [gT]
  exact List.filter_congr fun k _=>by rw [hst]
 unfold eE
 rw [h1,h2]
theorem Rh (hs:SI c) (hk:vo c) {t v:ByteArray} (ht:Tk c t) (hv:v∈fS c t):lG c v=true:=by
 obtain ⟨_,_,d,hp⟩:=(c8 hs hk).1 (nj.1 ((tC hs hk ht).1 hv)).2
 exact bV.2 (wM hp ht.ids)
theorem MF (hs:SI c) (hk:vo c) (hs':SI (c++[n])) (hn:n.2.1=3) (hni:lG c n.1=false) (hD:∀p,D (c++[n]) p=D c p) :
  (∀x,x≠n.1→bA (c++[n]) x=bA c x∧jv (c++[n]) x=jv c x)∧(∀a,mE c a=mE (c++[n]) a)∧zx c=zx (c++[n])∧Dh c=Dh (c++[n]):=by
 have hk':vo (c++[n]):=Re hk (.inr (.inr hn))
 have gT:∀x,kids (c++[n]) x=kids c x:=fun x=>by rw [tE,if_neg (by omega),List.append_nil]
 have hst:=Rf gT hD
 have KQ:∀t,Tk (c++[n]) t↔Tk c t:=fun t=>Rc (by omega)
 have KF:=Rg hs hk hs' hk' gT hst KQ
 have abt:∀t,Tk c t→fS c t=fS (c++[n]) t:=fun t ht=>VS hs hk hs' hk' ht ((KQ t).2 ht) fun y=>by rw [(KF y).2]
 refine ⟨fun x hx=>?_,ME (VR (by omega)).symm fun t ht=>?_⟩
 ·have hM : lG (c ++ [n]) x = lG c x := by rw [Dl, decide_eq_false hx.symm, Bool.or_false]
  unfold bA jv
  rw [hM,hst,(KF x).1]
  by_cases h:lG c x=true
  ·rw [if_pos h, if_pos h, if_pos h, if_pos h, wO hs hs' h]
   constructor
   ·by_cases h3 : (msg c x).2.1 = 3
    ·rw [if_pos h3,if_pos h3]
    ·rw [if_neg h3, if_neg h3]
     split
     ·rfl
     ·cases h5:iE c x with
      |none=>rfl
      |some t=>simp only [abt t ((c8 hs hk).1 h5).1]
   ·by_cases h1 : (msg c x).2.1 = 1
    ·obtain ⟨q1, q2⟩ := me hs h
     rw [if_pos h1,if_pos h1,abt x ⟨_,q1,q2,h1⟩]
    ·rw [if_neg h1,if_neg h1]
  ·rw [if_neg h,if_neg h,if_neg h,if_neg h];exact ⟨rfl,rfl⟩
 ·have h1 := abr hs t ht
  exact ⟨abt t h1,fun v hv=>(wO hs hs' (Rh hs hk h1 hv)).symm⟩
end
end Go.Proofs.Tryz
end
section
namespace Go.Proofs.Tryz
open Go.AM
set_option maxRecDepth 100000
set_option maxHeartbeats 2000000
theorem filter_one {a : ByteArray} : ∀ {l : List ByteArray}, l.Nodup → a ∈ l → l.filter (fun k => decide (a = k)) = [a]
 |[],_,h=>by cases h
 |x::l,hn,h=>by
  rw [List.nodup_cons] at hn
  by_cases e:a=x
  ·subst e
   rw [List.filter_cons_of_pos (by simp),List.filter_eq_nil_iff.2]
   intro k hk
   simp only [decide_eq_true_eq]
   rintro rfl
   exact hn.1 hk
  ·rw [List.filter_cons_of_neg (by simpa using e)]
   exact filter_one hn.2 ((List.mem_cons.1 h).resolve_left e)
section
variable {c:List Mg} {n m:Mg} {t:ByteArray}
theorem KH (hs:SI c) (hk:vo c) (hm:m∈c) (h2:m.2.1=2) (hst:iE c m.1=some t):Tk c t∧eD c m.1=false∧∃k,iS c t k m.2.2.1:=by
 obtain ⟨h1,h3,d,hp⟩:=(c8 hs hk).1 hst
 refine ⟨h1,h3,?_⟩
 rcases cC hp with ⟨_,e⟩|⟨k,z,_,h4,hz⟩
 ·obtain ⟨m', hm', e', h5⟩ := h1
  rw [hs.inj hm' hm (by rw [e',e])] at h5
  omega
 ·rw [(nY hs hm hz).2];exact ⟨k,h4⟩
theorem Ri (hs:SI c) (hm:m∈c) (h2:m.2.1=2) (hno:∀x∈kids c m.2.2.1,cw c x=false) (hn:n.2.1=3) (tF:n.2.2.1=m.1):(kids c m.2.2.1).filter (cw (c++[n]))=[m.1]:=by
 rw [←filter_one (Ka hs m.2.2.1) (nX hm h2)]
 refine List.filter_congr fun k hk=>?_
 rw [FU,hno k hk,Bool.false_or]
 exact decide_eq_decide.2 ⟨fun h=>by rw [←tF];exact h.2,fun h=>⟨hn,by rw [tF];exact h⟩⟩
theorem XC (hs:SI c) (hs':SI (c++[n])) (hm:m∈c) (h2:m.2.1=2) (hn:n.2.1=3) (tF:n.2.2.1=m.1) {p:ByteArray} (hp:p≠m.2.2.1):D (c++[n]) p=D c p:=by
 have gT:kids (c++[n]) p=kids c p:=by rw [tE,if_neg (by omega),List.append_nil]
 rw [VQ hs,VQ hs',gT,KG,decide_eq_false (fun h=>h.2 hn),Bool.or_false]
 have hf:(kids c p).filter (cw (c++[n]))=(kids c p).filter (cw c):=List.filter_congr fun k hk=>by
  rw [FU,decide_eq_false,Bool.or_false]
  rintro ⟨_,e⟩
  rw [tF] at e
  rw [←e] at hk
  exact hp (nY hs hm hk).2.symm
 rw [hf]
theorem Ip (hs:SI c) (hs':SI (c++[n])) (hm:m∈c) (h2:m.2.1=2) (hno:∀x∈kids c m.2.2.1,cw c x=false) (hn:n.2.1=3) (tF:n.2.2.1=m.1):D (c++[n]) m.2.2.1=if Kq c m.2.2.1=true then (kids c m.2.2.1).filter (fun k => !decide (k=m.1)) else []:=by
 have gT:kids (c++[n]) m.2.2.1=kids c m.2.2.1:=by rw [tE,if_neg (by omega),List.append_nil]
 rw [VQ hs',gT,KG,decide_eq_false (fun h=>h.2 hn),Bool.or_false,Ri hs hm h2 hno hn tF]
theorem VT (hs : SI c) (hk : vo c) (hs' : SI (c ++ [n])) (hm : m ∈ c) (h2 : m.2.1 = 2) (hst : iE c m.1 = some t) (hno : ∀ x ∈ kids c m.2.2.1, cw c x = false) (hn : n.2.1 = 3) (tF : n.2.2.1 = m.1)
  {x:ByteArray} (hx:x∈kids c m.2.2.1) (hxm:x≠m.1):bA (c++[n]) x=(2,0):=by
 obtain ⟨ht,hsk,k,hp⟩:=KH hs hk hm h2 hst
 have hthr:Kq c m.2.2.1=true:=by
  obtain ⟨m',hm',e,h3⟩:=zC hp ht.nr
  exact List.any_eq_true.2 ⟨m',hm',decide_eq_true ⟨e,h3⟩⟩
 have hD:=Ip hs hs' hm h2 hno hn tF
 rw [if_pos hthr] at hD
 have VU:eD (c++[n]) x=true:=lF.2 ⟨m.2.2.1,x,by show x∈D (c++[n]) m.2.2.1;rw [hD];exact List.mem_filter.2 ⟨hx,by simpa using hxm⟩,.refl _⟩
 obtain ⟨y,hy,rfl,hy2,_⟩:=gp.1 hx
 have hM:lG c y.1=true:=bV.2 (List.mem_map.2 ⟨y,hy,rfl⟩)
 unfold bA
 rw [Dl,hM,Bool.true_or,if_pos rfl,wO hs hs' hM,fk hs hy,if_neg (by omega),if_pos VU]
theorem VV (hs:SI c) (hk:vo c) (hs':SI (c++[n])) (hm:m∈c) (h2:m.2.1=2) (hst:iE c m.1=some t) (hno:∀x∈kids c m.2.2.1,cw c x=false) (hn:n.2.1=3) (tF:n.2.2.1=m.1) :
  bA (c++[n]) m.1≠(2,0)∧bA (c++[n]) m.1≠(1,0):=by
 obtain ⟨ht,hsk,k,hp⟩:=KH hs hk hm h2 hst
 have hk':vo (c++[n]):=Re hk (.inr (.inr hn))
 have gT:∀x,kids (c++[n]) x=kids c x:=fun x=>by rw [tE,if_neg (by omega),List.append_nil]
 have VU:eD (c++[n]) m.1=false:=by
  cases h:eD (c++[n]) m.1 with
  |false=>rfl
  |true =>
   obtain ⟨p,y,hy,hd⟩:=lF.1 h
   have hd:js c y m.1:=uJ (fun x y h=>by rw [←gT];exact h) hd
   by_cases hpp:p=m.2.2.1
   ·subst hpp
    have hy':y∈D (c++[n]) m.2.2.1:=hy
    rw [Ip hs hs' hm h2 hno hn tF] at hy'
    split at hy'
    ·obtain ⟨hy1, hy2⟩ := List.mem_filter.1 hy'
     simp only [Bool.not_eq_true',decide_eq_false_iff_not] at hy2
     obtain ⟨d,hpd⟩:=hd.pth
     rcases cC hpd with ⟨_,e⟩|⟨j,z,_,h4,hz⟩
     ·exact absurd e.symm hy2
     ·have := (nY hs hm hz).2
      rw [←this] at h4
      have h5:iS c m.2.2.1 (1+j) m.2.2.1:=iS.add (.step .zero hy1) h4
      have h6:=(hp.add h5).deep hs (ht.top hs) hp
      omega
    ·cases hy'
   ·have hy' : y ∈ D (c ++ [n]) p := hy
    rw [XC hs hs' hm h2 hn tF hpp] at hy'
    have:eD c m.1=true:=lF.2 ⟨p,y,hy',hd⟩
    rw [hsk] at this;cases this
 have KF:iE (c++[n]) m.1=some t:=by
  rw [c8 hs' hk']
  exact ⟨(Rc (by omega)).2 ht,VU,k+1,.step (zG (fun x y h=>by rw [gT];exact h) hp) (by rw [gT];exact nX hm h2)⟩
 have hM:lG c m.1=true:=bV.2 (List.mem_map.2 ⟨m,hm,rfl⟩)
 have e:bA (c++[n]) m.1=if vO m.1 (fS (c++[n]) t)=true then (if 1<(fS (c++[n]) t).length then (5,0) else (4,0)) else (3,0):=by
  unfold bA
  rw [Dl,hM,Bool.true_or,if_pos rfl,wO hs hs' hM,fk hs hm,if_neg (by omega),if_neg (by rw [VU];simp),KF]
 rw [e]
 split
 ·split<;>simp
 ·simp
theorem MG (hs:SI c) (hs':SI (c++[n])) (hm:m∈c) (h2:m.2.1=2) (hno:∀x∈kids c m.2.2.1,cw c x=false) (hn:n.2.1=3) (tF:n.2.2.1=m.1) (ha:(kids c m.2.2.1).filter (fun k => !decide (k=m.1))=[]) (p:ByteArray):D (c++[n]) p=D c p:=by
 by_cases hpp:p=m.2.2.1
 ·subst hpp
  rw [Ip hs hs' hm h2 hno hn tF,ha,VQ hs,List.filter_eq_nil_iff.2 (fun k hk=>by rw [hno k hk];simp)]
 ·exact XC hs hs' hm h2 hn tF hpp
def rB (c:List Mg):List Mg:=c.filter fun m=>decide (m.2.1=2)&&(dP c 9 m false).2.1
theorem k8_0 {v1:Int} {v5:List Mg} (hc:c.length<1000000):iter (fun a=>ak (g8_0 a)) (v1,v5,c,(0:Nat),c,((c.length:Nat):Int),(0:Int),[],())=some (v1,v5,c,(rB c).length,rB c,()):=by
 refine aL c (fun k (o : List Mg) => (v1, v5, c, o.length, c, ((c.length : Nat) : Int), (k : Int), o, ()))
  (fun o r=>(v1,v5,c,(o++r.filter fun m=>decide (m.2.1=2)&&(dP c 9 m false).2.1).length,o++r.filter fun m=>decide (m.2.1=2)&&(dP c 9 m false).2.1,())) (fun pre o=>o.length≤pre.length) ?_ ?_ (s:=[]) (Nat.le_refl _)
 ·intro pre z post o hz ho
  have hlen:c.length=pre.length+(post.length+1):=by rw [hz];simp
  have hd:c.getD pre.length (bs [],(0:Int),bs [],bs [],(0:Int))=z:=by rw [hz];exact aT rfl
  have i1:ee (pre.length:Int) ((c.length:Nat):Int)=true:=bJ (by omega) (by omega)
  have r1:eV .i64 ((pre.length:Int)+1)=true:=aH (by omega) (by omega)
  have d1:decide (o.length+1<cg)=true:=decide_eq_true (by rw [eB];omega)
  have RC:ak (F34 c (z.1,z.2.1,z.2.2.1,z.2.2.2.1,z.2.2.2.2))=_:=k34 hc z
  have e1:(([(z.1,z.2.1,z.2.2.1,z.2.2.2.1,z.2.2.2.2)]:List Mg).take 1)=[z]:=rfl
  left
  by_cases h2:z.2.1=2
  ·cases hs:(dP c 9 z false).2.1 with
   |true =>
    refine ⟨o++[z],?_,by simp;omega,by rw [List.filter_cons_of_pos (by simp [h2,hs])];simp⟩
    simp only [g8_0,ai,aP,aW,aG,aa,ay,Int.toNat_natCast,hd,i1,af,aU,aS]
    rw [if_pos (by omega),ag RC]
    simp only [if_pos h2,hs,aO,List.drop_zero,e1,List.length_singleton,d1,r1,af,List.take_length,List.length_append]
    rfl
   |false =>
    refine ⟨o,?_,by simp;omega,by rw [List.filter_cons_of_neg (by simp [hs])]⟩
    simp only [g8_0,ai,aP,aW,aG,aa,ay,Int.toNat_natCast,hd,i1,af,aU,aS]
    rw [if_pos (by omega),ag RC]
    simp only [if_pos h2,hs,aV,r1,af]
    rfl
  ·refine ⟨o, ?_, by simp; omega, by rw [List.filter_cons_of_neg (by simp [h2])]⟩
   simp only [g8_0,ai,aP,aW,aG,aa,ay,Int.toNat_natCast,hd,i1,af,aU,aS]
   rw [if_pos (by omega),ag RC]
   simp only [if_neg h2,r1,af]
   rfl
 ·intro o _
  simp only [g8_0,ai,aa,aU]
  rw [if_neg (by omega)]
  simp
theorem k8_2 {v5 qa:List Mg} {lP:Nat} {v70 oz:Int} {v80 v82:ByteArray} {Xs:Bool} {b1:List ByteArray} (hc:c.length<1000000) (m x:Mg) :
  iter (fun a=>ak (g8_2 a)) (v5,c,lP,qa,v70,oz,v80,v82,Xs,c,((c.length:Nat):Int),(0:Int),m.1,m.2.1,m.2.2.1,m.2.2.2.1,m.2.2.2.2,b1,x.1,x.2.1,x.2.2.1,x.2.2.2.1,x.2.2.2.2,()) =
   some (if cw c x.1=true then Sum.inl (true,()) else Sum.inr (v5,c,lP,qa,v70,oz,v80,v82,Xs,m.1,m.2.1,m.2.2.1,m.2.2.2.1,m.2.2.2.2,b1,x.1,x.2.1,x.2.2.1,x.2.2.2.1,x.2.2.2.2,())):=by
 refine aL c (fun k (_ : Unit) => (v5, c, lP, qa, v70, oz, v80, v82, Xs, c, ((c.length : Nat) : Int), (k : Int), m.1, m.2.1, m.2.2.1, m.2.2.2.1, m.2.2.2.2, b1, x.1, x.2.1, x.2.2.1, x.2.2.2.1, x.2.2.2.2, ()))
  (fun _ r=>if cw r x.1=true then Sum.inl (true,()) else Sum.inr (v5,c,lP,qa,v70,oz,v80,v82,Xs,m.1,m.2.1,m.2.2.1,m.2.2.2.1,m.2.2.2.2,b1,x.1,x.2.1,x.2.2.1,x.2.2.2.1,x.2.2.2.2,())) (fun _ _=>True) ?_ ?_ (s:=()) trivial
 ·intro pre z post _ hz _
  have hlen:c.length=pre.length+(post.length+1):=by rw [hz];simp
  have hd:c.getD pre.length (bs [],(0:Int),bs [],bs [],(0:Int))=z:=by rw [hz];exact aT rfl
  have i1:ee (pre.length:Int) ((c.length:Nat):Int)=true:=bJ (by omega) (by omega)
  have r1:eV .i64 ((pre.length:Int)+1)=true:=aH (by omega) (by omega)
  by_cases h:z.2.1=3∧z.2.2.1=x.1
  ·right
   rw [if_pos (by unfold cw;rw [List.any_cons,decide_eq_true h];rfl)]
   simp only [g8_2,ai,aP,aG,aa,ay,Int.toNat_natCast,hd,i1,af,aU,aS,seq_eq]
   rw [if_pos (by omega),if_pos h.1,if_pos h.2,ag k17]
  ·left
   refine ⟨(),?_,trivial,by unfold cw;rw [List.any_cons,decide_eq_false h,Bool.false_or]⟩
   simp only [g8_2,ai,aP,aG,aa,ay,Int.toNat_natCast,hd,i1,r1,af,aU,aS,seq_eq]
   rw [if_pos (by omega)]
   by_cases h3:z.2.1=3
   ·rw [if_pos h3,if_neg fun e=>h ⟨h3,e⟩];rfl
   ·rw [if_neg h3];rfl
 ·intro _ _
  simp only [g8_2,ai,aa,aU]
  rw [if_neg (by omega)]
  simp [cw]
def rC (m:Mg) (r:List Mg):List ByteArray:=((r.filter fun x=>decide (x.2.1=2∧x.2.2.1=m.2.2.1)).map (·.1)).filter fun k => !decide (k=m.1)
def zI (c:List Mg) (m:Mg) (r:List Mg):Bool:=r.any fun x=>decide (x.2.1=2∧x.2.2.1=m.2.2.1)&&cw c x.1
theorem k8_1 {v5:List Mg} (hc:c.length<1000000) (m:Mg) :
  iter (fun a=>ak (g8_1 a)) (v5,c,(0:Nat),c,((c.length:Nat):Int),(0:Int),m.1,m.2.1,m.2.2.1,m.2.2.2.1,m.2.2.2.2,[],()) =
   some (if zI c m c=true then Sum.inl (true,()) else Sum.inr (v5,(rC m c).length,m.1,m.2.1,m.2.2.1,m.2.2.2.1,m.2.2.2.2,rC m c,())):=by
 refine aL c (fun k (o : List ByteArray) => (v5, c, o.length, c, ((c.length : Nat) : Int), (k : Int), m.1, m.2.1, m.2.2.1, m.2.2.2.1, m.2.2.2.2, o, ()))
  (fun o r=>if zI c m r=true then Sum.inl (true,()) else Sum.inr (v5,(o++rC m r).length,m.1,m.2.1,m.2.2.1,m.2.2.2.1,m.2.2.2.2,o++rC m r,())) (fun pre o=>o.length≤pre.length) ?_ ?_ (s:=[]) (Nat.le_refl _)
 ·intro pre z post o hz ho
  have hlen:c.length=pre.length+(post.length+1):=by rw [hz];simp
  have hd:c.getD pre.length (bs [],(0:Int),bs [],bs [],(0:Int))=z:=by rw [hz];exact aT rfl
  have i1:ee (pre.length:Int) ((c.length:Nat):Int)=true:=bJ (by omega) (by omega)
  have r1:eV .i64 ((pre.length:Int)+1)=true:=aH (by omega) (by omega)
  have d1:decide (o.length+1<cg)=true:=decide_eq_true (by rw [eB];omega)
  have e1:([z.1].take 1)=[z.1]:=rfl
  by_cases h:z.2.1=2∧z.2.2.1=m.2.2.1
  ·have ha : zI c m (z :: post) = (cw c z.1 || zI c m post) := by unfold zI; rw [List.any_cons, decide_eq_true h, Bool.true_and]
   have hsb:rC m (z::post)=if z.1=m.1 then rC m post else z.1::rC m post:=by
    unfold rC
    rw [List.filter_cons_of_pos (by simpa using h),List.map_cons]
    by_cases e:z.1=m.1
    ·rw [if_pos e,List.filter_cons_of_neg (by simp [e])]
    ·rw [if_neg e,List.filter_cons_of_pos (by simp [e])]
   have hrun:∀o',o'=(if z.1=m.1 then o else o++[z.1])→ak (g8_1 (v5,c,o.length,c,((c.length:Nat):Int),(pre.length:Int),m.1,m.2.1,m.2.2.1,m.2.2.2.1,m.2.2.2.2,o,())) =
     if cw c z.1=true then some (Sum.inr (Sum.inl (true,()))) else some (Sum.inl (v5,c,o'.length,c,((c.length:Nat):Int),((pre.length+1:Nat):Int),m.1,m.2.1,m.2.2.1,m.2.2.2.1,m.2.2.2.2,o',())):=by
    rintro o' rfl
    simp only [g8_1,ai,aP,aW,aG,aa,ay,bg,uu,Int.toNat_natCast,hd,i1,af,aU,aS,aZ,seq_eq]
    rw [if_pos (by omega),if_pos h.1,if_pos h.2]
    by_cases e:z.1=m.1
    ·simp only [if_pos e, aD, Af]
     rw [ag (k8_2 hc m z)]
     by_cases hr:cw c z.1=true
     ·rw [if_pos hr,if_pos hr];simp only [jG,aa]
     ·rw [if_neg hr,if_neg hr];simp only [gF,aG,aa,r1,af];rfl
    ·simp only [if_neg e, List.drop_zero, e1, List.length_singleton, d1, af, aD, Af, List.take_length]
     rw [ag (k8_2 hc m z)]
     by_cases hr:cw c z.1=true
     ·rw [if_pos hr,if_pos hr];simp only [jG,aa]
     ·rw [if_neg hr,if_neg hr];simp only [gF,aG,aa,r1,af,List.length_append];rfl
   have hrun:=hrun _ rfl
   by_cases hr:cw c z.1=true
   ·right
    rw [hrun,if_pos hr,ha,hr,Bool.true_or,if_pos rfl]
   ·left
    refine ⟨_,by rw [hrun,if_neg hr],?_,?_⟩
    ·split<;>simp<;>omega
    ·rw [ha, show cw c z.1 = false by simpa using hr, Bool.false_or, hsb]
     by_cases e:z.1=m.1<;>simp [e]
  ·left
   have ha:zI c m (z::post)=zI c m post:=by unfold zI;rw [List.any_cons,decide_eq_false h,Bool.false_and,Bool.false_or]
   have hsb:rC m (z::post)=rC m post:=by unfold rC;rw [List.filter_cons_of_neg (by simpa using h)]
   refine ⟨o,?_,by simp;omega,by rw [ha,hsb]⟩
   simp only [g8_1,ai,aP,aW,aG,aa,ay,bg,uu,Int.toNat_natCast,hd,i1,r1,af,aU,aS,aZ,seq_eq]
   rw [if_pos (by omega)]
   by_cases h2:z.2.1=2
   ·rw [if_pos h2,if_neg fun e=>h ⟨h2,e⟩];rfl
   ·rw [if_neg h2];rfl
 ·intro o _
  simp only [g8_1,ai,aa,aU]
  rw [if_neg (by omega)]
  simp [zI,rC]
theorem k8_3 {L L':List Mg} (h':jW L') {S:List ByteArray} {m:Mg} (hS:∀x∈S,bA (cnt L') x=(2,0)) (hl:S.length<1000000) :
  iter (fun a=>ak (g8_3 a)) (S.length,S.length,((S.length:Nat):Int),(0:Int),m.1,m.2.1,m.2.2.1,m.2.2.2.1,m.2.2.2.2,S,bk L,bk L',())=some (.inl (S.length,m.1,m.2.1,m.2.2.1,m.2.2.2.1,m.2.2.2.2,S,bk L,bk L',())):=by
 refine qV S.length (fun k=>(S.length,S.length,((S.length:Nat):Int),(k:Int),m.1,m.2.1,m.2.2.1,m.2.2.2.1,m.2.2.2.2,S,bk L,bk L',())) (fun k hk=>?_) ?_
 ·have i1 : ee (k : Int) ((S.length : Nat) : Int) = true := bJ (by omega) (by omega)
  have r1:eV .i64 ((k:Int)+1)=true:=aH (by omega) (by omega)
  have d1:decide (k<S.length)=true:=decide_eq_true hk
  simp only [g8_3,ai,aP,aW,aG,ay,aa,Int.toNat_natCast,Nat.zero_add,i1,d1,r1,af,aU]
  rw [if_pos (by omega),ag (An h' _ 2),hS _ (fG hk)]
  simp only [decide_true,Bool.not_true,aV]
  rfl
 ·simp only [g8_3, ai, aa, aU]
  rw [if_neg (by omega)]
theorem k8_4 {L L':List Mg} (h:jW L) (h':jW L') (hS:∀x∈fU,bA (cnt L) x=bA (cnt L') x) :
  iter (fun a=>ak (g8_4 a)) (fU,((fU.length:Nat):Int),(0:Int),bk L,bk L',())=some (.inr (bk L,bk L',())):=by
 have h8:fU.length=8:=rfl
 refine qV 8 (fun k=>(fU,((fU.length:Nat):Int),(k:Int),bk L,bk L',())) (fun k hk=>?_) ?_
 ·have i1 : ee (k : Int) ((fU.length : Nat) : Int) = true := bJ (by omega) (by omega)
  have r1:eV .i64 ((k:Int)+1)=true:=aH (by omega) (by omega)
  simp only [g8_4,ai,aP,aG,ay,aa,Int.toNat_natCast,i1,r1,af,aU]
  rw [if_pos (by omega),ag (Vu h _)]
  simp only
  rw [ag (Vu h' _),hS _ (fG (by omega))]
  simp only [beq_self_eq_true,Bool.not_true,aV]
  rfl
 ·simp only [g8_4, ai, aa, aU]
  rw [if_neg (by omega)]
theorem k39 (a b:ByteArray):ak (F39 a b)=some ((a,3,b,bs [],0),()):=rfl
theorem Rj {a b:ByteArray} (h1:iw a=true) (h2:iw b=true) (h:b≠a):qc (a,3,b,bs [],0)=0:=by
 simp [qc,lE,jr,h1,h2,h,Km]
theorem tH:∀x∈fU,iw x=true∧slt x (bs [114,57])=true∧slt x (bs [110,101,119])=true:=of_decide_eq_true (by kernel_rfl)
theorem Rk {p:List Nu} (hp:∀x∈p,Kl x):∀m∈bD (bH p),m.1∈fU:=fun m hm=>(tD hp m ((lJ (tA hp) (by have:=iU p;omega) m).1 hm)).id
theorem abu (hC:CN c) {x:ByteArray} (h:lG c x=true):x∈fU:=by
 obtain ⟨m,hm,rfl⟩:=List.mem_map.1 (bV.1 h)
 exact (hC.byN m hm).id
theorem Rl {p:List Nu}:(bD (bH p)).length≤10:=by
 have h:∀(l L:List Mg),(l.foldl (fun L m=>(gP L m).2) L).length≤L.length+l.length:=by
  intro l
  induction l with
  |nil=>intro L;simp
  |cons m l ih =>
   intro L
   rw [List.foldl_cons,List.length_cons]
   have h1:=ih (gP L m).2
   have h2:(gP L m).2.length≤L.length+1:=by
    have:=zk (L:=L) (m:=m)
    unfold gP
    split
    ·split
     ·simp
     ·exact this
    ·simp
   omega
 have:=h (bH p) []
 have hml:=iU p
 unfold bD
 simp only [List.length_nil] at this
 omega
end
theorem k8 {p:List Nu} {w:Int} (hp:∀x∈p,Kl x) (hw:U8 w):ak (F8 p w)=some (true,()):=by
 have hml:=iU p
 have hL:=jW.told (bH p)
 have hC:=KC hp
 have hs:=hC.si
 have hk:=hC.k3
 have h8:=hC.len
 have hid:=Rk hp
 have htl:=Rl (p:=p)
 unfold F8
 simp only [ay]
 rw [ag (k28 hp)]
 simp only
 rw [ag (FR hp)]
 simp only [bg]
 rw [ag (k8_0 (by omega))]
 simp only [ai,aS]
 by_cases h0:(rB (cnt (bD (bH p)))).length=0
 ·rw [if_pos (by omega),ay,ag k17];rfl
 rw [if_neg (by omega)]
 have hfl:(rB (cnt (bD (bH p)))).length≤8:=Nat.le_trans (List.length_filter_le ..) h8
 have ht:=Gj hw.1 (((rB (cnt (bD (bH p)))).length:Nat):Int) (by omega)
 generalize hi:Int.tmod w (((rB (cnt (bD (bH p)))).length:Nat):Int)=i at ht
 have hw1:=hw.1
 have hw2:=hw.2
 have hit:i.toNat<(rB (cnt (bD (bH p)))).length:=by omega
 have hmm:(rB (cnt (bD (bH p)))).getD i.toNat zM∈rB (cnt (bD (bH p))):=by
  rw [List.getD_eq_getElem?_getD,List.getElem?_eq_getElem hit];exact List.getElem_mem hit
 simp only [aG,aW,aP,ay,bg,hi,Nat.zero_add]
 rw [mS (by omega) (by omega),gA (by rw [Bool.not_eq_true',beq_eq_false_iff_ne];omega),EC (by omega) (by omega),cz hit]
 show cW (iter _ (bH p,cnt (bD (bH p)),0,cnt (bD (bH p)),_,0,((rB (cnt (bD (bH p)))).getD i.toNat zM).1,((rB (cnt (bD (bH p)))).getD i.toNat zM).2.1,((rB (cnt (bD (bH p)))).getD i.toNat zM).2.2.1,((rB (cnt (bD (bH p)))).getD i.toNat zM).2.2.2.1,((rB (cnt (bD (bH p)))).getD i.toNat zM).2.2.2.2,[],())) _=_
 generalize (rB (cnt (bD (bH p)))).getD i.toNat zM=m at hmm ⊢
 obtain ⟨hm,hq⟩:=List.mem_filter.1 hmm
 rw [Bool.and_eq_true,decide_eq_true_eq] at hq
 obtain ⟨h2,hq⟩:=hq
 rw [(Q6 hs hk (by omega) hm (by omega)).2.1,Option.isSome_iff_exists] at hq
 obtain ⟨t,hst⟩:=hq
 rw [ag (k8_1 (by omega) m)]
 cases hA:zI (cnt (bD (bH p))) m (cnt (bD (bH p))) with
 |true=>rw [if_pos rfl];simp only [jG,aa]
 |false =>
  rw [if_neg (by simp)]
  have hno:∀x∈kids (cnt (bD (bH p))) m.2.2.1,cw (cnt (bD (bH p))) x=false:=fun x hx=>by
   obtain ⟨y,hy,rfl,hy2,hy3⟩:=gp.1 hx
   cases hr:cw (cnt (bD (bH p))) y.1 with
   |false=>rfl
   |true =>
    have:zI (cnt (bD (bH p))) m (cnt (bD (bH p)))=true:=List.any_eq_true.2 ⟨y,hy,by rw [decide_eq_true ⟨hy2,hy3⟩,hr];rfl⟩
    rw [hA] at this;cases this
  have Ru:=(hC.byN m hm).id
  have hn9:=tH m.1 Ru
  have hne:m.1≠bs [114,57]:=fun e=>by have:=hn9.2.1;rw [e,nZ] at this;cases this
  have hck:=Rj (a:=bs [114,57]) (b:=m.1) (by decide) hn9.1 hne
  have hsh:H7 (bs [114,57],(3:Int),m.1,bs [],(0:Int)):=⟨show (bs [114,57]).size<1000000000 by decide,by
   have:∀x∈fU,x.size<1000000000:=by decide
   exact this _ Ru,show (bs []).size<1000000000 by decide⟩
  obtain ⟨hs',hcn⟩:=VP (n:=(bs [114,57],(3:Int),m.1,bs [],(0:Int))) hL fun y hy=>(tH y.1 (hid y hy)).2.1
  have hL':=abm hL hck (by omega)
  have hni:lG (cnt (bD (bH p))) (bs [114,57])=false:=by
   cases h:lG (cnt (bD (bH p))) (bs [114,57]) with
   |false=>rfl
   |true=>have:=(tH _ (abu hC h)).2.1;rw [nZ] at this;cases this
  simp only [gF,ay]
  rw [ag (Mx (by omega) (wK p))]
  simp only
  rw [ag (Mx (by omega) (wK p)),ag (k39 _ _)]
  simp only
  rw [ag (kT hL hsh hck (by omega))]
  simp only [ai,aZ,aS,reduceIte,ay,bg]
  have abv:rC m (cnt (bD (bH p)))=(kids (cnt (bD (bH p))) m.2.2.1).filter fun k => !decide (k=m.1):=rfl
  have XU:(rC m (cnt (bD (bH p)))).length<1000000:=by
   rw [abv]
   have:=List.length_filter_le (fun k => !decide (k=m.1)) (kids (cnt (bD (bH p))) m.2.2.1)
   have:=mZ (cnt (bD (bH p))) m.2.2.1
   omega
  rw [ag (k8_3 hL' (fun x hx=>by
   rw [hcn]
   rw [abv] at hx
   obtain ⟨hx1,hx2⟩:=List.mem_filter.1 hx
   exact VT hs hk hs' hm h2 hst hno rfl rfl hx1 (by simpa using hx2)) XU)]
  simp only [jG,ai,aU]
  by_cases hsb:0<(rC m (cnt (bD (bH p)))).length
  ·rw [if_pos (by omega)]
   obtain ⟨q2,q1⟩:=VV hs hk hs' hm h2 hst hno rfl rfl
   rw [←hcn] at q1 q2
   simp only [ay]
   rw [ag (An hL' m.1 2),decide_eq_false q2]
   simp only [ai,Bool.not_false,aO,ay]
   rw [ag (An hL' m.1 1),decide_eq_false q1]
   simp only [ai,Bool.not_false,aO,ay]
   rw [ag k17]
   rfl
  ·rw [if_neg (by omega)]
   have hal:=MG hs hs' hm h2 hno rfl rfl (List.length_eq_zero_iff.1 (by rw [←abv];omega))
   obtain ⟨q1,q2,q3,_⟩:=MF hs hk hs' rfl hni hal
   simp only [ay]
   rw [ag k31]
   simp only [bg]
   refine Eq.trans (ag (k8_4 hL hL' fun x hx=>by
    rw [hcn,(q1 x fun e=>by have:=(tH x hx).2.1;rw [e,nZ] at this;cases this).1])) ?_
   simp only [gF,ay]
   rw [ag (kH41 hL' hL (fun a _=>by rw [hcn,q2 a]) (by rw [hcn,q3]))]
   simp only [ai,aO,ay]
   rw [ag k17]
   rfl
theorem law8 (p:List Nu) (w:Int) (hW:EB [.list nuT,u8T] (p,w,())):ak (F8 p w)=some (true,()):=k8 (fun x hx=>agu (hW.1.2 x hx)) (FL hW.2.1)
end Go.Proofs.Tryz
end
