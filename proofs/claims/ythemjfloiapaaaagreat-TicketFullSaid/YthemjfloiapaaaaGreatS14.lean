/- Maps that are kept in order: what stands in them. Plain Lean. Messages: names, what is wrong with them. Books: telling, all messages in order. DeleteFunc, Clone, the keys of maps. The messages that count, and what they say of each other. Striking: what is struck, and what corrects it. A book's desk. The versions of a ticket. The versions of a ticket: walked. States and versions. Sums. Spans, sums, accounts. The examples: what works() and Known come to. Messages by numbers. Books that were told good messages. Joins; books that answer the same. TicketOrder. TicketOrder: the row. TicketKept. Ways up to a ticket. Struck, the chain, versions: walked. Ways up: what they say. The messages that count: the first of each id. TicketStates. TicketExact. A book that was told one message more. TicketRuled. A correction more; TicketCorrected. TicketCorrected: the row. TicketFull. -/
import Derived.Test.YthemjfloiapaaaaGreatW141
set_option linter.unusedSectionVars false
set_option linter.unusedVariables false
set_option linter.unusedSimpArgs false
section
namespace Go.AM
theorem qA {α : Type} {r : α → α → Prop} (irr : ∀ a, ¬ r a a) (asy : ∀ a b, r a b → ¬ r b a) : ∀ {l l' : List α}, l.Pairwise r → l'.Pairwise r → (∀ x, x ∈ l ↔ x ∈ l') → l = l'
 |[],[],_,_,_=>rfl
 |[],b::s,_,_,h=>by have:=(h b).2 (List.mem_cons_self ..);cases this
 |a::r',[],_,_,h=>by have:=(h a).1 (List.mem_cons_self ..);cases this
 |a::l,b::s,h1,h2,h=>by
  rw [List.pairwise_cons] at h1 h2
  have e:a=b:=by
   rcases List.mem_cons.1 ((h a).1 (List.mem_cons_self ..)) with e|ha
   ·exact e
   rcases List.mem_cons.1 ((h b).2 (List.mem_cons_self ..)) with e|hb
   ·exact e.symm
   ·exact absurd (h2.1 a ha) (asy _ _ (h1.1 b hb))
  subst e
  rw [qA irr asy h1.2 h2.2 fun x=>?_]
  constructor
  ·intro hx
   rcases List.mem_cons.1 ((h x).1 (List.mem_cons_of_mem _ hx)) with e|hx'
   ·subst e;exact absurd (h1.1 x hx) (irr x)
   ·exact hx'
  ·intro hx
   rcases List.mem_cons.1 ((h x).2 (List.mem_cons_of_mem _ hx)) with e|hx'
   ·subst e;exact absurd (h2.1 x hx) (irr x)
   ·exact hx'
section
variable {t:Ty} {ks:List Kd} {β:Type}
theorem js (hk:bx t=some ks) {x:t.den}:dx t x x=true:=jV x hk
theorem Db (hk:bx t=some ks) {x y:t.den}:dx t x y=true↔x=y:=⟨bC,fun h=>by subst h;exact js hk⟩
theorem fK (hk:bx t=some ks) (x:t.den):gy t x x=false:=by
 cases h:gy t x x with
 |false=>rfl
 |true=>exact (dY hk h h).elim
theorem Zh (hk:bx t=some ks) {x y:t.den} (h:gy t x y=true):dx t x y=false:=by
 cases h':dx t x y with
 |false=>rfl
 |true=>rw [bC h',fK hk] at h;cases h
def gw (t:Ty) (es:List (t.den×β)):Prop:=es.Pairwise fun a b=>gy t a.1 b.1=true
theorem gw.kd (hk:bx t=some ks) {es:List (t.den×β)} (h:gw t es):KD t es:=List.Pairwise.imp (fun h=>Zh hk h) h
theorem GX {es:List (t.den×β)} {x:t.den} {v:β} {e:t.den×β}:e∈pE t es x v↔e=(x,v)∨e∈es:=by
 rw [jw.mem_iff];simp
theorem gw.mins (hk : bx t = some ks) {x : t.den} {v : β} : ∀ {es : List (t.den × β)}, gw t es → aL t es x = false → gw t (pE t es x v)
 |[],_,_=>by unfold gw;simp [pE]
 |e::r,h,hn=>by
  unfold gw at h
  rw [List.pairwise_cons] at h
  have hne:=sN hn (List.mem_cons_self ..)
  have hnr:aL t r x=false:=by simpa [aL,hne] using hn
  unfold pE
  split
  ·rename_i hlt
   unfold gw
   rw [List.pairwise_cons]
   refine ⟨fun b hb=>?_,List.pairwise_cons.2 h⟩
   rcases List.mem_cons.1 hb with rfl|hb
   ·exact hlt
   ·exact jD hk hlt (h.1 b hb)
  ·rename_i hlt
   unfold gw
   rw [List.pairwise_cons]
   refine ⟨fun b hb=>?_,gw.mins hk h.2 hnr⟩
   rcases GX.1 hb with rfl|hb
   ·cases hlt':gy t e.1 x with
    |true=>rfl
    |false =>
     have:=jC hk (by simpa using hlt) hlt'
     rw [this,js hk] at hne;cases hne
   ·exact h.1 b hb
theorem gw.gL (hk:bx t=some ks) {x:t.den} {v:β} {es:List (t.den×β)} (h:gw t es):gw t (aS t es x v):=by
 unfold aS
 split
 ·unfold gw
  rw [List.pairwise_map]
  refine List.Pairwise.imp ?_ h
  intro a b hab
  split<;>split
  ·rename_i h1 h2
   rw [←bC h1,←bC h2,fK hk] at hab;cases hab
  ·rename_i h1 h2
   rw [←bC h1] at hab;exact hab
  ·rename_i h1 h2
   rw [←bC h2] at hab;exact hab
  ·exact hab
 ·rename_i hn
  exact h.mins hk (by simpa using hn)
theorem dc (hk:bx t=some ks) {es:List (t.den×β)} {x:t.den}:aL t es x=true↔∃v,(x,v)∈es:=by
 unfold aL
 rw [List.any_eq_true]
 constructor
 ·rintro ⟨e,he,hx⟩;rw [bC hx];exact ⟨e.2,he⟩
 ·rintro ⟨v,hv⟩;exact ⟨_,hv,js hk⟩
theorem fD (hk:bx t=some ks) {es:List (t.den×β)} {x:t.den} {v d:β} (h:gw t es) (hm:(x,v)∈es):ak t d es x=v:=mh (h.kd hk) hm (js hk)
theorem fE (hk:bx t=some ks) {es:List (t.den×β)} {x:t.den} {v:β} (h:gw t es) {e:t.den×β}:e∈aS t es x v↔e=(x,v)∨(e∈es∧e.1≠x):=by
 unfold aS
 split
 ·rename_i hh
  obtain ⟨u,hu⟩:=(dc hk).1 hh
  rw [List.mem_map]
  constructor
  ·rintro ⟨e', he', rfl⟩
   split
   ·exact .inl rfl
   ·rename_i hne;exact .inr ⟨he',fun e=>hne (by rw [e];exact js hk)⟩
  ·rintro (rfl | ⟨he, hne⟩)
   ·exact ⟨(x,u),hu,by simp [js hk]⟩
   ·exact ⟨e,he,by rw [if_neg];intro h;exact hne (bC h).symm⟩
 ·rename_i hh
  rw [GX]
  constructor
  ·rintro (h | h)
   ·exact .inl h
   ·refine .inr ⟨h, fun e' => hh ?_⟩
    rw [←e'];exact (dc hk).2 ⟨_,h⟩
  ·rintro (h | h)
   ·exact .inl h
   ·exact .inr h.1
theorem PF (hk:bx t=some ks) {es:List (t.den×β)} {x y:t.den} {v d:β} (h:gw t es):ak t d (aS t es x v) y=if dx t y x=true then v else ak t d es y:=by
 have hc:=h.gL (x:=x) (v:=v) hk
 split
 ·rename_i e; have e := bC e; subst e
  exact fD hk hc ((fE hk h).2 (.inl rfl))
 ·rename_i e0
  have e:y≠x:=fun h=>e0 ((Db hk).2 h)
  cases hm:aL t es y with
  |true =>
   obtain ⟨u,hu⟩:=(dc hk).1 hm
   rw [fD hk h hu]
   exact fD hk hc ((fE hk h).2 (.inr ⟨hu,e⟩))
  |false =>
   rw [ga hm,ga]
   cases hm':aL t (aS t es x v) y with
   |false=>rfl
   |true =>
    obtain ⟨u,hu⟩:=(dc hk).1 hm'
    rcases (fE hk h).1 hu with e'|⟨h',_⟩
    ·cases e';exact absurd rfl e
    ·rw [(dc hk).2 ⟨u,h'⟩] at hm;cases hm
theorem oV (hk:bx t=some ks) {es:List (t.den×β)} {x y:t.den} {v:β} (h:gw t es):aL t (aS t es x v) y=(dx t y x||aL t es y):=by
 rw [Bool.eq_iff_iff,dc hk,Bool.or_eq_true,Db hk,dc hk]
 constructor
 ·rintro ⟨u, hu⟩
  rcases (fE hk h).1 hu with e|⟨h',_⟩
  ·cases e;exact .inl rfl
  ·exact .inr ⟨u,h'⟩
 ·by_cases e : y = x
  ·subst e;exact fun _=>⟨v,(fE hk h).2 (.inl rfl)⟩
  ·rintro (h' | ⟨u, hu⟩)
   ·exact absurd h' e
   ·exact ⟨u,(fE hk h).2 (.inr ⟨hu,e⟩)⟩
theorem MF (hk:bx t=some ks) {es es':List (t.den×β)} (h:gw t es) (h':gw t es') (hm:∀e,e∈es↔e∈es'):es=es' :=
 qA (r:=fun a b:t.den×β=>gy t a.1 b.1=true) (fun a h=>by rw [fK hk] at h;cases h) (fun a b h1 h2=>dY hk h1 h2) h h' hm
theorem gw.keys (hk:bx t=some ks) {es:List (t.den×β)} (h:gw t es):Dr t (es.map (·.1)):=by
 unfold Dr
 rw [List.pairwise_map]
 refine List.Pairwise.imp (fun {a b} hab=>?_) h
 cases hba:gy t b.1 a.1 with
 |false=>rfl
 |true=>exact (dY hk hab hba).elim
theorem gw.nil:gw (β:=β) t []:=List.Pairwise.nil
theorem Uk {es:List (t.den×Bool)} (hk:bx t=some ks) (h:gw t es) (ht:∀e∈es,e.2=true) {x:t.den}:∀e∈aS t es x true,e.2=true:=fun e he=>by
 rcases (fE hk h).1 he with rfl|⟨h',_⟩
 ·rfl
 ·exact ht e h'
theorem Ul {es:List (t.den×Bool)} (hk:bx t=some ks) (h:gw t es) (ht:∀e∈es,e.2=true) {x:t.den}:ak t false es x=aL t es x:=by
 cases hm:aL t es x with
 |false=>exact ga hm
 |true =>
  obtain ⟨u,hu⟩:=(dc hk).1 hm
  rw [fD hk h hu];exact ht _ hu
theorem Um (hk:bx t=some ks) {es es':List (t.den×Bool)} (h:gw t es) (h':gw t es') (ht:∀e∈es,e.2=true) (ht':∀e∈es',e.2=true) (hm:∀x,aL t es x=aL t es' x):es=es':=by
 refine MF hk h h' fun e=>?_
 have key:∀{es es':List (t.den×Bool)},(∀e∈es,e.2=true)→(∀e∈es',e.2=true)→(∀x,aL t es x=aL t es' x)→e∈es→e∈es':=fun {es es'} ht ht' hm he=>by
  have h1:aL t es' e.1=true:=by rw [←hm];exact (dc hk).2 ⟨e.2,he⟩
  obtain ⟨u,hu⟩:=(dc hk).1 h1
  have e1:=ht e he
  have e2:=ht' _ hu
  obtain ⟨a,b⟩:=e
  simp only at e1 e2;subst e1;subst e2;exact hu
 exact ⟨key ht ht' hm,key ht' ht fun x=>(hm x).symm⟩
end
end Go.AM
end
section
namespace Go.Proofs.Tryz
open Go.AM
set_option maxRecDepth 100000
abbrev Mg:=ByteArray×Int×ByteArray×ByteArray×Int
abbrev tM:Ty:=.prod .str (.prod (.int .i64) (.prod .str (.prod .str (.int .i64))))
abbrev kM:bx tM=some [.s,.i,.s,.s,.i]:=rfl
abbrev kS:bx .str=some [.s]:=rfl
theorem seq_eq (a b:ByteArray):seq a b=decide (a=b):=by
 unfold seq
 rw [Go.ByteArray.toList_eq,Go.ByteArray.toList_eq]
 by_cases h:a=b
 ·subst h;simp
 ·rw [decide_eq_false h, beq_eq_false_iff_ne]
  intro e;apply h
  obtain ⟨x⟩:=a;obtain ⟨y⟩:=b
  simp at e;rw [e]
theorem Zi (a b:ByteArray):dx .str a b=decide (a=b):=by
 rw [←seq_eq];simp only [dx,seq,Go.ByteArray.toList_eq]
def Dc (i:Nat) (b:Int):Bool:=decide (97≤b∧b≤122)||decide (i≠0∧48≤b∧b≤57)
def okL : Nat → List Int → Bool
 |_,[]=>true
 |i,b::r=>Dc i b&&okL (i+1) r
def gW (s:ByteArray):Bool:=okL 0 (gr s)&&decide (0<s.size∧s.size≤10)
theorem k65 (s:ByteArray) (hs:s.size<1000000000):ai (F65 s)=some (gW s,()):=by
 have hl:(gr s).length=s.size:=EC s
 unfold F65
 simp only [az,bW]
 refine bind_eq (bg (gr s) (fun k (_:Nat)=>(s,gr s,((gr s).length:Int),(k:Int),())) (fun i r=>if okL i r=true then .inr (s,()) else .inl ()) (fun pre i=>i=pre.length) ?_ ?_ (s:=0) rfl) ?_
 ·intro pre x post i hx hi
  subst hi
  have hlen:(gr s).length=pre.length+(post.length+1):=by rw [hx];simp
  have hd:(gr s).getD pre.length 0=x:=by rw [hx];exact bD rfl
  have key:run (fun _=>none) (g65_0 (s,gr s,((gr s).length:Int),(pre.length:Int),()))=if Dc pre.length x=true then some (.inl (s,gr s,((gr s).length:Int),((pre.length+1:Nat):Int),())) else some (.inr (.inl ())):=by
   simp only [g65_0,ax,bQ,bu,bt,aa,Int.toNat_natCast,hd,bH,bO]
   rw [if_pos (by omega),RI (by omega) (by omega)]
   unfold Dc;simp only [Bool.or_eq_true,decide_eq_true_eq]
   by_cases h1:x<97
   ·rw [if_pos h1]
    by_cases h2:(pre.length:Int)=0
    ·rw [if_pos h2,if_neg (by omega)]
    ·rw [if_neg h2]
     by_cases h3:x<48
     ·rw [if_pos h3,if_neg (by omega)]
     ·rw [if_neg h3]
      by_cases h4:57<x
      ·rw [if_pos h4,if_neg (by omega)]
      ·rw [if_neg h4, if_pos, iF (by omega) (by omega)]; · rfl
       omega
   ·rw [if_neg h1]
    by_cases h5:122<x
    ·rw [if_pos h5]
     by_cases h2:(pre.length:Int)=0
     ·rw [if_pos h2,if_neg (by omega)]
     ·rw [if_neg h2]
      by_cases h3:x<48
      ·omega
      ·rw [if_neg h3,if_pos (by omega),if_neg (by omega)]
    ·rw [if_neg h5, if_pos, iF (by omega) (by omega)]; · rfl
     omega
  rw [key]
  by_cases hb:Dc pre.length x=true
  ·left
   exact ⟨pre.length+1,by rw [if_pos hb],by simp,by simp [okL,hb]⟩
  ·right
   rw [if_neg hb]
   have:okL pre.length (x::post)=false:=by simp [okL,hb]
   simp [this]
 ·intro i _
  simp only [g65_0,ax,bH]
  rw [if_neg (by omega)]
  simp [okL,aa]
 ·unfold gW
  by_cases h:okL 0 (gr s)=true
  ·rw [if_pos h, h]
   simp only [nU,ax,aa,bH]
   by_cases h0:(0:Int)<((s.size:Nat):Int)
   ·rw [if_pos h0, Bool.true_and]
    congr 2
    exact decide_eq_decide.2 (by omega)
   ·rw [if_neg h0]
    simp;omega
  ·rw [if_neg h]
   simp [h,tn,aa]
def zK (l:List Int):Int:=(l.find? (· != 0)).getD 0
theorem k86 (l:List Int) (hl:l.length<1000000000):ai (F86 l)=some (zK l,()):=by
 unfold F86
 simp only [az,bW]
 refine bind_eq (bg l (fun k (_:Nat)=>((0:Int),l,((l.length:Nat):Int),(k:Int),())) (fun i r=>if (r.find? (· != 0)).isSome then .inl (zK r,()) else .inr (0,())) (fun pre i=>i=pre.length) ?_ ?_ (s:=0) rfl) ?_
 ·intro pre x post i hx hi
  subst hi
  have hlen:l.length=pre.length+(post.length+1):=by rw [hx];simp
  have hd:l.getD pre.length 0=x:=by rw [hx];exact bD rfl
  have hin:fZ (pre.length:Int) (l.length:Int)=true:=cD (by omega) (by omega)
  have hni:gZ .i64 ((pre.length:Int)+1)=true:=bh (by omega) (by omega)
  by_cases h:x=0
  ·left
   refine ⟨pre.length+1,?_,by simp,by simp [h,zK]⟩
   simp only [g86_0,ax,bQ,bu,aa,Int.toNat_natCast,hd,bH,bO,bU,hin,hni,aA]
   rw [if_pos (by omega),if_pos h];rfl
  ·right
   simp only [g86_0,ax,bQ,bu,aa,Int.toNat_natCast,hd,bH,bO,bU,hin,hni,aA]
   rw [if_pos (by omega),if_neg h]
   simp [h,zK]
 ·intro i _
  simp only [g86_0,ax,bH]
  rw [if_neg (by omega)]
  simp [aa]
 ·cases h:(l.find? (· != 0)).isSome with
  |true=>rw [if_pos rfl];simp only [tn,aa]
  |false =>
   rw [if_neg (by simp)]
   have:zK l=0:=by
    unfold zK
    cases h':l.find? (· != 0) with
    |none=>rfl
    |some _=>rw [h'] at h;cases h
   rw [this];simp only [nU,aa]
def sn (m:Mg):Int:=if m.2.1=1 then (if m.2.2.1=bs [] then 0 else 22) else if gW m.2.2.1=true then (if m.2.2.1=m.1 then 22 else 0) else 8
def oz (m:Mg):Int:=if m.2.1=3 then (if m.2.2.2.1=bs []∧m.2.2.2.2=0 then 0 else 22) else if gW m.2.2.2.1=true then (if -1000≤m.2.2.2.2∧m.2.2.2.2≤1000 then 0 else 2) else 8
def tF (m:Mg):Int:=if m.2.1<1∨3<m.2.1 then 18 else if gW m.1=true then zK [sn m,oz m] else 8
def Sh (s:ByteArray):Prop:=s.size<1000000000
def Un (m:Mg):Prop:=Sh m.1∧Sh m.2.2.1∧Sh m.2.2.2.1
theorem k87 (m:Mg) (h:Un m):ai (F87 m)=some (sn m,()):=by
 unfold F87 sn
 simp only [ax,az,aa,bO,k65 _ h.2.1,aD,bU,seq_eq,bH]
 split
 ·split<;>rfl
 ·rw [mU]
  split
  ·split<;>rfl
  ·rfl
theorem k88 (m:Mg) (h:Un m):ai (F88 m)=some (oz m,()):=by
 unfold F88 oz
 simp only [ax,az,aa,bO,k65 _ h.2.2,aD,bU,seq_eq,bH]
 split
 ·by_cases h1 : m.2.2.2.1 = bs []
  ·by_cases h2:m.2.2.2.2=0<;>simp [h1,h2]
  ·simp [h1]
 ·rw [mU]
  split
  ·by_cases h1 : m.2.2.2.2 < -1000
   ·rw [if_pos h1,if_neg (by omega)]
   ·rw [if_neg h1]
    by_cases h2:1000<m.2.2.2.2
    ·rw [if_pos h2,if_neg (by omega)]
    ·rw [if_neg h2,if_pos (by omega)]
  ·rfl
theorem k55 (m:Mg) (h:Un m):ai (F55 m)=some (tF m,()):=by
 have h86:=k86 [sn m,oz m] (by simp)
 unfold F55 tF
 simp only [ax,az,aa,bH,k65 _ h.1,aD,bU,k87 m h,k88 m h]
 have hl:((sn m::oz m::[]).drop 0).take 2=[sn m,oz m]:=rfl
 simp only [hl,h86,aD]
 by_cases h1:m.2.1<1
 ·rw [if_pos h1,if_pos (.inl h1)]
 ·rw [if_neg h1]
  by_cases h2:3<m.2.1
  ·rw [if_pos h2,if_pos (.inr h2)]
  ·rw [if_neg h2, if_neg (by omega), mU]
   split<;>rfl
end Go.Proofs.Tryz
end
section
namespace Go.Proofs.Tryz
open Go.AM
set_option maxRecDepth 100000
def bk (L:List Mg):List (Mg×Bool):=L.map fun m=>(m,true)
def SL (L:List Mg):Prop:=L.Pairwise fun a b=>gy tM a b=true
theorem SL.can {L:List Mg} (h:SL L):gw tM (bk L):=by
 unfold gw bk;rw [List.pairwise_map];exact h
theorem bk_t {L:List Mg}:∀e∈bk L,e.2=true:=fun e he=>by
 obtain ⟨m,_,rfl⟩:=List.mem_map.1 he;rfl
theorem Kn {L:List Mg} {m:Mg} {b:Bool}:(m,b)∈bk L↔m∈L∧b=true:=by
 unfold bk;rw [List.mem_map]
 constructor
 ·rintro ⟨x,hx,h⟩;cases h;exact ⟨hx,rfl⟩
 ·rintro ⟨h,rfl⟩;exact ⟨m,h,rfl⟩
theorem MG {L:List Mg}:(bk L).map (·.1)=L:=by simp [bk,List.map_map,Function.comp_def]
theorem Dd {L:List Mg}:(bk L).length=L.length:=by simp [bk]
theorem aiQ {es:List (Mg×Bool)} (h:∀e∈es,e.2=true):bk (es.map (·.1))=es:=by
 unfold bk;rw [List.map_map]
 conv=>rhs;rw [←List.map_id es]
 refine List.map_congr_left fun e he=>?_
 obtain ⟨a,b⟩:=e
 have:=h _ he
 simp only at this;subst this;rfl
def iL (L:List Mg) (m:Mg):List Mg:=(aS tM (bk L) m true).map (·.1)
theorem yF {L:List Mg} (h:SL L) {m:Mg}:bk (iL L m)=aS tM (bk L) m true:=aiQ (Uk kM h.can bk_t)
theorem lV {L:List Mg} (h:SL L) {m x:Mg}:x∈iL L m↔x=m∨x∈L:=by
 have:x∈iL L m↔(x,true)∈bk (iL L m):=by rw [Kn];simp
 rw [this,yF h,fE kM h.can]
 constructor
 ·rintro (e | ⟨h1, h2⟩)
  ·cases e;exact .inl rfl
  ·exact .inr (Kn.1 h1).1
 ·by_cases e : x = m
  ·subst e;exact fun _=>.inl rfl
  ·rintro (e' | h')
   ·exact absurd e' e
   ·exact .inr ⟨Kn.2 ⟨h',rfl⟩,e⟩
theorem SL.ins {L:List Mg} (h:SL L) {m:Mg}:SL (iL L m):=by
 have:=h.can.gL (x:=m) (v:=true) kM
 rw [←yF h] at this
 unfold gw bk at this;rw [List.pairwise_map] at this;exact this
theorem SL.ext {L L':List Mg} (h:SL L) (h':SL L') (hm:∀x,x∈L↔x∈L'):L=L' :=
 qA (fun a h=>by rw [fK kM] at h;cases h) (fun a b h1 h2=>dY kM h1 h2) h h' hm
theorem GY {L:List Mg} {m:Mg}:(iL L m).length≤L.length+1:=by
 unfold iL aS
 rw [List.length_map]
 split
 ·simp [bk]
 ·rw [jw.length_eq];simp [bk]
theorem MH {L:List Mg} (h:SL L) {m:Mg} (hm:m∈L):iL L m=L:=h.ins.ext h fun x=>by
 rw [lV h]
 constructor
 ·rintro (rfl | h')
  ·exact hm
  ·exact h'
 ·exact .inr
theorem yG (m:List (Mg×Bool)):ai (FH54 m)=some (false,m,()):=rfl
def ew (L:List Mg) (m:Mg):Int×List Mg:=if tF m=0 then (if 60<(iL L m).length then (15,L) else (0,iL L m)) else (tF m,L)
theorem g56 {mm m1:List (Mg×Bool)} {b3:List Mg} {n:Nat} {k:Nat} (hn:n=b3.length) (hb:n<1000000000) (hk:k<n) :
  ai (gH56_0 (n,((n:Nat):Int),(k:Int),mm,b3,m1,()))=some (.inl (n,((n:Nat):Int),((k+1:Nat):Int),aS tM mm (b3.getD k (bs [],(0:Int),bs [],bs [],(0:Int))) true,b3,m1,())):=by
 have hin:fZ (k:Int) (n:Int)=true:=cD (by omega) (by omega)
 have hni:gZ .i64 ((k:Int)+1)=true:=bh (by omega) (by omega)
 simp only [gH56_0,ax,bQ,bt,bu,aa,Int.toNat_natCast,Nat.zero_add,bH,hin,hni,aA]
 rw [if_pos (by omega),cq (by omega)]
 rfl
theorem g56e {mm m1:List (Mg×Bool)} {b3:List Mg} {n:Nat}:ai (gH56_0 (n,((n:Nat):Int),(n:Int),mm,b3,m1,()))=some (.inr (mm,m1,())):=by
 simp only [gH56_0,ax,aa,bH]
 rw [if_neg (by omega)]
theorem kH56 {L:List Mg} (h:SL L) (hl:L.length≤60) (m:Mg):ai (FH56 m.1 m.2.1 m.2.2.1 m.2.2.2.1 m.2.2.2.2 (bk L))=some (if 60<(iL L m).length then (15,bk L,()) else (0,bk (iL L m),())):=by
 have hit:iter (fun x=>ai (gH56_0 x)) ((1:Nat),((1:Nat):Int),(0:Int),bk L,[m],bk L,())=some (bk (iL L m),bk L,()):=by
  rw [yF h]
  exact nQ (g56 (b3:=[m]) (n:=1) (k:=0) rfl (by omega) (by omega)) (jR g56e)
 unfold FH56
 simp only [az,FH89,FH193,aa,aD,bW]
 refine bind_eq hit ?_
 simp only [ax,aa,bH,Dd]
 by_cases hc:60<(iL L m).length
 ·rw [if_pos (by omega),if_pos hc]
 ·rw [if_neg (by omega),if_neg hc]
theorem Ko {L:List Mg} (h:SL L) (hl:L.length≤60) {m:Mg} (hm:Un m):ai (FH20 m (bk L))=some ((ew L m).1,bk (ew L m).2,()):=by
 have h55:=k55 m hm
 unfold FH20
 simp only [az,yG,aD,ax,bV]
 rw [ay (show ai (F55 (m.1,m.2.1,m.2.2.1,m.2.2.2.1,m.2.2.2.2))=_ from h55)]
 simp only [bU,bO]
 unfold ew
 by_cases hc:tF m=0
 ·rw [if_pos hc, if_pos hc]
  rw [ay (kH56 h hl m)]
  split<;>rfl
 ·rw [if_neg hc,if_neg hc];rfl
structure kB (L:List Mg):Prop where
 s:SL L
 len:L.length≤60
 tF:∀m∈L,tF m=0
theorem kB.nil:kB []:=⟨.nil,by simp,fun m h=>by cases h⟩
theorem kB.tell {L:List Mg} (h:kB L) (m:Mg):kB (ew L m).2:=by
 unfold ew
 split
 ·rename_i hc
  split
  ·exact h
  ·rename_i h60
   refine ⟨h.s.ins,by simp only;omega,fun x hx=>?_⟩
   rcases (lV h.s).1 hx with rfl|hx
   ·exact hc
   ·exact h.tF x hx
 ·exact h
def jk (l:List Mg):List Mg:=l.foldl (fun L m=>(ew L m).2) []
theorem kB.fold {L : List Mg} (h : kB L) : ∀ l : List Mg, kB (l.foldl (fun L m => (ew L m).2) L)
 |[]=>h
 |m::l=>kB.fold (h.tell m) l
theorem kB.told (l:List Mg):kB (jk l):=kB.nil.fold l
theorem aeO {l:List Mg} (hl:l.length<1000000000) (hs:∀m∈l,Un m):ai (FH29 l)=some (bk (jk l),()):=by
 unfold FH29
 simp only [az,FH18,aa,aD,bW]
 refine bind_eq (bg l (fun k (L:List Mg)=>(l,(k:Int),bk L,())) (fun L r=>(bk (r.foldl (fun L m=>(ew L m).2) L),())) (fun _ L=>kB L) ?_ ?_ (s:=[]) kB.nil) rfl
 ·intro pre x post L hx hL
  have hlen:l.length=pre.length+(post.length+1):=by rw [hx];simp
  have hd:l.getD pre.length (bs [],(0:Int),bs [],bs [],(0:Int))=x:=by rw [hx];exact bD rfl
  have hin:fZ (pre.length:Int) (l.length:Int)=true:=cD (by omega) (by omega)
  have hni:gZ .i64 ((pre.length:Int)+1)=true:=bh (by omega) (by omega)
  left
  refine ⟨(ew L x).2,?_,hL.tell x,rfl⟩
  simp only [gH29_0,ax,bQ,bu,aa,az,Int.toNat_natCast,bH,hin,hni,aA]
  rw [if_pos (by omega)]
  have hk:=Ko hL.s hL.len (hs x (by rw [hx];simp))
  rw [hd]
  rw [ay (show ai (FH20 (x.1,x.2.1,x.2.2.1,x.2.2.2.1,x.2.2.2.2) (bk L))=_ from hk)]
  rfl
 ·intro L _
  simp only [gH29_0,ax,aa,bH]
  rw [if_neg (by omega)]
  rfl
theorem GZ {E A : Type} {step : E → A → Option A} (f : A → E → A) (I : A → Prop) : ∀ (l : List E) (x : A), I x → (∀ e ∈ l, ∀ x, I x → step e x = some (f x e) ∧ I (f x e)) → Ao step l x = some (l.foldl f x) ∧ I (l.foldl f x)
 |[],x,hx,_=>⟨rfl,hx⟩
 |e::l,x,hx,h=>by
  obtain ⟨h1,h2⟩:=h e (List.mem_cons_self ..) x hx
  obtain ⟨h3,h4⟩:=GZ f I l (f x e) h2 fun e he=>h e (List.mem_cons_of_mem _ he)
  exact ⟨by simp only [Ao,h1];exact h3,h4⟩
theorem sq {K V M : Type} {step : K × V → M × Nat × List K × Unit → Option (M × Nat × List K × Unit)} {m : M} {l : List (K × V)} (hl : l.length < 1000000000)
  (h:∀e n b,n<1000000000→step e (m,n,b,())=some (m,n+1,(b.drop 0).take n++[e.1],())):Ao step l (m,0,[],())=some (m,l.length,l.map (·.1),()):=by
 have key:∀(l:List (K×V)) (b:List K),b.length+l.length<1000000000→Ao step l (m,b.length,b,())=some (m,b.length+l.length,b++l.map (·.1),()):=by
  intro l
  induction l with
  |nil=>intro b _;simp [Ao]
  |cons e l ih =>
   intro b hb
   simp only [List.length_cons] at hb
   simp only [Ao,h e b.length b (by omega)]
   have:=ih (b++[e.1]) (by simp;omega)
   simp only [List.drop_zero,List.take_length]
   rw [List.length_append,List.length_singleton] at this
   rw [this]
   simp only [List.length_cons,List.map_cons,List.append_assoc,List.singleton_append]
   congr 3
   omega
 have:=key l [] (by simpa using hl)
 simpa using this
theorem oB {t:Ty} {ks:List Kd} (hk:bx t=some ks) {l s:List t.den} (hp:s.Perm l) (hs:Dr t s) (hl:l.length<1000000000):uK t l l.length=some (s,()):=by
 unfold uK
 rw [if_pos ⟨Nat.le_refl _,by rw [mL];omega⟩,List.take_length,List.drop_length,List.append_nil,rK hk hp hs]
theorem SL.srt {L:List Mg} (h:SL L):Dr tM L:=by
 have:=h.can.keys kM
 rwa [MG] at this
theorem kH83 {L:List Mg} (h:SL L) (hl:L.length<1000000000):ai (FH83 (bk L))=some (L.length,L,bk L,()):=by
 unfold FH83
 refine Eq.trans B5 (gj fun l hp=>?_)
 have yS:l.length=L.length:=by rw [hp.length_eq,Dd]
 simp only [az,B6]
 refine bind_eq (sq (m:=bk L) (l:=l) (by rw [yS];exact hl) fun e n b hn=>?_) ?_
 ·simp only [gH83f109f128_0i_0, bt, aa, dn, aA]
  rw [cq (show _<cM by rw [mL];simp;omega)]
  rfl
 ·simp only [FH110, xy]
  have hpk:L.Perm (l.map (·.1)):=by
   have:=(hp.map (·.1)).symm
   rwa [MG] at this
  have:=oB kM hpk h.srt (by rw [List.length_map];omega)
  rw [List.length_map] at this
  rw [ay this,yS]
  rfl
theorem Kq {L:List Mg} (h:SL L) (hl:L.length<1000000000):ai (FH47 (bk L))=some (L.length,L,bk L,()):=by
 unfold FH47
 simp only [az,yG,aD,ax,bV,FH84,aa]
 rw [ay (kH83 h hl)]
end Go.Proofs.Tryz
end
section
namespace Go.Proofs.Tryz
open Go.AM
set_option maxRecDepth 100000
abbrev AX:=List (ByteArray×Mg)
abbrev HF:=List (ByteArray×List ByteArray)
abbrev fe:=List (ByteArray×Bool)
theorem kH98 {l:List ByteArray} (hl:l.length<1000000000):ai (FH98 l)=some (l.length,l,()):=by
 simp only [FH98,ax,acZ,bt,aa,bO]
 rw [EN (by omega)]
 split
 ·have : l = [] := List.length_eq_zero_iff.1 (by omega)
  subst this
  simp only [List.length_nil,List.drop_nil,List.take_nil,List.append_nil,Nat.add_zero]
  exact Aq
 ·simp
def ef (del : ByteArray → Bool) : Nat → List ByteArray → Option Nat
 |_,[]=>none
 |k,x::r=>if del x=true then some k else ef del (k+1) r
theorem k5 (del : ByteArray → Bool) : ∀ (l : List ByteArray) (k : Nat), (∃ p x q, l = p ++ x :: q ∧ (∀ c ∈ p, del c = false) ∧ del x = true ∧ ef del k l = some (k + p.length)) ∨ ((∀ c ∈ l, del c = false) ∧ ef del k l = none)
 |[],k=>.inr ⟨by simp,rfl⟩
 |y::l,k=>by
  by_cases h:del y=true
  ·left
   exact ⟨[],y,l,rfl,by simp,h,by simp [ef,h]⟩
  ·rcases k5 del l (k + 1) with ⟨p, x, q, h1, h2, h3, h4⟩ | ⟨h1, h2⟩
   ·left
    refine ⟨y::p,x,q,by rw [h1];rfl,fun c hc=>?_,h3,?_⟩
    ·rcases List.mem_cons.1 hc with rfl | hc
     ·simpa using h
     ·exact h2 c hc
    ·unfold ef;rw [if_neg h,h4,List.length_cons,show k+1+p.length=k+(p.length+1) by omega]
   ·right
    refine ⟨fun c hc=>?_,by unfold ef;rw [if_neg h,h2]⟩
    rcases List.mem_cons.1 hc with rfl|hc
    ·simpa using h
    ·exact h1 c hc
theorem sr {del:ByteArray→Bool} {l:List ByteArray} (h:∀c∈l,del c=false):l.filter (fun c => !del c)=l:=List.filter_eq_self.2 fun c hc=>by rw [h c hc];rfl
section
variable {m3:AX} {m4:HF} {m5 m6:fe}
theorem kH99 (v:ByteArray):ai (FH99 v m3 m4 m5 m6)=some (!(ak .str false m5 v),m3,m4,m5,m6,()):=rfl
theorem aiT {l:List ByteArray} (hl:l.length<1000000000):ai (FH119 l.length l m3 m4 m5 m6)=some ((match ef (fun v => !(ak .str false m5 v)) 0 l with|some k=>((k:Nat):Int)|none => -1),m3,m4,m5,m6,l,()):=by
 have hi := bg (f := fun a => run (fun _ => none) (gH119_0 a)) l (fun k (_ : Nat) => (l.length, ((l.length : Nat) : Int), (k : Int), l, m3, m4, m5, m6, ())) (fun k r => match ef (fun v => !(ak .str false m5 v)) k r with | some k => .inl (((k : Nat) : Int), m3, m4, m5, m6, l, ()) | none => .inr (m3, m4, m5, m6, l, ())) (fun pre k => k = pre.length) (by
  rintro pre x post k hx rfl
  have hlen:l.length=pre.length+(post.length+1):=by rw [hx];simp
  have hd:l.getD pre.length (bs [])=x:=by rw [hx];exact bD rfl
  have i1:fZ (pre.length:Int) ((l.length:Nat):Int)=true:=cD (by omega) (by omega)
  have r1:gZ .i64 ((pre.length:Int)+1)=true:=bh (by omega) (by omega)
  have d1:decide (pre.length<l.length)=true:=decide_eq_true (by omega)
  simp only [gH119_0,ax,az,bQ,bt,bu,aa,Int.toNat_natCast,Nat.zero_add,hd,kH99,aD,i1,r1,d1,aA,bH]
  rw [if_pos (by omega)]
  by_cases h:(!(ak .str false m5 x))=true
  ·right;rw [h,aP];simp only [ef,h,if_true]
  ·left
   refine ⟨pre.length+1,?_⟩
   rw [Iu (by simpa using h)]
   refine ⟨rfl,by simp,?_⟩
   simp only [ef,h,if_false];rfl) (by
  rintro k _
  simp only [gH119_0,ax,bH,aa]
  rw [if_neg (by omega)];rfl) (s:=0) rfl
 simp only [FH119,az,bW]
 refine bind_eq hi ?_
 split<;>rfl
theorem kH97 {l:List ByteArray} (hl:l.length<1000000000):∃b,b.length=l.length∧b.take (l.filter fun v => !(!(ak .str false m5 v))).length=l.filter (fun v => !(!(ak .str false m5 v)))∧ai (FH97 l.length l m3 m4 m5 m6)=some (0,(l.filter fun v => !(!(ak .str false m5 v))).length,b,m3,m4,m5,m6,()):=by
 have aeP:=aiT (m3:=m3) (m4:=m4) (m5:=m5) (m6:=m6) hl
 simp only [FH97,az,bW,ax,aa,bu,bt,bO]
 rw [ay aeP]
 rcases k5 (fun v => !(ak .str false m5 v)) l 0 with ⟨p,x,q,h1,h2,h3,h4⟩|⟨h1,h2⟩
 case inr =>
  rw [h2]
  simp only [if_true]
  rw [sr h1]
  exact ⟨l,rfl,List.take_length ..,rfl⟩
 rw [h4]
 simp only [Nat.zero_add]
 have hlen:l.length=p.length+(q.length+1):=by rw [h1];simp
 rw [if_neg (by omega),iF (by omega) (by omega)]
 have hk:l.filter (fun v => !(!(ak .str false m5 v)))=p++q.filter fun v => !(!(ak .str false m5 v)):=by
  have e1:=sr h2
  have e2:(x::q).filter (fun v => !(!(ak .str false m5 v)))=q.filter fun v => !(!(ak .str false m5 v)):=by rw [List.filter_cons_of_neg];simpa using h3
  rw [h1,List.filter_append,e2]
  rw [show p.filter (fun v => !(!(ak .str false m5 v)))=p from e1]
 obtain ⟨res, hres, m, b, rfl, hb, hm, ht⟩ := Lw (step := fun a => run (fun _ => none) (gH97_0 a)) q.length
  (fun k x=>∃(i:Nat) (b:List ByteArray),x=(l.length,(i:Int),((p.length+1+k:Nat):Int),b,m3,m4,m5,m6,())∧b.length=l.length∧i≤p.length+k∧b.take i=p++(q.take k).filter (fun v => !(!(ak .str false m5 v)))∧b.drop (p.length+1+k)=q.drop k)
  (fun r => ∃ (m : Nat) (b : List ByteArray), r = (l.length, (m : Int), b, m3, m4, m5, m6, ()) ∧ b.length = l.length ∧ m ≤ l.length ∧ b.take m = p ++ q.filter fun v => !(!(ak .str false m5 v))) (by
   rintro k _ hk ⟨i,b,rfl,hb,hi,ht,hd⟩
   have hx:b.getD (p.length+1+k) (bs [])=q.getD k (bs []):=by
    have:=congrArg (fun l=>l.getD 0 (bs [])) hd
    simpa [List.getD_eq_getElem?_getD] using this
   have hqk:q.take (k+1)=q.take k++[q.getD k (bs [])]:=by
    rw [List.take_succ_eq_append_getElem hk];simp [List.getD_eq_getElem?_getD,List.getElem?_eq_getElem hk]
   generalize q.getD k (bs [])=y at hx hqk
   have i1:fZ ((p.length+1+k:Nat):Int) ((l.length:Nat):Int)=true:=cD (by omega) (by omega)
   have i2:fZ (i:Int) ((l.length:Nat):Int)=true:=cD (by omega) (by omega)
   have d1:decide (p.length+1+k<b.length)=true:=decide_eq_true (by omega)
   have d2:decide (i<b.length)=true:=decide_eq_true (by omega)
   have r1:gZ .i64 ((i:Int)+1)=true:=bh (by omega) (by omega)
   have r2:gZ .i64 (((p.length+1+k:Nat):Int)+1)=true:=bh (by omega) (by omega)
   simp only [gH97_0,ax,az,bQ,bt,bu,aa,Int.toNat_natCast,Nat.zero_add,hx,kH99,aD,i1,i2,d1,d2,r1,r2,aA,bH]
   rw [if_pos (by omega)]
   by_cases hy:(!(ak .str false m5 y))=true
   ·refine ⟨_, by rw [Iu (by rw [hy]; rfl)], i, b, by rw [show ((p.length + 1 + (k + 1) : Nat) : Int) = ((p.length + 1 + k : Nat) : Int) + 1 by omega], hb, by omega, ?_, ?_⟩
    ·rw [ht,hqk,List.filter_append,List.filter_cons_of_neg (by rw [hy];simp)];simp
    ·have := congrArg (List.drop 1) hd
     simpa [List.drop_drop,Nat.add_assoc] using this
   ·refine ⟨_, by rw [RJ (by rw [Bool.eq_false_iff.2 hy]; rfl)], i + 1, b.set i y, by rw [show ((p.length + 1 + (k + 1) : Nat) : Int) = ((p.length + 1 + k : Nat) : Int) + 1 by omega, show ((i + 1 : Nat) : Int) = (i : Int) + 1 by omega], by simp [hb], by omega, ?_, ?_⟩
    ·have e:(b.set i y).take (i+1)=b.take i++[y]:=by
      rw [List.take_succ_eq_append_getElem (by simp;omega)]
      simp [List.take_set_of_le]
     rw [e,ht,hqk,List.filter_append,List.filter_cons_of_pos (by simpa using hy)];simp
    ·have := congrArg (List.drop 1) hd
     rw [List.drop_set_of_lt (by omega)]
     simpa [List.drop_drop,Nat.add_assoc] using this) (by
   rintro _ ⟨i,b,rfl,hb,hi,ht,hd⟩
   simp only [gH97_0,ax,aa,bH]
   rw [if_neg (by omega)]
   exact ⟨_,rfl,i,b,rfl,hb,by omega,by rw [ht,List.take_length]⟩) (x:=(l.length,(p.length:Int),(p.length:Int)+1,l,m3,m4,m5,m6,())) ⟨p.length,l,by simp,rfl,by omega,by rw [h1];simp,by rw [h1];simp⟩
 rw [ay hres]
 have hml:m=(l.filter fun v => !(!(ak .str false m5 v))).length:=by rw [hk,←ht,List.length_take];omega
 simp only [Int.toNat_natCast,Nat.zero_add,A5,Int.toNat_zero,Nat.sub_zero]
 rw [cq (by omega),cq (by omega),cq (by omega),cq (by omega),cq (by omega),cq (by omega)]
 refine ⟨b.take m++List.replicate (l.length - m) (bs [])++b.drop (m+(l.length - m)),?_,?_,by rw [←hml]⟩
 ·simp only [List.length_append,List.length_take,List.length_replicate,List.length_drop];omega
 ·rw [←hml,List.take_append_of_le_length (by simp;omega),List.take_append_of_le_length (by simp;omega),List.take_take,Nat.min_self,ht,hk]
theorem abD (v:ByteArray):ai (FH123 v m3 m4 m5 m6)=some (ak .str false m6 v,m3,m4,m5,m6,()):=rfl
theorem Uo {l:List ByteArray} (hl:l.length<1000000000):ai (FH119_v1 l.length l m3 m4 m5 m6)=some ((match ef (fun v=>ak .str false m6 v) 0 l with|some k=>((k:Nat):Int)|none => -1),m3,m4,m5,m6,l,()):=by
 have hi := bg (f := fun a => run (fun _ => none) (gH119_v1_0 a)) l (fun k (_ : Nat) => (l.length, ((l.length : Nat) : Int), (k : Int), l, m3, m4, m5, m6, ())) (fun k r => match ef (fun v => ak .str false m6 v) k r with | some k => .inl (((k : Nat) : Int), m3, m4, m5, m6, l, ()) | none => .inr (m3, m4, m5, m6, l, ())) (fun pre k => k = pre.length) (by
  rintro pre x post k hx rfl
  have hlen:l.length=pre.length+(post.length+1):=by rw [hx];simp
  have hd:l.getD pre.length (bs [])=x:=by rw [hx];exact bD rfl
  have i1:fZ (pre.length:Int) ((l.length:Nat):Int)=true:=cD (by omega) (by omega)
  have r1:gZ .i64 ((pre.length:Int)+1)=true:=bh (by omega) (by omega)
  have d1:decide (pre.length<l.length)=true:=decide_eq_true (by omega)
  simp only [gH119_v1_0,ax,az,bQ,bt,bu,aa,Int.toNat_natCast,Nat.zero_add,hd,abD,aD,i1,r1,d1,aA,bH]
  rw [if_pos (by omega)]
  by_cases h:(ak .str false m6 x)=true
  ·right;rw [h,aP];simp only [ef,h,if_true]
  ·left
   refine ⟨pre.length+1,?_⟩
   rw [Iu (by simpa using h)]
   refine ⟨rfl,by simp,?_⟩
   simp only [ef,h,if_false];rfl) (by
  rintro k _
  simp only [gH119_v1_0,ax,bH,aa]
  rw [if_neg (by omega)];rfl) (s:=0) rfl
 simp only [FH119_v1,az,bW]
 refine bind_eq hi ?_
 split<;>rfl
theorem Zj {l:List ByteArray} (hl:l.length<1000000000):∃b,b.length=l.length∧b.take (l.filter fun v => !(ak .str false m6 v)).length=l.filter (fun v => !(ak .str false m6 v))∧ai (FH97_v1 l.length l m3 m4 m5 m6)=some (0,(l.filter fun v => !(ak .str false m6 v)).length,b,m3,m4,m5,m6,()):=by
 have aeP:=Uo (m3:=m3) (m4:=m4) (m5:=m5) (m6:=m6) hl
 simp only [FH97_v1,az,bW,ax,aa,bu,bt,bO]
 rw [ay aeP]
 rcases k5 (fun v=>ak .str false m6 v) l 0 with ⟨p,x,q,h1,h2,h3,h4⟩|⟨h1,h2⟩
 case inr =>
  rw [h2]
  simp only [if_true]
  rw [sr h1]
  exact ⟨l,rfl,List.take_length ..,rfl⟩
 rw [h4]
 simp only [Nat.zero_add]
 have hlen:l.length=p.length+(q.length+1):=by rw [h1];simp
 rw [if_neg (by omega),iF (by omega) (by omega)]
 have hk:l.filter (fun v => !(ak .str false m6 v))=p++q.filter fun v => !(ak .str false m6 v):=by
  have e1:=sr h2
  have e2:(x::q).filter (fun v => !(ak .str false m6 v))=q.filter fun v => !(ak .str false m6 v):=by rw [List.filter_cons_of_neg];simpa using h3
  rw [h1,List.filter_append,e2]
  rw [show p.filter (fun v => !(ak .str false m6 v))=p from e1]
 obtain ⟨res, hres, m, b, rfl, hb, hm, ht⟩ := Lw (step := fun a => run (fun _ => none) (gH97_v1_0 a)) q.length
  (fun k x=>∃(i:Nat) (b:List ByteArray),x=(l.length,(i:Int),((p.length+1+k:Nat):Int),b,m3,m4,m5,m6,())∧b.length=l.length∧i≤p.length+k∧b.take i=p++(q.take k).filter (fun v => !(ak .str false m6 v))∧b.drop (p.length+1+k)=q.drop k)
  (fun r => ∃ (m : Nat) (b : List ByteArray), r = (l.length, (m : Int), b, m3, m4, m5, m6, ()) ∧ b.length = l.length ∧ m ≤ l.length ∧ b.take m = p ++ q.filter fun v => !(ak .str false m6 v)) (by
   rintro k _ hk ⟨i,b,rfl,hb,hi,ht,hd⟩
   have hx:b.getD (p.length+1+k) (bs [])=q.getD k (bs []):=by
    have:=congrArg (fun l=>l.getD 0 (bs [])) hd
    simpa [List.getD_eq_getElem?_getD] using this
   have hqk:q.take (k+1)=q.take k++[q.getD k (bs [])]:=by
    rw [List.take_succ_eq_append_getElem hk];simp [List.getD_eq_getElem?_getD,List.getElem?_eq_getElem hk]
   generalize q.getD k (bs [])=y at hx hqk
   have i1:fZ ((p.length+1+k:Nat):Int) ((l.length:Nat):Int)=true:=cD (by omega) (by omega)
   have i2:fZ (i:Int) ((l.length:Nat):Int)=true:=cD (by omega) (by omega)
   have d1:decide (p.length+1+k<b.length)=true:=decide_eq_true (by omega)
   have d2:decide (i<b.length)=true:=decide_eq_true (by omega)
   have r1:gZ .i64 ((i:Int)+1)=true:=bh (by omega) (by omega)
   have r2:gZ .i64 (((p.length+1+k:Nat):Int)+1)=true:=bh (by omega) (by omega)
   simp only [gH97_v1_0,ax,az,bQ,bt,bu,aa,Int.toNat_natCast,Nat.zero_add,hx,abD,aD,i1,i2,d1,d2,r1,r2,aA,bH]
   rw [if_pos (by omega)]
   by_cases hy:(ak .str false m6 y)=true
   ·refine ⟨_, by rw [Iu (by rw [hy]; rfl)], i, b, by rw [show ((p.length + 1 + (k + 1) : Nat) : Int) = ((p.length + 1 + k : Nat) : Int) + 1 by omega], hb, by omega, ?_, ?_⟩
    ·rw [ht,hqk,List.filter_append,List.filter_cons_of_neg (by rw [hy];simp)];simp
    ·have := congrArg (List.drop 1) hd
     simpa [List.drop_drop,Nat.add_assoc] using this
   ·refine ⟨_, by rw [RJ (by rw [Bool.eq_false_iff.2 hy]; rfl)], i + 1, b.set i y, by rw [show ((p.length + 1 + (k + 1) : Nat) : Int) = ((p.length + 1 + k : Nat) : Int) + 1 by omega, show ((i + 1 : Nat) : Int) = (i : Int) + 1 by omega], by simp [hb], by omega, ?_, ?_⟩
    ·have e:(b.set i y).take (i+1)=b.take i++[y]:=by
      rw [List.take_succ_eq_append_getElem (by simp;omega)]
      simp [List.take_set_of_le]
     rw [e,ht,hqk,List.filter_append,List.filter_cons_of_pos (by simpa using hy)];simp
    ·have := congrArg (List.drop 1) hd
     rw [List.drop_set_of_lt (by omega)]
     simpa [List.drop_drop,Nat.add_assoc] using this) (by
   rintro _ ⟨i,b,rfl,hb,hi,ht,hd⟩
   simp only [gH97_v1_0,ax,aa,bH]
   rw [if_neg (by omega)]
   exact ⟨_,rfl,i,b,rfl,hb,by omega,by rw [ht,List.take_length]⟩) (x:=(l.length,(p.length:Int),(p.length:Int)+1,l,m3,m4,m5,m6,())) ⟨p.length,l,by simp,rfl,by omega,by rw [h1];simp,by rw [h1];simp⟩
 rw [ay hres]
 have hml:m=(l.filter fun v => !(ak .str false m6 v)).length:=by rw [hk,←ht,List.length_take];omega
 simp only [Int.toNat_natCast,Nat.zero_add,A5,Int.toNat_zero,Nat.sub_zero]
 rw [cq (by omega),cq (by omega),cq (by omega),cq (by omega),cq (by omega),cq (by omega)]
 refine ⟨b.take m++List.replicate (l.length - m) (bs [])++b.drop (m+(l.length - m)),?_,?_,by rw [←hml]⟩
 ·simp only [List.length_append,List.length_take,List.length_replicate,List.length_drop];omega
 ·rw [←hml,List.take_append_of_le_length (by simp;omega),List.take_append_of_le_length (by simp;omega),List.take_take,Nat.min_self,ht,hk]
end
end Go.Proofs.Tryz
end
section
namespace Go.Proofs.Tryz
open Go.AM
set_option maxRecDepth 100000
abbrev zM:Mg:=(bs [],(0:Int),bs [],bs [],(0:Int))
def iV (es:AX) (m:Mg):AX:=if aL .str es m.1=true then es else aS .str es m.1 m
def pS (L:List Mg):AX:=L.foldl iV []
def cnt (L:List Mg):List Mg:=(pS L).map (·.2)
theorem yH {es:AX} (h:gw .str es) (m:Mg):gw .str (iV es m):=by
 unfold iV;split
 ·exact h
 ·exact h.gL kS
theorem yI : ∀ {L : List Mg} {es : AX}, gw .str es → gw .str (L.foldl iV es)
 |[],_,h=>h
 |m::L,es,h=>yI (L:=L) (es:=iV es m) (yH h m)
theorem PG (L:List Mg):gw .str (pS L):=yI .nil
theorem yJ : ∀ {L : List Mg} {es : AX} {e : ByteArray × Mg}, gw .str es → (e ∈ L.foldl iV es ↔ e ∈ es ∨ (aL .str es e.1 = false ∧ ∃ pre post, L = pre ++ e.2 :: post ∧ e.2.1 = e.1 ∧ ∀ x ∈ pre, x.1 ≠ e.1))
 |[],es,e,_=>by simp
 |m::L,es,e,h=>by
  rw [List.foldl_cons,yJ (yH h m)]
  have hs:iV es m=es∧aL .str es m.1=true∨iV es m=aS .str es m.1 m∧aL .str es m.1=false:=by
   unfold iV
   cases hm:aL .str es m.1
   ·right;simp
   ·left;simp
  rcases hs with ⟨hs,hm⟩|⟨hs,hm⟩
  ·rw [hs]
   refine or_congr_right ?_
   constructor
   ·rintro ⟨h1, pre, post, rfl, h2, h3⟩
    refine ⟨h1,m::pre,post,rfl,h2,fun x hx=>?_⟩
    rcases List.mem_cons.1 hx with rfl|hx
    ·intro e';rw [e'] at hm;rw [hm] at h1;cases h1
    ·exact h3 x hx
   ·rintro ⟨h1, pre, post, h2, h3, h4⟩
    cases pre with
    |nil =>
     simp only [List.nil_append,List.cons.injEq] at h2
     rw [h2.1] at hm;rw [h3] at hm;rw [hm] at h1;cases h1
    |cons p pre =>
     simp only [List.cons_append,List.cons.injEq] at h2
     exact ⟨h1,pre,post,h2.2,h3,fun x hx=>h4 x (List.mem_cons_of_mem _ hx)⟩
  ·rw [hs, fE kS h, oV kS h]
   have hk:∀{v:Mg},(m.1,v)∉es:=fun {v} hv=>by rw [(dc kS).2 ⟨v,hv⟩] at hm;cases hm
   constructor
   ·rintro ((h1 | ⟨h1, _⟩) | ⟨h1, pre, post, rfl, h2, h3⟩)
    ·subst h1
     exact .inr ⟨hm,[],L,rfl,rfl,by simp⟩
    ·exact .inl h1
    ·simp only [Bool.or_eq_false_iff] at h1
     have hne:e.1≠m.1:=fun e'=>by have:=h1.1;rw [e',js kS] at this;cases this
     refine .inr ⟨h1.2,m::pre,post,rfl,h2,fun x hx=>?_⟩
     rcases List.mem_cons.1 hx with rfl|hx
     ·exact Ne.symm hne
     ·exact h3 x hx
   ·rintro (h1 | ⟨h1, pre, post, h2, h3, h4⟩)
    ·refine .inl (.inr ⟨h1, fun e' => ?_⟩)
     obtain ⟨a,b⟩:=e
     simp only at e';subst e';exact hk h1
    ·cases pre with
     |nil =>
      simp only [List.nil_append,List.cons.injEq] at h2
      obtain ⟨a,b⟩:=e
      simp only at h2 h3
      exact .inl (.inl (by rw [←h3,h2.1]))
     |cons p pre =>
      simp only [List.cons_append,List.cons.injEq] at h2
      have hne:e.1≠m.1:=fun e'=>by
       have:=h4 p (List.mem_cons_self ..)
       rw [←h2.1,e'] at this;exact this rfl
      refine .inr ⟨?_,pre,post,h2.2,h3,fun x hx=>h4 x (List.mem_cons_of_mem _ hx)⟩
      rw [Bool.or_eq_false_iff]
      refine ⟨?_,h1⟩
      cases hd:dx .str e.1 m.1 with
      |false=>rfl
      |true=>exact absurd (bC hd) hne
theorem tH {L:List Mg} {e:ByteArray×Mg}:e∈pS L↔∃pre post,L=pre++e.2::post∧e.2.1=e.1∧∀x∈pre,x.1≠e.1:=by
 unfold pS
 rw [yJ .nil]
 simp [aL]
theorem He {L:List Mg} {e:ByteArray×Mg} (h:e∈pS L):e.2.1=e.1:=by
 obtain ⟨_,_,_,h,_⟩:=tH.1 h;exact h
theorem Hf (L:List Mg):pS L=(cnt L).map fun m=>(m.1,m):=by
 unfold cnt
 rw [List.map_map]
 conv=>lhs;rw [←List.map_id (pS L)]
 refine List.map_congr_left fun e he=>?_
 have:=He he
 obtain ⟨a,b⟩:=e
 simp only at this;subst this;rfl
theorem MJ {L:List Mg} {m:Mg}:m∈cnt L↔(m.1,m)∈pS L:=by
 unfold cnt
 rw [List.mem_map]
 constructor
 ·rintro ⟨e, he, rfl⟩
  have:=He he
  obtain ⟨a,b⟩:=e
  simp only at this;subst this;exact he
 ·intro h;exact ⟨_,h,rfl⟩
def SI (c:List Mg):Prop:=c.Pairwise fun a b=>slt a.1 b.1=true
theorem gX (L:List Mg):SI (cnt L):=by
 have h:=PG L
 rw [Hf] at h
 unfold gw at h;rw [List.pairwise_map] at h;exact h
theorem SI.cam {c:List Mg} (h:SI c):gw .str (c.map fun m=>(m.1,m)):=by
 unfold gw;rw [List.pairwise_map];exact h
theorem SI.inj {c:List Mg} (h:SI c) {m m':Mg} (hm:m∈c) (hm':m'∈c) (e:m.1=m'.1):m=m':=by
 have h1:=fD (d:=zM) kS h.cam (List.mem_map.2 ⟨m,hm,rfl⟩)
 have h2:=fD (d:=zM) kS h.cam (List.mem_map.2 ⟨m',hm',rfl⟩)
 rw [←h1,←h2,e]
theorem vC {L:List Mg} {m:Mg} (h:m∈cnt L):m∈L:=by
 obtain ⟨pre,post,h,_⟩:=tH.1 (MJ.1 h)
 rw [h];simp
theorem Zk {L:List Mg} (hL:SL L) {m:Mg}:m∈cnt L↔m∈L∧∀x∈L,x.1=m.1→x=m∨gy tM m x=true:=by
 rw [MJ,tH]
 constructor
 ·rintro ⟨pre, post, h, _, h2⟩
  simp only at h h2
  subst h
  refine ⟨by simp,fun x hx e=>?_⟩
  rcases List.mem_append.1 hx with hx|hx
  ·exact absurd e (h2 x hx)
  ·rcases List.mem_cons.1 hx with rfl | hx
   ·exact .inl rfl
   ·unfold SL at hL
    rw [List.pairwise_append,List.pairwise_cons] at hL
    exact .inr (hL.2.1.1 x hx)
 ·rintro ⟨h1, h2⟩
  obtain ⟨pre,post,h⟩:=List.append_of_mem h1
  refine ⟨pre,post,h,rfl,fun x hx e=>?_⟩
  subst h
  unfold SL at hL
  rw [List.pairwise_append] at hL
  have h3:=hL.2.2 x hx m (List.mem_cons_self ..)
  rcases h2 x (by simp [hx]) e with rfl|h4
  ·rw [fK kM] at h3;cases h3
  ·exact dY kM h3 h4
theorem aiU {L:List Mg} {m1:List (Mg×Bool)} (hl:L.length<1000000000):iter (fun x=>ai (gH66_0 x)) (L.length,((L.length:Nat):Int),(0:Int),L,m1,[],[],[],[],())=some (m1,pS L,[],[],[],()):=by
 refine bg L (fun k (es:AX)=>(L.length,((L.length:Nat):Int),(k:Int),L,m1,es,[],[],[],())) (fun es r=>(m1,r.foldl iV es,[],[],[],())) (fun _ _=>True) ?_ ?_ (s:=[]) trivial
 ·intro pre x post es hx _
  have hlen:L.length=pre.length+(post.length+1):=by rw [hx];simp
  have hd:L.getD pre.length zM=x:=by rw [hx];exact bD rfl
  have i1:fZ (pre.length:Int) ((L.length:Nat):Int)=true:=cD (by omega) (by omega)
  have r1:gZ .i64 ((pre.length:Int)+1)=true:=bh (by omega) (by omega)
  have d1:decide (pre.length<L.length)=true:=decide_eq_true (by omega)
  left
  refine ⟨iV es x,?_,trivial,rfl⟩
  simp only [gH66_0,ax,bQ,bt,bu,aa,Int.toNat_natCast,Nat.zero_add,hd,i1,r1,d1,aA,bH]
  rw [if_pos (by omega)]
  unfold iV
  cases hm:aL .str es x.1
  ·rw [RJ (by rfl)];rfl
  ·rw [Iu (by rfl)];rfl
 ·intro es _
  simp only [gH66_0,ax,aa,bH]
  rw [if_neg (by omega)]
  rfl
theorem Zl {c:List Mg} (h:SI c) (hl:c.length<1000000000):ai (FH81 (c.map fun m=>(m.1,m)))=some (c.length,c.map (·.1),c.map (fun m=>(m.1,m)),()):=by
 unfold FH81
 refine Eq.trans B5 (gj fun l hp=>?_)
 have yS:l.length=c.length:=by rw [hp.length_eq,List.length_map]
 simp only [az,B6]
 refine bind_eq (sq (m:=c.map fun m=>(m.1,m)) (l:=l) (by rw [yS];exact hl) fun e n b hn=>?_) ?_
 ·simp only [gH81f107f126_0i_0, bt, aa, dn, aA]
  rw [cq (show _<cM by rw [mL];simp;omega)]
  rfl
 ·simp only [FH105, xy]
  have hpk:(c.map (·.1)).Perm (l.map (·.1)):=by
   have:=(hp.map (·.1)).symm
   rwa [List.map_map] at this
  have hs:Dr .str (c.map (·.1)):=by
   have:=h.cam.keys kS
   rwa [List.map_map] at this
  have:=oB kS hpk hs (by rw [List.length_map];omega)
  rw [List.length_map] at this
  rw [ay this,yS]
  rfl
def kids (c:List Mg) (x:ByteArray):List ByteArray:=(c.filter fun m=>decide (m.2.1=2∧m.2.2.1=x)).map (·.1)
def De (c:List Mg) (x:ByteArray):Bool:=c.any fun m=>decide (m.2.1=3∧m.2.2.1=x)
def iW (t:HF) (m:Mg):HF:=if m.2.1=2 then aS .str t m.2.2.1 (ak .str [] t m.2.2.1++[m.1]) else t
def iX (t:fe) (m:Mg):fe:=if m.2.1=3 then aS .str t m.2.2.1 true else t
def bM (c:List Mg):HF:=c.foldl iW []
def cw (c:List Mg):fe:=c.foldl iX []
theorem Kr {t:HF} (h:gw .str t) (m:Mg):gw .str (iW t m):=by
 unfold iW;split
 ·exact h.gL kS
 ·exact h
theorem Ks {t:fe} (h:gw .str t) (m:Mg):gw .str (iX t m):=by
 unfold iX;split
 ·exact h.gL kS
 ·exact h
theorem yK : ∀ {c : List Mg} {t : HF}, gw .str t → gw .str (c.foldl iW t) ∧ (∀ x, ak .str [] (c.foldl iW t) x = ak .str [] t x ++ kids c x) ∧ ∀ x, aL .str (c.foldl iW t) x = (aL .str t x || !(kids c x).isEmpty)
 |[],t,h=>⟨h,fun x=>by simp [kids],fun x=>by simp [kids]⟩
 |m::c,t,h=>by
  obtain ⟨h1,h2,h3⟩:=yK (c:=c) (Kr h m)
  refine ⟨h1,fun x=>?_,fun x=>?_⟩
  ·rw [List.foldl_cons, h2]
   unfold iW kids
   by_cases hk:m.2.1=2
   ·rw [if_pos hk, PF kS h]
    by_cases hx:m.2.2.1=x
    ·subst hx
     rw [if_pos (js kS),List.filter_cons_of_pos (by simp [hk])]
     simp
    ·rw [if_neg (fun h=>hx (bC h).symm),List.filter_cons_of_neg (by simp [hx])]
   ·rw [if_neg hk,List.filter_cons_of_neg (by simp [hk])]
  ·rw [List.foldl_cons, h3]
   unfold iW kids
   by_cases hk:m.2.1=2
   ·rw [if_pos hk, oV kS h]
    by_cases hx:m.2.2.1=x
    ·subst hx
     rw [js kS,List.filter_cons_of_pos (by simp [hk])]
     simp
    ·have:dx .str x m.2.2.1=false:=by
      cases hd:dx .str x m.2.2.1 with
      |false=>rfl
      |true=>exact absurd (bC hd).symm hx
     rw [this,List.filter_cons_of_neg (by simp [hx]),Bool.false_or]
   ·rw [if_neg hk,List.filter_cons_of_neg (by simp [hk])]
theorem MK (c:List Mg):gw .str (bM c):=(yK .nil).1
theorem vD (c:List Mg) (x:ByteArray):ak .str [] (bM c) x=kids c x:=by
 exact ((yK (c:=c) (t:=[]) .nil).2.1 x).trans (by simp [ak])
theorem ML (c:List Mg) (x:ByteArray):aL .str (bM c) x = !(kids c x).isEmpty:=by
 exact ((yK (c:=c) (t:=[]) .nil).2.2 x).trans (by simp [aL])
theorem vE {c:List Mg} {e:ByteArray×List ByteArray}:e∈bM c↔e.2=kids c e.1∧kids c e.1≠[]:=by
 constructor
 ·intro h
  have h1:=fD (d:=[]) kS (MK c) (show (e.1,e.2)∈bM c from h)
  rw [vD] at h1
  refine ⟨h1.symm,fun h2=>?_⟩
  have h3:=(dc kS).2 ⟨e.2,(show (e.1,e.2)∈bM c from h)⟩
  rw [ML,h2] at h3;cases h3
 ·rintro ⟨h1, h2⟩
  have h3:aL .str (bM c) e.1=true:=by
   rw [ML]
   cases hk:kids c e.1 with
   |nil=>exact absurd hk h2
   |cons _ _=>rfl
  obtain ⟨v,hv⟩:=(dc kS).1 h3
  have h4:=fD (d:=[]) kS (MK c) hv
  rw [vD] at h4
  obtain ⟨a,b⟩:=e
  simp only at h1 h4 hv
  rw [h1,h4];exact hv
theorem Uq : ∀ {c : List Mg} {t : fe}, gw .str t → (∀ e ∈ t, e.2 = true) → gw .str (c.foldl iX t) ∧ (∀ e ∈ c.foldl iX t, e.2 = true) ∧ ∀ x, aL .str (c.foldl iX t) x = (aL .str t x || De c x)
 |[],t,h,ht=>⟨h,ht,fun x=>by simp [De]⟩
 |m::c,t,h,ht=>by
  obtain ⟨h1, h0, h2⟩ := Uq (c := c) (Ks h m) (by
   unfold iX;split
   ·exact Uk kS h ht
   ·exact ht)
  refine ⟨h1,h0,fun x=>?_⟩
  rw [List.foldl_cons,h2]
  unfold iX De
  by_cases hk:m.2.1=3
  ·rw [if_pos hk, oV kS h, List.any_cons]
   have:dx .str x m.2.2.1=decide (m.2.1=3∧m.2.2.1=x):=by
    rw [Zi];exact decide_eq_decide.2 ⟨fun e=>⟨hk,e.symm⟩,fun e=>e.2.symm⟩
   rw [this,Bool.or_comm (decide _) (aL .str t x),Bool.or_assoc]
  ·rw [if_neg hk, List.any_cons]
   simp [hk]
theorem Zm (c:List Mg) (x:ByteArray):ak .str false (cw c) x=De c x:=by
 have h:=Uq (c:=c) (t:=[]) .nil (fun e h=>by cases h)
 rw [show cw c=c.foldl iX [] from rfl,Ul kS h.1 h.2.1,h.2.2]
 simp [aL]
theorem oC (c:List Mg) (x:ByteArray):(kids c x).length≤c.length:=by
 unfold kids;rw [List.length_map];exact List.length_filter_le ..
theorem aiV {c:List Mg} {m1:List (Mg×Bool)} (h:SI c) (hl:c.length<1000000):iter (fun x=>ai (gH66_1 x)) (c.length,((c.length:Nat):Int),(0:Int),c.map (·.1),m1,c.map (fun m=>(m.1,m)),[],[],[],()) =
  some (m1,c.map (fun m=>(m.1,m)),bM c,cw c,[],()):=by
 have yS:(c.map (·.1)).length=c.length:=List.length_map ..
 refine bg c (fun k (s : HF × fe) => (c.length, ((c.length : Nat) : Int), (k : Int), c.map (·.1), m1, c.map (fun m => (m.1, m)), s.1, s.2, [], ())) (fun s r => (m1, c.map (fun m => (m.1, m)), r.foldl iW s.1, r.foldl iX s.2, [], ()))
  (fun pre s=>s.1=pre.foldl iW []) ?_ ?_ (s:=([],[])) rfl
 ·rintro pre x post ⟨t, r⟩ hx ht
  simp only at ht
  have hlen:c.length=pre.length+(post.length+1):=by rw [hx];simp
  have hd:(c.map (·.1)).getD pre.length (bs [])=x.1:=by rw [hx,List.map_append,List.map_cons];exact bD (by simp)
  have hg:ak .str zM (c.map fun m=>(m.1,m)) x.1=x:=fD kS h.cam (List.mem_map.2 ⟨x,by rw [hx];simp,rfl⟩)
  have i1:fZ (pre.length:Int) ((c.length:Nat):Int)=true:=cD (by omega) (by omega)
  have r1:gZ .i64 ((pre.length:Int)+1)=true:=bh (by omega) (by omega)
  have d1:decide (pre.length<(c.map (·.1)).length)=true:=decide_eq_true (by omega)
  left
  refine ⟨(iW t x,iX r x),?_,by simp only;rw [ht,List.foldl_append];rfl,rfl⟩
  simp only [gH66_1,ax,bQ,bt,bu,aa,Int.toNat_natCast,Nat.zero_add,hd,hg,i1,r1,d1,aA,bH,bO]
  rw [if_pos (by omega)]
  unfold iW iX
  by_cases h3:x.2.1=3
  ·rw [if_pos h3,if_pos h3,if_neg (by omega)];rfl
  ·rw [if_neg h3, if_neg h3]
   by_cases h2:x.2.1=2
   ·rw [if_pos h2, if_pos h2]
    have hlt:(ak .str [] t x.2.2.1).length≤c.length:=by
     have:=(yK (c:=pre) (t:=[]) .nil).2.1 x.2.2.1
     rw [←ht] at this
     rw [this]
     have:=oC pre x.2.2.1
     simp only [ak,List.nil_append];omega
    rw [cq (show _<cM by rw [mL];omega)]
    rfl
   ·rw [if_neg h2,if_neg h2];rfl
 ·rintro ⟨t, r⟩ _
  simp only [gH66_1,ax,aa,bH]
  rw [if_neg (by omega)]
  rfl
end Go.Proofs.Tryz
end
section
namespace Go.Proofs.Tryz
open Go.AM
set_option maxRecDepth 100000
theorem Zn {A B : Type} {F : (A → Option B) → A → Option B} (R : A → B → Prop) (m : A → Nat)
  (h:∀rec x y,R x y→(∀x' y',R x' y'→m x'<m x→rec x'=some y')→F rec x=some y):∀x y,R x y→xu F x=some y:=by
 have key:∀n x y,R x y→m x<n→PW F n x=some y:=by
  intro n
  induction n with
  |zero=>intro x y _ hm;omega
  |succ n ih=>intro x y hx hm;exact h _ x y hx fun x' y' hx' hm'=>ih x' y' hx' (by omega)
 intro x y hx
 exact Lq (N:=m x+1) fun n hn=>key n x y hx (by omega)
structure oD (S:fe):Prop where
 c:gw .str S
 t:∀e∈S,e.2=true
theorem oD.nil:oD []:=⟨.nil,fun e h=>by cases h⟩
theorem oD.put {S:fe} (h:oD S) (x:ByteArray):oD (aS .str S x true):=⟨h.c.gL kS,Uk kS h.c h.t⟩
abbrev has (S:fe) (x:ByteArray):Bool:=aL .str S x
def Sub (S S':fe):Prop:=∀x,has S x=true→has S' x=true
theorem Sub.rfl {S:fe}:Sub S S:=fun _ h=>h
theorem Sub.trans {S S' BV:fe} (h:Sub S S') (h':Sub S' BV):Sub S BV:=fun x hx=>h' x (h x hx)
theorem oW {S:fe} (h:oD S) {x y:ByteArray}:has (aS .str S x true) y=true↔y=x∨has S y=true:=by
 unfold has
 rw [oV kS h.c,Bool.or_eq_true,Db kS]
theorem Sub.put {S:fe} (h:oD S) (x:ByteArray):Sub S (aS .str S x true):=fun y hy=>(oW h).2 (.inr hy)
theorem oD.ext {S S':fe} (h:oD S) (h':oD S') (hx:∀x,has S x=true↔has S' x=true):S=S' :=
 Um kS h.c h'.c h.t h'.t fun x=>by rw [Bool.eq_iff_iff];exact hx x
section
variable {c:List Mg}
inductive ko (c : List Mg) : ByteArray → ByteArray → Prop
 |refl (x):ko c x x
 |step {x y z} (h:ko c x y) (hz:z∈kids c y):ko c x z
theorem ko.trans {x y z:ByteArray} (h:ko c x y) (h':ko c y z):ko c x z:=by
 induction h' with
 |refl=>exact h
 |step _ hz ih=>exact .step ih hz
theorem ko.cons {x y z:ByteArray} (hy:y∈kids c x) (h:ko c y z):ko c x z:=(ko.step (.refl x) hy).trans h
def ids (c:List Mg):List ByteArray:=c.map (·.1)
theorem iM {x z:ByteArray} (h:z∈kids c x):z∈ids c:=by
 unfold kids at h
 obtain ⟨m,hm,rfl⟩:=List.mem_map.1 h
 exact List.mem_map.2 ⟨m,(List.mem_filter.1 hm).1,rfl⟩
def Ds (c:List Mg) (S:fe):Nat:=((ids c).filter fun x => !has S x).length
theorem Ur (S:fe):Ds c S≤c.length:=by
 unfold Ds ids;exact Nat.le_trans (List.length_filter_le ..) (by simp)
theorem mQ {α : Type} {p q : α → Bool} : ∀ {l : List α}, (∀ x ∈ l, p x = true → q x = true) → (l.filter p).length ≤ (l.filter q).length
 |[],_=>by simp
 |a::l,h=>by
  have ih:=mQ (l:=l) fun x hx=>h x (List.mem_cons_of_mem _ hx)
  by_cases hp:p a=true
  ·rw [List.filter_cons_of_pos hp, List.filter_cons_of_pos (h a (List.mem_cons_self ..) hp)]
   simp only [List.length_cons];omega
  ·rw [List.filter_cons_of_neg hp]
   by_cases hq:q a=true
   ·rw [List.filter_cons_of_pos hq];simp only [List.length_cons];omega
   ·rw [List.filter_cons_of_neg hq];exact ih
theorem su {α : Type} {p q : α → Bool} : ∀ {l : List α}, (∀ x ∈ l, p x = true → q x = true) → ∀ {y : α}, y ∈ l → q y = true → p y = false → (l.filter p).length < (l.filter q).length
 |[],_,y,h,_,_=>by cases h
 |a::l,h,y,hy,hq,hp=>by
  have hl:∀x∈l,p x=true→q x=true:=fun x hx=>h x (List.mem_cons_of_mem _ hx)
  rcases List.mem_cons.1 hy with rfl|hy
  ·rw [List.filter_cons_of_neg (by rw [hp]; simp), List.filter_cons_of_pos hq]
   have:=mQ hl
   simp only [List.length_cons];omega
  ·have ih := su hl hy hq hp
   by_cases hpa:p a=true
   ·rw [List.filter_cons_of_pos hpa, List.filter_cons_of_pos (h a (List.mem_cons_self ..) hpa)]
    simp only [List.length_cons];omega
   ·rw [List.filter_cons_of_neg hpa]
    by_cases hqa:q a=true
    ·rw [List.filter_cons_of_pos hqa];simp only [List.length_cons];omega
    ·rw [List.filter_cons_of_neg hqa];exact ih
theorem yL {S S':fe} (h:Sub S S'):Ds c S'≤Ds c S:=mQ fun x _ hx=>by
 cases hs:has S x with
 |false=>rfl
 |true=>rw [h x hs] at hx;cases hx
theorem Kt {S:fe} (h:oD S) {x:ByteArray} (hx:x∈ids c) (hn:has S x=false):Ds c (aS .str S x true)<Ds c S:=by
 refine su (fun y _ hy=>?_) hx (by rw [hn];rfl) (by rw [(oW h).2 (.inl rfl)];rfl)
 cases hs:has S y with
 |false=>rfl
 |true=>rw [(oW h).2 (.inr hs)] at hy;cases hy
def cK (c : List Mg) : Nat → ByteArray → fe → fe
 |0,_,S=>S
 |n+1,x,S=>if has S x=true then S else (kids c x).foldl (fun S k=>cK c n k S) (aS .str S x true)
theorem iq : ∀ {n : Nat} {x : ByteArray} {S : fe}, oD S → oD (cK c n x S) ∧ Sub S (cK c n x S)
 |0,_,_,h=>⟨h,.rfl⟩
 |n+1,x,S,h=>by
  unfold cK
  split
  ·exact ⟨h,.rfl⟩
  ·have key:∀(l:List ByteArray) (S:fe),oD S→oD (l.foldl (fun S k=>cK c n k S) S)∧Sub S (l.foldl (fun S k=>cK c n k S) S):=by
    intro l
    induction l with
    |nil=>intro S h;exact ⟨h,.rfl⟩
    |cons k l ih =>
     intro S h
     obtain ⟨h1,h2⟩:=iq (n:=n) (x:=k) h
     obtain ⟨h3,h4⟩:=ih _ h1
     exact ⟨h3,h2.trans h4⟩
   obtain ⟨h1,h2⟩:=key (kids c x) _ (h.put x)
   exact ⟨h1,(Sub.put h x).trans h2⟩
theorem sv {n : Nat} : ∀ {l : List ByteArray} {S : fe}, oD S → oD (l.foldl (fun S k => cK c n k S) S) ∧ Sub S (l.foldl (fun S k => cK c n k S) S)
 |[],_,h=>⟨h,.rfl⟩
 |k::l,S,h=>by
  obtain ⟨h1,h2⟩:=iq (c:=c) (n:=n) (x:=k) h
  obtain ⟨h3,h4⟩:=sv (l:=l) h1
  exact ⟨h3,h2.trans h4⟩
theorem uy : ∀ {n n' : Nat} {x : ByteArray} {S : fe}, oD S → x ∈ ids c → Ds c S < n → Ds c S < n' → cK c n x S = cK c n' x S
 |0,_,_,_,_,_,h,_=>by omega
 |_+1,0,_,_,_,_,_,h=>by omega
 |n+1,n'+1,x,S,hS,hx,h,h'=>by
  unfold cK
  split
  ·rfl
  ·rename_i hn
   have hn:has S x=false:=by simpa using hn
   have hlt:=Kt hS hx hn
   have key:∀(l:List ByteArray) (S1:fe),(∀k∈l,k∈ids c)→oD S1→Ds c S1<n→Ds c S1<n'→l.foldl (fun S k=>cK c n k S) S1=l.foldl (fun S k=>cK c n' k S) S1:=by
    intro l
    induction l with
    |nil=>intro _ _ _ _ _;rfl
    |cons k l ih =>
     intro S1 hk h1 h2 h3
     simp only [List.foldl_cons]
     rw [uy (n:=n) (n':=n') h1 (hk k (List.mem_cons_self ..)) h2 h3]
     obtain ⟨h4,h5⟩:=iq (c:=c) (n:=n') (x:=k) h1
     have:=yL (c:=c) h5
     exact ih _ (fun k hk'=>hk k (List.mem_cons_of_mem _ hk')) h4 (by omega) (by omega)
   exact key _ _ (fun k hk=>iM hk) (hS.put x) (by omega) (by omega)
theorem Hg {n:Nat} {x:ByteArray} {S:fe} (h:oD S) (hn:Ds c S<n):has (cK c n x S) x=true:=by
 cases n with
 |zero=>omega
 |succ n =>
  unfold cK
  split
  ·assumption
  ·exact (sv (h.put x)).2 x ((oW h).2 (.inl rfl))
theorem AY : ∀ {n : Nat} {x : ByteArray} {S : fe}, oD S → ∀ y, has (cK c n x S) y = true → has S y = true ∨ ko c x y
 |0,_,_,_,y,hy=>.inl hy
 |n+1,x,S,h,y,hy=>by
  unfold cK at hy
  split at hy
  ·exact .inl hy
  ·have key:∀(l:List ByteArray) (S1:fe),(∀k∈l,k∈kids c x)→oD S1→has (l.foldl (fun S k=>cK c n k S) S1) y=true→has S1 y=true∨ko c x y:=by
    intro l
    induction l with
    |nil=>intro S1 _ _ h;exact .inl h
    |cons k l ih =>
     intro S1 hk h1 h2
     simp only [List.foldl_cons] at h2
     rcases ih _ (fun k hk'=>hk k (List.mem_cons_of_mem _ hk')) (iq h1).1 h2 with h3|h3
     ·rcases AY h1 y h3 with h4 | h4
      ·exact .inl h4
      ·exact .inr (.cons (hk k (List.mem_cons_self ..)) h4)
     ·exact .inr h3
   rcases key _ _ (fun k hk=>hk) (h.put x) hy with h1|h1
   ·rcases (oW h).1 h1 with rfl | h2
    ·exact .inr (.refl _)
    ·exact .inl h2
   ·exact .inr h1
theorem AZ : ∀ {n : Nat} {x : ByteArray} {S : fe}, oD S → x ∈ ids c → Ds c S < n → ∀ y, has (cK c n x S) y = true → has S y = false → ∀ z ∈ kids c y, has (cK c n x S) z = true
 |0,_,_,_,_,h,_,_,_=>by omega
 |n+1,x,S,hS,hx,hlt,y,hy,hyn=>by
  intro z hz
  unfold cK at hy ⊢
  split at hy
  ·rw [hyn] at hy;cases hy
  ·rename_i hn
   rw [if_neg hn]
   have hn:has S x=false:=by simpa using hn
   have hl:=Kt hS hx hn
   have key:∀(l:List ByteArray) (S1:fe),(∀k∈l,k∈kids c x)→oD S1→Ds c S1<n→(∀k∈l,has (l.foldl (fun S k=>cK c n k S) S1) k=true) ∧
     (has (l.foldl (fun S k=>cK c n k S) S1) y=true→has S1 y=false→has (l.foldl (fun S k=>cK c n k S) S1) z=true):=by
    intro l
    induction l with
    |nil=>intro S1 _ _ _;exact ⟨(fun k hk=>by cases hk),(fun h h'=>by rw [List.foldl_nil,h'] at h;cases h)⟩
    |cons k l ih =>
     intro S1 hk h1 h2
     simp only [List.foldl_cons]
     obtain ⟨h3,h4⟩:=iq (c:=c) (n:=n) (x:=k) h1
     have h5:=yL (c:=c) h4
     obtain ⟨h6,h7⟩:=ih _ (fun k hk'=>hk k (List.mem_cons_of_mem _ hk')) h3 (by omega)
     have h8:=(sv (c:=c) (n:=n) (l:=l) h3).2
     refine ⟨fun k' hk'=>?_,fun h9 h10=>?_⟩
     ·rcases List.mem_cons.1 hk' with rfl | hk'
      ·exact h8 _ (Hg h1 (by omega))
      ·exact h6 k' hk'
     ·cases h11:has (cK c n k S1) y with
      |false=>exact h7 h9 h11
      |true=>exact h8 _ (AZ h1 (iM (hk k (List.mem_cons_self ..))) h2 y h11 h10 z hz)
   obtain ⟨h1,h2⟩:=key _ _ (fun k hk=>hk) (hS.put x) (by omega)
   by_cases he:y=x
   ·subst he;exact h1 z hz
   ·refine h2 hy ?_
    cases h3:has (aS .str S x true) y with
    |false=>rfl
    |true =>
     rcases (oW hS).1 h3 with h4|h4
     ·exact absurd h4 he
     ·rw [hyn] at h4;cases h4
def Clo (c:List Mg) (S:fe):Prop:=∀y,has S y=true→∀z∈kids c y,has S z=true
theorem Clo.desc {S:fe} (h:Clo c S) {x y:ByteArray} (hx:has S x=true) (hd:ko c x y):has S y=true:=by
 induction hd with
 |refl=>exact hx
 |step _ hz ih=>exact h _ ih _ hz
theorem Us {n:Nat} {x:ByteArray} {S:fe} (hS:oD S) (hC:Clo c S) (hx:x∈ids c) (hn:Ds c S<n):Clo c (cK c n x S)∧∀y,has (cK c n x S) y=true↔has S y=true∨ko c x y:=by
 have hc:Clo c (cK c n x S):=fun y hy z hz=>by
  cases h:has S y with
  |true=>exact (iq hS).2 z (hC y h z hz)
  |false=>exact AZ hS hx hn y hy h z hz
 refine ⟨hc,fun y=>⟨AY hS y,?_⟩⟩
 rintro (h|h)
 ·exact (iq hS).2 y h
 ·exact hc.desc (Hg hS hn) h
theorem kH96 {m3:AX} {m5:fe} {x:ByteArray} {S:fe} (hc:c.length<1000000) (hS:oD S) (hx:x∈ids c):ai (FH96fix x m3 (bM c) m5 S)=some (m3,bM c,m5,cK c (c.length+1) x S,()):=by
 have h0:ai (FH96fix x m3 (bM c) m5 S)=xu (A:=jZ.T) (B:=j4.T) (fun r y=>run r (FH96 y.1 y.2.1 y.2.2.1 y.2.2.2.1 y.2.2.2.2.1)) (x,m3,bM c,m5,S,()):=rfl
 refine h0.trans ?_
 refine Zn (A:=jZ.T) (B:=j4.T) (fun a b=>∃x S,a=(x,m3,bM c,m5,S,())∧oD S∧x∈ids c∧b=(m3,bM c,m5,cK c (c.length+1) x S,())) (fun a=>Ds c a.2.2.2.2.1) ?_ _ _ ⟨x,S,rfl,hS,hx,rfl⟩
 rintro rec _ _ ⟨x,S,rfl,hS,hx,rfl⟩ ih
 have e:(run rec (FH96 x m3 (bM c) m5 S):Option (AX×HF×fe×fe×Unit))=vc (ak .str false S x) (some (m3,bM c,m5,S,())) (gK (iter (fun a=>run rec (gH96_0 a)) (ak .str [] (bM c) x,(((ak .str [] (bM c) x).length:Nat):Int),(0:Int),m3,bM c,m5,aS .str S x true,())) fun z=>some (z.1,z.2.1,z.2.2.1,z.2.2.2.1,())):=rfl
 refine Eq.trans (α:=Option (AX×HF×fe×fe×Unit)) e ?_
 rw [Ul kS hS.c hS.t,vD]
 by_cases hh:has S x=true
 ·rw [RJ hh]
  have:cK c (c.length+1) x S=S:=by unfold cK;rw [if_pos hh]
  rw [this];rfl
 ·rw [Iu (by simpa using hh)]
  have hn:has S x=false:=by simpa using hh
  have hlt:=Kt hS hx hn
  have hle:=Ur (c:=c) S
  have UT:=oC c x
  have he:cK c (c.length+1) x S=(kids c x).foldl (fun S k=>cK c (c.length+1) k S) (aS .str S x true):=by
   have:cK c (c.length+1) x S=cK c (c.length+2) x S:=uy hS hx (by omega) (by omega)
   rw [this]
   conv=>lhs;unfold cK
   rw [if_neg hh]
  rw [he]
  refine bind_eq (bg (kids c x) (fun k (S:fe)=>(kids c x,(((kids c x).length:Nat):Int),(k:Int),m3,bM c,m5,S,())) (fun S r=>(m3,bM c,m5,r.foldl (fun S k=>cK c (c.length+1) k S) S,())) (fun _ S1=>oD S1∧Ds c S1<Ds c S) ?_ ?_ (s:=aS .str S x true) ⟨hS.put x,hlt⟩) rfl
  ·rintro pre k post S1 hk ⟨h1, h2⟩
   have hlen:(kids c x).length=pre.length+(post.length+1):=by rw [hk];simp
   have hd:(kids c x).getD pre.length (bs [])=k:=by rw [hk];exact bD rfl
   have i1:fZ (pre.length:Int) (((kids c x).length:Nat):Int)=true:=cD (by omega) (by omega)
   have r1:gZ .i64 ((pre.length:Int)+1)=true:=bh (by omega) (by omega)
   have hki:k∈ids c:=iM (x:=x) (by rw [hk];simp)
   obtain ⟨h3,h4⟩:=iq (c:=c) (n:=c.length+1) (x:=k) h1
   have h5:=yL (c:=c) h4
   left
   refine ⟨cK c (c.length+1) k S1,?_,⟨h3,by omega⟩,rfl⟩
   simp only [gH96_0,ax,bQ,bu,aa,az,ac0,Int.toNat_natCast,hd,i1,r1,aA,bH]
   rw [if_pos (by omega)]
   have hq:(run rec (Tr.rc (k,m3,bM c,m5,S1,())):Option (AX×HF×fe×fe×Unit))=some (m3,bM c,m5,cK c (c.length+1) k S1,()):=ih (k,m3,bM c,m5,S1,()) _ ⟨k,S1,rfl,h1,hki,rfl⟩ h2
   exact bind_eq (A:=AX×HF×fe×fe×Unit) hq rfl
  ·rintro S1 _
   simp only [gH96_0,ax,aa,bH]
   rw [if_neg (by omega)]
   rfl
end
end Go.Proofs.Tryz
end
section
namespace Go.Proofs.Tryz
open Go.AM
set_option maxRecDepth 100000
def thrB (c:List Mg) (x:ByteArray):Bool:=aL .str (c.map fun m=>(m.1,m)) x && !((ak .str zM (c.map fun m=>(m.1,m)) x).2.1==3)
def dir (c:List Mg) (e:ByteArray×List ByteArray):List ByteArray:=if thrB c e.1=true then (match e.2.filter (De c) with|[o]=>e.2.filter (fun k => !decide (k=o))|_=>[]) else []
def oE (c:List Mg) (S:fe) (e:ByteArray×List ByteArray):fe:=(dir c e).foldl (fun S k=>cK c (c.length+1) k S) S
def cQ (c:List Mg):fe:=(bM c).foldl (oE c) []
abbrev bR (c:List Mg):AX:=c.map fun m=>(m.1,m)
section
variable {c:List Mg}
theorem MM {e:ByteArray×List ByteArray} {y:ByteArray} (h:y∈dir c e):y∈e.2:=by
 unfold dir at h
 split at h
 ·split at h
  ·exact (List.mem_filter.1 h).1
  ·cases h
 ·cases h
structure nq (c:List Mg) (l:List (ByteArray×List ByteArray)) (S:fe):Prop where
 ok:oD S
 clo:Clo c S
 iff:∀x,has S x=true↔∃e∈l,∃y∈dir c e,ko c y x
theorem aiX {l:List ByteArray}:∀{S:fe},oD S→Clo c S→(∀k∈l,k∈ids c)→oD (l.foldl (fun S k=>cK c (c.length+1) k S) S)∧Clo c (l.foldl (fun S k=>cK c (c.length+1) k S) S) ∧
  ∀x,has (l.foldl (fun S k=>cK c (c.length+1) k S) S) x=true↔has S x=true∨∃y∈l,ko c y x:=by
 induction l with
 |nil=>intro S h1 h2 _;exact ⟨h1,h2,fun x=>by simp⟩
 |cons k l ih =>
  intro S h1 h2 h3
  have hn:Ds c S<c.length+1:=by have:=Ur (c:=c) S;omega
  have hk:=h3 k (List.mem_cons_self ..)
  obtain ⟨h4,h5⟩:=Us h1 h2 hk hn
  obtain ⟨h6,h7,h8⟩:=ih (iq h1).1 h4 fun k hk=>h3 k (List.mem_cons_of_mem _ hk)
  refine ⟨h6,h7,fun x=>?_⟩
  rw [List.foldl_cons,h8,h5]
  simp only [List.mem_cons,exists_eq_or_imp,or_assoc]
theorem nq.step {l:List (ByteArray×List ByteArray)} {S:fe} (h:nq c l S) {e:ByteArray×List ByteArray} (he:∀k∈e.2,k∈ids c):nq c (l++[e]) (oE c S e):=by
 obtain ⟨h1,h2,h3⟩:=aiX (l:=dir c e) h.ok h.clo fun k hk=>he k (MM hk)
 refine ⟨h1,h2,fun x=>?_⟩
 unfold oE
 rw [h3,h.iff]
 constructor
 ·rintro (⟨e', he', h⟩ | h)
  ·exact ⟨e',by simp [he'],h⟩
  ·exact ⟨e,by simp,h⟩
 ·rintro ⟨e', he', h⟩
  rcases List.mem_append.1 he' with he'|he'
  ·exact .inl ⟨e',he',h⟩
  ·rw [List.mem_singleton] at he';subst he';exact .inr h
theorem nq.all : ∀ {r l : List (ByteArray × List ByteArray)} {S : fe}, nq c l S → (∀ e ∈ r, ∀ k ∈ e.2, k ∈ ids c) → nq c (l ++ r) (r.foldl (oE c) S)
 |[],l,S,h,_=>by simpa using h
 |e::r,l,S,h,hr=>by
  have:=nq.all (h.step (hr e (List.mem_cons_self ..))) fun e he=>hr e (List.mem_cons_of_mem _ he)
  simpa using this
theorem nq.nil:nq c [] []:=⟨.nil,fun y hy=>by simp [has,aL] at hy,fun x=>by simp [has,aL]⟩
theorem MN:∀e∈bM c,∀k∈e.2,k∈ids c:=fun e he k hk=>by
 rw [(vE.1 he).1] at hk;exact iM hk
theorem yM {l:List (ByteArray×List ByteArray)} (hp:l.Perm (bM c)):nq c l (l.foldl (oE c) []):=by
 have:=nq.all (c:=c) (r:=l) (l:=[]) .nil fun e he=>MN e (hp.mem_iff.1 he)
 simpa using this
theorem tJ (c:List Mg):nq c (bM c) (cQ c):=yM (.refl _)
theorem aeR {l:List (ByteArray×List ByteArray)} (hp:l.Perm (bM c)):l.foldl (oE c) []=cQ c :=
 (yM hp).ok.ext (tJ c).ok fun x=>by
  rw [(yM hp).iff,(tJ c).iff]
  exact ⟨fun ⟨e,he,h⟩=>⟨e,hp.mem_iff.1 he,h⟩,fun ⟨e,he,h⟩=>⟨e,hp.mem_iff.2 he,h⟩⟩
def lB (c:List Mg) (x:ByteArray):Bool:=has (cQ c) x
theorem Df (x:ByteArray):ak .str false (cQ c) x=lB c x:=Ul kS (tJ c).ok.c (tJ c).ok.t
theorem Hi {x:ByteArray}:lB c x=true↔∃p y,y∈dir c (p,kids c p)∧ko c y x:=by
 unfold lB
 rw [(tJ c).iff]
 constructor
 ·rintro ⟨⟨p, l⟩, he, y, hy, hd⟩
  have:=(vE.1 he).1
  simp only at this;subst this
  exact ⟨p,y,hy,hd⟩
 ·rintro ⟨p, y, hy, hd⟩
  refine ⟨(p,kids c p),vE.2 ⟨rfl,fun h=>?_⟩,y,hy,hd⟩
  have:=MM hy
  simp only at this h
  rw [h] at this;cases this
theorem Zo {x z:ByteArray} (h:lB c x=true) (hz:z∈kids c x):lB c z=true:=(tJ c).clo x h z hz
theorem aeS {m1:List (Mg×Bool)} {m6:AX} {pg:Int} {pn:Bool} {l UU:List ByteArray} {o:ByteArray} {m:Mg} {S:fe} (hc:c.length<1000000) (hl:l.length≤c.length) (Vt:∀k∈l,k∈ids c) (hb:UU.getD 0 (bs [])=o) (qD:0<UU.length) (hS:oD S) :
  iter (fun x=>ai (gH66_2b_3 x)) (0,1,pg,pn,l,((l.length:Nat):Int),(0:Int),UU,bM c,m.1,m.2.1,m.2.2.1,m.2.2.2.1,m.2.2.2.2,m6,cw c,S,m1,()) =
   some (pg,pn,bM c,m.1,m.2.1,m.2.2.1,m.2.2.2.1,m.2.2.2.2,m6,cw c,(l.filter fun k => !decide (k=o)).foldl (fun S k=>cK c (c.length+1) k S) S,m1,()):=by
 refine bg l (fun k (S : fe) => (0, 1, pg, pn, l, ((l.length : Nat) : Int), (k : Int), UU, bM c, m.1, m.2.1, m.2.2.1, m.2.2.2.1, m.2.2.2.2, m6, cw c, S, m1, ()))
  (fun S r=>(pg,pn,bM c,m.1,m.2.1,m.2.2.1,m.2.2.2.1,m.2.2.2.2,m6,cw c,(r.filter fun k => !decide (k=o)).foldl (fun S k=>cK c (c.length+1) k S) S,m1,())) (fun _ S=>oD S) ?_ ?_ (s:=S) hS
 ·intro pre x post S hx hS
  have hlen:l.length=pre.length+(post.length+1):=by rw [hx];simp
  have hd:l.getD pre.length (bs [])=x:=by rw [hx];exact bD rfl
  have i1:fZ (pre.length:Int) ((l.length:Nat):Int)=true:=cD (by omega) (by omega)
  have i2:fZ (0:Int) ((1:Nat):Int)=true:=cD (by omega) (by omega)
  have r1:gZ .i64 ((pre.length:Int)+1)=true:=bh (by omega) (by omega)
  have d1:decide (0<UU.length)=true:=decide_eq_true qD
  left
  by_cases PT:x=o
  ·refine ⟨S, ?_, hS, by rw [List.filter_cons_of_neg (by simp [PT])]⟩
   simp only [gH66_2b_3,ax,bQ,bt,bu,aa,az,Int.toNat_natCast,Int.toNat_zero,Nat.zero_add,Nat.add_zero,hd,hb,i1,i2,r1,d1,aA,bH,seq_eq,PT]
   rw [if_pos (by omega),Iu (by simp)]
   rfl
  ·refine ⟨cK c (c.length + 1) x S, ?_, (iq hS).1, by rw [List.filter_cons_of_pos (by simp [PT])]; rfl⟩
   simp only [gH66_2b_3,ax,bQ,bt,bu,aa,az,Int.toNat_natCast,Int.toNat_zero,Nat.zero_add,Nat.add_zero,hd,hb,i1,i2,r1,d1,aA,bH,seq_eq]
   rw [if_pos (by omega),RJ (by simp [PT])]
   rw [ay (kH96 hc hS (Vt x (by rw [hx];simp)))]
   rfl
 ·intro S _
  simp only [gH66_2b_3,ax,aa,bH]
  rw [if_neg (by omega)]
  rfl
theorem aiY {m1:List (Mg×Bool)} {e:ByteArray×List ByteArray} {S:fe} (hc:c.length<1000000) (he:e∈bM c) (hS:oD S):ai (gH66_2 e (bM c,m1,bR c,cw c,S,()))=some (bM c,m1,bR c,cw c,oE c S e,()):=by
 have UL:=(vE.1 he).1
 have hl:e.2.length≤c.length:=by rw [UL];exact oC c e.1
 simp only [gH66_2,ax,bt,aa,az,bW,dn,aA,bU]
 unfold oE dir thrB
 cases hh:aL .str (bR c) e.1 with
 |false=>rw [bV];simp
 |true =>
  rw [aP]
  by_cases h3:(ak .str zM (bR c) e.1).2.1=3
  ·rw [bO, if_pos h3, if_neg (by simp [h3])]
   rfl
  ·rw [bO, if_neg h3, if_pos (by simp [h3])]
   rw [ay (kH98 (by omega))]
   obtain ⟨b,iA,eB,Dk⟩:=kH97 (m3:=bR c) (m4:=bM c) (m5:=cw c) (m6:=S) (l:=e.2) (by omega)
   rw [ay Dk]
   have hf:(e.2.filter fun v => !(!ak .str false (cw c) v))=e.2.filter (De c):=List.filter_congr fun v _=>by rw [Zm];simp
   rw [hf] at eB ⊢
   simp only [dn,aA,bO]
   by_cases h1:(e.2.filter (De c)).length=1
   ·rw [if_pos (by omega)]
    obtain ⟨o,ho⟩:=List.length_eq_one_iff.1 h1
    rw [ho] at eB h1 ⊢
    simp only [List.length_singleton] at eB ⊢
    have qD:0<b.length:=by
     cases b with
     |nil=>simp at eB
     |cons _ _=>simp
    have hbo:b.getD 0 (bs [])=o:=by
     cases b with
     |nil=>simp at eB
     |cons x r=>simp at eB;simp [eB]
    rw [ay (aeS (m:=ak .str zM (bR c) e.1) (o:=o) hc hl (MN e he) hbo qD hS)]
    simp only [dn,aA]
   ·rw [if_neg (by omega)]
    have:(match e.2.filter (De c) with|[o]=>e.2.filter (fun k => !decide (k=o))|_=>[])=([]:List ByteArray):=by
     split
     ·rename_i o ho;rw [ho] at h1;simp at h1
     ·rfl
    rw [this]
    rfl
theorem Ut {L:List Mg} (h:kB L):ai (FH66 (bk L))=some (bk L,bR (cnt L),bM (cnt L),cw (cnt L),cQ (cnt L),()):=by
 have hl:=h.len
 have yT:(cnt L).length≤60:=by
  have:(cnt L).length≤L.length:=by
   have hn:(cnt L).Nodup:=List.Pairwise.imp (fun {a b} h e=>by subst e;rw [show slt a.1 a.1=false from fK (t:=.str) kS a.1] at h;cases h) (gX L)
   exact List.Nodup.length_le_of_subset hn fun m hm=>vC hm
  omega
 have hby:pS L=bR (cnt L):=Hf L
 unfold FH66
 simp only [az,bW,bt]
 rw [ay (Kq h.s (by omega))]
 simp only
 rw [ay (aiU (by omega))]
 simp only [FH95,aa,aD]
 rw [hby,ay (Zl (gX L) (by omega))]
 simp only [List.isEmpty_nil,aA]
 rw [ay (aiV (gX L) (by omega))]
 simp only
 have hmq:run (fun _=>none) (.mq gH66_2 (bM (cnt L)) (bM (cnt L),bk L,bR (cnt L),cw (cnt L),[],()))=some (bM (cnt L),bk L,bR (cnt L),cw (cnt L),cQ (cnt L),()):=by
  refine Eq.trans Iw (gj fun l hp=>?_)
  have := (GZ (step := fun e a => run (fun _ => none) (gH66_2 e a)) (fun (a : HF × List (Mg × Bool) × AX × fe × fe × Unit) e => (bM (cnt L), bk L, bR (cnt L), cw (cnt L), oE (cnt L) a.2.2.2.2.1 e, ())) (fun a => ∃ S, a = (bM (cnt L), bk L, bR (cnt L), cw (cnt L), S, ()) ∧ oD S) l (bM (cnt L), bk L, bR (cnt L), cw (cnt L), [], ()) ⟨[], rfl, .nil⟩ (by
   rintro e he _ ⟨S,rfl,hS⟩
   refine ⟨aiY (by omega) (hp.mem_iff.1 he) hS,_,rfl,?_⟩
   exact (sv hS).1)).1
  rw [this]
  have key:∀(l:List (ByteArray×List ByteArray)) (S:fe),l.foldl (fun (a:HF×List (Mg×Bool)×AX×fe×fe×Unit) e=>(bM (cnt L),bk L,bR (cnt L),cw (cnt L),oE (cnt L) a.2.2.2.2.1 e,())) (bM (cnt L),bk L,bR (cnt L),cw (cnt L),S,())=(bM (cnt L),bk L,bR (cnt L),cw (cnt L),l.foldl (oE (cnt L)) S,()):=by
   intro l
   induction l with
   |nil=>intro S;rfl
   |cons e l ih=>intro S;exact ih _
  rw [key,aeR hp]
 rw [ay hmq]
end
end Go.Proofs.Tryz
end
section
namespace Go.Proofs.Tryz
open Go.AM
set_option maxRecDepth 100000
theorem Zp {A B : Type} {F : (A → Option B) → A → Option B} (R : Nat → A → B → Prop)
  (h:∀rec n x y,R n x y→(∀n' x' y',n'<n→R n' x' y'→rec x'=some y')→F rec x=some y):∀n x y,R n x y→xu F x=some y:=by
 have key:∀k n x y,R n x y→n<k→PW F k x=some y:=by
  intro k
  induction k with
  |zero=>intro n x y _ hm;omega
  |succ k ih=>intro n x y hx hm;exact h _ n x y hx fun n' x' y' hn' hx'=>ih n' x' y' hx' (by omega)
 intro n x y hx
 exact Lq (N:=n+1) fun k hk=>key k n x y hx (by omega)
section
variable {c:List Mg}
theorem kq {x y:ByteArray}:y∈kids c x↔∃m∈c,m.1=y∧m.2.1=2∧m.2.2.1=x:=by
 unfold kids
 rw [List.mem_map]
 constructor
 ·rintro ⟨m, hm, rfl⟩
  obtain ⟨h1,h2⟩:=List.mem_filter.1 hm
  simp only [decide_eq_true_eq] at h2
  exact ⟨m,h1,rfl,h2⟩
 ·rintro ⟨m, hm, rfl, h⟩
  exact ⟨m,List.mem_filter.2 ⟨hm,by simpa using h⟩,rfl⟩
theorem MO (hs:SI c) {x x' y:ByteArray} (h:y∈kids c x) (h':y∈kids c x'):x=x':=by
 obtain ⟨m,h1,h2,_,h3⟩:=kq.1 h
 obtain ⟨m',h1',h2',_,h3'⟩:=kq.1 h'
 have:=hs.inj h1 h1' (h2.trans h2'.symm)
 subst this
 exact h3.symm.trans h3'
inductive mR (c : List Mg) (x : ByteArray) : Nat → ByteArray → Prop
 |zero:mR c x 0 x
 |step {n y z} (h:mR c x n y) (hz:z∈kids c y):mR c x (n+1) z
theorem mR.add {n m:Nat} {x y z:ByteArray} (h:mR c x n y) (h':mR c y m z):mR c x (n+m) z:=by
 induction h' with
 |zero=>exact h
 |step _ hz ih=>exact .step ih hz
theorem mR.up (hs:SI c) {n:Nat} {x y:ByteArray} (h:mR c x n y):∀{m:Nat} {x':ByteArray},mR c x' m y→n≤m→mR c x' (m - n) x:=by
 induction h with
 |zero=>intro m x' h' _;exact h'
 |step h hz ih =>
  intro m x' h' hle
  cases h' with
  |zero=>omega
  |step h2 pV =>
   have e:=MO hs hz pV
   subst e
   have:=ih h2 (by omega)
   rwa [Nat.add_sub_add_right]
theorem mR.desc {n:Nat} {x y:ByteArray} (h:mR c x n y):ko c x y:=by
 induction h with
 |zero=>exact .refl _
 |step _ hz ih=>exact .step ih hz
theorem ko.pth {x y:ByteArray} (h:ko c x y):∃n,mR c x n y:=by
 induction h with
 |refl=>exact ⟨0,.zero⟩
 |step _ hz ih=>obtain ⟨n,h⟩:=ih;exact ⟨n+1,.step h hz⟩
def Top (c:List Mg) (t:ByteArray):Prop:=∀x,t∉kids c x
theorem mR.deep (hs:SI c) {t:ByteArray} (ht:Top c t) {n m:Nat} {y:ByteArray} (h:mR c t n y) (h':mR c t m y):n=m:=by
 have key:∀{n m:Nat},mR c t n y→mR c t m y→n≤m→n=m:=fun {n m} h h' hle=>by
  have:=h.up hs h' hle
  generalize hk:m - n=k at this
  cases this with
  |zero=>omega
  |step _ hz=>exact absurd hz (ht _)
 rcases Nat.le_total n m with hle|hle
 ·exact key h h' hle
 ·exact (key h' h hle).symm
theorem mR.short (hs:SI c) {t:ByteArray} (ht:Top c t) (Dn:t∈ids c) {n:Nat} {y:ByteArray} (h:mR c t n y):n<c.length:=by
 have key:∃l:List ByteArray,l.length=n+1∧l.Nodup∧∀a∈l,a∈ids c∧∃i,i≤n∧mR c t i a:=by
  induction h with
  |zero=>exact ⟨[t],rfl,by simp,fun a ha=>by rw [List.mem_singleton] at ha;subst ha;exact ⟨Dn,0,Nat.le_refl _,.zero⟩⟩
  |step h hz ih =>
   rename_i n' y' z
   obtain ⟨l,h1,h2,h3⟩:=ih
   have hp:mR c t (n'+1) z:=.step h hz
   refine ⟨z::l,by simp [h1],List.nodup_cons.2 ⟨fun hzl=>?_,h2⟩,fun a ha=>?_⟩
   ·obtain ⟨_, i, hi, hpi⟩ := h3 z hzl
    have:=hpi.deep hs ht hp
    omega
   ·rcases List.mem_cons.1 ha with rfl | ha
    ·exact ⟨iM hz,n'+1,Nat.le_refl _,hp⟩
    ·obtain ⟨q1, i, hi, hpi⟩ := h3 a ha
     exact ⟨q1,i,by omega,hpi⟩
 obtain ⟨l,h1,h2,h3⟩:=key
 have:=List.Nodup.length_le_of_subset h2 (fun a ha=>(h3 a ha).1)
 have hl:(ids c).length=c.length:=by simp [ids]
 omega
def iY (c:List Mg) (x:ByteArray):List ByteArray:=(kids c x).filter fun k => !lB c k
theorem vF {x y:ByteArray} (h:y∈iY c x):y∈kids c x:=(List.mem_filter.1 h).1
theorem Zq (x:ByteArray):(iY c x).length≤c.length:=Nat.le_trans (List.length_filter_le ..) (oC c x)
def cH (c : List Mg) : Nat → ByteArray → List ByteArray
 |0,_=>[]
 |n+1,x=>match iY c x with
  |[]=>[x]
  |k::l=>nW .str ((k::l).flatMap (cH c n))
def l8 (c:List Mg) (t:ByteArray):List ByteArray:=cH c (c.length+1) t
theorem Zr (hs:SI c) (x:ByteArray):(kids c x).Nodup:=by
 unfold kids List.Nodup
 rw [List.pairwise_map]
 refine List.Pairwise.imp (fun {a b} h e=>?_) (List.Pairwise.filter _ hs)
 rw [e,show slt b.1 b.1=false from fK (t:=.str) kS b.1] at h;cases h
theorem lW : ∀ {n : Nat} {x y : ByteArray}, y ∈ cH c n x → ko c x y
 |0,_,_,h=>by cases h
 |n+1,x,y,h=>by
  unfold cH at h
  split at h
  ·rw [List.mem_singleton] at h;subst h;exact .refl _
  ·rename_i k l hl
   rw [(eN (t:=.str) _).mem_iff,List.mem_flatMap] at h
   obtain ⟨a,ha,h⟩:=h
   exact .cons (vF (by rw [hl];exact ha)) (lW h)
theorem MP (hs : SI c) {t : ByteArray} (ht : Top c t) : ∀ {n d : Nat} {x : ByteArray}, mR c t d x → (cH c n x).Nodup
 |0,_,_,_=>.nil
 |n+1,d,x,hp=>by
  unfold cH
  split
  ·simp
  ·rename_i k l hl
   refine (eN (t:=.str) _).nodup_iff.2 ?_
   have hn:(k::l).Nodup:=by rw [←hl];exact List.Pairwise.filter _ (Zr hs x)
   have hk:∀a∈k::l,a∈kids c x:=fun a ha=>vF (by rw [hl];exact ha)
   refine List.pairwise_flatMap.2 ⟨fun a ha=>MP hs ht (hp.step (hk a ha)),List.Pairwise.imp_of_mem (fun {a b} ha hb hab=>?_) hn⟩
   intro y hya y' hyb e
   subst e
   obtain ⟨i,hi⟩:=(lW hya).pth
   obtain ⟨j,hj⟩:=(lW hyb).pth
   have h1:=(hp.step (hk a ha)).add hi
   have h2:=(hp.step (hk b hb)).add hj
   have:=h1.deep hs ht h2
   have he:i=j:=by omega
   subst he
   have:=hi.up hs hj (Nat.le_refl _)
   rw [Nat.sub_self] at this
   cases this
   exact hab rfl
theorem lX (hs:SI c) {t:ByteArray} (ht:Top c t) (Dn:t∈ids c) {n d:Nat} {x:ByteArray} (hp:mR c t d x):(cH c n x).length≤c.length:=by
 have h:=List.Nodup.length_le_of_subset (MP hs ht (n:=n) hp) (l₂:=ids c) fun y hy=>by
  have hd:ko c t y:=hp.desc.trans (lW hy)
  cases hd with
  |refl=>exact Dn
  |step _ hz=>exact iM hz
 have hl:(ids c).length=c.length:=by simp [ids]
 omega
end
end Go.Proofs.Tryz
end
section
namespace Go.Proofs.Tryz
open Go.AM
set_option maxRecDepth 100000
section
variable {c:List Mg}
theorem aiZ (hc:c.length<1000000) (x:ByteArray):∃b,b.take (iY c x).length=iY c x∧(iY c x).length≤b.length∧ai (FH104 x (bR c) (bM c) (cw c) (cQ c))=some (0,(iY c x).length,b,bR c,bM c,cw c,cQ c,()):=by
 have hk:=oC c x
 obtain ⟨b,h1,h2,h3⟩:=Zj (m3:=bR c) (m4:=bM c) (m5:=cw c) (m6:=cQ c) (l:=kids c x) (by omega)
 have hf:(kids c x).filter (fun v => !(ak .str false (cQ c) v))=iY c x:=List.filter_congr fun v _=>by rw [Df]
 rw [hf] at h2 h3
 refine ⟨b,h2,by rw [h1];exact List.length_filter_le ..,?_⟩
 unfold FH104
 simp only [az,vD]
 rw [ay (kH98 (by omega))]
 simp only
 rw [ay h3]
 rfl
abbrev D76:=Nat×List ByteArray×AX×HF×fe×fe×Unit
theorem Uu (hs:SI c) (hc:c.length<1000000) {t:ByteArray} (ht:Top c t) (Dn:t∈ids c):ai (FH76fix t (bR c) (bM c) (cw c) (cQ c))=some ((l8 c t).length,l8 c t,bR c,bM c,cw c,cQ c,()):=by
 have h0:ai (FH76fix t (bR c) (bM c) (cw c) (cQ c))=xu (A:=j5.T) (B:=j6.T) (fun r y=>run r (FH76 y.1 y.2.1 y.2.2.1 y.2.2.2.1 y.2.2.2.2.1)) (t,bR c,bM c,cw c,cQ c,()):=rfl
 refine h0.trans ?_
 refine Zp (A:=j5.T) (B:=j6.T) (fun n a b=>∃z d,a=(z,bR c,bM c,cw c,cQ c,())∧mR c t d z∧d+n=c.length∧b=((cH c (n+1) z).length,cH c (n+1) z,bR c,bM c,cw c,cQ c,())) ?_ c.length _ _ ⟨t,0,rfl,.zero,by omega,rfl⟩
 rintro rec n _ _ ⟨z,d,rfl,hp,hn,rfl⟩ ih
 have hshort:=hp.short hs ht Dn
 obtain ⟨b,iA,eB,Dk⟩:=aiZ hc z
 have yS:=Zq (c:=c) z
 have hvl:=lX hs ht Dn (n:=n+1) hp
 have e : (run rec (FH76 z (bR c) (bM c) (cw c) (cQ c)) : Option D76) = gK (ai (FH104 z (bR c) (bM c) (cw c) (cQ c))) fun y0 => vc (((y0.2.1 : Nat) : Int) == 0) (some (1, [z], y0.2.2.2.1, y0.2.2.2.2.1, y0.2.2.2.2.2.1, y0.2.2.2.2.2.2.1, ()))
   (gK (iter (fun a=>run rec (gH76_0 a)) (0,y0.1,y0.2.1,((y0.2.1:Nat):Int),(0:Int),[],y0.2.2.1,y0.2.2.2.1,y0.2.2.2.2.1,y0.2.2.2.2.2.1,y0.2.2.2.2.2.2.1,())) fun z2=>gK (ai (FH105 z2.1 z2.2.1)) fun y3=>some (z2.1,y3.1,z2.2.2.1,z2.2.2.2.1,z2.2.2.2.2.1,z2.2.2.2.2.2.1,())):=rfl
 refine Eq.trans (α:=Option D76) e ?_
 rw [ay Dk]
 simp only [bO]
 cases hl:iY c z with
 |nil =>
  have hv:cH c (n+1) z=[z]:=by unfold cH;rw [hl]
  rw [hv];rfl
 |cons k0 l0 =>
  have hlen:(iY c z).length=l0.length+1:=by rw [hl];rfl
  rw [←hl,if_neg (by omega)]
  have hv:cH c (n+1) z=nW .str ((iY c z).flatMap (cH c n)):=by
   conv=>lhs;unfold cH
   rw [hl]
  have hfl:((iY c z).flatMap (cH c n)).length≤c.length:=by
   have:=(eN (t:=.str) ((iY c z).flatMap (cH c n))).length_eq
   rw [←hv] at this
   omega
  have hit : iter (fun a => run rec (gH76_0 a)) (0, 0, (iY c z).length, (((iY c z).length : Nat) : Int), (0 : Int), [], b, bR c, bM c, cw c, cQ c, ()) = some (((iY c z).flatMap (cH c n)).length, (iY c z).flatMap (cH c n), bR c, bM c, cw c, cQ c, ()) := (bg (iY c z) (fun k (o : List ByteArray) => (o.length, 0, (iY c z).length, (((iY c z).length : Nat) : Int), (k : Int), o, b, bR c, bM c, cw c, cQ c, ())) (fun o r => ((o ++ r.flatMap (cH c n)).length, o ++ r.flatMap (cH c n), bR c, bM c, cw c, cQ c, ()))
   (fun pre o => o = pre.flatMap (cH c n)) (by
    rintro pre k post _ hx rfl
    have hlen:(iY c z).length=pre.length+(post.length+1):=by rw [hx];simp
    have hd:b.getD pre.length (bs [])=k:=by
     have:(b.take (iY c z).length).getD pre.length (bs [])=k:=by rw [iA,hx];exact bD rfl
     rw [getD_take (by omega)] at this;exact this
    have hkk:k∈kids c z:=vF (by rw [hx];simp)
    have i1:fZ (pre.length:Int) (((iY c z).length:Nat):Int)=true:=cD (by omega) (by omega)
    have r1:gZ .i64 ((pre.length:Int)+1)=true:=bh (by omega) (by omega)
    have d1:decide (pre.length<b.length)=true:=decide_eq_true (by omega)
    have hp':=hp.step hkk
    have hsh:=hp'.short hs ht Dn
    left
    refine ⟨pre.flatMap (cH c n)++cH c n k,?_,by simp,by simp [List.flatMap_cons]⟩
    have e2 : (run rec (gH76_0 ((pre.flatMap (cH c n)).length, 0, (iY c z).length, (((iY c z).length : Nat) : Int), (pre.length : Int), pre.flatMap (cH c n), b, bR c, bM c, cw c, cQ c, ()))) = vc (decide ((pre.length : Int) < (((iY c z).length : Nat) : Int))) (need (fZ (pre.length : Int) (((iY c z).length : Nat) : Int)) (need (decide (0 + Int.toNat (pre.length : Int) < b.length))
      (gK (rec (b.getD (0 + Int.toNat (pre.length : Int)) (bs []), bR c, bM c, cw c, cQ c, ()) : Option D76) fun y1 => need (decide ((pre.flatMap (cH c n)).length + ((y1.2.1.drop 0).take y1.1).length < cM)) (need (gZ .i64 ((pre.length : Int) + 1))
       (some (.inl ((pre.flatMap (cH c n)).length+((y1.2.1.drop 0).take y1.1).length,0,(iY c z).length,(((iY c z).length:Nat):Int),(pre.length:Int)+1,(((pre.flatMap (cH c n)).drop 0).take (pre.flatMap (cH c n)).length)++((y1.2.1.drop 0).take y1.1),b,y1.2.2.1,y1.2.2.2.1,y1.2.2.2.2.1,y1.2.2.2.2.2.1,())))))))
      (some (.inr ((pre.flatMap (cH c n)).length,pre.flatMap (cH c n),bR c,bM c,cw c,cQ c,()))):=rfl
    rw [e2,Int.toNat_natCast,Nat.zero_add,hd,i1,aA,d1,aA,bH,if_pos (by omega)]
    obtain ⟨n',rfl⟩:∃n',n=n'+1:=⟨n - 1,by omega⟩
    have hq:(rec (k,bR c,bM c,cw c,cQ c,()):Option D76)=some ((cH c (n'+1) k).length,cH c (n'+1) k,bR c,bM c,cw c,cQ c,()):=ih n' (k,bR c,bM c,cw c,cQ c,()) _ (by omega) ⟨k,d+1,rfl,hp',by omega,rfl⟩
    refine bind_eq (A:=D76) hq ?_
    simp only [List.drop_zero,List.take_length,r1,aA]
    have hle:(pre.flatMap (cH c (n'+1))).length+(cH c (n'+1) k).length≤c.length:=by
     have:((iY c z).flatMap (cH c (n'+1))).length=(pre.flatMap (cH c (n'+1))).length+((cH c (n'+1) k).length+(post.flatMap (cH c (n'+1))).length):=by rw [hx];simp
     omega
    rw [cq (show _<cM by rw [mL];omega)]
    simp only [List.length_append]
    rfl) (by
    rintro o _
    have e2 : (run rec (gH76_0 (o.length, 0, (iY c z).length, (((iY c z).length : Nat) : Int), (((iY c z).length : Nat) : Int), o, b, bR c, bM c, cw c, cQ c, ()))) = vc (decide ((((iY c z).length : Nat) : Int) < (((iY c z).length : Nat) : Int))) (need (fZ (((iY c z).length : Nat) : Int) (((iY c z).length : Nat) : Int)) (need (decide (0 + Int.toNat (((iY c z).length : Nat) : Int) < b.length))
      (gK (rec (b.getD (0 + Int.toNat (((iY c z).length : Nat) : Int)) (bs []), bR c, bM c, cw c, cQ c, ()) : Option D76) fun y1 => need (decide (o.length + ((y1.2.1.drop 0).take y1.1).length < cM)) (need (gZ .i64 ((((iY c z).length : Nat) : Int) + 1))
       (some (.inl (o.length+((y1.2.1.drop 0).take y1.1).length,0,(iY c z).length,(((iY c z).length:Nat):Int),(((iY c z).length:Nat):Int)+1,((o.drop 0).take o.length)++((y1.2.1.drop 0).take y1.1),b,y1.2.2.1,y1.2.2.2.1,y1.2.2.2.2.1,y1.2.2.2.2.2.1,())))))))
      (some (.inr (o.length,o,bR c,bM c,cw c,cQ c,()))):=rfl
    rw [e2,bH,if_neg (by omega)]
    simp) (s:=[]) rfl)
  refine bind_eq (A:=Nat×List ByteArray×AX×HF×fe×fe×Unit) hit ?_
  simp only [FH105,xy]
  have hsrt:uK .str ((iY c z).flatMap (cH c n)) ((iY c z).flatMap (cH c n)).length=some (nW .str ((iY c z).flatMap (cH c n)),()):=oB kS (eN _) (tu kS _) (by omega)
  refine bind_eq hsrt ?_
  rw [hv]
  have hpl:=(eN (t:=.str) ((iY c z).flatMap (cH c n))).length_eq
  rw [hpl]
  rfl
end
end Go.Proofs.Tryz
end
section
namespace Go.Proofs.Tryz
open Go.AM
set_option maxRecDepth 100000
def msg (c:List Mg) (x:ByteArray):Mg:=ak .str zM (bR c) x
def qB (c:List Mg) (x:ByteArray):Bool:=aL .str (bR c) x
section
variable {c:List Mg}
theorem cg {x:ByteArray}:qB c x=true↔x∈ids c:=by
 unfold qB ids
 rw [dc kS]
 constructor
 ·rintro ⟨v, hv⟩
  obtain ⟨m,hm,h⟩:=List.mem_map.1 hv
  exact List.mem_map.2 ⟨m,hm,congrArg Prod.fst h⟩
 ·intro h
  obtain ⟨m,hm,rfl⟩:=List.mem_map.1 h
  exact ⟨m,List.mem_map.2 ⟨m,hm,rfl⟩⟩
theorem iZ (hs:SI c) {m:Mg} (hm:m∈c):msg c m.1=m:=fD kS hs.cam (List.mem_map.2 ⟨m,hm,rfl⟩)
theorem Dg (hs:SI c) {x:ByteArray} (h:qB c x=true):msg c x∈c∧(msg c x).1=x:=by
 obtain ⟨m,hm,rfl⟩:=List.mem_map.1 (cg.1 h)
 rw [iZ hs hm];exact ⟨hm,rfl⟩
theorem kr (hs:SI c) {x:ByteArray} (h:qB c x=true) (hk:(msg c x).2.1=1):Top c x:=by
 intro y hy
 obtain ⟨m,hm,h1,h2,_⟩:=kq.1 hy
 subst h1
 rw [iZ hs hm] at hk
 omega
def zL (c : List Mg) : Nat → ByteArray → Option ByteArray
 |0,_=>none
 |n+1,x=>if qB c x=true then (if (msg c x).2.1=3 then none else if lB c x=true then none else if (msg c x).2.1=1 then some x else zL c n (msg c x).2.2.1) else none
theorem Hj (hs : SI c) : ∀ {n : Nat} {x t : ByteArray}, zL c n x = some t → qB c t = true ∧ (msg c t).2.1 = 1 ∧ lB c t = false
 |0,_,_,h=>by cases h
 |n+1,x,t,h=>by
  unfold zL at h
  split at h<;>try (cases h;done)
  rename_i h1
  split at h<;>try (cases h;done)
  split at h<;>try (cases h;done)
  rename_i h3
  split at h
  ·rename_i h4;cases h;exact ⟨h1,h4,by simpa using h3⟩
  ·exact Hj hs h
abbrev Dh (c:List Mg) (x:ByteArray):Option ByteArray:=zL c c.length x
theorem kH74 (hs:SI c) (hc:c.length<1000000) (x:ByteArray):ai (FH74 x (bR c) (bM c) (cw c) (cQ c)) =
  some (match Dh c x with|some t=>((l8 c t).length,true,l8 c t,bR c,bM c,cw c,cQ c,())|none=>(0,false,[],bR c,bM c,cw c,cQ c,())):=by
 have key:∀(l:List (ByteArray×Mg)) (x:ByteArray),∃x',zm (fun e a=>run (fun _=>none) (gH74_0 e a)) l (x,bR c,bM c,cw c,cQ c,()) =
   some (match zL c l.length x with|some t=>.inr ((l8 c t).length,true,l8 c t,bR c,bM c,cw c,cQ c,())|none=>x') ∧
   (zL c l.length x=none→x' = .inr (0,false,[],bR c,bM c,cw c,cQ c,())∨∃y,x' = .inl (y,bR c,bM c,cw c,cQ c,())):=by
  intro l
  induction l with
  |nil=>intro x;exact ⟨.inl (x,bR c,bM c,cw c,cQ c,()),rfl,fun _=>.inr ⟨x,rfl⟩⟩
  |cons e l ih =>
   intro x
   have hg:run (fun _=>none) (gH74_0 e (x,bR c,bM c,cw c,cQ c,()))=if qB c x=true then (if (msg c x).2.1=3 then some (.inr (0,false,[],bR c,bM c,cw c,cQ c,())) else if lB c x=true then some (.inr (0,false,[],bR c,bM c,cw c,cQ c,())) else if (msg c x).2.1=1 then some (.inr ((l8 c x).length,true,l8 c x,bR c,bM c,cw c,cQ c,())) else some (.inl ((msg c x).2.2.1,bR c,bM c,cw c,cQ c,()))) else some (.inr (0,false,[],bR c,bM c,cw c,cQ c,())):=by
    simp only [gH74_0,ax,az,bt,aa,dn,aA,bU,bO,Df]
    rw [show aL .str (bR c) x=qB c x from rfl,show ak .str zM (bR c) x=msg c x from rfl,mU]
    split
    ·rename_i h1
     split
     ·rfl
     ·rw [mU]
      split
      ·rfl
      ·split
       ·rename_i h4
        rw [ay (Uu hs hc (kr hs h1 h4) (cg.1 h1))]
       ·rfl
    ·rfl
   simp only [zm,hg,List.length_cons,zL]
   by_cases h1:qB c x=true
   ·rw [if_pos h1, if_pos h1]
    by_cases h2:(msg c x).2.1=3
    ·rw [if_pos h2,if_pos h2];exact ⟨_,rfl,fun _=>.inl rfl⟩
    ·rw [if_neg h2, if_neg h2]
     by_cases h3:lB c x=true
     ·rw [if_pos h3,if_pos h3];exact ⟨_,rfl,fun _=>.inl rfl⟩
     ·rw [if_neg h3, if_neg h3]
      by_cases h4:(msg c x).2.1=1
      ·rw [if_pos h4,if_pos h4];exact ⟨.inr (0,false,[],bR c,bM c,cw c,cQ c,()),rfl,fun h=>by cases h⟩
      ·rw [if_neg h4,if_neg h4];exact ih _
   ·rw [if_neg h1,if_neg h1];exact ⟨_,rfl,fun _=>.inl rfl⟩
 unfold FH74
 simp only [az]
 have hmp:∃x',run (fun _=>none) (.mp gH74_0 (bR c) (x,bR c,bM c,cw c,cQ c,()))=some (match Dh c x with|some t=>.inr ((l8 c t).length,true,l8 c t,bR c,bM c,cw c,cQ c,())|none=>x') ∧
   (Dh c x=none→x' = .inr (0,false,[],bR c,bM c,cw c,cQ c,())∨∃y,x' = .inl (y,bR c,bM c,cw c,cQ c,())):=by
  obtain ⟨x',h1,h2⟩:=key (bR c) x
  have hlen:(bR c).length=c.length:=List.length_map ..
  rw [hlen] at h1 h2
  refine ⟨x',Eq.trans ac1 (gj fun l hp=>?_),h2⟩
  have yS:l.length=(bR c).length:=hp.length_eq
  have hany:∀(l l':List (ByteArray×Mg)) (a:ByteArray×AX×HF×fe×fe×Unit),l.length=l'.length→zm (fun e a=>run (fun _=>none) (gH74_0 e a)) l a=zm (fun e a=>run (fun _=>none) (gH74_0 e a)) l' a:=by
   intro l
   induction l with
   |nil =>
    intro l' a h
    cases l' with
    |nil=>rfl
    |cons _ _=>simp at h
   |cons e l ih =>
    intro l' a h
    cases l' with
    |nil=>simp at h
    |cons e' l' =>
     have hs:run (fun _=>none) (gH74_0 e a)=run (fun _=>none) (gH74_0 e' a):=rfl
     simp only [zm,hs]
     split
     ·rfl
     ·exact ih l' _ (by simpa using h)
     ·rfl
  rw [hany l (bR c) _ yS]
  exact h1
 obtain ⟨x',h1,h2⟩:=hmp
 rw [ay h1]
 cases hst:Dh c x with
 |some t=>simp only [nU,aa]
 |none =>
  rcases h2 hst with rfl|⟨y,rfl⟩
  ·simp only [nU,aa]
  ·simp only [tn,aa]
def Uv (x:ByteArray) (l:List ByteArray):Bool:=l.any fun y=>decide (y=x)
theorem Hl {x:ByteArray} {l:List ByteArray}:Uv x l=true↔x∈l:=by
 unfold Uv;rw [List.any_eq_true]
 constructor
 ·rintro ⟨y,hy,h⟩;have:=of_decide_eq_true h;subst this;exact hy
 ·intro h;exact ⟨x,h,decide_eq_true rfl⟩
theorem k75 {l:List ByteArray} (hl:l.length<1000000000) (x:ByteArray):ai (F75 l x)=some (Uv x l,()):=by
 have hi:iter (fun a=>run (fun _=>none) (g103_0 a)) (l,x,((l.length:Nat):Int),(0:Int),())=some (match ef (fun y=>decide (y=x)) 0 l with|some k=>Sum.inl (((k:Nat):Int),())|none=>Sum.inr ()):=by
  refine bg l (fun k (_:Nat)=>(l,x,((l.length:Nat):Int),(k:Int),())) (fun k r=>match ef (fun y=>decide (y=x)) k r with|some k=>Sum.inl (((k:Nat):Int),())|none=>Sum.inr ()) (fun pre k=>k=pre.length) ?_ ?_ (s:=0) rfl
  ·rintro pre y post k hx rfl
   have hlen:l.length=pre.length+(post.length+1):=by rw [hx];simp
   have hd:l.getD pre.length (bs [])=y:=by rw [hx];exact bD rfl
   have i1:fZ (pre.length:Int) ((l.length:Nat):Int)=true:=cD (by omega) (by omega)
   have r1:gZ .i64 ((pre.length:Int)+1)=true:=bh (by omega) (by omega)
   simp only [g103_0,ax,bQ,bu,aa,Int.toNat_natCast,hd,i1,r1,aA,bH,seq_eq]
   rw [if_pos (by omega)]
   by_cases h:y=x
   ·right
    rw [if_pos h.symm]
    simp [ef,h]
   ·left
    refine ⟨pre.length+1,?_,by simp,?_⟩
    ·rw [if_neg (fun e=>h e.symm)];rfl
    ·simp [ef,h]
  ·rintro k _
   simp only [g103_0,ax,bH,aa]
   rw [if_neg (by omega)];rfl
 unfold F75 F103
 simp only [az,bW]
 rcases k5 (fun y=>decide (y=x)) l 0 with ⟨p,y,q,h1,h2,h3,h4⟩|⟨h1,h2⟩
 ·rw [h4] at hi
  rw [ay hi]
  have hy:y=x:=by simpa using h3
  simp only [tn,aa,aD]
  congr 2
  rw [Bool.eq_iff_iff,decide_eq_true_eq,Hl]
  exact ⟨fun _=>by rw [h1,hy];simp,fun _=>by omega⟩
 ·rw [h2] at hi
  rw [ay hi]
  simp only [nU,aa,aD]
  congr 2
  rw [Bool.eq_iff_iff,decide_eq_true_eq,Hl]
  refine ⟨fun h=>by omega,fun h=>?_⟩
  have:=h1 x h
  simp at this
def fW (c:List Mg) (x:ByteArray):Int×Int :=
 if qB c x=true then (if (msg c x).2.1=3 then (0,18) else if lB c x=true then (2,0) else match Dh c x with
  |none=>(1,0)
  |some t=>if Uv x (l8 c t)=true then (if 1<(l8 c t).length then (5,0) else (4,0)) else (3,0)) else (0,5)
def A2 (c:List Mg) (x:ByteArray):List ByteArray×Int:=if qB c x=true then (if (msg c x).2.1=1 then (l8 c x,0) else ([],18)) else ([],5)
theorem oZ {L:List Mg} (h:kB L):(cnt L).length≤60:=by
 have hn:(cnt L).Nodup:=List.Pairwise.imp (fun {a b} h e=>by subst e;rw [show slt a.1 a.1=false from fK (t:=.str) kS a.1] at h;cases h) (gX L)
 have:=List.Nodup.length_le_of_subset hn (fun m hm=>vC hm)
 have:=h.len
 omega
theorem kH32 {L:List Mg} (h:kB L) (x:ByteArray):ai (FH32 x (bk L))=some ((fW (cnt L) x).1,(fW (cnt L) x).2,bk L,()):=by
 have hs:=gX L
 have hc:=oZ h
 unfold FH32
 simp only [az,yG,aD,ax,bV]
 rw [ay (Ut h)]
 simp only [aa,bU,bO,Df]
 rw [show aL .str (bR (cnt L)) x=qB (cnt L) x from rfl,show ak .str zM (bR (cnt L)) x=msg (cnt L) x from rfl,mU]
 unfold fW
 by_cases h1:qB (cnt L) x=true
 ·rw [if_pos h1, if_pos h1, if_pos trivial]
  by_cases h2:(msg (cnt L) x).2.1=3
  ·rw [if_pos h2,if_pos h2]
  ·rw [if_neg h2, if_neg h2, mU]
   by_cases h3:lB (cnt L) x=true
   ·rw [if_pos h3,if_pos h3]
   ·rw [if_neg h3, if_neg h3]
    rw [ay (kH74 hs (by omega) x)]
    cases hst:Dh (cnt L) x with
    |none=>simp
    |some t =>
     obtain ⟨ht1,ht2,_⟩:=Hj hs hst
     have hvl:(l8 (cnt L) t).length≤(cnt L).length:=lX hs (kr hs ht1 ht2) (cg.1 ht1) .zero
     simp only [aP,List.drop_zero,List.take_length]
     rw [ay (k75 (by omega) x)]
     rw [mU]
     simp only [bH]
     by_cases h4:Uv x (l8 (cnt L) t)=true
     ·rw [if_pos h4, if_pos h4]
      by_cases h5:1<(l8 (cnt L) t).length
      ·rw [if_pos (by omega),if_pos h5]
      ·rw [if_neg (by omega),if_neg h5]
     ·rw [if_neg h4,if_neg h4]
 ·rw [if_neg h1,if_neg h1,if_neg (by omega)]
theorem kH33 {L:List Mg} (h:kB L) (x:ByteArray):ai (FH33 x (bk L))=some ((A2 (cnt L) x).1.length,(A2 (cnt L) x).2,(A2 (cnt L) x).1,bk L,()):=by
 have hs:=gX L
 have hc:=oZ h
 unfold FH33
 simp only [az,yG,aD,ax,bV]
 rw [ay (Ut h)]
 simp only [aa,bU,bO]
 rw [show aL .str (bR (cnt L)) x=qB (cnt L) x from rfl,show ak .str zM (bR (cnt L)) x=msg (cnt L) x from rfl,mU]
 unfold A2
 by_cases h1:qB (cnt L) x=true
 ·rw [if_pos h1, if_pos h1, if_pos trivial]
  by_cases h2:(msg (cnt L) x).2.1=1
  ·rw [if_pos h2,if_pos h2,ay (Uu hs (by omega) (kr hs h1 h2) (cg.1 h1))]
  ·rw [if_neg h2,if_neg h2];rfl
 ·rw [if_neg h1,if_neg h1,if_neg (by omega)];rfl
theorem Ku {L:List Mg} (h:kB L) (x:ByteArray) (n:Int):ai (FH40 x n (bk L))=some (decide (fW (cnt L) x=(n,0)),bk L,()):=by
 unfold FH40
 simp only [az]
 rw [ay (kH32 h x)]
 simp only [ax,aa,bO]
 by_cases h1:(fW (cnt L) x).2=0
 ·rw [if_pos h1]
  congr 2
  rw [Bool.eq_iff_iff,beq_iff_eq,decide_eq_true_eq]
  exact ⟨fun h=>Prod.ext h h1,fun h=>by rw [h]⟩
 ·rw [if_neg h1]
  congr 2
  exact (decide_eq_false fun h=>h1 (by rw [h])).symm
end
end Go.Proofs.Tryz
end
section
namespace Go.Proofs.Tryz
open Go.AM
set_option maxRecDepth 100000
abbrev Zs:=List (Int×Unit)
abbrev kI:bx (.int .i64)=some [.i]:=rfl
def lY (l:Zs) (n:Int) (nx:Zs):Zs:=l.foldl (fun nx e=>aS (.int .i64) nx (e.1+n) ()) nx
def CZ (z:Zs):Prop:=gw (.int .i64) z
def vG (Z:Zs) (z:Int):Prop:=(z,())∈Z
theorem CZ.put {Z:Zs} (h:CZ Z) (z:Int):CZ (aS (.int .i64) Z z ()):=gw.gL kI h
theorem vH {Z:Zs} (h:CZ Z) {z y:Int}:vG (aS (.int .i64) Z z ()) y↔y=z∨vG Z y:=by
 unfold vG
 rw [fE kI h]
 constructor
 ·rintro (e | ⟨h, _⟩)
  ·cases e;exact .inl rfl
  ·exact .inr h
 ·by_cases e : y = z
  ·subst e;exact fun _=>.inl rfl
  ·rintro (e' | h)
   ·exact absurd e' e
   ·exact .inr ⟨h,e⟩
theorem k6 {n : Int} : ∀ {l nx : Zs}, CZ nx → CZ (lY l n nx) ∧ ∀ z, vG (lY l n nx) z ↔ vG nx z ∨ ∃ x, vG l x ∧ z = x + n
 |[],nx,h=>⟨h,fun z=>by simp [lY,vG]⟩
 |e::l,nx,h=>by
  obtain ⟨h1,h2⟩:=k6 (n:=n) (l:=l) (h.put (e.1+n))
  refine ⟨h1,fun z=>?_⟩
  have h3:lY (e::l) n nx=lY l n (aS (.int .i64) nx (e.1+n) ()):=rfl
  rw [h3,h2,vH h]
  constructor
  ·rintro ((h | h) | ⟨x, hx, h⟩)
   ·exact .inr ⟨e.1,List.mem_cons_self ..,h⟩
   ·exact .inl h
   ·exact .inr ⟨x,List.mem_cons_of_mem _ hx,h⟩
  ·rintro (h | ⟨x, hx, h⟩)
   ·exact .inl (.inr h)
   ·rcases List.mem_cons.1 hx with e' | hx
    ·exact .inl (.inl (by rw [h,←e']))
    ·exact .inr ⟨x,hx,h⟩
theorem CZ.ext {Z Z':Zs} (h:CZ Z) (h':CZ Z') (hz:∀z,vG Z z↔vG Z' z):Z=Z':=MF kI h h' fun e=>hz e.1
theorem A3 {l l' nx:Zs} {n:Int} (h:CZ nx) (hp:l.Perm l'):lY l n nx=lY l' n nx :=
 (k6 h).1.ext (k6 h).1 fun z=>by
  rw [(k6 h).2,(k6 h).2]
  exact or_congr_right ⟨fun ⟨x,hx,e⟩=>⟨x,hp.mem_iff.1 hx,e⟩,fun ⟨x,hx,e⟩=>⟨x,hp.mem_iff.2 hx,e⟩⟩
def lZ (f:ByteArray→Int) (can:Zs) (vs:List ByteArray):Zs:=vs.foldl (fun nx v=>lY can (f v) nx) []
theorem Ho {f : ByteArray → Int} {can : Zs} : ∀ {vs : List ByteArray} {nx : Zs}, CZ nx → CZ (vs.foldl (fun nx v => lY can (f v) nx) nx) ∧ ∀ z, vG (vs.foldl (fun nx v => lY can (f v) nx) nx) z ↔ vG nx z ∨ ∃ v ∈ vs, ∃ x, vG can x ∧ z = x + f v
 |[],nx,h=>⟨h,fun z=>by simp⟩
 |v::vs,nx,h=>by
  obtain ⟨h1,h2⟩:=k6 (n:=f v) (l:=can) h
  obtain ⟨h3,h4⟩:=Ho (f:=f) (can:=can) (vs:=vs) h1
  refine ⟨h3,fun z=>?_⟩
  rw [List.foldl_cons,h4,h2]
  simp only [List.mem_cons,exists_eq_or_imp,or_assoc]
theorem ku {f:ByteArray→Int} {can:Zs} {vs:List ByteArray}:CZ (lZ f can vs)∧∀z,vG (lZ f can vs) z↔∃v∈vs,∃x,vG can x∧z=x+f v:=by
 obtain ⟨h1,h2⟩:=Ho (f:=f) (can:=can) (vs:=vs) (nx:=[]) .nil
 exact ⟨h1,fun z=>(h2 z).trans (by simp [vG])⟩
def uz (c:List Mg):List ByteArray:=(c.filter fun m=>decide (m.2.1=1)).map (·.1)
def l5 (c:List Mg) (f:ByteArray→Int) (ts:List ByteArray) (can:Zs):Zs:=ts.foldl (fun can t=>lZ f can (l8 c t)) can
def ei:Zs:=aS (.int .i64) [] 0 ()
def k7 (c:List Mg) (f:ByteArray→Int):List Int:=(l5 c f (uz c) ei).map (·.1)
theorem cU:CZ ei∧∀z,vG ei z↔z=0:=⟨CZ.put .nil 0,fun z=>(vH .nil).trans (by simp [vG])⟩
theorem vI {c : List Mg} {f : ByteArray → Int} : ∀ {ts : List ByteArray} {can : Zs}, CZ can → CZ (l5 c f ts can)
 |[],_,h=>h
 |t::ts,can,_=>vI (ts:=ts) ku.1
def BZ (B:Int) (Z:Zs):Prop:=∀z,vG Z z → -B≤z∧z≤B
theorem sw {f:ByteArray→Int} {can:Zs} {vs:List ByteArray} {B:Int} (h:BZ B can) (hf:∀v∈vs,-1000≤f v∧f v≤1000):BZ (B+1000) (lZ f can vs):=fun z hz=>by
 obtain ⟨v,hv,x,hx,rfl⟩:=(ku.2 z).1 hz
 have:=h x hx;have:=hf v hv;omega
section
variable {c:List Mg}
theorem MQ (hs:SI c) {t v:ByteArray} (ht:qB c t=true) (hk:(msg c t).2.1=1) (hv:v∈l8 c t):qB c v=true∧((msg c v).2.1=1∨(msg c v).2.1=2):=by
 have hd:=lW hv
 cases hd with
 |refl=>exact ⟨ht,.inl hk⟩
 |step _ hz =>
  obtain ⟨m,hm,h1,h2,_⟩:=kq.1 hz
  subst h1
  exact ⟨cg.2 (List.mem_map.2 ⟨m,hm,rfl⟩),.inr (by rw [iZ hs hm];exact h2)⟩
theorem Zt {m:Mg} (h:tF m=0) (hk:m.2.1=1∨m.2.1=2) : -1000≤m.2.2.2.2∧m.2.2.2.2≤1000:=by
 unfold tF at h
 split at h
 ·cases h
 split at h
 ·unfold zK at h
  have h3:oz m=0:=by
   by_cases h1:sn m=0
   ·by_cases h2 : oz m = 0
    ·exact h2
    ·simp [h1,h2] at h
   ·simp [h1] at h
  unfold oz at h3
  rw [if_neg (by omega)] at h3
  split at h3
  ·split at h3
   ·assumption
   ·cases h3
  ·cases h3
 ·cases h
def fA (c:List Mg) (a v:ByteArray):Int:=if (msg c v).2.2.2.1=a then (msg c v).2.2.2.2 else 0
def fT (c:List Mg) (v:ByteArray):Int:=(msg c v).2.2.2.2
def Bnd (c:List Mg) (f:ByteArray→Int):Prop:=∀t v,qB c t=true→(msg c t).2.1=1→v∈l8 c t → -1000≤f v∧f v≤1000
theorem bndT (hs:SI c) (hc:∀m∈c,tF m=0):Bnd c (fT c):=fun t v h1 h2 h3=>by
 obtain ⟨h4,h5⟩:=MQ hs h1 h2 h3
 exact Zt (hc _ (Dg hs h4).1) h5
theorem bndA (hs:SI c) (hc:∀m∈c,tF m=0) (a:ByteArray):Bnd c (fA c a):=fun t v h1 h2 h3=>by
 have:=bndT hs hc t v h1 h2 h3
 unfold fA;unfold fT at this
 split<;>omega
theorem k68 (m:Mg) (a:ByteArray):ai (F68 m a)=some (if m.2.2.2.1=a then m.2.2.2.2 else 0,()):=by
 simp only [F68,ax,aa,bU,seq_eq,bH]
 split<;>rfl
theorem k78 (m:Mg):ai (F78 m)=some (m.2.2.2.2,()):=rfl
theorem MR (z:Int) (m:Zs):ai (FH100 z m)=some (aS (.int .i64) m z (),()):=rfl
theorem abH {Z:Zs} (h:CZ Z) (hl:Z.length<1000000000):ai (FH102 Z)=some (Z.length,Z.map (·.1),Z,()):=by
 unfold FH102
 refine Eq.trans B5 (gj fun l hp=>?_)
 have yS:l.length=Z.length:=hp.length_eq
 simp only [az,B6]
 refine bind_eq (sq (m:=Z) (l:=l) (by rw [yS];exact hl) fun e n b hn=>?_) ?_
 ·simp only [gH102f121f133_0i_0, bt, aa, dn, aA]
  rw [cq (show _<cM by rw [mL];simp;omega)]
  rfl
 ·simp only [FH122, xy]
  have hpk:(Z.map (·.1)).Perm (l.map (·.1)):=(hp.map (·.1)).symm
  have:=oB kI hpk (gw.keys kI h) (by rw [List.length_map];omega)
  rw [List.length_map] at this
  rw [ay this,yS]
  rfl
theorem Kv {Z:Zs} {B:Nat} (h:CZ Z) (hb:BZ (B:Int) Z):Z.length≤2 * B+1:=by
 have hn:(Z.map (·.1)).Nodup:=by
  unfold List.Nodup
  rw [List.pairwise_map]
  exact List.Pairwise.imp (fun {a b} h e=>by rw [e,fK kI] at h;cases h) h
 have h2:((Z.map (·.1)).map fun z:Int=>(z+(B:Int)).toNat).Nodup:=by
  unfold List.Nodup
  rw [List.pairwise_map]
  refine List.Pairwise.imp_of_mem (fun {a b} ha hb' hab e=>hab ?_) hn
  obtain ⟨p,hp,rfl⟩:=List.mem_map.1 ha
  obtain ⟨q,hq,rfl⟩:=List.mem_map.1 hb'
  have h3:=hb p.1 hp
  have h4:=hb q.1 hq
  omega
 have:=List.Nodup.length_le_of_subset h2 (l₂:=List.range (2 * B+1)) fun z hz=>by
  obtain ⟨y,hy,rfl⟩:=List.mem_map.1 hz
  obtain ⟨p,hp,rfl⟩:=List.mem_map.1 hy
  have h3:=hb p.1 hp
  rw [List.mem_range];omega
 simpa using this
theorem kA67 {a:ByteArray} {nv:Nat} {w1 w2 n:Int} {pq iO:List ByteArray} {can nx:Zs} (hx:CZ nx) (hb:BZ 1000000 can) (hn : -1000≤n∧n≤1000):ai (gH67_0b_2 (nv,w1,w2,n,pq,bR c,bM c,cw c,cQ c,a,iO,can,nx,()))=some (nv,w1,w2,pq,bR c,bM c,cw c,cQ c,a,iO,can,lY can n nx,()):=by
 unfold gH67_0b_2
 simp only [az]
 refine bind_eq (Eq.trans Iw (gj (b:=(nv,w1,w2,can,bR c,bM c,cw c,cQ c,a,n,pq,iO,lY can n nx,())) fun l hp=>?_)) rfl
 have key:∀(l:Zs) (nx:Zs),(∀e∈l,e∈can)→Ao (fun e a=>run (fun _=>none) (gH67_0b_2i_0 e a)) l (nv,w1,w2,can,bR c,bM c,cw c,cQ c,a,n,pq,iO,nx,())=some (nv,w1,w2,can,bR c,bM c,cw c,cQ c,a,n,pq,iO,lY l n nx,()):=by
  intro l
  induction l with
  |nil=>intro nx _;rfl
  |cons e l ih =>
   intro nx hm
   have hz:=hb e.1 (hm e (List.mem_cons_self ..))
   have hs:run (fun _=>none) (gH67_0b_2i_0 e (nv,w1,w2,can,bR c,bM c,cw c,cQ c,a,n,pq,iO,nx,()))=some (nv,w1,w2,can,bR c,bM c,cw c,cQ c,a,n,pq,iO,aS (.int .i64) nx (e.1+n) (),()):=by
    simp only [gH67_0b_2i_0,bu,az,bt,aa,MR,aD,dn,aA]
    rw [fQ (bh (by omega) (by omega))]
   simp only [Ao,hs]
   exact ih _ fun e he=>hm e (List.mem_cons_of_mem _ he)
 rw [key l nx fun e he=>hp.mem_iff.1 he,A3 hx hp]
theorem kB67 {a:ByteArray} {iO:List ByteArray} {can:Zs} {vs:List ByteArray} (hvl:vs.length<1000000) (hb:BZ 1000000 can) (hf:∀v∈vs,-1000≤fA c a v∧fA c a v≤1000) :
  iter (fun x=>ai (gH67_0b_1 x)) (vs.length,((vs.length:Nat):Int),(0:Int),vs,bR c,bM c,cw c,cQ c,a,iO,can,[],())=some (bR c,bM c,cw c,cQ c,a,iO,vs,can,lZ (fA c a) can vs,()):=by
 refine bg vs (fun k (nx:Zs)=>(vs.length,((vs.length:Nat):Int),(k:Int),vs,bR c,bM c,cw c,cQ c,a,iO,can,nx,())) (fun nx r=>(bR c,bM c,cw c,cQ c,a,iO,vs,can,r.foldl (fun nx v=>lY can (fA c a v) nx) nx,())) (fun _ nx=>CZ nx) ?_ ?_ (s:=[]) .nil
 ·intro pre v post nx hx K3
  have hlen:vs.length=pre.length+(post.length+1):=by rw [hx];simp
  have hd:vs.getD pre.length (bs [])=v:=by rw [hx];exact bD rfl
  have i1:fZ (pre.length:Int) ((vs.length:Nat):Int)=true:=cD (by omega) (by omega)
  have r1:gZ .i64 ((pre.length:Int)+1)=true:=bh (by omega) (by omega)
  have d1:decide (pre.length<vs.length)=true:=decide_eq_true (by omega)
  left
  refine ⟨lY can (fA c a v) nx,?_,(k6 K3).1,rfl⟩
  simp only [gH67_0b_1,ax,bQ,bt,bu,az,aa,Int.toNat_natCast,Nat.zero_add,hd,i1,d1,aA,bH,FH101,FH120,aD]
  rw [if_pos (by omega)]
  rw [ay (show ai (F68 ((ak .str zM (bR c) v).1,(ak .str zM (bR c) v).2.1,(ak .str zM (bR c) v).2.2.1,(ak .str zM (bR c) v).2.2.2.1,(ak .str zM (bR c) v).2.2.2.2) a)=some (fA c a v,()) from k68 _ _)]
  rw [ay (kA67 K3 hb (hf v (by rw [hx];simp)))]
  simp only [r1,aA]
  rfl
 ·intro nx _
  simp only [gH67_0b_1,ax,aa,bH]
  rw [if_neg (by omega)]
  rfl
theorem kC67 {a:ByteArray} (hs:SI c) (hl:c.length≤60) (hB:Bnd c (fA c a)):iter (fun x=>ai (gH67_0i_0 x)) (c.length,((c.length:Nat):Int),(0:Int),c.map (·.1),bR c,bM c,cw c,cQ c,a,ei,()) =
  some (bR c,bM c,cw c,cQ c,a,l5 c (fA c a) (uz c) ei,()):=by
 have yS:(c.map (·.1)).length=c.length:=List.length_map ..
 refine bg c (fun k (can:Zs)=>(c.length,((c.length:Nat):Int),(k:Int),c.map (·.1),bR c,bM c,cw c,cQ c,a,can,())) (fun can r=>(bR c,bM c,cw c,cQ c,a,l5 c (fA c a) ((r.filter fun m=>decide (m.2.1=1)).map (·.1)) can,())) (fun pre can=>CZ can∧BZ (1000 * (pre.length:Int)) can) ?_ ?_ (s:=ei) ⟨cU.1,fun z hz=>by rw [(cU.2 z).1 hz];simp⟩
 ·rintro pre m post can hx ⟨Zu, hbz⟩
  have hlen:c.length=pre.length+(post.length+1):=by rw [hx];simp
  have hm:m∈c:=by rw [hx];simp
  have hd:(c.map (·.1)).getD pre.length (bs [])=m.1:=by rw [hx,List.map_append,List.map_cons];exact bD (by simp)
  have hg:ak .str zM (bR c) m.1=m:=iZ hs hm
  have i1:fZ (pre.length:Int) ((c.length:Nat):Int)=true:=cD (by omega) (by omega)
  have r1:gZ .i64 ((pre.length:Int)+1)=true:=bh (by omega) (by omega)
  have d1:decide (pre.length<(c.map (·.1)).length)=true:=decide_eq_true (by omega)
  have hpl:((pre++[m]).length:Int)=(pre.length:Int)+1:=by simp
  left
  by_cases hk:m.2.1=1
  ·have him : qB c m.1 = true := cg.2 (List.mem_map.2 ⟨m, hm, rfl⟩)
   have hkm:(msg c m.1).2.1=1:=by rw [iZ hs hm];exact hk
   have hvl:(l8 c m.1).length≤c.length:=lX hs (kr hs him hkm) (cg.1 him) .zero
   refine ⟨lZ (fA c a) can (l8 c m.1),?_,⟨ku.1,?_⟩,?_⟩
   ·simp only [gH67_0i_0, ax, bQ, bt, bu, az, bW, aa, Int.toNat_natCast, Nat.zero_add, hd, hg, i1, d1, aA, bH, bO]
    rw [if_pos (by omega),if_pos hk,ay (Uu hs (by omega) (kr hs him hkm) (cg.1 him))]
    rw [ay (kB67 (vs:=l8 c m.1) (by omega) (fun z hz=>by have:=hbz z hz;omega) (fun v hv=>hB m.1 v him hkm hv))]
    simp only [r1,aA]
    rfl
   ·have := sw (f := (fA c a)) (vs := l8 c m.1) hbz fun v hv => hB m.1 v him hkm hv
    intro z hz
    have:=this z hz
    omega
   ·rw [List.filter_cons_of_pos (by simpa using hk)]
    rfl
  ·refine ⟨can, ?_, ⟨Zu, fun z hz => by have := hbz z hz; omega⟩, ?_⟩
   ·simp only [gH67_0i_0, ax, bQ, bt, bu, az, bW, aa, Int.toNat_natCast, Nat.zero_add, hd, hg, i1, d1, r1, aA, bH, bO]
    rw [if_pos (by omega),if_neg hk]
    rfl
   ·rw [List.filter_cons_of_neg (by simpa using hk)]
 ·rintro can _
  simp only [gH67_0i_0,ax,aa,bH]
  rw [if_neg (by omega)]
  rfl
theorem kH67 {a:ByteArray} (hs:SI c) (hl:c.length≤60) (hB:Bnd c (fA c a)):ai (FH67 a (bR c) (bM c) (cw c) (cQ c))=some ((k7 c (fA c a)).length,k7 c (fA c a),bR c,bM c,cw c,cQ c,a,()):=by
 have Zu:CZ (l5 c (fA c a) (uz c) ei):=vI cU.1
 have hbz:BZ 1000000 (l5 c (fA c a) (uz c) ei):=by
  have key:∀(ts:List ByteArray) (can:Zs) (B:Int),(∀t∈ts,qB c t=true∧(msg c t).2.1=1)→BZ B can→BZ (B+1000 * ts.length) (l5 c (fA c a) ts can):=by
   intro ts
   induction ts with
   |nil=>intro can B _ h;simpa [l5] using h
   |cons t ts ih =>
    intro can B ht h
    have h1:=ht t (List.mem_cons_self ..)
    have:=ih (lZ (fA c a) can (l8 c t)) (B+1000) (fun t h=>ht t (List.mem_cons_of_mem _ h)) (sw h fun v hv=>hB t v h1.1 h1.2 hv)
    intro z hz
    have:=this z hz
    simp only [List.length_cons]
    omega
  have h1:=key (uz c) ei 0 (fun t ht=>by
   obtain ⟨m,hm,rfl⟩:=List.mem_map.1 ht
   obtain ⟨h1,h2⟩:=List.mem_filter.1 hm
   exact ⟨cg.2 (List.mem_map.2 ⟨m,h1,rfl⟩),by rw [iZ hs h1];simpa using h2⟩) (fun z hz=>by rw [(cU.2 z).1 hz];simp)
  have hle:(uz c).length≤c.length:=by unfold uz;rw [List.length_map];exact List.length_filter_le ..
  intro z hz
  have:=h1 z hz
  omega
 have hlen:=Kv (B:=1000000) Zu (by simpa using hbz)
 unfold FH67 gH67_0
 simp only [az,MR,aD,FH79,FH95,aa,bW]
 rw [ay (Zl hs (by omega))]
 refine bind_eq (bind_eq (kC67 hs hl hB) rfl) ?_
 simp only [aD,FH101,FH120,az,aa]
 rw [ay (abH Zu (by omega))]
 unfold k7
 rw [List.length_map]
theorem Zv {nv:Nat} {w1 w2 n:Int} {pq iO:List ByteArray} {can nx:Zs} (hx:CZ nx) (hb:BZ 1000000 can) (hn : -1000≤n∧n≤1000):ai (gH67_v1_0b_2 (nv,w1,w2,n,pq,bR c,bM c,cw c,cQ c,iO,can,nx,()))=some (nv,w1,w2,pq,bR c,bM c,cw c,cQ c,iO,can,lY can n nx,()):=by
 unfold gH67_v1_0b_2
 simp only [az]
 refine bind_eq (Eq.trans Iw (gj (b:=(nv,w1,w2,can,bR c,bM c,cw c,cQ c,n,pq,iO,lY can n nx,())) fun l hp=>?_)) rfl
 have key:∀(l:Zs) (nx:Zs),(∀e∈l,e∈can)→Ao (fun e a=>run (fun _=>none) (gH67_v1_0b_2i_0 e a)) l (nv,w1,w2,can,bR c,bM c,cw c,cQ c,n,pq,iO,nx,())=some (nv,w1,w2,can,bR c,bM c,cw c,cQ c,n,pq,iO,lY l n nx,()):=by
  intro l
  induction l with
  |nil=>intro nx _;rfl
  |cons e l ih =>
   intro nx hm
   have hz:=hb e.1 (hm e (List.mem_cons_self ..))
   have hs:run (fun _=>none) (gH67_v1_0b_2i_0 e (nv,w1,w2,can,bR c,bM c,cw c,cQ c,n,pq,iO,nx,()))=some (nv,w1,w2,can,bR c,bM c,cw c,cQ c,n,pq,iO,aS (.int .i64) nx (e.1+n) (),()):=by
    simp only [gH67_v1_0b_2i_0,bu,az,bt,aa,MR,aD,dn,aA]
    rw [fQ (bh (by omega) (by omega))]
   simp only [Ao,hs]
   exact ih _ fun e he=>hm e (List.mem_cons_of_mem _ he)
 rw [key l nx fun e he=>hp.mem_iff.1 he,A3 hx hp]
theorem Zw {iO:List ByteArray} {can:Zs} {vs:List ByteArray} (hvl:vs.length<1000000) (hb:BZ 1000000 can) (hf:∀v∈vs,-1000≤fT c v∧fT c v≤1000) :
  iter (fun x=>ai (gH67_v1_0b_1 x)) (vs.length,((vs.length:Nat):Int),(0:Int),vs,bR c,bM c,cw c,cQ c,iO,can,[],())=some (bR c,bM c,cw c,cQ c,iO,vs,can,lZ (fT c) can vs,()):=by
 refine bg vs (fun k (nx:Zs)=>(vs.length,((vs.length:Nat):Int),(k:Int),vs,bR c,bM c,cw c,cQ c,iO,can,nx,())) (fun nx r=>(bR c,bM c,cw c,cQ c,iO,vs,can,r.foldl (fun nx v=>lY can (fT c v) nx) nx,())) (fun _ nx=>CZ nx) ?_ ?_ (s:=[]) .nil
 ·intro pre v post nx hx K3
  have hlen:vs.length=pre.length+(post.length+1):=by rw [hx];simp
  have hd:vs.getD pre.length (bs [])=v:=by rw [hx];exact bD rfl
  have i1:fZ (pre.length:Int) ((vs.length:Nat):Int)=true:=cD (by omega) (by omega)
  have r1:gZ .i64 ((pre.length:Int)+1)=true:=bh (by omega) (by omega)
  have d1:decide (pre.length<vs.length)=true:=decide_eq_true (by omega)
  left
  refine ⟨lY can (fT c v) nx,?_,(k6 K3).1,rfl⟩
  simp only [gH67_v1_0b_1,ax,bQ,bt,bu,az,aa,Int.toNat_natCast,Nat.zero_add,hd,i1,d1,aA,bH,FH101,FH120,aD]
  rw [if_pos (by omega)]
  rw [ay (show ai (F78 ((ak .str zM (bR c) v).1,(ak .str zM (bR c) v).2.1,(ak .str zM (bR c) v).2.2.1,(ak .str zM (bR c) v).2.2.2.1,(ak .str zM (bR c) v).2.2.2.2))=some (fT c v,()) from k78 _)]
  rw [ay (Zv K3 hb (hf v (by rw [hx];simp)))]
  simp only [r1,aA]
  rfl
 ·intro nx _
  simp only [gH67_v1_0b_1,ax,aa,bH]
  rw [if_neg (by omega)]
  rfl
theorem Zx (hs:SI c) (hl:c.length≤60) (hB:Bnd c (fT c)):iter (fun x=>ai (gH67_v1_0i_0 x)) (c.length,((c.length:Nat):Int),(0:Int),c.map (·.1),bR c,bM c,cw c,cQ c,ei,()) =
  some (bR c,bM c,cw c,cQ c,l5 c (fT c) (uz c) ei,()):=by
 have yS:(c.map (·.1)).length=c.length:=List.length_map ..
 refine bg c (fun k (can:Zs)=>(c.length,((c.length:Nat):Int),(k:Int),c.map (·.1),bR c,bM c,cw c,cQ c,can,())) (fun can r=>(bR c,bM c,cw c,cQ c,l5 c (fT c) ((r.filter fun m=>decide (m.2.1=1)).map (·.1)) can,())) (fun pre can=>CZ can∧BZ (1000 * (pre.length:Int)) can) ?_ ?_ (s:=ei) ⟨cU.1,fun z hz=>by rw [(cU.2 z).1 hz];simp⟩
 ·rintro pre m post can hx ⟨Zu, hbz⟩
  have hlen:c.length=pre.length+(post.length+1):=by rw [hx];simp
  have hm:m∈c:=by rw [hx];simp
  have hd:(c.map (·.1)).getD pre.length (bs [])=m.1:=by rw [hx,List.map_append,List.map_cons];exact bD (by simp)
  have hg:ak .str zM (bR c) m.1=m:=iZ hs hm
  have i1:fZ (pre.length:Int) ((c.length:Nat):Int)=true:=cD (by omega) (by omega)
  have r1:gZ .i64 ((pre.length:Int)+1)=true:=bh (by omega) (by omega)
  have d1:decide (pre.length<(c.map (·.1)).length)=true:=decide_eq_true (by omega)
  have hpl:((pre++[m]).length:Int)=(pre.length:Int)+1:=by simp
  left
  by_cases hk:m.2.1=1
  ·have him : qB c m.1 = true := cg.2 (List.mem_map.2 ⟨m, hm, rfl⟩)
   have hkm:(msg c m.1).2.1=1:=by rw [iZ hs hm];exact hk
   have hvl:(l8 c m.1).length≤c.length:=lX hs (kr hs him hkm) (cg.1 him) .zero
   refine ⟨lZ (fT c) can (l8 c m.1),?_,⟨ku.1,?_⟩,?_⟩
   ·simp only [gH67_v1_0i_0, ax, bQ, bt, bu, az, bW, aa, Int.toNat_natCast, Nat.zero_add, hd, hg, i1, d1, aA, bH, bO]
    rw [if_pos (by omega),if_pos hk,ay (Uu hs (by omega) (kr hs him hkm) (cg.1 him))]
    rw [ay (Zw (vs:=l8 c m.1) (by omega) (fun z hz=>by have:=hbz z hz;omega) (fun v hv=>hB m.1 v him hkm hv))]
    simp only [r1,aA]
    rfl
   ·have := sw (f := (fT c)) (vs := l8 c m.1) hbz fun v hv => hB m.1 v him hkm hv
    intro z hz
    have:=this z hz
    omega
   ·rw [List.filter_cons_of_pos (by simpa using hk)]
    rfl
  ·refine ⟨can, ?_, ⟨Zu, fun z hz => by have := hbz z hz; omega⟩, ?_⟩
   ·simp only [gH67_v1_0i_0, ax, bQ, bt, bu, az, bW, aa, Int.toNat_natCast, Nat.zero_add, hd, hg, i1, d1, r1, aA, bH, bO]
    rw [if_pos (by omega),if_neg hk]
    rfl
   ·rw [List.filter_cons_of_neg (by simpa using hk)]
 ·rintro can _
  simp only [gH67_v1_0i_0,ax,aa,bH]
  rw [if_neg (by omega)]
  rfl
theorem Zy (hs:SI c) (hl:c.length≤60) (hB:Bnd c (fT c)):ai (FH67_v1 (bR c) (bM c) (cw c) (cQ c))=some ((k7 c (fT c)).length,k7 c (fT c),bR c,bM c,cw c,cQ c,()):=by
 have Zu:CZ (l5 c (fT c) (uz c) ei):=vI cU.1
 have hbz:BZ 1000000 (l5 c (fT c) (uz c) ei):=by
  have key:∀(ts:List ByteArray) (can:Zs) (B:Int),(∀t∈ts,qB c t=true∧(msg c t).2.1=1)→BZ B can→BZ (B+1000 * ts.length) (l5 c (fT c) ts can):=by
   intro ts
   induction ts with
   |nil=>intro can B _ h;simpa [l5] using h
   |cons t ts ih =>
    intro can B ht h
    have h1:=ht t (List.mem_cons_self ..)
    have:=ih (lZ (fT c) can (l8 c t)) (B+1000) (fun t h=>ht t (List.mem_cons_of_mem _ h)) (sw h fun v hv=>hB t v h1.1 h1.2 hv)
    intro z hz
    have:=this z hz
    simp only [List.length_cons]
    omega
  have h1:=key (uz c) ei 0 (fun t ht=>by
   obtain ⟨m,hm,rfl⟩:=List.mem_map.1 ht
   obtain ⟨h1,h2⟩:=List.mem_filter.1 hm
   exact ⟨cg.2 (List.mem_map.2 ⟨m,h1,rfl⟩),by rw [iZ hs h1];simpa using h2⟩) (fun z hz=>by rw [(cU.2 z).1 hz];simp)
  have hle:(uz c).length≤c.length:=by unfold uz;rw [List.length_map];exact List.length_filter_le ..
  intro z hz
  have:=h1 z hz
  omega
 have hlen:=Kv (B:=1000000) Zu (by simpa using hbz)
 unfold FH67_v1 gH67_v1_0
 simp only [az,MR,aD,FH79,FH95,aa,bW]
 rw [ay (Zl hs (by omega))]
 refine bind_eq (bind_eq (Zx hs hl hB) rfl) ?_
 simp only [aD,FH101,FH120,az,aa]
 rw [ay (abH Zu (by omega))]
 unfold k7
 rw [List.length_map]
def uT (c:List Mg) (a:ByteArray):List Int×Int:=if gW a=true then (k7 c (fA c a),0) else ([],8)
theorem Di {L:List Mg} (h:kB L):∀m∈cnt L,tF m=0:=fun m hm=>h.tF m (vC hm)
theorem aeU {L:List Mg} (h:kB L) {a:ByteArray} (ha:Sh a):ai (FH23 a (bk L))=some ((uT (cnt L) a).1.length,(uT (cnt L) a).2,(uT (cnt L) a).1,bk L,()):=by
 unfold FH23
 simp only [az,yG,aD,ax,bV,k65 a ha,bU]
 rw [mU]
 unfold uT
 split
 ·rw [ay (Ut h)]
  simp only
  rw [ay (kH67 (gX L) (oZ h) (bndA (gX L) (Di h) a))]
  rfl
 ·rfl
end
end Go.Proofs.Tryz
end
section
namespace Go.Proofs.Tryz
open Go.AM
set_option maxRecDepth 100000
def MS (l:List Int):Int×Int:=(l.getD 0 0,l.getD (l.length - 1) 0)
theorem k72 {l:List Int} (h0:0<l.length) (hl:l.length<1000000000):ai (F72 l)=some (MS l,()):=by
 unfold F72
 simp only [bQ,bu,aa]
 rw [cD (by omega) (by omega),aA,fQ (bh (by omega) (by omega)),cD (by omega) (by omega),aA]
 rw [show ((l.length:Int) - 1).toNat=l.length - 1 by omega]
 rfl
section
variable {c:List Mg}
theorem Uw {f:ByteArray→Int} {can:Zs} {vs:List ByteArray} (hc:∃z,vG can z) (hv:vs≠[]):∃z,vG (lZ f can vs) z:=by
 obtain ⟨z,hz⟩:=hc
 cases vs with
 |nil=>exact absurd rfl hv
 |cons v vs=>exact ⟨z+f v,(ku.2 _).2 ⟨v,List.mem_cons_self ..,z,hz,rfl⟩⟩
def MT (c:List Mg) (a:ByteArray):(Int×Int)×Int:=if (uT c a).2=0 then (MS (uT c a).1,0) else ((0,0),(uT c a).2)
def Zz (c:List Mg):Int×Int:=MS (k7 c (fT c))
abbrev Ss:=List (ByteArray×Unit)
def Kw (c:List Mg) (vs:List ByteArray) (m:Ss):Ss:=vs.foldl (fun m v=>aS .str m (msg c v).2.2.2.1 ()) m
def Kx (c:List Mg) (ts:List ByteArray) (m:Ss):Ss:=ts.foldl (fun m t=>Kw c (l8 c t) m) m
def ZA (c:List Mg):List ByteArray:=(Kx c (uz c) []).map (·.1)
theorem Ux {vs:List ByteArray}:∀{m:Ss},gw .str m→gw .str (Kw c vs m):=by
 induction vs with
 |nil=>exact fun h=>h
 |cons v vs ih=>exact fun h=>ih (h.gL kS)
theorem Uy {ts:List ByteArray}:∀{m:Ss},gw .str m→gw .str (Kx c ts m):=by
 induction ts with
 |nil=>exact fun h=>h
 |cons t ts ih=>exact fun h=>ih (Ux h)
theorem Hp : ∀ {m : Ss} {k : ByteArray}, (pE .str m k ()).length = m.length + 1
 |[],_=>rfl
 |e::m,k=>by
  unfold pE
  split
  ·simp
  ·rw [List.length_cons,Hp];rfl
theorem Uz {m:Ss} {k:ByteArray}:(aS .str m k ()).length≤m.length+1:=by
 unfold aS
 split
 ·rw [List.length_map];omega
 ·rw [Hp];exact Nat.le_refl _
theorem ZB {Z:Ss} (h:gw .str Z) (hl:Z.length<1000000000):ai (FH81_v1 Z)=some (Z.length,Z.map (·.1),Z,()):=by
 unfold FH81_v1
 refine Eq.trans B5 (gj fun l hp=>?_)
 have yS:l.length=Z.length:=hp.length_eq
 simp only [az,B6]
 refine bind_eq (sq (m:=Z) (l:=l) (by rw [yS];exact hl) fun e n b hn=>?_) ?_
 ·simp only [gH81_v1f107f126_0i_0, bt, aa, dn, aA]
  rw [cq (show _<cM by rw [mL];simp;omega)]
  rfl
 ·simp only [FH105, xy]
  have hpk:(Z.map (·.1)).Perm (l.map (·.1)):=(hp.map (·.1)).symm
  have:=oB kS hpk (gw.keys kS h) (by rw [List.length_map];omega)
  rw [List.length_map] at this
  rw [ay this,yS]
  rfl
theorem kB45 {m1:List (Mg×Bool)} {iO vs:List ByteArray} (hvl:vs.length<1000000) {m:Ss} :
  iter (fun x=>ai (gH45_0b_1 x)) (vs.length,((vs.length:Nat):Int),(0:Int),vs,bR c,bM c,cw c,cQ c,m1,iO,m,())=some (m1,bR c,bM c,cw c,cQ c,iO,vs,Kw c vs m,()):=by
 refine bg vs (fun k (m:Ss)=>(vs.length,((vs.length:Nat):Int),(k:Int),vs,bR c,bM c,cw c,cQ c,m1,iO,m,())) (fun m r=>(m1,bR c,bM c,cw c,cQ c,iO,vs,Kw c r m,())) (fun _ _=>True) ?_ ?_ (s:=m) trivial
 ·intro pre v post nx hx _
  have hlen:vs.length=pre.length+(post.length+1):=by rw [hx];simp
  have hd:vs.getD pre.length (bs [])=v:=by rw [hx];exact bD rfl
  have i1:fZ (pre.length:Int) ((vs.length:Nat):Int)=true:=cD (by omega) (by omega)
  have r1:gZ .i64 ((pre.length:Int)+1)=true:=bh (by omega) (by omega)
  have d1:decide (pre.length<vs.length)=true:=decide_eq_true (by omega)
  left
  refine ⟨aS .str nx (msg c v).2.2.2.1 (),?_,trivial,rfl⟩
  simp only [gH45_0b_1,ax,bQ,bt,bu,az,aa,Int.toNat_natCast,Nat.zero_add,hd,i1,d1,r1,aA,bH,FH80,aD]
  rw [if_pos (by omega)]
  rfl
 ·intro nx _
  simp only [gH45_0b_1,ax,aa,bH]
  rw [if_neg (by omega)]
  rfl
theorem kC45 {m1:List (Mg×Bool)} (hs:SI c) (hl:c.length≤60):iter (fun x=>ai (gH45_0i_0 x)) (c.length,((c.length:Nat):Int),(0:Int),c.map (·.1),bR c,bM c,cw c,cQ c,m1,[],()) =
  some (m1,bR c,bM c,cw c,cQ c,Kx c (uz c) [],()):=by
 have yS:(c.map (·.1)).length=c.length:=List.length_map ..
 refine bg c (fun k (m:Ss)=>(c.length,((c.length:Nat):Int),(k:Int),c.map (·.1),bR c,bM c,cw c,cQ c,m1,m,())) (fun m r=>(m1,bR c,bM c,cw c,cQ c,Kx c ((r.filter fun m=>decide (m.2.1=1)).map (·.1)) m,())) (fun _ _=>True) ?_ ?_ (s:=[]) trivial
 ·rintro pre m post can hx _
  have hlen:c.length=pre.length+(post.length+1):=by rw [hx];simp
  have hm:m∈c:=by rw [hx];simp
  have hd:(c.map (·.1)).getD pre.length (bs [])=m.1:=by rw [hx,List.map_append,List.map_cons];exact bD (by simp)
  have hg:ak .str zM (bR c) m.1=m:=iZ hs hm
  have i1:fZ (pre.length:Int) ((c.length:Nat):Int)=true:=cD (by omega) (by omega)
  have r1:gZ .i64 ((pre.length:Int)+1)=true:=bh (by omega) (by omega)
  have d1:decide (pre.length<(c.map (·.1)).length)=true:=decide_eq_true (by omega)
  left
  by_cases hk:m.2.1=1
  ·have him : qB c m.1 = true := cg.2 (List.mem_map.2 ⟨m, hm, rfl⟩)
   have hkm:(msg c m.1).2.1=1:=by rw [iZ hs hm];exact hk
   have hvl:(l8 c m.1).length≤c.length:=lX hs (kr hs him hkm) (cg.1 him) .zero
   refine ⟨Kw c (l8 c m.1) can,?_,trivial,?_⟩
   ·simp only [gH45_0i_0, ax, bQ, bt, bu, az, bW, aa, Int.toNat_natCast, Nat.zero_add, hd, hg, i1, d1, aA, bH, bO]
    rw [if_pos (by omega),if_pos hk,ay (Uu hs (by omega) (kr hs him hkm) (cg.1 him))]
    rw [ay (kB45 (vs:=l8 c m.1) (by omega))]
    simp only [r1,aA]
    rfl
   ·rw [List.filter_cons_of_pos (by simpa using hk)]
    rfl
  ·refine ⟨can, ?_, trivial, ?_⟩
   ·simp only [gH45_0i_0, ax, bQ, bt, bu, az, bW, aa, Int.toNat_natCast, Nat.zero_add, hd, hg, i1, d1, r1, aA, bH, bO]
    rw [if_pos (by omega),if_neg hk]
    rfl
   ·rw [List.filter_cons_of_neg (by simpa using hk)]
 ·rintro can _
  simp only [gH45_0i_0,ax,aa,bH]
  rw [if_neg (by omega)]
  rfl
theorem UA {vs:List ByteArray}:∀{m:Ss},(Kw c vs m).length≤m.length+vs.length:=by
 induction vs with
 |nil=>exact Nat.le_refl _
 |cons v vs ih =>
  intro m
  have h1:=ih (m:=aS .str m (msg c v).2.2.2.1 ())
  have h2:=Uz (m:=m) (k:=(msg c v).2.2.2.1)
  simp only [List.length_cons]
  exact Nat.le_trans h1 (by omega)
theorem Dj (hs:SI c) {t:ByteArray} (ht:t∈uz c):qB c t=true∧(msg c t).2.1=1:=by
 obtain ⟨m,hm,rfl⟩:=List.mem_map.1 ht
 obtain ⟨h1,h2⟩:=List.mem_filter.1 hm
 exact ⟨cg.2 (List.mem_map.2 ⟨m,h1,rfl⟩),by rw [iZ hs h1];simpa using h2⟩
theorem MU:(uz c).length≤c.length:=by unfold uz;rw [List.length_map];exact List.length_filter_le ..
theorem ZC (hs:SI c) {t:ByteArray} (ht:qB c t=true) (hk:(msg c t).2.1=1):(l8 c t).length≤c.length:=lX hs (kr hs ht hk) (cg.1 ht) .zero
theorem Hq (hs : SI c) : ∀ {ts : List ByteArray} {m : Ss}, (∀ t ∈ ts, qB c t = true ∧ (msg c t).2.1 = 1) → (Kx c ts m).length ≤ m.length + ts.length * c.length
 |[],m,_=>by simp [Kx]
 |t::ts,m,h=>by
  have h1:=Hq hs (ts:=ts) (m:=Kw c (l8 c t) m) fun t h'=>h t (List.mem_cons_of_mem _ h')
  have h2:=UA (c:=c) (vs:=l8 c t) (m:=m)
  have h3:=ZC hs (h t (List.mem_cons_self ..)).1 (h t (List.mem_cons_self ..)).2
  have h4:(ts.length+1) * c.length=ts.length * c.length+c.length:=Nat.succ_mul ..
  simp only [List.length_cons,h4]
  exact Nat.le_trans h1 (by omega)
theorem kH45 {L:List Mg} (h:kB L):ai (FH45 (bk L))=some ((ZA (cnt L)).length,ZA (cnt L),bk L,()):=by
 have hs:=gX L
 have hc:=oZ h
 have hz:=Hq hs (ts:=uz (cnt L)) (m:=[]) fun t ht=>Dj hs ht
 have hq:(uz (cnt L)).length * (cnt L).length≤60 * 60:=Nat.mul_le_mul (Nat.le_trans MU hc) hc
 have hzl:(Kx (cnt L) (uz (cnt L)) []).length<1000000000:=by simp only [List.length_nil] at hz;omega
 unfold FH45 gH45_0
 simp only [az,yG,aD,ax,bV]
 rw [ay (Ut h)]
 simp only [FH79,FH95,aa,aD,bW]
 rw [ay (Zl hs (by omega))]
 refine bind_eq (bind_eq (kC45 hs hc) rfl) ?_
 simp only [FH82,FH108,az,aa,aD]
 rw [ay (ZB (Uy .nil) hzl)]
 unfold ZA
 rw [List.length_map]
theorem aeV {Z:Zs} (h:∃z,vG Z z):0<Z.length:=by
 obtain ⟨z,hz⟩:=h
 exact List.length_pos_of_mem hz
theorem MV (hs : SI c) {t : ByteArray} (ht : Top c t) (Dn : t ∈ ids c) : ∀ {n d : Nat} {x : ByteArray}, mR c t d x → d + n = c.length → cH c (n + 1) x ≠ []
 |0,d,x,hp,hd=>by have:=hp.short hs ht Dn;omega
 |n+1,d,x,hp,hd=>by
  unfold cH
  split
  ·simp
  ·rename_i k l hl
   intro h
   have h1:=(eN (t:=.str) ((k::l).flatMap (cH c (n+1)))).length_eq
   rw [show nW .str ((k::l).flatMap (cH c (n+1)))=[] from h] at h1
   have h2:=MV hs ht Dn (n:=n) (hp.step (vF (by rw [hl];exact List.mem_cons_self ..))) (by omega)
   have h3:0<(cH c (n+1) k).length:=List.length_pos_iff.2 h2
   rw [List.flatMap_cons,List.length_append] at h1
   simp only [List.length_nil] at h1
   omega
theorem UB (hs:SI c) {t:ByteArray} (ht:qB c t=true∧(msg c t).2.1=1):l8 c t≠[]:=MV hs (kr hs ht.1 ht.2) (cg.1 ht.1) .zero (by omega)
theorem MW (hs : SI c) {f : ByteArray → Int} : ∀ {ts : List ByteArray} {can : Zs}, (∀ t ∈ ts, qB c t = true ∧ (msg c t).2.1 = 1) → (∃ z, vG can z) → ∃ z, vG (l5 c f ts can) z
 |[],_,_,h=>h
 |t::ts,can,ht,h=>MW hs (ts:=ts) (fun t h=>ht t (List.mem_cons_of_mem _ h)) (Uw h (UB hs (ht t (List.mem_cons_self ..))))
theorem MX (hs:SI c) {f:ByteArray→Int}:0<(k7 c f).length:=by
 unfold k7
 rw [List.length_map]
 exact aeV (MW hs (fun t ht=>Dj hs ht) ⟨0,(cU.2 0).2 rfl⟩)
theorem ZD (hs:SI c) (hl:c.length≤60) {f:ByteArray→Int} (hB:Bnd c f):BZ 60000 (l5 c f (uz c) ei):=by
 have key:∀(ts:List ByteArray) (can:Zs) (B:Int),(∀t∈ts,qB c t=true∧(msg c t).2.1=1)→BZ B can→BZ (B+1000 * ts.length) (l5 c f ts can):=by
  intro ts
  induction ts with
  |nil=>intro can B _ h;simpa [l5] using h
  |cons t ts ih =>
   intro can B ht h
   have h1:=ht t (List.mem_cons_self ..)
   have:=ih (lZ f can (l8 c t)) (B+1000) (fun t h=>ht t (List.mem_cons_of_mem _ h)) (sw h fun v hv=>hB t v h1.1 h1.2 hv)
   intro z hz
   have:=this z hz
   simp only [List.length_cons]
   omega
 have h1:=key (uz c) ei 0 (fun t ht=>Dj hs ht) (fun z hz=>by rw [(cU.2 z).1 hz];simp)
 have hle:=MU (c:=c)
 intro z hz
 have:=h1 z hz
 omega
theorem Hr (hs:SI c) (hl:c.length≤60) {f:ByteArray→Int} (hB:Bnd c f):(k7 c f).length<1000000:=by
 have:=Kv (B:=60000) (vI cU.1) (by simpa using ZD hs hl hB)
 unfold k7
 rw [List.length_map]
 omega
theorem kH37 {L:List Mg} (h:kB L):ai (FH37 (bk L))=some (Zz (cnt L),0,bk L,()):=by
 have hs:=gX L
 have hc:=oZ h
 have hB:=bndT hs (Di h)
 unfold FH37
 simp only [az,yG,aD,ax,bV]
 rw [ay (Ut h)]
 simp only
 rw [ay (Zy hs hc hB)]
 simp only [List.drop_zero,List.take_length]
 rw [ay (k72 (MX hs) (by have:=Hr hs hc hB;omega))]
 rfl
theorem kH25 {L:List Mg} (h:kB L) {a:ByteArray} (ha:Sh a):ai (FH25 a (bk L))=some ((MT (cnt L) a).1,(MT (cnt L) a).2,bk L,()):=by
 have hs:=gX L
 have hc:=oZ h
 have hB:=bndA hs (Di h) a
 unfold FH25
 simp only [az]
 rw [ay (aeU h ha)]
 simp only [ax,bU,bO,aa,List.drop_zero,List.take_length]
 unfold MT
 by_cases h0:(uT (cnt L) a).2=0
 ·rw [if_pos h0, if_pos h0]
  have h1:(uT (cnt L) a).1=k7 (cnt L) (fA (cnt L) a):=by
   revert h0
   unfold uT
   split
   ·intro _;rfl
   ·intro h;cases h
  rw [h1,az,ay (k72 (MX hs) (by have:=Hr hs hc hB;omega))]
  rfl
 ·rw [if_neg h0,if_neg h0]
theorem k36 {l l':List ByteArray} (hl:l.length<1000000000):ai (F36 l l')=some (decide (l=l'),()):=by
 by_cases hn:l.length=l'.length
 ·have hi:iter (fun a=>run (fun _=>none) (g36_0 a)) (l,l',(0:Int),())=some (if l=l'.drop 0 then Sum.inr () else Sum.inl ()):=by
   refine bg l (fun k (_:Nat)=>(l,l',(k:Int),())) (fun k r=>if r=l'.drop k then Sum.inr () else Sum.inl ()) (fun pre k=>k=pre.length) ?_ ?_ (s:=0) rfl
   ·rintro pre x post k hx rfl
    have hlen:l.length=pre.length+(post.length+1):=by rw [hx];simp
    have hlt:pre.length<l'.length:=by omega
    have hd:l.getD pre.length (bs [])=x:=by rw [hx];exact bD rfl
    have hd':l'.getD pre.length (bs [])=l'[pre.length]:=by rw [List.getD_eq_getElem?_getD,List.getElem?_eq_getElem hlt];rfl
    have i1:fZ (pre.length:Int) ((l.length:Nat):Int)=true:=cD (by omega) (by omega)
    have i2:fZ (pre.length:Int) ((l'.length:Nat):Int)=true:=cD (by omega) (by omega)
    have r1:gZ .i64 ((pre.length:Int)+1)=true:=bh (by omega) (by omega)
    simp only [g36_0,ax,bQ,bu,aa,Int.toNat_natCast,hd,hd',i1,i2,r1,aA,bH,seq_eq,bU]
    rw [if_pos (by omega),List.drop_eq_getElem_cons hlt]
    by_cases h:x=l'[pre.length]
    ·left
     refine ⟨pre.length+1,?_,by simp,?_⟩
     ·rw [if_pos h];rfl
     ·rw [h];simp only [List.cons.injEq,true_and]
    ·right
     rw [if_neg h,if_neg (fun e=>h (List.cons.inj e).1)]
   ·rintro k rfl
    simp only [g36_0,ax,bH,aa]
    rw [if_neg (by omega),if_pos (by rw [hn,List.drop_length])]
  unfold F36
  simp only [ax,az,bW,bU,bO]
  rw [if_pos (by omega),ay hi,List.drop_zero]
  by_cases h:l=l'
  ·rw [if_pos h];simp only [nU,aa,h,decide_true]
  ·rw [if_neg h];simp only [tn,aa,h,decide_false]
 ·unfold F36
  simp only [ax,bU,bO,aa]
  rw [if_neg (by omega),decide_eq_false fun e=>hn (by rw [e])]
theorem k27 {l l':List Int} (hl:l.length<1000000000):ai (F27 l l')=some (decide (l=l'),()):=by
 by_cases hn:l.length=l'.length
 ·have hi:iter (fun a=>run (fun _=>none) (g27_0 a)) (l,l',(0:Int),())=some (if l=l'.drop 0 then Sum.inr () else Sum.inl ()):=by
   refine bg l (fun k (_:Nat)=>(l,l',(k:Int),())) (fun k r=>if r=l'.drop k then Sum.inr () else Sum.inl ()) (fun pre k=>k=pre.length) ?_ ?_ (s:=0) rfl
   ·rintro pre x post k hx rfl
    have hlen:l.length=pre.length+(post.length+1):=by rw [hx];simp
    have hlt:pre.length<l'.length:=by omega
    have hd:l.getD pre.length (0:Int)=x:=by rw [hx];exact bD rfl
    have hd':l'.getD pre.length (0:Int)=l'[pre.length]:=by rw [List.getD_eq_getElem?_getD,List.getElem?_eq_getElem hlt];rfl
    have i1:fZ (pre.length:Int) ((l.length:Nat):Int)=true:=cD (by omega) (by omega)
    have i2:fZ (pre.length:Int) ((l'.length:Nat):Int)=true:=cD (by omega) (by omega)
    have r1:gZ .i64 ((pre.length:Int)+1)=true:=bh (by omega) (by omega)
    simp only [g27_0,ax,bQ,bu,aa,Int.toNat_natCast,hd,hd',i1,i2,r1,aA,bH,bU,bO]
    rw [if_pos (by omega),List.drop_eq_getElem_cons hlt]
    by_cases h:x=l'[pre.length]
    ·left
     refine ⟨pre.length+1,?_,by simp,?_⟩
     ·rw [if_pos h];rfl
     ·rw [h];simp only [List.cons.injEq,true_and]
    ·right
     rw [if_neg h,if_neg (fun e=>h (List.cons.inj e).1)]
   ·rintro k rfl
    simp only [g27_0,ax,bH,aa]
    rw [if_neg (by omega),if_pos (by rw [hn,List.drop_length])]
  unfold F27
  simp only [ax,az,bW,bU,bO]
  rw [if_pos (by omega),ay hi,List.drop_zero]
  by_cases h:l=l'
  ·rw [if_pos h];simp only [nU,aa,h,decide_true]
  ·rw [if_neg h];simp only [tn,aa,h,decide_false]
 ·unfold F27
  simp only [ax,bU,bO,aa]
  rw [if_neg (by omega),decide_eq_false fun e=>hn (by rw [e])]
end
end Go.Proofs.Tryz
end
section
namespace Go.Proofs.Tryz
open Go.AM
set_option maxRecDepth 100000
def XL:List Mg:=[(bs [116,49],1,bs [],bs [97,110,97],40),(bs [116,50],1,bs [],bs [98,101,110],25),(bs [99,49],2,bs [116,49],bs [97,110,97],42),(bs [99,50],2,bs [116,49],bs [99,121],40),(bs [99,51],2,bs [99,49],bs [97,110,97],41),(bs [119,49],2,bs [120,57],bs [98,101,110],5),(bs [114,49],3,bs [99,49],bs [],0),(bs [114,50],3,bs [99,50],bs [],0)]
theorem k46:ai F46=some (XL,()):=by
 unfold F46
 simp only [az,F50,F42,F39,aa,aD]
 rfl
def L6:List Mg:=jk ((XL.drop (Int.toNat 0)).take (Int.toNat 6 - Int.toNat 0))
def L7:List Mg:=jk ((XL.drop (Int.toNat 0)).take (Int.toNat 7 - Int.toNat 0))
def L8:List Mg:=jk XL
theorem x1:A2 (cnt L6) (bs [116,49])=([bs [99,50],bs [99,51]],0):=by kernel_rfl
theorem x2:uT (cnt L6) (bs [97,110,97])=([0,41],0):=by kernel_rfl
theorem x3:uT (cnt L7) (bs [97,110,97])=([41],0):=by kernel_rfl
theorem x4:Zz (cnt L6)=(65,66):=by kernel_rfl
theorem x5:MT (cnt L8) (bs [99,121])=((0,40),0):=by kernel_rfl
theorem x6:ZA (cnt L6)=[bs [97,110,97],bs [98,101,110],bs [99,121]]:=by kernel_rfl
theorem x7:fW (cnt L6) (bs [116,49])=(3,0):=by kernel_rfl
theorem x8:fW (cnt L6) (bs [116,50])=(4,0):=by kernel_rfl
theorem x9:fW (cnt L6) (bs [99,51])=(5,0):=by kernel_rfl
theorem x10:fW (cnt L6) (bs [119,49])=(1,0):=by kernel_rfl
theorem x11:fW (cnt L7) (bs [99,50])=(2,0):=by kernel_rfl
theorem x12:fW (cnt L7) (bs [99,51])=(4,0):=by kernel_rfl
theorem x13:fW (cnt L8) (bs [99,50])=(5,0):=by kernel_rfl
theorem x14:L8.length=8:=by kernel_rfl
instance (m:Mg):Decidable (Un m):=by unfold Un Sh;infer_instance
theorem ai3:ai (FH29 ((XL.drop (Int.toNat 0)).take (Int.toNat 6 - Int.toNat 0)))=some (bk L6,()):=aeO (by decide) (by decide +kernel)
theorem ai4:ai (FH29 ((XL.drop (Int.toNat 0)).take (Int.toNat 7 - Int.toNat 0)))=some (bk L7,()):=aeO (by decide) (by decide +kernel)
theorem ai5:ai (FH29 XL)=some (bk L8,()):=aeO (by decide) (by decide +kernel)
theorem o6:kB L6:=kB.told _
theorem o7:kB L7:=kB.told _
theorem o8:kB L8:=kB.told _
theorem xl:XL.length=8:=rfl
theorem UC:Sh (bs [97,110,97]):=by unfold Sh;decide +kernel
theorem ai6:Sh (bs [99,121]):=by unfold Sh;decide +kernel
theorem e1:ai (FH33 (bs [116,49]) (bk L6))=some (2,0,[bs [99,50],bs [99,51]],bk L6,()):=by rw [kH33 o6,x1];rfl
theorem e2:ai (FH23 (bs [97,110,97]) (bk L6))=some (2,0,[0,41],bk L6,()):=by rw [aeU o6 UC,x2];rfl
theorem e3:ai (FH23 (bs [97,110,97]) (bk L7))=some (1,0,[41],bk L7,()):=by rw [aeU o7 UC,x3];rfl
theorem e4:ai (FH37 (bk L6))=some ((65,66),0,bk L6,()):=by rw [kH37 o6,x4]
theorem e5:ai (FH25 (bs [99,121]) (bk L8))=some ((0,40),0,bk L8,()):=by rw [kH25 o8 ai6,x5]
theorem e6:ai (FH45 (bk L6))=some (3,[bs [97,110,97],bs [98,101,110],bs [99,121]],bk L6,()):=by rw [kH45 o6,x6];rfl
theorem e7:ai (F36 (([bs [99,50],bs [99,51]].drop 0).take 2) (([bs [99,50],bs [99,51]].drop 0).take 2))=some (true,()):=by rw [k36 (by decide)];rfl
theorem e8:ai (F27 ((([0,41]:List Int).drop 0).take 2) ((([0,41]:List Int).drop 0).take 2))=some (true,()):=by rw [k27 (by decide)];rfl
theorem e9:ai (F27 ((([41]:List Int).drop 0).take 1) ((([41]:List Int).drop 0).take 1))=some (true,()):=by rw [k27 (by decide)];rfl
theorem e10:ai (F36 (([bs [97,110,97],bs [98,101,110],bs [99,121]].drop 0).take 3) (([bs [97,110,97],bs [98,101,110],bs [99,121]].drop 0).take 3))=some (true,()):=by rw [k36 (by decide)];rfl
theorem e11:ai (FH40 (bs [116,49]) 3 (bk L6))=some (true,bk L6,()):=by rw [Ku o6,x7];rfl
theorem e12:ai (FH40 (bs [116,50]) 4 (bk L6))=some (true,bk L6,()):=by rw [Ku o6,x8];rfl
theorem e13:ai (FH40 (bs [99,51]) 5 (bk L6))=some (true,bk L6,()):=by rw [Ku o6,x9];rfl
theorem e14:ai (FH40 (bs [119,49]) 1 (bk L6))=some (true,bk L6,()):=by rw [Ku o6,x10];rfl
theorem e15:ai (FH40 (bs [99,50]) 2 (bk L7))=some (true,bk L7,()):=by rw [Ku o7,x11];rfl
theorem e16:ai (FH40 (bs [99,51]) 4 (bk L7))=some (true,bk L7,()):=by rw [Ku o7,x12];rfl
theorem e17:ai (FH40 (bs [99,50]) 5 (bk L8))=some (true,bk L8,()):=by rw [Ku o8,x13];rfl
theorem e18:ai (FH47 (bk L8))=some (8,L8,bk L8,()):=by rw [Kq o8.s (by rw [x14];decide),x14]
theorem k17:ai F17=some (true,()):=by
 unfold F17
 simp only [az,bt,ax,aa,k46,aD,ai3,ai4,ai5,xl,e1,e2,e3,e4,e5,e6,e11,e12,e13,e14,e15,e16,e17,e18,bO]
 rw [cq (by decide),cq (by decide),cq (by decide),cq (by decide)]
 rw [if_pos trivial,if_pos trivial,if_pos trivial,if_pos trivial,if_pos trivial,ay e7]
 simp only [aP]
 rw [ay e8]
 simp only [aP]
 rw [ay e9]
 simp only [aP]
 rw [show (((65,66):Int×Int).1==65&&(((65,66):Int×Int).2==66&&true))=true from by decide,show (((0,40):Int×Int).1==0&&(((0,40):Int×Int).2==40&&true))=true from by decide]
 simp only [aP]
 rw [ay e10]
 simp only [aP]
 refine (cq (by decide)).trans ?_
 refine (cq (by decide)).trans ?_
 rfl
def mC:Mg:=(bs [99,49],2,bs [116,49],bs [97,110,97],43)
def L9:List Mg:=(ew L8 mC).2
theorem y1:(ew L8 mC).1=0:=by kernel_rfl
theorem y2:fW (cnt L9) (bs [114,49])=(0,18):=by kernel_rfl
theorem y3:A2 (cnt L9) (bs [99,49])=([],18):=by kernel_rfl
theorem y4:fW (cnt L9) (bs [122,122])=(0,5):=by kernel_rfl
theorem y5:L9.length=9:=by kernel_rfl
theorem y6:fW (cnt L9) (bs [99,49])=(3,0):=by kernel_rfl
end Go.Proofs.Tryz
end
section
namespace Go.Proofs.Tryz
open Go.AM
set_option maxRecDepth 100000
def U8 (z:Int):Prop:=0≤z∧z≤255
theorem UD {z:Int} (h1:0≤z) (h2:z≤255):gZ .u8 z=true:=by
 have e1:IntKind.u8.min=0:=by decide
 have e2:IntKind.u8.max=255:=by decide
 unfold gZ
 rw [e1,e2]
 simp [h1,h2]
theorem tm8 {a:Int} (h:0≤a) (n:Int) (hn:0<n):0≤Int.tmod a n∧Int.tmod a n<n:=⟨Int.tmod_nonneg _ h,Int.tmod_lt_of_pos _ hn⟩
end Go.Proofs.Tryz
end
section
namespace Go.Proofs.Tryz
open Go.AM
set_option maxRecDepth 100000
theorem ai7:zK [0,0]=0:=by decide
theorem MY {L:List Mg} {m:Mg} (hc:tF m=0) (hl:L.length+1≤60):ew L m=(0,iL L m):=by
 unfold ew
 have:=GY (L:=L) (m:=m)
 rw [if_pos hc,if_neg (by omega)]
def Gd (l:List Mg):Prop:=∀m∈l,tF m=0
theorem Hs : ∀ {l L : List Mg}, kB L → Gd l → L.length + l.length ≤ 60 → ∀ x, x ∈ l.foldl (fun L m => (ew L m).2) L ↔ x ∈ L ∨ x ∈ l
 |[],L,_,_,_,x=>by simp
 |m::l,L,h,hg,hl,x=>by
  rw [List.length_cons] at hl
  have hc:=hg m (List.mem_cons_self ..)
  have ht:=MY (L:=L) hc (by omega)
  have h2:=h.tell m
  rw [ht] at h2
  have:=GY (L:=L) (m:=m)
  rw [List.foldl_cons,ht,Hs h2 (fun z hz=>hg z (List.mem_cons_of_mem _ hz)) (by simp only;omega)]
  simp only [lV h.s,List.mem_cons]
  constructor
  ·rintro ((h | h) | h)
   ·exact .inr (.inl h)
   ·exact .inl h
   ·exact .inr (.inr h)
  ·rintro (h | h | h)
   ·exact .inl (.inr h)
   ·exact .inl (.inl h)
   ·exact .inr h
theorem sx {l:List Mg} (hg:Gd l) (hl:l.length≤60) (x:Mg):x∈jk l↔x∈l:=by
 have:=Hs kB.nil hg (by simpa using hl) x
 simpa [jk] using this
theorem UE {l L:List Mg} (hg:Gd l) (hl:l.length≤60) (h:kB L) (hm:∀x,x∈L↔x∈l):jk l=L :=
 (kB.told l).s.ext h.s fun x=>by rw [sx hg hl,hm]
theorem kT {L:List Mg} (h:kB L) {m:Mg} (hm:Un m) (hc:tF m=0) (hl:L.length+1≤60):ai (FH20 (m.1,m.2.1,m.2.2.1,m.2.2.2.1,m.2.2.2.2) (bk L))=some (0,bk (iL L m),()):=by
 have:=Ko h.s h.len hm
 rw [MY hc hl] at this
 exact this
end Go.Proofs.Tryz
end
section
namespace Go.Proofs.Tryz
open Go.AM
set_option maxRecDepth 100000
def PI (L L':List Mg):List Mg:=L'.foldl iL L
theorem abI : ∀ {L' L : List Mg}, SL L → SL (PI L L')
 |[],_,h=>h
 |m::L',_,h=>abI (L':=L') h.ins
theorem UF : ∀ {L' L : List Mg}, SL L → ∀ x, x ∈ PI L L' ↔ x ∈ L ∨ x ∈ L'
 |[],L,_,x=>by simp [PI]
 |m::L',L,h,x=>by
  have:=UF (L':=L') (h.ins (m:=m)) x
  rw [show PI L (m::L')=PI (iL L m) L' from rfl,this,lV h,List.mem_cons]
  constructor
  ·rintro ((h | h) | h)
   ·exact .inr (.inl h)
   ·exact .inl h
   ·exact .inr (.inr h)
  ·rintro (h | h | h)
   ·exact .inl (.inr h)
   ·exact .inl (.inl h)
   ·exact .inr h
theorem SL.nd {L:List Mg} (h:SL L):L.Nodup:=List.Pairwise.imp (fun {a b} h e=>by subst e;rw [fK kM] at h;cases h) h
theorem kH48 {L L':List Mg} (h:kB L) (h':kB L') (hl:(PI L L').length≤60):ai (FH48 (bk L) (bk L'))=some (0,bk (PI L L'),bk L',()):=by
 have hl':=h'.len
 have hit:iter (fun x=>ai (gH56_v1_0 x)) (L'.length,((L'.length:Nat):Int),(0:Int),bk L,L',bk L,bk L',())=some (bk (PI L L'),bk L,bk L',()):=by
  refine bg L' (fun k (A:List Mg)=>(L'.length,((L'.length:Nat):Int),(k:Int),bk A,L',bk L,bk L',())) (fun A r=>(bk (r.foldl iL A),bk L,bk L',())) (fun _ A=>SL A) ?_ ?_ (s:=L) h.s
  ·intro pre x post A hx hA
   have hlen:L'.length=pre.length+(post.length+1):=by rw [hx];simp
   have hd:L'.getD pre.length (bs [],(0:Int),bs [],bs [],(0:Int))=x:=by rw [hx];exact bD rfl
   have i1:fZ (pre.length:Int) ((L'.length:Nat):Int)=true:=cD (by omega) (by omega)
   have r1:gZ .i64 ((pre.length:Int)+1)=true:=bh (by omega) (by omega)
   have d1:decide (pre.length<L'.length)=true:=decide_eq_true (by omega)
   left
   refine ⟨iL A x,?_,hA.ins,rfl⟩
   simp only [gH56_v1_0,ax,bQ,bt,bu,aa,Int.toNat_natCast,Nat.zero_add,hd,i1,d1,r1,aA,bH]
   rw [if_pos (by omega),yF hA]
   rfl
  ·intro A _
   simp only [gH56_v1_0,ax,aa,bH]
   rw [if_neg (by omega)]
   rfl
 unfold FH48 FH56_v1 FH192
 simp only [az,yG,aD,ax,bV,FH89,FH193,aa,bW]
 rw [ay (Kq h'.s (by omega))]
 simp only [aD]
 refine bind_eq (a:=(0,bk (PI L L'),bk L',())) (bind_eq hit ?_) rfl
 simp only [bH,Dd]
 rw [if_neg (by omega)]
def acc3:List ByteArray:=[bs [120],bs [121],bs [122]]
def id8:List ByteArray:=[bs [97],bs [98],bs [99],bs [100],bs [101],bs [102],bs [103],bs [104]]
abbrev B2:=List (Mg×Bool)×List (Mg×Bool)×Unit
end Go.Proofs.Tryz
end
section
namespace Go.Proofs.Tryz
open Go.AM
set_option maxRecDepth 100000
end Go.Proofs.Tryz
end
section
namespace Go.Proofs.Tryz
open Go.AM
set_option maxRecDepth 100000
abbrev u8T:Ty:=.int .u8
theorem ai8 {z:Int} (h:Wf u8T z):U8 z:=by
 have e1:IntKind.u8.min=0:=by decide
 have e2:IntKind.u8.max=255:=by decide
 simp only [Wf,e1,e2] at h
 exact h
end Go.Proofs.Tryz
end
section
namespace Go.Proofs.Tryz
open Go.AM
set_option maxRecDepth 100000
def sev (m:Mg):Mg:=if m.2.1=3 then m else (m.1,m.2.1,m.2.2.1,m.2.2.2.1,7)
structure KS where
 met:List (ByteArray×Bool)
 out:List Mg
 s:Int
def Rx (z:KS) (m:Mg):KS:=if ak .str false z.met m.1=true then z else ⟨aS .str z.met m.1 true,z.out++[sev m],if m.2.1=1 then z.s+7 else z.s⟩
structure KI (z:KS):Prop where
 cam:gw .str z.met
 met:∀x,ak .str false z.met x=true↔x∈z.out.map (·.1)
 nd:(z.out.map (·.1)).Nodup
 gd:Gd z.out
 sh:∀m∈z.out,Un m
 am:∀m∈z.out,m.2.1≠3→m.2.2.2.2=7
 s:z.s=7 * ((z.out.filter fun m=>decide (m.2.1=1)).length:Int)
theorem UG : ∀ {l : List Mg}, (l.map (·.1)).Nodup → ∀ {a b : Mg}, a ∈ l → b ∈ l → a.1 = b.1 → a = b
 |[],_,_,_,h,_,_=>by cases h
 |m::l,hn,a,b,ha,hb,e=>by
  rw [List.map_cons,List.nodup_cons] at hn
  rcases List.mem_cons.1 ha with h1|h1<;>rcases List.mem_cons.1 hb with h2|h2
  ·rw [h1,h2]
  ·exact (hn.1 (List.mem_map.2 ⟨b,h2,by rw [←e,h1]⟩)).elim
  ·exact (hn.1 (List.mem_map.2 ⟨a,h1,by rw [e,h2]⟩)).elim
  ·exact UG hn.2 h1 h2 e
theorem ZE {l:List Mg} (hg:Gd l) (hl:l.length≤60) (hn:(l.map (·.1)).Nodup) (x:Mg):x∈cnt (jk l)↔x∈l:=by
 rw [Zk (kB.told l).s,sx hg hl]
 refine ⟨fun h=>h.1,fun h=>⟨h,fun y hy e=>.inl ?_⟩⟩
 exact UG hn ((sx hg hl y).1 hy) h e
def only (Z:Zs) (y:Int):Prop:=CZ Z∧∀z,vG Z z↔z=y
theorem PJ {Z:Zs} {y:Int} (h:only Z y):Z=[(y,())]:=by
 have h1:CZ (aS (.int .i64) ([]:Zs) y ()):=CZ.put .nil y
 exact h.1.ext h1 fun z=>by rw [h.2];exact ⟨fun e=>(vH .nil).2 (.inl e),fun h=>((vH .nil).1 h).elim id fun h=>by cases h⟩
theorem PK {f:ByteArray→Int} {can:Zs} {vs:List ByteArray} {y n:Int} (h:only can y) (hv:vs≠[]) (hf:∀v∈vs,f v=n):only (lZ f can vs) (y+n):=by
 refine ⟨ku.1,fun z=>?_⟩
 rw [ku.2]
 constructor
 ·rintro ⟨v, hv, x, hx, rfl⟩
  rw [(h.2 x).1 hx,hf v hv]
 ·rintro rfl
  obtain ⟨v,hv⟩:=List.exists_mem_of_ne_nil _ hv
  exact ⟨v,hv,y,(h.2 y).2 rfl,by rw [hf v hv]⟩
theorem Hu {c : List Mg} {f : ByteArray → Int} {n : Int} : ∀ {ts : List ByteArray} {can : Zs} {y : Int}, only can y → (∀ t ∈ ts, l8 c t ≠ [] ∧ ∀ v ∈ l8 c t, f v = n) → only (l5 c f ts can) (y + n * ts.length)
 |[],_,y,h,_=>by simpa [l5] using h
 |t::ts,can,y,h,ht=>by
  have h1:=ht t (List.mem_cons_self ..)
  have:=Hu (ts:=ts) (PK h h1.1 h1.2) fun t h=>ht t (List.mem_cons_of_mem _ h)
  have e:y+n+n * (ts.length:Int)=y+n * ((ts.length+1:Nat):Int):=by
   rw [Int.natCast_add,Int.mul_add];omega
  rw [e] at this
  exact this
theorem ZF {l:List Mg} (hg:Gd l) (hl:l.length≤60) (hn:(l.map (·.1)).Nodup):(uz (cnt (jk l))).length=(l.filter fun m=>decide (m.2.1=1)).length:=by
 have h1:(cnt (jk l)).Nodup:=List.Pairwise.imp (fun {a b} h e=>by subst e;rw [show slt a.1 a.1=false from fK (t:=.str) kS a.1] at h;cases h) (gX (jk l))
 have h2:l.Nodup:=(List.pairwise_map.1 hn).imp fun h e=>h (by rw [e])
 have hp:(cnt (jk l)).Perm l:=(List.perm_ext_iff_of_nodup h1 h2).2 fun x=>ZE hg hl hn x
 unfold uz
 rw [List.length_map]
 exact (hp.filter _).length_eq
theorem MZ {l:List Mg} (hl:l.length<1000000000) (hs:∀m∈l,Un m):ai (FH29_v1 l.length l)=some (l,bk (jk l),()):=by
 unfold FH29_v1
 simp only [az,FH18,aa,aD,bW]
 refine bind_eq (bg l (fun k (L:List Mg)=>(l.length,(k:Int),l,bk L,())) (fun L r=>(l,bk (r.foldl (fun L m=>(ew L m).2) L),())) (fun _ L=>kB L) ?_ ?_ (s:=[]) kB.nil) rfl
 ·intro pre x post L hx hL
  have hlen:l.length=pre.length+(post.length+1):=by rw [hx];simp
  have hd:l.getD pre.length (bs [],(0:Int),bs [],bs [],(0:Int))=x:=by rw [hx];exact bD rfl
  have hin:fZ (pre.length:Int) (l.length:Int)=true:=cD (by omega) (by omega)
  have hni:gZ .i64 ((pre.length:Int)+1)=true:=bh (by omega) (by omega)
  have d1:decide (pre.length<l.length)=true:=decide_eq_true (by omega)
  left
  refine ⟨(ew L x).2,?_,hL.tell x,rfl⟩
  simp only [gH29_v1_0,ax,bQ,bt,bu,aa,az,Int.toNat_natCast,Nat.zero_add,bH,hin,hni,d1,aA]
  rw [if_pos (by omega)]
  have hk:=Ko hL.s hL.len (hs x (by rw [hx];simp))
  rw [hd]
  rw [ay (show ai (FH20 (x.1,x.2.1,x.2.2.1,x.2.2.2.1,x.2.2.2.2) (bk L))=_ from hk)]
  rfl
 ·intro L _
  simp only [gH29_v1_0,ax,aa,bH]
  rw [if_neg (by omega)]
  rfl
end Go.Proofs.Tryz
end
section
namespace Go.Proofs.Tryz
open Go.AM
set_option maxRecDepth 100000
section
variable {c:List Mg}
theorem aeW {m:Mg} (hm:m∈c) (h:m.2.1=2):m.1∈kids c m.2.2.1:=kq.2 ⟨m,hm,rfl,h,rfl⟩
def par (c:List Mg) (m:Mg):Option Mg:=c.find? fun x=>decide (x.1=m.2.2.1∧x.2.1≠3)
def way (c : List Mg) : Nat → Mg → List Mg
 |0,_=>[]
 |n+1,m=>m::(if m.2.1=1 then [] else match par c m with|some x=>way c n x|none=>[])
end
end Go.Proofs.Tryz
end
section
namespace Go.Proofs.Tryz
open Go.AM
set_option maxRecDepth 100000
set_option maxHeartbeats 1000000
end Go.Proofs.Tryz
end
section
namespace Go.Proofs.Tryz
open Go.AM
set_option maxRecDepth 100000
section
variable {c:List Mg}
def Kd3 (c:List Mg):Prop:=∀m∈c,m.2.1=1∨m.2.1=2∨m.2.1=3
def Tk (c:List Mg) (t:ByteArray):Prop:=∃m∈c,m.1=t∧m.2.1=1
def NR (c:List Mg) (t:ByteArray):Prop:=∃m∈c,m.1=t∧m.2.1≠3
theorem ZG (hs:SI c) {m:Mg} (hm:m∈c) {y:ByteArray} (h:m.1∈kids c y):m.2.1=2∧m.2.2.1=y:=by
 obtain ⟨m',hm',e,h2,h3⟩:=kq.1 h
 rw [hs.inj hm' hm e] at h2 h3;exact ⟨h2,h3⟩
theorem Tk.top (hs:SI c) {t:ByteArray} (h:Tk c t):Top c t:=by
 obtain ⟨m,hm,rfl,h1⟩:=h
 intro x hx
 have:=(ZG hs hm hx).1
 omega
theorem Tk.ids {t:ByteArray} (h:Tk c t):t∈ids c:=by obtain ⟨m,hm,rfl,_⟩:=h;exact List.mem_map.2 ⟨m,hm,rfl⟩
theorem Tk.nr {t:ByteArray} (h:Tk c t):NR c t:=by obtain ⟨m,hm,rfl,h1⟩:=h;exact ⟨m,hm,rfl,by omega⟩
theorem ZH {x y:ByteArray} (h:y∈kids c x):NR c y:=by
 obtain ⟨m,hm,rfl,h2,_⟩:=kq.1 h;exact ⟨m,hm,rfl,by omega⟩
theorem vJ {x z:ByteArray} {n:Nat} (h:mR c x n z):(n=0∧z=x)∨∃k y,n=k+1∧mR c x k y∧z∈kids c y:=by
 cases h with
 |zero=>exact .inl ⟨rfl,rfl⟩
 |step h hz=>exact .inr ⟨_,_,rfl,h,hz⟩
theorem ZI {n:Nat} {x y:ByteArray} (h:mR c x n y) (hx:x∈ids c):y∈ids c:=by
 rcases vJ h with ⟨_,rfl⟩|⟨_,_,_,_,hz⟩
 ·exact hx
 ·exact iM hz
theorem aeY {n:Nat} {x y:ByteArray} (h:mR c x n y) (hx:NR c x):NR c y:=by
 rcases vJ h with ⟨_,rfl⟩|⟨_,_,_,_,hz⟩
 ·exact hx
 ·exact ZH hz
theorem aeZ {x z:ByteArray} (h:lB c z=false) (hz:z∈kids c x):lB c x=false:=by
 cases h':lB c x with
 |false=>rfl
 |true=>rw [Zo h' hz] at h;cases h
theorem M0 (hs : SI c) (hk : Kd3 c) : ∀ {n : Nat} {x t : ByteArray}, zL c n x = some t ↔ Tk c t ∧ lB c x = false ∧ ∃ d, d < n ∧ mR c t d x
 |0,x,t=>by simp [zL]
 |n+1,x,t=>by
  unfold zL
  by_cases hm:qB c x=true
  ·rw [if_pos hm]
   obtain ⟨fL,hm2⟩:=Dg hs hm
   by_cases h3:(msg c x).2.1=3
   ·rw [if_pos h3]
    simp only [reduceCtorEq,false_iff]
    rintro ⟨ht,_,d,_,hp⟩
    obtain ⟨m,hm',e,h3'⟩:=aeY hp ht.nr
    have:=hs.inj hm' fL (by rw [e,hm2])
    rw [this] at h3'
    exact h3' h3
   ·rw [if_neg h3]
    by_cases hst:lB c x=true
    ·rw [if_pos hst]
     simp only [reduceCtorEq,false_iff]
     rintro ⟨_,h,_⟩
     rw [h] at hst;cases hst
    ·rw [if_neg hst]
     have hst:lB c x=false:=by simpa using hst
     by_cases h1:(msg c x).2.1=1
     ·rw [if_pos h1]
      have ht:Tk c x:=⟨_,fL,hm2,h1⟩
      constructor
      ·intro e
       obtain rfl:=Option.some.inj e
       exact ⟨ht,hst,0,by omega,.zero⟩
      ·rintro ⟨_, _, d, _, hp⟩
       rcases vJ hp with ⟨_,e⟩|⟨_,_,_,_,hz⟩
       ·rw [e]
       ·exact absurd hz (ht.top hs _)
     ·rw [if_neg h1, M0 hs hk]
      have h2:(msg c x).2.1=2:=by rcases hk _ fL with h|h|h<;>omega
      have ZJ:x∈kids c (msg c x).2.2.1:=by have:=aeW fL h2;rwa [hm2] at this
      constructor
      ·rintro ⟨ht, _, d, hd, hp⟩
       exact ⟨ht,hst,d+1,by omega,.step hp ZJ⟩
      ·rintro ⟨ht, _, d, hd, hp⟩
       rcases vJ hp with ⟨_,e⟩|⟨k,z,hk',h4,hz⟩
       ·exact absurd (by rw [←e];exact ZJ) (ht.top hs _)
       ·rw [MO hs hz ZJ] at h4
        exact ⟨ht,aeZ hst ZJ,k,by omega,h4⟩
  ·rw [if_neg hm]
   simp only [reduceCtorEq,false_iff]
   rintro ⟨ht,_,d,_,hp⟩
   exact hm (cg.2 (ZI hp ht.ids))
theorem Hv (hs:SI c) (hk:Kd3 c) {x t:ByteArray}:Dh c x=some t↔Tk c t∧lB c x=false∧∃d,mR c t d x:=by
 rw [M0 hs hk]
 exact and_congr_right fun ht=>and_congr_right fun _=>⟨fun ⟨d,_,h⟩=>⟨d,h⟩,fun ⟨d,h⟩=>⟨d,h.short hs (ht.top hs) ht.ids,h⟩⟩
theorem M1 (x:ByteArray):slt x x=false:=fK (t:=.str) kS x
end
end Go.Proofs.Tryz
end
section
namespace Go.Proofs.Tryz
open Go.AM
set_option maxRecDepth 100000
set_option maxHeartbeats 1000000
structure ByN (m:Mg):Prop where
 tF:tF m=0
 id:m.1∈id8
 of:m.2.1≠1→m.2.2.1∈id8
 acc:m.2.1≠3→m.2.2.2.1∈acc3
 amt : -3≤m.2.2.2.2∧m.2.2.2.2≤8
structure CN (c:List Mg):Prop where
 si:SI c
 k3:Kd3 c
 byN:∀m∈c,ByN m
 len:c.length≤8
end Go.Proofs.Tryz
end
section
namespace Go.Proofs.Tryz
open Go.AM
set_option maxRecDepth 100000
set_option maxHeartbeats 2000000
section
variable {c:List Mg}
end
end Go.Proofs.Tryz
end
section
namespace Go.Proofs.Tryz
open Go.AM
set_option maxRecDepth 100000
set_option maxHeartbeats 2000000
section
variable {c:List Mg}
end
end Go.Proofs.Tryz
end
section
namespace Go.Proofs.Tryz
open Go.AM
set_option maxRecDepth 100000
theorem ZK {α:Type} {a b:Option α} (h:∀t,a=some t↔b=some t):a=b:=by
 cases a with
 |some x=>exact ((h x).1 rfl).symm
 |none =>
  cases b with
  |none=>rfl
  |some y=>exact (h y).2 rfl
section
variable {c c':List Mg} {n:Mg}
abbrev D (c:List Mg) (p:ByteArray):List ByteArray:=dir c (p,kids c p)
theorem UH (x:ByteArray):kids (c++[n]) x=kids c x++if n.2.1=2∧n.2.2.1=x then [n.1] else []:=by
 unfold kids
 rw [List.filter_append,List.map_append]
 congr 1
 by_cases h:n.2.1=2∧n.2.2.1=x
 ·rw [if_pos h,List.filter_cons_of_pos (by simpa using h)];rfl
 ·rw [if_neg h,List.filter_cons_of_neg (by simpa using h)];rfl
theorem UI (h:∀x y,y∈kids c x→y∈kids c' x) {k:Nat} {x y:ByteArray} (hp:mR c x k y):mR c' x k y:=by
 induction hp with
 |zero=>exact .zero
 |step _ hz ih=>exact .step ih (h _ _ hz)
theorem ae0 (h1:n.2.1≠1) {t:ByteArray}:Tk (c++[n]) t↔Tk c t:=by
 constructor
 ·rintro ⟨m, hm, e, hk⟩
  rcases List.mem_append.1 hm with hm|hm
  ·exact ⟨m,hm,e,hk⟩
  ·rw [List.mem_singleton.1 hm] at hk;exact absurd hk h1
 ·rintro ⟨m,hm,h⟩;exact ⟨m,List.mem_append_left _ hm,h⟩
theorem ae1 (hk:Kd3 c) (hn:n.2.1=1∨n.2.1=2∨n.2.1=3):Kd3 (c++[n]):=fun m hm=>by
 rcases List.mem_append.1 hm with hm|hm
 ·exact hk m hm
 ·rw [List.mem_singleton.1 hm];exact hn
end
end Go.Proofs.Tryz
end
section
namespace Go.Proofs.Tryz
open Go.AM
set_option maxRecDepth 100000
set_option maxHeartbeats 2000000
section
variable {c:List Mg} {n m:Mg} {t:ByteArray}
end
end Go.Proofs.Tryz
end
section
namespace Go.Proofs.Tryz
open Go.AM
set_option maxRecDepth 100000
set_option maxHeartbeats 2000000
section
variable {c:List Mg} {n m:Mg} {t:ByteArray}
structure Fx (c:List Mg) (n:Mg):Prop where
 si:SI c
 k3:Kd3 c
 si':SI (c++[n])
 k2:n.2.1=2
 ni:qB c n.1=false
 nk:kids c n.1=[]
 nr:De c n.1=false
 no:n.1≠n.2.2.1
theorem Fx.k3' (h:Fx c n):Kd3 (c++[n]):=ae1 h.k3 (.inr (.inl h.k2))
theorem Fx.ai9 (h:Fx c n) (x:ByteArray):n.1∉kids c x:=fun hx=>by
 have:=cg.2 (iM hx)
 rw [h.ni] at this;cases this
theorem Fx.kid (h:Fx c n) (x:ByteArray):kids (c++[n]) x=if x=n.2.2.1 then kids c x++[n.1] else kids c x:=by
 rw [UH]
 by_cases e:x=n.2.2.1
 ·rw [if_pos e,if_pos ⟨h.k2,e.symm⟩]
 ·rw [if_neg e,if_neg fun h=>e h.2.symm,List.append_nil]
theorem Fx.M3 (h:Fx c n) {x y:ByteArray}:y∈kids (c++[n]) x↔y∈kids c x∨(x=n.2.2.1∧y=n.1):=by
 rw [h.kid]
 split
 ·rename_i e;simp [e]
 ·rename_i e;simp [e]
theorem Fx.pth (h:Fx c n) {k:Nat} {x y:ByteArray} (hp:mR (c++[n]) x k y) (hy:y≠n.1):mR c x k y:=by
 induction hp with
 |zero=>exact .zero
 |step _ hz ih =>
  rcases h.M3.1 hz with hz|⟨_,e⟩
  ·refine .step (ih fun e => ?_) hz
   rw [e,h.nk] at hz;cases hz
  ·exact absurd e hy
theorem Fx.pth' (h:Fx c n) {k:Nat} {x y:ByteArray} (hp:mR c x k y):mR (c++[n]) x k y:=UI (fun _ _ hy=>h.M3.2 (.inl hy)) hp
theorem Fx.stk (h:Fx c n) (hD:∀p,D (c++[n]) p=D c p) {x:ByteArray} (hx:x≠n.1):lB (c++[n]) x=lB c x:=by
 rw [Bool.eq_iff_iff,Hi,Hi]
 constructor
 ·rintro ⟨p, y, hy, hd⟩
  obtain ⟨k,hp⟩:=hd.pth
  exact ⟨p,y,by have:y∈D (c++[n]) p:=hy;rw [hD p] at this;exact this,(h.pth hp hx).desc⟩
 ·rintro ⟨p, y, hy, hd⟩
  obtain ⟨k,hp⟩:=hd.pth
  exact ⟨p,y,by show y∈D (c++[n]) p;rw [hD p];exact hy,(h.pth' hp).desc⟩
theorem Fx.tk (h:Fx c n) {t:ByteArray}:Tk (c++[n]) t↔Tk c t:=ae0 (by have:=h.k2;omega)
theorem Fx.fF (h:Fx c n) (hD:∀p,D (c++[n]) p=D c p) {x:ByteArray} (hx:x≠n.1):Dh (c++[n]) x=Dh c x:=ZK fun t=>by
 rw [Hv h.si' h.k3',Hv h.si h.k3,h.tk,h.stk hD hx]
 exact and_congr_right fun _=>and_congr_right fun _=>exists_congr fun d=>⟨fun hp=>h.pth hp hx,h.pth'⟩
theorem Fx.iY (h:Fx c n) (hD:∀p,D (c++[n]) p=D c p) {x:ByteArray} (hx:x≠n.2.2.1):iY (c++[n]) x=iY c x:=by
 unfold Tryz.iY
 rw [h.kid,if_neg hx]
 exact List.filter_congr fun k hk=>by rw [h.stk hD fun e=>h.ai9 x (by rw [←e];exact hk)]
end
end Go.Proofs.Tryz
end
section
namespace Go.Proofs.Tryz
open Go.AM
set_option maxRecDepth 100000
set_option maxHeartbeats 2000000
section
variable {c:List Mg} {n:Mg} {t:ByteArray}
end
end Go.Proofs.Tryz
end
section
namespace Go.Proofs.Tryz
open Go.AM
set_option maxRecDepth 100000
set_option maxHeartbeats 2000000
theorem n90:(!((9:Int)==0))=true:=by decide
theorem ZL (x:ByteArray):ai (FH32_v1 x)=some (0,9,()):=by
 simp only [FH32_v1,az,FH54_v1,aa,aD,ax,aP,n90]
theorem ZM (x:ByteArray):ai (FH33_v1 x)=some (0,9,[],()):=by
 simp only [FH33_v1,az,FH54_v1,aa,aD,ax,aP,n90]
theorem M4 (x:ByteArray):ai (FH23_v1 x)=some (0,9,[],()):=by
 simp only [FH23_v1,az,FH54_v1,aa,aD,ax,aP]
theorem ZN (x:ByteArray):ai (FH25_v1 x)=some ((0,0),9,()):=by
 simp only [FH25_v1,az,M4,aa,aD,ax,aP,n90]
theorem ZO:ai FH37_v1=some ((0,0),9,()):=by
 simp only [FH37_v1,az,FH54_v1,aa,aD,ax,aP]
theorem ZP (m:Mg):ai (FH20_v1 m)=some (9,()):=by
 simp only [FH20_v1,az,FH54_v1,aa,aD,ax,aP]
theorem ZQ (m:List (Mg×Bool)):ai (FH48_v2 m)=some (9,m,()):=by
 simp only [FH48_v2,az,FH54_v1,aa,aD,ax,aP]
theorem ZR (m:List (Mg×Bool)):ai (FH48_v3 m)=some (9,m,()):=by
 simp only [FH48_v3,az,yG,FH54_v1,aa,aD,ax,aP,bV]
theorem ZS:ai FH47_v1=some ():=by
 simp only [FH47_v1,az,FH54_v1,aa,aD,ax,aP]
theorem ZT:ai FH45_v1=some (0,[],()):=by
 simp only [FH45_v1,az,FH54_v1,aa,aD,ax,aP]
theorem kH52 (m:List (Mg×Bool)):ai (FH52 m)=some (true,m,()):=by
 simp only [FH52,az,ZL,ZM,M4,ZN,ZO,ZP,ZQ,ZR,ZS,ZT,aD,ax,aa,beq_self_eq_true,aP]
 rfl
theorem ZU (x:ByteArray):ai (FH32_v2 x)=some (0,9,()):=by
 simp only [FH32_v2,az,FH54_v2,aa,aD,ax,aP,n90]
theorem ZV (x:ByteArray):ai (FH33_v2 x)=some (0,9,[],()):=by
 simp only [FH33_v2,az,FH54_v2,aa,aD,ax,aP,n90]
theorem M5 (x:ByteArray):ai (FH23_v2 x)=some (0,9,[],()):=by
 simp only [FH23_v2,az,FH54_v2,aa,aD,ax,aP]
theorem ZW (x:ByteArray):ai (FH25_v2 x)=some ((0,0),9,()):=by
 simp only [FH25_v2,az,M5,aa,aD,ax,aP,n90]
theorem ZX:ai FH37_v2=some ((0,0),9,()):=by
 simp only [FH37_v2,az,FH54_v2,aa,aD,ax,aP]
theorem ZY (m:Mg):ai (FH20_v2 m)=some (9,()):=by
 simp only [FH20_v2,az,FH54_v2,aa,aD,ax,aP]
theorem ZZ (m:List (Mg×Bool)):ai (FH48_v4 m)=some (9,m,()):=by
 simp only [FH48_v4,az,FH54_v2,aa,aD,ax,aP]
theorem Z0 (m:List (Mg×Bool)):ai (FH48_v5 m)=some (9,m,()):=by
 simp only [FH48_v5,az,yG,FH54_v2,aa,aD,ax,aP,bV]
theorem Z1:ai FH47_v2=some ():=by
 simp only [FH47_v2,az,FH54_v2,aa,aD,ax,aP]
theorem Z2:ai FH45_v2=some (0,[],()):=by
 simp only [FH45_v2,az,FH54_v2,aa,aD,ax,aP]
theorem Z3 (m:List (Mg×Bool)):ai (FH52_v1 m)=some (true,m,()):=by
 simp only [FH52_v1,az,ZU,ZV,M5,ZW,ZX,ZY,ZZ,Z0,Z1,Z2,aD,ax,aa,beq_self_eq_true,aP]
 rfl
def yU (z:Int):ByteArray:=yY [109,48+Int.tdiv z 10,48+Int.tmod z 10]
def M6:ByteArray:=bs [97,110,97]
def E (i:Nat):Mg:=(yU i,1,bs [],M6,1)
def Ls (i:Nat):List Mg:=(List.range i).map E
theorem Z4:((List.range 60).all fun i=>((List.range 60).all fun j=>slt (yU i) (yU j)==decide (i<j))&&gW (yU i)&&decide ((yU i).size≤3) && !(seq (yU i) (bs [122,122])))=true:=by kernel_rfl
theorem oF {i:Nat} (hi:i<60):(∀j:Nat,j<60→slt (yU i) (yU j)=decide (i<j))∧gW (yU i)=true∧(yU i).size≤3∧yU i≠bs [122,122]:=by
 have h:=List.all_eq_true.1 Z4 i (List.mem_range.2 hi)
 simp only [Bool.and_eq_true,decide_eq_true_eq,List.all_eq_true,beq_iff_eq,List.mem_range,seq_eq,Bool.not_eq_true',decide_eq_false_iff_not] at h
 exact ⟨h.1.1.1,h.1.1.2,h.1.2,h.2⟩
theorem yN:gW M6=true∧Sh M6∧gW (bs [65,110,97])=false∧Sh (bs [65,110,97])∧gW (bs [122,122])=true∧Sh (bs [122,122])∧Sh (bs []):=by unfold Sh;decide
theorem yO {a d:ByteArray} {z:Int} (h1:gW a=true) (h3:gW d=true) (hz : -1000≤z∧z≤1000):tF (a,1,bs [],d,z)=0:=by
 simp [tF,sn,oz,h1,h3,hz,ai7]
theorem ajb {i j:Nat} (hi:i<60) (hj:j<60) (e:yU i=yU j):i=j:=by
 have h1:=(oF hi).1 j hj
 have h2:=(oF hj).1 i hi
 rw [e,M1] at h1
 rw [e,M1] at h2
 have h1:=of_decide_eq_false h1.symm
 have h2:=of_decide_eq_false h2.symm
 omega
theorem oG {i:Nat} {x:Mg}:x∈Ls i↔∃j,j<i∧x=E j:=by
 unfold Ls
 rw [List.mem_map]
 exact ⟨fun ⟨j,hj,e⟩=>⟨j,List.mem_range.1 hj,e.symm⟩,fun ⟨j,hj,e⟩=>⟨j,List.mem_range.2 hj,e.symm⟩⟩
theorem Hw {i:Nat} (hi:i≤60):kB (Ls i):=by
 refine ⟨?_,by simp [Ls];omega,fun m hm=>?_⟩
 ·unfold SL Ls
  rw [List.pairwise_map]
  refine List.Pairwise.imp_of_mem (fun {a b} ha hb hab=>?_) List.pairwise_lt_range
  have e:gy tM (E a) (E b)=(slt (yU a) (yU b)||(dx .str (yU a) (yU b)&&gy (.prod (.int .i64) (.prod .str (.prod .str (.int .i64)))) (E a).2 (E b).2)):=rfl
  rw [e,(oF (by have:=List.mem_range.1 ha;omega)).1 b (by have:=List.mem_range.1 hb;omega),decide_eq_true hab,Bool.true_or]
 ·obtain ⟨j, hj, rfl⟩ := oG.1 hm
  exact yO (oF (by omega)).2.1 yN.1 (by omega)
theorem Z5 {i:Nat} (hi:i<60):Un (E i):=by
 have:=(oF hi).2.2.1
 exact ⟨show (yU i).size<1000000000 by omega,yN.2.2.2.2.2.2,yN.2.1⟩
theorem ae2 {i:Nat} (hi:i<60):iL (Ls i) (E i)=Ls (i+1):=by
 have h:=Hw (i:=i) (by omega)
 refine h.s.ins.ext (Hw (by omega)).s fun x=>?_
 rw [lV h.s,oG,oG]
 constructor
 ·rintro (rfl | ⟨j, hj, rfl⟩)
  ·exact ⟨i,by omega,rfl⟩
  ·exact ⟨j,by omega,rfl⟩
 ·rintro ⟨j, hj, rfl⟩
  by_cases e:j=i
  ·subst e;exact .inl rfl
  ·exact .inr ⟨j,by omega,rfl⟩
theorem yP {i:Nat}:(Ls i).length=i:=by simp [Ls]
theorem yQ {L:List Mg} (h:SL L) {m:Mg} (hm:m∉L):(iL L m).length=L.length+1:=by
 have hp:(iL L m).Perm (m::L):=(List.perm_ext_iff_of_nodup h.ins.nd (List.nodup_cons.2 ⟨hm,h.nd⟩)).2 fun x=>by rw [lV h,List.mem_cons]
 rw [hp.length_eq,List.length_cons]
theorem k51 {z:Int} (h0:0≤z) (h1:z<60):ai (F51 z)=some (yU z,()):=by
 have hd:0≤Int.tdiv z 10∧Int.tdiv z 10≤6:=by rw [Int.tdiv_eq_ediv_of_nonneg h0];omega
 have hm:=tm8 h0 10 (by omega)
 have e10:(!((10:Int)==0))=true:=by decide
 unfold F51
 simp only [bt,bu,aa]
 rw [fQ e10,iF (by omega) (by omega),iF (by omega) (by omega),fQ (UD (by omega) (by omega)),fQ e10,iF (by omega) (by omega),fQ (UD (by omega) (by omega))]
 rfl
theorem k50 (a d:ByteArray) (z:Int):ai (F50 a d z)=some ((a,1,bs [],d,z),()):=rfl
theorem ajc {v0:Int}:iter (fun a=>ai (g14_0 a)) (v0,(0:Int),[],())=some (.inr (v0,bk (Ls 60),())):=by
 refine Iv 60 (fun k=>(v0,(k:Int),bk (Ls k),())) (fun k hk=>?_) ?_
 ·have r1 : gZ .i64 ((k : Int) + 1) = true := bh (by omega) (by omega)
  have hL:=Hw (i:=k) (by omega)
  have hT:=kT hL (Z5 hk) (yO (oF hk).2.1 yN.1 (by omega)) (by rw [yP];omega)
  rw [ae2 hk] at hT
  simp only [g14_0,ax,az,bu,aa,bH]
  rw [if_pos (by omega),ay (k51 (by omega) (by omega))]
  simp only
  rw [ay (k50 _ _ _)]
  simp only
  refine Eq.trans (ay hT) ?_
  simp only [bU,bO,reduceIte,r1,aA]
  rfl
 ·simp only [g14_0, ax, aa, bH]
  rw [if_neg (by omega)]
theorem sy {m:Mg} (h:tF m=0):jk [m]=[m]:=by
 have hk:=kB.told [m]
 refine hk.s.ext (List.pairwise_singleton _ _) fun x=>sx (fun y hy=>by rw [List.mem_singleton.1 hy];exact h) (by simp) x
theorem abJ {L L':List Mg} (h:kB L) (h':kB L') (hl:60<(PI L L').length):ai (FH48 (bk L) (bk L'))=some (15,bk L,bk L',()):=by
 have hl':=h'.len
 have hit:iter (fun x=>ai (gH56_v1_0 x)) (L'.length,((L'.length:Nat):Int),(0:Int),bk L,L',bk L,bk L',())=some (bk (PI L L'),bk L,bk L',()):=by
  refine bg L' (fun k (A:List Mg)=>(L'.length,((L'.length:Nat):Int),(k:Int),bk A,L',bk L,bk L',())) (fun A r=>(bk (r.foldl iL A),bk L,bk L',())) (fun _ A=>SL A) ?_ ?_ (s:=L) h.s
  ·intro pre x post A hx hA
   have hlen:L'.length=pre.length+(post.length+1):=by rw [hx];simp
   have hd:L'.getD pre.length (bs [],(0:Int),bs [],bs [],(0:Int))=x:=by rw [hx];exact bD rfl
   have i1:fZ (pre.length:Int) ((L'.length:Nat):Int)=true:=cD (by omega) (by omega)
   have r1:gZ .i64 ((pre.length:Int)+1)=true:=bh (by omega) (by omega)
   have d1:decide (pre.length<L'.length)=true:=decide_eq_true (by omega)
   left
   refine ⟨iL A x,?_,hA.ins,rfl⟩
   simp only [gH56_v1_0,ax,bQ,bt,bu,aa,Int.toNat_natCast,Nat.zero_add,hd,i1,d1,r1,aA,bH]
   rw [if_pos (by omega),yF hA]
   rfl
  ·intro A _
   simp only [gH56_v1_0,ax,aa,bH]
   rw [if_neg (by omega)]
   rfl
 unfold FH48 FH56_v1 FH192
 simp only [az,yG,aD,ax,bV,FH89,FH193,aa,bW]
 rw [ay (Kq h'.s (by omega))]
 simp only [aD]
 refine bind_eq (a:=(15,bk L,bk L',())) (bind_eq hit ?_) rfl
 simp only [bH,Dd]
 rw [if_pos (by omega)]
theorem UJ:Zz (cnt (Ls 60))=(60,60):=by
 have hL:=Hw (i:=60) (by omega)
 have hg:Gd (Ls 60):=hL.tF
 have hn:((Ls 60).map (·.1)).Nodup:=by
  unfold Ls
  rw [List.map_map]
  unfold List.Nodup
  rw [List.pairwise_map]
  refine List.Pairwise.imp_of_mem (fun {a b} ha hb hab e=>?_) List.pairwise_lt_range
  have:=ajb (List.mem_range.1 ha) (List.mem_range.1 hb) e
  omega
 have hto:jk (Ls 60)=Ls 60:=UE hg (by rw [yP];omega) hL fun x=>Iff.rfl
 have hs:=gX (Ls 60)
 have hmem:∀m∈cnt (Ls 60),m.2.1=1∧m.2.2.2.2=1:=fun m hm=>by
  obtain ⟨j,_,rfl⟩:=oG.1 (vC hm);exact ⟨rfl,rfl⟩
 have h:=Hu (c:=cnt (Ls 60)) (f:=fT (cnt (Ls 60))) (n:=1) (ts:=uz (cnt (Ls 60))) (can:=ei) (y:=0) cU fun t ht=>by
  have h1:=Dj hs ht
  refine ⟨UB hs h1,fun v hv=>?_⟩
  obtain ⟨h2,_⟩:=MQ hs h1.1 h1.2 hv
  exact (hmem _ (Dg hs h2).1).2
 have ht:=ZF hg (by rw [yP];omega) hn
 rw [hto] at ht
 have hf:((Ls 60).filter fun m=>decide (m.2.1=1))=Ls 60:=List.filter_eq_self.2 fun m hm=>by
  obtain ⟨j,_,rfl⟩:=oG.1 hm;rfl
 rw [hf,yP] at ht
 unfold Zz k7
 rw [PJ h,ht]
 simp [MS]
theorem k14 {w:Int} (hw:U8 w):ai (F14 w)=some (true,()):=by
 have hL:=Hw (i:=60) (by omega)
 have hlen:=yP (i:=60)
 have hw1:=hw.1
 have hw2:=hw.2
 have tw:=tm8 hw1 60 (by omega)
 obtain ⟨n,hn⟩:∃n:Nat,Int.tmod w 60=(n:Int):=⟨(Int.tmod w 60).toNat,by omega⟩
 rw [hn] at tw
 have UK:n<60:=by omega
 obtain ⟨a1,a2,a3,a4,a5,a6,a7⟩:=yN
 obtain ⟨_,b2,b3,b4⟩:=oF UK
 have hEn:E n∈Ls 60:=oG.2 ⟨n,UK,rfl⟩
 have cE:tF (E n)=0:=yO b2 a1 (by omega)
 have hE2:(yU n,(1:Int),bs [],M6,(2:Int))∉Ls 60:=fun h=>by
  obtain ⟨j,_,e⟩:=oG.1 h
  have:=congrArg (fun m:Mg=>m.2.2.2.2) e
  simp [E] at this
 have hzz:(bs [122,122],(1:Int),bs [],M6,(1:Int))∉Ls 60:=fun h=>by
  obtain ⟨j,hj,e⟩:=oG.1 h
  have:=congrArg (fun m:Mg=>m.1) e
  exact (oF hj).2.2.2 this.symm
 have czz:tF (bs [122,122],(1:Int),bs [],M6,(1:Int))=0:=yO a5 a1 (by omega)
 have t1:ew (Ls 60) (E n)=(0,Ls 60):=by
  unfold ew
  rw [if_pos cE,MH hL.s hEn,if_neg (by omega)]
 have t2:ew (Ls 60) (yU n,(1:Int),bs [],M6,(2:Int))=(15,Ls 60):=by
  unfold ew
  rw [if_pos (yO b2 a1 (by omega)),yQ hL.s hE2,if_pos (by omega)]
 have t3:ew (Ls 60) (bs [122,122],(1:Int),bs [],M6,(1:Int))=(15,Ls 60):=by
  unfold ew
  rw [if_pos czz,yQ hL.s hzz,if_pos (by omega)]
 have c4:tF (bs [122,122],(1:Int),bs [],bs [65,110,97],(1:Int))=8:=by
  have:zK [0,8]=8:=by decide
  simp [tF,sn,oz,a5,a3,this]
 have t4:ew (Ls 60) (bs [122,122],(1:Int),bs [],bs [65,110,97],(1:Int))=(8,Ls 60):=by
  unfold ew
  rw [c4,if_neg (by omega)]
 have q1:=Ko hL.s hL.len (Z5 UK)
 rw [t1] at q1
 have q2:=Ko hL.s hL.len (m:=(yU n,(1:Int),bs [],M6,(2:Int))) ⟨(Z5 UK).1,a7,a2⟩
 rw [t2] at q2
 have q3:=Ko hL.s hL.len (m:=(bs [122,122],(1:Int),bs [],M6,(1:Int))) ⟨a6,a7,a2⟩
 rw [t3] at q3
 have q4:=Ko hL.s hL.len (m:=(bs [122,122],(1:Int),bs [],bs [65,110,97],(1:Int))) ⟨a6,a7,a4⟩
 rw [t4] at q4
 have hO:=kB.told [E n]
 rw [sy cE] at hO
 have hP:=kB.told [(bs [122,122],(1:Int),bs [],M6,(1:Int))]
 rw [sy czz] at hP
 have o1:=MZ (l:=[E n]) (by simp) (fun m hm=>by rw [List.mem_singleton.1 hm];exact Z5 UK)
 rw [sy cE] at o1
 have p1:=MZ (l:=[(bs [122,122],(1:Int),bs [],M6,(1:Int))]) (by simp) (fun m hm=>by rw [List.mem_singleton.1 hm];exact ⟨a6,a7,a2⟩)
 rw [sy czz] at p1
 have u1:PI (Ls 60) [E n]=Ls 60:=MH hL.s hEn
 have j1:=kH48 hL hO (by rw [u1];omega)
 rw [u1] at j1
 have j2 := abJ hL hP (by
  show 60<(iL (Ls 60) _).length
  rw [yQ hL.s hzz];omega)
 have j3 := abJ hP hL (by
  have hp:(PI [(bs [122,122],(1:Int),bs [],M6,(1:Int))] (Ls 60)).Perm ((bs [122,122],(1:Int),bs [],M6,(1:Int))::Ls 60):=(List.perm_ext_iff_of_nodup (abI hP.s).nd (List.nodup_cons.2 ⟨hzz,hL.s.nd⟩)).2 fun x=>by
   rw [UF hP.s,List.mem_singleton,List.mem_cons]
  rw [hp.length_eq,List.length_cons];omega)
 have e60:(!((60:Int)==0))=true:=by decide
 have b0:bk ([]:List Mg)=[]:=rfl
 unfold F14
 simp only [az,FH18,aa,aD,bW]
 refine Eq.trans (ay ajc) ?_
 simp only [nU,bu,bt,az]
 rw [iF (by omega) (by omega),fQ e60,hn,ay (k51 tw.1 tw.2)]
 simp only
 rw [ay (k50 _ _ _)]
 refine Eq.trans (ay q1) ?_
 simp only [bU,bO,reduceIte,ax,az]
 rw [ay (k51 tw.1 tw.2)]
 simp only
 rw [ay (k50 _ _ _)]
 refine Eq.trans (ay q2) ?_
 simp only [bU,bO,reduceIte,ax,az]
 rw [ay (k50 _ _ _)]
 refine Eq.trans (ay q3) ?_
 simp only [bU,bO,reduceIte,ax,az]
 rw [ay (k50 _ _ _)]
 refine Eq.trans (ay q4) ?_
 simp only [bU,bO,reduceIte,ax,az]
 rw [ay (k51 tw.1 tw.2)]
 simp only
 rw [ay (k50 _ _ _)]
 refine Eq.trans (ay o1) ?_
 simp only
 rw [ay (k50 _ _ _)]
 refine Eq.trans (ay p1) ?_
 simp only
 rw [ay (kH37 hL)]
 simp only
 rw [ay j1]
 simp only [bU,bO,reduceIte,ax,az]
 refine Eq.trans (ay j2) ?_
 simp only [bU,bO,reduceIte,ax,az]
 refine Eq.trans (ay j3) ?_
 simp only [bU,bO,reduceIte,ax,az]
 rw [ay (Kq hL.s (by omega))]
 simp only [bU,bO,ax,az]
 rw [if_pos (by omega),ay (Kq hP.s (by simp)),UJ]
 simp only [List.length_singleton,beq_self_eq_true,Bool.and_self,Bool.not_true,bV,aP,ax,az,bO,reduceIte]
 rw [if_pos (by omega),ay (kH52 _)]
 simp only [ax,aP,az]
 rw [ay (Z3 _)]
 simp only [ax,aP,az]
 rw [ay (Kq hL.s (by omega))]
 simp only [bO,ax,az]
 rw [if_pos (by omega),ay k17]
 rfl
theorem ajd (w:Int) (hW:EA [u8T] (w,())):ai (F14 w)=some (true,()):=k14 (ai8 hW.1)
end Go.Proofs.Tryz
end
