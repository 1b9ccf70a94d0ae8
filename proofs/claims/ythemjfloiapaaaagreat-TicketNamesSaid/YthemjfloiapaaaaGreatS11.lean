/- Maps that are kept in order: what stands in them. Plain Lean. Messages: names, what is wrong with them. Books: telling, all messages in order. DeleteFunc, Clone, the keys of maps. The messages that count, and what they say of each other. Striking: what is struck, and what corrects it. A book's desk. The versions of a ticket. The versions of a ticket: walked. States and versions. Sums. Spans, sums, accounts. The examples: what works() and Known come to. Messages by numbers. Books that were told good messages. Joins; books that answer the same. TicketOrder. TicketOrder: the row. TicketKept. Ways up to a ticket. Struck, the chain, versions: walked. Ways up: what they say. The messages that count: the first of each id. TicketStates. TicketExact. A book that was told one message more. TicketRuled. A correction more; TicketCorrected. TicketCorrected: the row. TicketNames: other names in the same order. TicketNames: the row. -/
import Derived.Test.YthemjfloiapaaaaGreatW110
set_option linter.unusedSectionVars false
set_option linter.unusedVariables false
set_option linter.unusedSimpArgs false
section
namespace Go.AM
theorem kA {α : Type} {r : α → α → Prop} (irr : ∀ a, ¬ r a a) (asy : ∀ a b, r a b → ¬ r b a) : ∀ {l l' : List α}, l.Pairwise r → l'.Pairwise r → (∀ x, x ∈ l ↔ x ∈ l') → l = l'
 |[],[],_,_,_=>rfl
 |[],b::s,_,_,h=>by have:=(h b).2 (List.mem_cons_self ..);cases this
 |a::r',[],_,_,h=>by have:=(h a).1 (List.mem_cons_self ..);cases this
 |a::l,b::s,h1,h2,h=>by
  rw [List.pairwise_cons] at h1 h2
  have e:a=b:=by
   rcases List.mem_cons.1 ((h a).1 (List.mem_cons_self ..)) with e|ha
   ·exact e
   rcases List.mem_cons.1 ((h b).2 (List.mem_cons_self ..)) with e|hb
   ·exact e.symm
   ·exact absurd (h2.1 a ha) (asy _ _ (h1.1 b hb))
  subst e
  rw [kA irr asy h1.2 h2.2 fun x=>?_]
  constructor
  ·intro hx
   rcases List.mem_cons.1 ((h x).1 (List.mem_cons_of_mem _ hx)) with e|hx'
   ·subst e;exact absurd (h1.1 x hx) (irr x)
   ·exact hx'
  ·intro hx
   rcases List.mem_cons.1 ((h x).2 (List.mem_cons_of_mem _ hx)) with e|hx'
   ·subst e;exact absurd (h2.1 x hx) (irr x)
   ·exact hx'
section
variable {t:Ty} {ks:List Kd} {β:Type}
theorem iD (hk:bp t=some ks) {x:t.den}:dx t x x=true:=j5 x hk
theorem BT (hk:bp t=some ks) {x y:t.den}:dx t x y=true↔x=y:=⟨bu,fun h=>by subst h;exact iD hk⟩
theorem eV (hk:bp t=some ks) (x:t.den):fC t x x=false:=by
 cases h:fC t x x with
 |false=>rfl
 |true=>exact (c7 hk h h).elim
theorem Tu (hk:bp t=some ks) {x y:t.den} (h:fC t x y=true):dx t x y=false:=by
 cases h':dx t x y with
 |false=>rfl
 |true=>rw [bu h',eV hk] at h;cases h
def gh (t:Ty) (es:List (t.den×β)):Prop:=es.Pairwise fun a b=>fC t a.1 b.1=true
theorem gh.kd (hk:bp t=some ks) {es:List (t.den×β)} (h:gh t es):KD t es:=List.Pairwise.imp (fun h=>Tu hk h) h
theorem Ef {es:List (t.den×β)} {x:t.den} {v:β} {e:t.den×β}:e∈pn t es x v↔e=(x,v)∨e∈es:=by
 rw [jH.mem_iff];simp
theorem gh.mins (hk : bp t = some ks) {x : t.den} {v : β} : ∀ {es : List (t.den × β)}, gh t es → aK t es x = false → gh t (pn t es x v)
 |[],_,_=>by unfold gh;simp [pn]
 |e::r,h,hn=>by
  unfold gh at h
  rw [List.pairwise_cons] at h
  have hne:=sD hn (List.mem_cons_self ..)
  have hnr:aK t r x=false:=by simpa [aK,hne] using hn
  unfold pn
  split
  ·rename_i hlt
   unfold gh
   rw [List.pairwise_cons]
   refine ⟨fun b hb=>?_,List.pairwise_cons.2 h⟩
   rcases List.mem_cons.1 hb with rfl|hb
   ·exact hlt
   ·exact iu hk hlt (h.1 b hb)
  ·rename_i hlt
   unfold gh
   rw [List.pairwise_cons]
   refine ⟨fun b hb=>?_,gh.mins hk h.2 hnr⟩
   rcases Ef.1 hb with rfl|hb
   ·cases hlt':fC t e.1 x with
    |true=>rfl
    |false =>
     have:=dX hk (by simpa using hlt) hlt'
     rw [this,iD hk] at hne;cases hne
   ·exact h.1 b hb
theorem gh.gU (hk:bp t=some ks) {x:t.den} {v:β} {es:List (t.den×β)} (h:gh t es):gh t (aQ t es x v):=by
 unfold aQ
 split
 ·unfold gh
  rw [List.pairwise_map]
  refine List.Pairwise.imp ?_ h
  intro a b hab
  split<;>split
  ·rename_i h1 h2
   rw [←bu h1,←bu h2,eV hk] at hab;cases hab
  ·rename_i h1 h2
   rw [←bu h1] at hab;exact hab
  ·rename_i h1 h2
   rw [←bu h2] at hab;exact hab
  ·exact hab
 ·rename_i hn
  exact h.mins hk (by simpa using hn)
theorem c8 (hk:bp t=some ks) {es:List (t.den×β)} {x:t.den}:aK t es x=true↔∃v,(x,v)∈es:=by
 unfold aK
 rw [List.any_eq_true]
 constructor
 ·rintro ⟨e,he,hx⟩;rw [bu hx];exact ⟨e.2,he⟩
 ·rintro ⟨v,hv⟩;exact ⟨_,hv,iD hk⟩
theorem fJ (hk:bp t=some ks) {es:List (t.den×β)} {x:t.den} {v d:β} (h:gh t es) (hm:(x,v)∈es):aq t d es x=v:=mo (h.kd hk) hm (iD hk)
theorem eL (hk:bp t=some ks) {es:List (t.den×β)} {x:t.den} {v:β} (h:gh t es) {e:t.den×β}:e∈aQ t es x v↔e=(x,v)∨(e∈es∧e.1≠x):=by
 unfold aQ
 split
 ·rename_i hh
  obtain ⟨u,hu⟩:=(c8 hk).1 hh
  rw [List.mem_map]
  constructor
  ·rintro ⟨e', he', rfl⟩
   split
   ·exact .inl rfl
   ·rename_i hne;exact .inr ⟨he',fun e=>hne (by rw [e];exact iD hk)⟩
  ·rintro (rfl | ⟨he, hne⟩)
   ·exact ⟨(x,u),hu,by simp [iD hk]⟩
   ·exact ⟨e,he,by rw [if_neg];intro h;exact hne (bu h).symm⟩
 ·rename_i hh
  rw [Ef]
  constructor
  ·rintro (h | h)
   ·exact .inl h
   ·refine .inr ⟨h, fun e' => hh ?_⟩
    rw [←e'];exact (c8 hk).2 ⟨_,h⟩
  ·rintro (h | h)
   ·exact .inl h
   ·exact .inr h.1
theorem KQ (hk:bp t=some ks) {es:List (t.den×β)} {x y:t.den} {v d:β} (h:gh t es):aq t d (aQ t es x v) y=if dx t y x=true then v else aq t d es y:=by
 have hc:=h.gU (x:=x) (v:=v) hk
 split
 ·rename_i e; have e := bu e; subst e
  exact fJ hk hc ((eL hk h).2 (.inl rfl))
 ·rename_i e0
  have e:y≠x:=fun h=>e0 ((BT hk).2 h)
  cases hm:aK t es y with
  |true =>
   obtain ⟨u,hu⟩:=(c8 hk).1 hm
   rw [fJ hk h hu]
   exact fJ hk hc ((eL hk h).2 (.inr ⟨hu,e⟩))
  |false =>
   rw [gn hm,gn]
   cases hm':aK t (aQ t es x v) y with
   |false=>rfl
   |true =>
    obtain ⟨u,hu⟩:=(c8 hk).1 hm'
    rcases (eL hk h).1 hu with e'|⟨h',_⟩
    ·cases e';exact absurd rfl e
    ·rw [(c8 hk).2 ⟨u,h'⟩] at hm;cases hm
theorem oT (hk:bp t=some ks) {es:List (t.den×β)} {x y:t.den} {v:β} (h:gh t es):aK t (aQ t es x v) y=(dx t y x||aK t es y):=by
 rw [Bool.eq_iff_iff,c8 hk,Bool.or_eq_true,BT hk,c8 hk]
 constructor
 ·rintro ⟨u, hu⟩
  rcases (eL hk h).1 hu with e|⟨h',_⟩
  ·cases e;exact .inl rfl
  ·exact .inr ⟨u,h'⟩
 ·by_cases e : y = x
  ·subst e;exact fun _=>⟨v,(eL hk h).2 (.inl rfl)⟩
  ·rintro (h' | ⟨u, hu⟩)
   ·exact absurd h' e
   ·exact ⟨u,(eL hk h).2 (.inr ⟨hu,e⟩)⟩
theorem IK (hk:bp t=some ks) {es es':List (t.den×β)} (h:gh t es) (h':gh t es') (hm:∀e,e∈es↔e∈es'):es=es' :=
 kA (r:=fun a b:t.den×β=>fC t a.1 b.1=true) (fun a h=>by rw [eV hk] at h;cases h) (fun a b h1 h2=>c7 hk h1 h2) h h' hm
theorem gh.keys (hk:bp t=some ks) {es:List (t.den×β)} (h:gh t es):zS t (es.map (·.1)):=by
 unfold zS
 rw [List.pairwise_map]
 refine List.Pairwise.imp (fun {a b} hab=>?_) h
 cases hba:fC t b.1 a.1 with
 |false=>rfl
 |true=>exact (c7 hk hab hba).elim
theorem gh.nil:gh (β:=β) t []:=List.Pairwise.nil
theorem O3 {es:List (t.den×Bool)} (hk:bp t=some ks) (h:gh t es) (ht:∀e∈es,e.2=true) {x:t.den}:∀e∈aQ t es x true,e.2=true:=fun e he=>by
 rcases (eL hk h).1 he with rfl|⟨h',_⟩
 ·rfl
 ·exact ht e h'
theorem O4 {es:List (t.den×Bool)} (hk:bp t=some ks) (h:gh t es) (ht:∀e∈es,e.2=true) {x:t.den}:aq t false es x=aK t es x:=by
 cases hm:aK t es x with
 |false=>exact gn hm
 |true =>
  obtain ⟨u,hu⟩:=(c8 hk).1 hm
  rw [fJ hk h hu];exact ht _ hu
theorem O5 (hk:bp t=some ks) {es es':List (t.den×Bool)} (h:gh t es) (h':gh t es') (ht:∀e∈es,e.2=true) (ht':∀e∈es',e.2=true) (hm:∀x,aK t es x=aK t es' x):es=es':=by
 refine IK hk h h' fun e=>?_
 have key:∀{es es':List (t.den×Bool)},(∀e∈es,e.2=true)→(∀e∈es',e.2=true)→(∀x,aK t es x=aK t es' x)→e∈es→e∈es':=fun {es es'} ht ht' hm he=>by
  have h1:aK t es' e.1=true:=by rw [←hm];exact (c8 hk).2 ⟨e.2,he⟩
  obtain ⟨u,hu⟩:=(c8 hk).1 h1
  have e1:=ht e he
  have e2:=ht' _ hu
  obtain ⟨a,b⟩:=e
  simp only at e1 e2;subst e1;subst e2;exact hu
 exact ⟨key ht ht' hm,key ht' ht fun x=>(hm x).symm⟩
end
end Go.AM
end
section
namespace Go.Proofs.Tryz
open Go.AM
set_option maxRecDepth 100000
abbrev Mg:=ByteArray×Int×ByteArray×ByteArray×Int
abbrev tM:Ty:=.prod .str (.prod (.int .i64) (.prod .str (.prod .str (.int .i64))))
abbrev kM:bp tM=some [.s,.i,.s,.s,.i]:=rfl
abbrev kS:bp .str=some [.s]:=rfl
theorem seq_eq (a b:ByteArray):seq a b=decide (a=b):=by
 unfold seq
 rw [Go.ByteArray.toList_eq,Go.ByteArray.toList_eq]
 by_cases h:a=b
 ·subst h;simp
 ·rw [decide_eq_false h, beq_eq_false_iff_ne]
  intro e;apply h
  obtain ⟨x⟩:=a;obtain ⟨y⟩:=b
  simp at e;rw [e]
theorem IL (a b:ByteArray):dx .str a b=decide (a=b):=by
 rw [←seq_eq];simp only [dx,seq,Go.ByteArray.toList_eq]
def xN (i:Nat) (b:Int):Bool:=decide (97≤b∧b≤122)||decide (i≠0∧48≤b∧b≤57)
def Tv : Nat → List Int → Bool
 |_,[]=>true
 |i,b::r=>xN i b&&Tv (i+1) r
def cR (s:ByteArray):Bool:=Tv 0 (bA s)&&decide (0<s.size∧s.size≤10)
theorem k65 (s:ByteArray) (hs:s.size<1000000000):ak (F65 s)=some (cR s,()):=by
 have hl:(bA s).length=s.size:=tZ s
 unfold F65
 simp only [aD,bN]
 refine bind_eq (bf (bA s) (fun k (_:Nat)=>(s,bA s,((bA s).length:Int),(k:Int),())) (fun i r=>if Tv i r=true then .inr (s,()) else .inl ()) (fun pre i=>i=pre.length) ?_ ?_ (s:=0) rfl) ?_
 ·intro pre x post i hx hi
  subst hi
  have hlen:(bA s).length=pre.length+(post.length+1):=by rw [hx];simp
  have hd:(bA s).getD pre.length 0=x:=by rw [hx];exact bx rfl
  have key:run (fun _=>none) (g65_0 (s,bA s,((bA s).length:Int),(pre.length:Int),()))=if xN pre.length x=true then some (.inl (s,bA s,((bA s).length:Int),((pre.length+1:Nat):Int),())) else some (.inr (.inl ())):=by
   simp only [g65_0,az,bC,aZ,aW,af,Int.toNat_natCast,hd,bw,cu]
   rw [if_pos (by omega),M5 (by omega) (by omega)]
   unfold xN;simp only [Bool.or_eq_true,decide_eq_true_eq]
   by_cases h1:x<97
   ·rw [if_pos h1]
    by_cases h2:(pre.length:Int)=0
    ·rw [if_pos h2,if_neg (by omega)]
    ·rw [if_neg h2]
     by_cases h3:x<48
     ·rw [if_pos h3,if_neg (by omega)]
     ·rw [if_neg h3]
      by_cases h4:57<x
      ·rw [if_pos h4,if_neg (by omega)]
      ·rw [if_neg h4, if_pos, lV (by omega) (by omega)]; · rfl
       omega
   ·rw [if_neg h1]
    by_cases h5:122<x
    ·rw [if_pos h5]
     by_cases h2:(pre.length:Int)=0
     ·rw [if_pos h2,if_neg (by omega)]
     ·rw [if_neg h2]
      by_cases h3:x<48
      ·omega
      ·rw [if_neg h3,if_pos (by omega),if_neg (by omega)]
    ·rw [if_neg h5, if_pos, lV (by omega) (by omega)]; · rfl
     omega
  rw [key]
  by_cases hb:xN pre.length x=true
  ·left
   exact ⟨pre.length+1,by rw [if_pos hb],by simp,by simp [Tv,hb]⟩
  ·right
   rw [if_neg hb]
   have:Tv pre.length (x::post)=false:=by simp [Tv,hb]
   simp [this]
 ·intro i _
  simp only [g65_0,az,bw]
  rw [if_neg (by omega)]
  simp [Tv,af]
 ·unfold cR
  by_cases h:Tv 0 (bA s)=true
  ·rw [if_pos h, h]
   simp only [lD,az,af,bw]
   by_cases h0:(0:Int)<((s.size:Nat):Int)
   ·rw [if_pos h0, Bool.true_and]
    congr 2
    exact decide_eq_decide.2 (by omega)
   ·rw [if_neg h0]
    simp;omega
  ·rw [if_neg h]
   simp [h,sV,af]
def uF (l:List Int):Int:=(l.find? (· != 0)).getD 0
theorem k86 (l:List Int) (hl:l.length<1000000000):ak (F86 l)=some (uF l,()):=by
 unfold F86
 simp only [aD,bN]
 refine bind_eq (bf l (fun k (_:Nat)=>((0:Int),l,((l.length:Nat):Int),(k:Int),())) (fun i r=>if (r.find? (· != 0)).isSome then .inl (uF r,()) else .inr (0,())) (fun pre i=>i=pre.length) ?_ ?_ (s:=0) rfl) ?_
 ·intro pre x post i hx hi
  subst hi
  have hlen:l.length=pre.length+(post.length+1):=by rw [hx];simp
  have hd:l.getD pre.length 0=x:=by rw [hx];exact bx rfl
  have hin:fu (pre.length:Int) (l.length:Int)=true:=bQ (by omega) (by omega)
  have hni:gm .i64 ((pre.length:Int)+1)=true:=aJ (by omega) (by omega)
  by_cases h:x=0
  ·left
   refine ⟨pre.length+1,?_,by simp,by simp [h,uF]⟩
   simp only [g86_0,az,bC,aZ,af,Int.toNat_natCast,hd,bw,cu,dw,hin,hni,ax]
   rw [if_pos (by omega),if_pos h];rfl
  ·right
   simp only [g86_0,az,bC,aZ,af,Int.toNat_natCast,hd,bw,cu,dw,hin,hni,ax]
   rw [if_pos (by omega),if_neg h]
   simp [h,uF]
 ·intro i _
  simp only [g86_0,az,bw]
  rw [if_neg (by omega)]
  simp [af]
 ·cases h:(l.find? (· != 0)).isSome with
  |true=>rw [if_pos rfl];simp only [sV,af]
  |false =>
   rw [if_neg (by simp)]
   have:uF l=0:=by
    unfold uF
    cases h':l.find? (· != 0) with
    |none=>rfl
    |some _=>rw [h'] at h;cases h
   rw [this];simp only [lD,af]
def iS (m:Mg):Int:=if m.2.1=1 then (if m.2.2.1=bs [] then 0 else 22) else if cR m.2.2.1=true then (if m.2.2.1=m.1 then 22 else 0) else 8
def gX (m:Mg):Int:=if m.2.1=3 then (if m.2.2.2.1=bs []∧m.2.2.2.2=0 then 0 else 22) else if cR m.2.2.2.1=true then (if -1000≤m.2.2.2.2∧m.2.2.2.2≤1000 then 0 else 2) else 8
def nA (m:Mg):Int:=if m.2.1<1∨3<m.2.1 then 18 else if cR m.1=true then uF [iS m,gX m] else 8
def Sh (s:ByteArray):Prop:=s.size<1000000000
def IM (m:Mg):Prop:=Sh m.1∧Sh m.2.2.1∧Sh m.2.2.2.1
theorem k87 (m:Mg) (h:IM m):ak (F87 m)=some (iS m,()):=by
 unfold F87 iS
 simp only [az,aD,af,cu,k65 _ h.2.1,aF,dw,seq_eq,bw]
 split
 ·split<;>rfl
 ·rw [mU]
  split
  ·split<;>rfl
  ·rfl
theorem k88 (m:Mg) (h:IM m):ak (F88 m)=some (gX m,()):=by
 unfold F88 gX
 simp only [az,aD,af,cu,k65 _ h.2.2,aF,dw,seq_eq,bw]
 split
 ·by_cases h1 : m.2.2.2.1 = bs []
  ·by_cases h2:m.2.2.2.2=0<;>simp [h1,h2]
  ·simp [h1]
 ·rw [mU]
  split
  ·by_cases h1 : m.2.2.2.2 < -1000
   ·rw [if_pos h1,if_neg (by omega)]
   ·rw [if_neg h1]
    by_cases h2:1000<m.2.2.2.2
    ·rw [if_pos h2,if_neg (by omega)]
    ·rw [if_neg h2,if_pos (by omega)]
  ·rfl
theorem k55 (m:Mg) (h:IM m):ak (F55 m)=some (nA m,()):=by
 have h86:=k86 [iS m,gX m] (by simp)
 unfold F55 nA
 simp only [az,aD,af,bw,k65 _ h.1,aF,dw,k87 m h,k88 m h]
 have hl:((iS m::gX m::[]).drop 0).take 2=[iS m,gX m]:=rfl
 simp only [hl,h86,aF]
 by_cases h1:m.2.1<1
 ·rw [if_pos h1,if_pos (.inl h1)]
 ·rw [if_neg h1]
  by_cases h2:3<m.2.1
  ·rw [if_pos h2,if_pos (.inr h2)]
  ·rw [if_neg h2, if_neg (by omega), mU]
   split<;>rfl
end Go.Proofs.Tryz
end
section
namespace Go.Proofs.Tryz
open Go.AM
set_option maxRecDepth 100000
def bk (L:List Mg):List (Mg×Bool):=L.map fun m=>(m,true)
def SL (L:List Mg):Prop:=L.Pairwise fun a b=>fC tM a b=true
theorem SL.can {L:List Mg} (h:SL L):gh tM (bk L):=by
 unfold gh bk;rw [List.pairwise_map];exact h
theorem bk_t {L:List Mg}:∀e∈bk L,e.2=true:=fun e he=>by
 obtain ⟨m,_,rfl⟩:=List.mem_map.1 he;rfl
theorem Gu {L:List Mg} {m:Mg} {b:Bool}:(m,b)∈bk L↔m∈L∧b=true:=by
 unfold bk;rw [List.mem_map]
 constructor
 ·rintro ⟨x,hx,h⟩;cases h;exact ⟨hx,rfl⟩
 ·rintro ⟨h,rfl⟩;exact ⟨m,h,rfl⟩
theorem IP {L:List Mg}:(bk L).map (·.1)=L:=by simp [bk,List.map_map,Function.comp_def]
theorem O6 {L:List Mg}:(bk L).length=L.length:=by simp [bk]
theorem adO {es:List (Mg×Bool)} (h:∀e∈es,e.2=true):bk (es.map (·.1))=es:=by
 unfold bk;rw [List.map_map]
 conv=>rhs;rw [←List.map_id es]
 refine List.map_congr_left fun e he=>?_
 obtain ⟨a,b⟩:=e
 have:=h _ he
 simp only at this;subst this;rfl
def qs (L:List Mg) (m:Mg):List Mg:=(aQ tM (bk L) m true).map (·.1)
theorem Gv {L:List Mg} (h:SL L) {m:Mg}:bk (qs L m)=aQ tM (bk L) m true:=adO (O3 kM h.can bk_t)
theorem Eg {L:List Mg} (h:SL L) {m x:Mg}:x∈qs L m↔x=m∨x∈L:=by
 have:x∈qs L m↔(x,true)∈bk (qs L m):=by rw [Gu];simp
 rw [this,Gv h,eL kM h.can]
 constructor
 ·rintro (e | ⟨h1, h2⟩)
  ·cases e;exact .inl rfl
  ·exact .inr (Gu.1 h1).1
 ·by_cases e : x = m
  ·subst e;exact fun _=>.inl rfl
  ·rintro (e' | h')
   ·exact absurd e' e
   ·exact .inr ⟨Gu.2 ⟨h',rfl⟩,e⟩
theorem SL.ins {L:List Mg} (h:SL L) {m:Mg}:SL (qs L m):=by
 have:=h.can.gU (x:=m) (v:=true) kM
 rw [←Gv h] at this
 unfold gh bk at this;rw [List.pairwise_map] at this;exact this
theorem SL.ext {L L':List Mg} (h:SL L) (h':SL L') (hm:∀x,x∈L↔x∈L'):L=L' :=
 kA (fun a h=>by rw [eV kM] at h;cases h) (fun a b h1 h2=>c7 kM h1 h2) h h' hm
theorem Eh {L:List Mg} {m:Mg}:(qs L m).length≤L.length+1:=by
 unfold qs aQ
 rw [List.length_map]
 split
 ·simp [bk]
 ·rw [jH.length_eq];simp [bk]
theorem Gw (m:List (Mg×Bool)):ak (FH54 m)=some (false,m,()):=rfl
def jt (L:List Mg) (m:Mg):Int×List Mg:=if nA m=0 then (if 60<(qs L m).length then (15,L) else (0,qs L m)) else (nA m,L)
theorem g56 {mm m1:List (Mg×Bool)} {b3:List Mg} {n:Nat} {k:Nat} (hn:n=b3.length) (hb:n<1000000000) (hk:k<n) :
  ak (gH56_0 (n,((n:Nat):Int),(k:Int),mm,b3,m1,()))=some (.inl (n,((n:Nat):Int),((k+1:Nat):Int),aQ tM mm (b3.getD k (bs [],(0:Int),bs [],bs [],(0:Int))) true,b3,m1,())):=by
 have hin:fu (k:Int) (n:Int)=true:=bQ (by omega) (by omega)
 have hni:gm .i64 ((k:Int)+1)=true:=aJ (by omega) (by omega)
 simp only [gH56_0,az,bC,aW,aZ,af,Int.toNat_natCast,Nat.zero_add,bw,hin,hni,ax]
 rw [if_pos (by omega),bR (by omega)]
 rfl
theorem g56e {mm m1:List (Mg×Bool)} {b3:List Mg} {n:Nat}:ak (gH56_0 (n,((n:Nat):Int),(n:Int),mm,b3,m1,()))=some (.inr (mm,m1,())):=by
 simp only [gH56_0,az,af,bw]
 rw [if_neg (by omega)]
theorem kH56 {L:List Mg} (h:SL L) (hl:L.length≤60) (m:Mg):ak (FH56 m.1 m.2.1 m.2.2.1 m.2.2.2.1 m.2.2.2.2 (bk L))=some (if 60<(qs L m).length then (15,bk L,()) else (0,bk (qs L m),())):=by
 have hit:iter (fun x=>ak (gH56_0 x)) ((1:Nat),((1:Nat):Int),(0:Int),bk L,[m],bk L,())=some (bk (qs L m),bk L,()):=by
  rw [Gv h]
  exact nT (g56 (b3:=[m]) (n:=1) (k:=0) rfl (by omega) (by omega)) (jY g56e)
 unfold FH56
 simp only [aD,FH89,FH193,af,aF,bN]
 refine bind_eq hit ?_
 simp only [az,af,bw,O6]
 by_cases hc:60<(qs L m).length
 ·rw [if_pos (by omega),if_pos hc]
 ·rw [if_neg (by omega),if_neg hc]
theorem Y4 {L:List Mg} (h:SL L) (hl:L.length≤60) {m:Mg} (hm:IM m):ak (FH20 m (bk L))=some ((jt L m).1,bk (jt L m).2,()):=by
 have h55:=k55 m hm
 unfold FH20
 simp only [aD,Gw,aF,az,cD]
 rw [av (show ak (F55 (m.1,m.2.1,m.2.2.1,m.2.2.2.1,m.2.2.2.2))=_ from h55)]
 simp only [dw,cu]
 unfold jt
 by_cases hc:nA m=0
 ·rw [if_pos hc, if_pos hc]
  rw [av (kH56 h hl m)]
  split<;>rfl
 ·rw [if_neg hc,if_neg hc];rfl
structure kG (L:List Mg):Prop where
 s:SL L
 len:L.length≤60
 nA:∀m∈L,nA m=0
theorem kG.nil:kG []:=⟨.nil,by simp,fun m h=>by cases h⟩
theorem kG.tell {L:List Mg} (h:kG L) (m:Mg):kG (jt L m).2:=by
 unfold jt
 split
 ·rename_i hc
  split
  ·exact h
  ·rename_i h60
   refine ⟨h.s.ins,by simp only;omega,fun x hx=>?_⟩
   rcases (Eg h.s).1 hx with rfl|hx
   ·exact hc
   ·exact h.nA x hx
 ·exact h
def iU (l:List Mg):List Mg:=l.foldl (fun L m=>(jt L m).2) []
theorem kG.fold {L : List Mg} (h : kG L) : ∀ l : List Mg, kG (l.foldl (fun L m => (jt L m).2) L)
 |[]=>h
 |m::l=>kG.fold (h.tell m) l
theorem kG.told (l:List Mg):kG (iU l):=kG.nil.fold l
theorem Tw {l:List Mg} (hl:l.length<1000000000) (hs:∀m∈l,IM m):ak (FH29 l)=some (bk (iU l),()):=by
 unfold FH29
 simp only [aD,FH18,af,aF,bN]
 refine bind_eq (bf l (fun k (L:List Mg)=>(l,(k:Int),bk L,())) (fun L r=>(bk (r.foldl (fun L m=>(jt L m).2) L),())) (fun _ L=>kG L) ?_ ?_ (s:=[]) kG.nil) rfl
 ·intro pre x post L hx hL
  have hlen:l.length=pre.length+(post.length+1):=by rw [hx];simp
  have hd:l.getD pre.length (bs [],(0:Int),bs [],bs [],(0:Int))=x:=by rw [hx];exact bx rfl
  have hin:fu (pre.length:Int) (l.length:Int)=true:=bQ (by omega) (by omega)
  have hni:gm .i64 ((pre.length:Int)+1)=true:=aJ (by omega) (by omega)
  left
  refine ⟨(jt L x).2,?_,hL.tell x,rfl⟩
  simp only [gH29_0,az,bC,aZ,af,aD,Int.toNat_natCast,bw,hin,hni,ax]
  rw [if_pos (by omega)]
  have hk:=Y4 hL.s hL.len (hs x (by rw [hx];simp))
  rw [hd]
  rw [av (show ak (FH20 (x.1,x.2.1,x.2.2.1,x.2.2.2.1,x.2.2.2.2) (bk L))=_ from hk)]
  rfl
 ·intro L _
  simp only [gH29_0,az,af,bw]
  rw [if_neg (by omega)]
  rfl
theorem Ei {E A : Type} {step : E → A → Option A} (f : A → E → A) (I : A → Prop) : ∀ (l : List E) (x : A), I x → (∀ e ∈ l, ∀ x, I x → step e x = some (f x e) ∧ I (f x e)) → zx step l x = some (l.foldl f x) ∧ I (l.foldl f x)
 |[],x,hx,_=>⟨rfl,hx⟩
 |e::l,x,hx,h=>by
  obtain ⟨h1,h2⟩:=h e (List.mem_cons_self ..) x hx
  obtain ⟨h3,h4⟩:=Ei f I l (f x e) h2 fun e he=>h e (List.mem_cons_of_mem _ he)
  exact ⟨by simp only [zx,h1];exact h3,h4⟩
theorem rU {K V M : Type} {step : K × V → M × Nat × List K × Unit → Option (M × Nat × List K × Unit)} {m : M} {l : List (K × V)} (hl : l.length < 1000000000)
  (h:∀e n b,n<1000000000→step e (m,n,b,())=some (m,n+1,(b.drop 0).take n++[e.1],())):zx step l (m,0,[],())=some (m,l.length,l.map (·.1),()):=by
 have key:∀(l:List (K×V)) (b:List K),b.length+l.length<1000000000→zx step l (m,b.length,b,())=some (m,b.length+l.length,b++l.map (·.1),()):=by
  intro l
  induction l with
  |nil=>intro b _;simp [zx]
  |cons e l ih =>
   intro b hb
   simp only [List.length_cons] at hb
   simp only [zx,h e b.length b (by omega)]
   have:=ih (b++[e.1]) (by simp;omega)
   simp only [List.drop_zero,List.take_length]
   rw [List.length_append,List.length_singleton] at this
   rw [this]
   simp only [List.length_cons,List.map_cons,List.append_assoc,List.singleton_append]
   congr 3
   omega
 have:=key l [] (by simpa using hl)
 simpa using this
theorem ov {t:Ty} {ks:List Kd} (hk:bp t=some ks) {l s:List t.den} (hp:s.Perm l) (hs:zS t s) (hl:l.length<1000000000):ux t l l.length=some (s,()):=by
 unfold ux
 rw [if_pos ⟨Nat.le_refl _,by rw [jD];omega⟩,List.take_length,List.drop_length,List.append_nil,rB hk hp hs]
theorem SL.ZJ {L:List Mg} (h:SL L):zS tM L:=by
 have:=h.can.keys kM
 rwa [IP] at this
theorem kH83 {L:List Mg} (h:SL L) (hl:L.length<1000000000):ak (FH83 (bk L))=some (L.length,L,bk L,()):=by
 unfold FH83
 refine Eq.trans Bg (gr fun l hp=>?_)
 have yd:l.length=L.length:=by rw [hp.length_eq,O6]
 simp only [aD,Bh]
 refine bind_eq (rU (m:=bk L) (l:=l) (by rw [yd];exact hl) fun e n b hn=>?_) ?_
 ·simp only [gH83f109f128_0i_0, aW, af, dm, ax]
  rw [bR (show _<cn by rw [jD];simp;omega)]
  rfl
 ·simp only [FH110, wX]
  have hpk:L.Perm (l.map (·.1)):=by
   have:=(hp.map (·.1)).symm
   rwa [IP] at this
  have:=ov kM hpk h.ZJ (by rw [List.length_map];omega)
  rw [List.length_map] at this
  rw [av this,yd]
  rfl
theorem kH47 {L:List Mg} (h:SL L) (hl:L.length<1000000000):ak (FH47 (bk L))=some (L.length,L,bk L,()):=by
 unfold FH47
 simp only [aD,Gw,aF,az,cD,FH84,af]
 rw [av (kH83 h hl)]
end Go.Proofs.Tryz
end
section
namespace Go.Proofs.Tryz
open Go.AM
set_option maxRecDepth 100000
abbrev Aa:=List (ByteArray×Mg)
abbrev EL:=List (ByteArray×List ByteArray)
abbrev fq:=List (ByteArray×Bool)
theorem kH98 {l:List ByteArray} (hl:l.length<1000000000):ak (FH98 l)=some (l.length,l,()):=by
 simp only [FH98,az,W1,aW,af,cu]
 rw [DC (by omega)]
 split
 ·have : l = [] := List.length_eq_zero_iff.1 (by omega)
  subst this
  simp only [List.length_nil,List.drop_nil,List.take_nil,List.append_nil,Nat.add_zero]
  exact zz
 ·simp
def ef (del : ByteArray → Bool) : Nat → List ByteArray → Option Nat
 |_,[]=>none
 |k,x::r=>if del x=true then some k else ef del (k+1) r
theorem k6 (del : ByteArray → Bool) : ∀ (l : List ByteArray) (k : Nat), (∃ p x q, l = p ++ x :: q ∧ (∀ c ∈ p, del c = false) ∧ del x = true ∧ ef del k l = some (k + p.length)) ∨ ((∀ c ∈ l, del c = false) ∧ ef del k l = none)
 |[],k=>.inr ⟨by simp,rfl⟩
 |y::l,k=>by
  by_cases h:del y=true
  ·left
   exact ⟨[],y,l,rfl,by simp,h,by simp [ef,h]⟩
  ·rcases k6 del l (k + 1) with ⟨p, x, q, h1, h2, h3, h4⟩ | ⟨h1, h2⟩
   ·left
    refine ⟨y::p,x,q,by rw [h1];rfl,fun c hc=>?_,h3,?_⟩
    ·rcases List.mem_cons.1 hc with rfl | hc
     ·simpa using h
     ·exact h2 c hc
    ·unfold ef;rw [if_neg h,h4,List.length_cons,show k+1+p.length=k+(p.length+1) by omega]
   ·right
    refine ⟨fun c hc=>?_,by unfold ef;rw [if_neg h,h2]⟩
    rcases List.mem_cons.1 hc with rfl|hc
    ·simpa using h
    ·exact h1 c hc
theorem rV {del:ByteArray→Bool} {l:List ByteArray} (h:∀c∈l,del c=false):l.filter (fun c => !del c)=l:=List.filter_eq_self.2 fun c hc=>by rw [h c hc];rfl
section
variable {m3:Aa} {m4:EL} {m5 m6:fq}
theorem kH99 (v:ByteArray):ak (FH99 v m3 m4 m5 m6)=some (!(aq .str false m5 v),m3,m4,m5,m6,()):=rfl
theorem adS {l:List ByteArray} (hl:l.length<1000000000):ak (FH119 l.length l m3 m4 m5 m6)=some ((match ef (fun v => !(aq .str false m5 v)) 0 l with|some k=>((k:Nat):Int)|none => -1),m3,m4,m5,m6,l,()):=by
 have hi := bf (f := fun a => run (fun _ => none) (gH119_0 a)) l (fun k (_ : Nat) => (l.length, ((l.length : Nat) : Int), (k : Int), l, m3, m4, m5, m6, ())) (fun k r => match ef (fun v => !(aq .str false m5 v)) k r with | some k => .inl (((k : Nat) : Int), m3, m4, m5, m6, l, ()) | none => .inr (m3, m4, m5, m6, l, ())) (fun pre k => k = pre.length) (by
  rintro pre x post k hx rfl
  have hlen:l.length=pre.length+(post.length+1):=by rw [hx];simp
  have hd:l.getD pre.length (bs [])=x:=by rw [hx];exact bx rfl
  have i1:fu (pre.length:Int) ((l.length:Nat):Int)=true:=bQ (by omega) (by omega)
  have r1:gm .i64 ((pre.length:Int)+1)=true:=aJ (by omega) (by omega)
  have d1:decide (pre.length<l.length)=true:=decide_eq_true (by omega)
  simp only [gH119_0,az,aD,bC,aW,aZ,af,Int.toNat_natCast,Nat.zero_add,hd,kH99,aF,i1,r1,d1,ax,bw]
  rw [if_pos (by omega)]
  by_cases h:(!(aq .str false m5 x))=true
  ·right;rw [h,eG];simp only [ef,h,if_true]
  ·left
   refine ⟨pre.length+1,?_⟩
   rw [FB (by simpa using h)]
   refine ⟨rfl,by simp,?_⟩
   simp only [ef,h,if_false];rfl) (by
  rintro k _
  simp only [gH119_0,az,bw,af]
  rw [if_neg (by omega)];rfl) (s:=0) rfl
 simp only [FH119,aD,bN]
 refine bind_eq hi ?_
 split<;>rfl
theorem kH97 {l:List ByteArray} (hl:l.length<1000000000):∃b,b.length=l.length∧b.take (l.filter fun v => !(!(aq .str false m5 v))).length=l.filter (fun v => !(!(aq .str false m5 v)))∧ak (FH97 l.length l m3 m4 m5 m6)=some (0,(l.filter fun v => !(!(aq .str false m5 v))).length,b,m3,m4,m5,m6,()):=by
 have Y5:=adS (m3:=m3) (m4:=m4) (m5:=m5) (m6:=m6) hl
 simp only [FH97,aD,bN,az,af,aZ,aW,cu]
 rw [av Y5]
 rcases k6 (fun v => !(aq .str false m5 v)) l 0 with ⟨p,x,q,h1,h2,h3,h4⟩|⟨h1,h2⟩
 case inr =>
  rw [h2]
  simp only [if_true]
  rw [rV h1]
  exact ⟨l,rfl,List.take_length ..,rfl⟩
 rw [h4]
 simp only [Nat.zero_add]
 have hlen:l.length=p.length+(q.length+1):=by rw [h1];simp
 rw [if_neg (by omega),lV (by omega) (by omega)]
 have hk:l.filter (fun v => !(!(aq .str false m5 v)))=p++q.filter fun v => !(!(aq .str false m5 v)):=by
  have e1:=rV h2
  have e2:(x::q).filter (fun v => !(!(aq .str false m5 v)))=q.filter fun v => !(!(aq .str false m5 v)):=by rw [List.filter_cons_of_neg];simpa using h3
  rw [h1,List.filter_append,e2]
  rw [show p.filter (fun v => !(!(aq .str false m5 v)))=p from e1]
 obtain ⟨res, hres, m, b, rfl, hb, hm, ht⟩ := HV (step := fun a => run (fun _ => none) (gH97_0 a)) q.length
  (fun k x=>∃(i:Nat) (b:List ByteArray),x=(l.length,(i:Int),((p.length+1+k:Nat):Int),b,m3,m4,m5,m6,())∧b.length=l.length∧i≤p.length+k∧b.take i=p++(q.take k).filter (fun v => !(!(aq .str false m5 v)))∧b.drop (p.length+1+k)=q.drop k)
  (fun r => ∃ (m : Nat) (b : List ByteArray), r = (l.length, (m : Int), b, m3, m4, m5, m6, ()) ∧ b.length = l.length ∧ m ≤ l.length ∧ b.take m = p ++ q.filter fun v => !(!(aq .str false m5 v))) (by
   rintro k _ hk ⟨i,b,rfl,hb,hi,ht,hd⟩
   have hx:b.getD (p.length+1+k) (bs [])=q.getD k (bs []):=by
    have:=congrArg (fun l=>l.getD 0 (bs [])) hd
    simpa [List.getD_eq_getElem?_getD] using this
   have Y6:q.take (k+1)=q.take k++[q.getD k (bs [])]:=by
    rw [List.take_succ_eq_append_getElem hk];simp [List.getD_eq_getElem?_getD,List.getElem?_eq_getElem hk]
   generalize q.getD k (bs [])=y at hx Y6
   have i1:fu ((p.length+1+k:Nat):Int) ((l.length:Nat):Int)=true:=bQ (by omega) (by omega)
   have i2:fu (i:Int) ((l.length:Nat):Int)=true:=bQ (by omega) (by omega)
   have d1:decide (p.length+1+k<b.length)=true:=decide_eq_true (by omega)
   have d2:decide (i<b.length)=true:=decide_eq_true (by omega)
   have r1:gm .i64 ((i:Int)+1)=true:=aJ (by omega) (by omega)
   have r2:gm .i64 (((p.length+1+k:Nat):Int)+1)=true:=aJ (by omega) (by omega)
   simp only [gH97_0,az,aD,bC,aW,aZ,af,Int.toNat_natCast,Nat.zero_add,hx,kH99,aF,i1,i2,d1,d2,r1,r2,ax,bw]
   rw [if_pos (by omega)]
   by_cases hy:(!(aq .str false m5 y))=true
   ·refine ⟨_, by rw [FB (by rw [hy]; rfl)], i, b, by rw [show ((p.length + 1 + (k + 1) : Nat) : Int) = ((p.length + 1 + k : Nat) : Int) + 1 by omega], hb, by omega, ?_, ?_⟩
    ·rw [ht,Y6,List.filter_append,List.filter_cons_of_neg (by rw [hy];simp)];simp
    ·have := congrArg (List.drop 1) hd
     simpa [List.drop_drop,Nat.add_assoc] using this
   ·refine ⟨_, by rw [M6 (by rw [Bool.eq_false_iff.2 hy]; rfl)], i + 1, b.set i y, by rw [show ((p.length + 1 + (k + 1) : Nat) : Int) = ((p.length + 1 + k : Nat) : Int) + 1 by omega, show ((i + 1 : Nat) : Int) = (i : Int) + 1 by omega], by simp [hb], by omega, ?_, ?_⟩
    ·have e:(b.set i y).take (i+1)=b.take i++[y]:=by
      rw [List.take_succ_eq_append_getElem (by simp;omega)]
      simp [List.take_set_of_le]
     rw [e,ht,Y6,List.filter_append,List.filter_cons_of_pos (by simpa using hy)];simp
    ·have := congrArg (List.drop 1) hd
     rw [List.drop_set_of_lt (by omega)]
     simpa [List.drop_drop,Nat.add_assoc] using this) (by
   rintro _ ⟨i,b,rfl,hb,hi,ht,hd⟩
   simp only [gH97_0,az,af,bw]
   rw [if_neg (by omega)]
   exact ⟨_,rfl,i,b,rfl,hb,by omega,by rw [ht,List.take_length]⟩) (x:=(l.length,(p.length:Int),(p.length:Int)+1,l,m3,m4,m5,m6,())) ⟨p.length,l,by simp,rfl,by omega,by rw [h1];simp,by rw [h1];simp⟩
 rw [av hres]
 have hml:m=(l.filter fun v => !(!(aq .str false m5 v))).length:=by rw [hk,←ht,List.length_take];omega
 simp only [Int.toNat_natCast,Nat.zero_add,Aj,Int.toNat_zero,Nat.sub_zero]
 rw [bR (by omega),bR (by omega),bR (by omega),bR (by omega),bR (by omega),bR (by omega)]
 refine ⟨b.take m++List.replicate (l.length - m) (bs [])++b.drop (m+(l.length - m)),?_,?_,by rw [←hml]⟩
 ·simp only [List.length_append,List.length_take,List.length_replicate,List.length_drop];omega
 ·rw [←hml,List.take_append_of_le_length (by simp;omega),List.take_append_of_le_length (by simp;omega),List.take_take,Nat.min_self,ht,hk]
theorem VM (v:ByteArray):ak (FH123 v m3 m4 m5 m6)=some (aq .str false m6 v,m3,m4,m5,m6,()):=rfl
theorem O7 {l:List ByteArray} (hl:l.length<1000000000):ak (FH119_v1 l.length l m3 m4 m5 m6)=some ((match ef (fun v=>aq .str false m6 v) 0 l with|some k=>((k:Nat):Int)|none => -1),m3,m4,m5,m6,l,()):=by
 have hi := bf (f := fun a => run (fun _ => none) (gH119_v1_0 a)) l (fun k (_ : Nat) => (l.length, ((l.length : Nat) : Int), (k : Int), l, m3, m4, m5, m6, ())) (fun k r => match ef (fun v => aq .str false m6 v) k r with | some k => .inl (((k : Nat) : Int), m3, m4, m5, m6, l, ()) | none => .inr (m3, m4, m5, m6, l, ())) (fun pre k => k = pre.length) (by
  rintro pre x post k hx rfl
  have hlen:l.length=pre.length+(post.length+1):=by rw [hx];simp
  have hd:l.getD pre.length (bs [])=x:=by rw [hx];exact bx rfl
  have i1:fu (pre.length:Int) ((l.length:Nat):Int)=true:=bQ (by omega) (by omega)
  have r1:gm .i64 ((pre.length:Int)+1)=true:=aJ (by omega) (by omega)
  have d1:decide (pre.length<l.length)=true:=decide_eq_true (by omega)
  simp only [gH119_v1_0,az,aD,bC,aW,aZ,af,Int.toNat_natCast,Nat.zero_add,hd,VM,aF,i1,r1,d1,ax,bw]
  rw [if_pos (by omega)]
  by_cases h:(aq .str false m6 x)=true
  ·right;rw [h,eG];simp only [ef,h,if_true]
  ·left
   refine ⟨pre.length+1,?_⟩
   rw [FB (by simpa using h)]
   refine ⟨rfl,by simp,?_⟩
   simp only [ef,h,if_false];rfl) (by
  rintro k _
  simp only [gH119_v1_0,az,bw,af]
  rw [if_neg (by omega)];rfl) (s:=0) rfl
 simp only [FH119_v1,aD,bN]
 refine bind_eq hi ?_
 split<;>rfl
theorem Tx {l:List ByteArray} (hl:l.length<1000000000):∃b,b.length=l.length∧b.take (l.filter fun v => !(aq .str false m6 v)).length=l.filter (fun v => !(aq .str false m6 v))∧ak (FH97_v1 l.length l m3 m4 m5 m6)=some (0,(l.filter fun v => !(aq .str false m6 v)).length,b,m3,m4,m5,m6,()):=by
 have Y5:=O7 (m3:=m3) (m4:=m4) (m5:=m5) (m6:=m6) hl
 simp only [FH97_v1,aD,bN,az,af,aZ,aW,cu]
 rw [av Y5]
 rcases k6 (fun v=>aq .str false m6 v) l 0 with ⟨p,x,q,h1,h2,h3,h4⟩|⟨h1,h2⟩
 case inr =>
  rw [h2]
  simp only [if_true]
  rw [rV h1]
  exact ⟨l,rfl,List.take_length ..,rfl⟩
 rw [h4]
 simp only [Nat.zero_add]
 have hlen:l.length=p.length+(q.length+1):=by rw [h1];simp
 rw [if_neg (by omega),lV (by omega) (by omega)]
 have hk:l.filter (fun v => !(aq .str false m6 v))=p++q.filter fun v => !(aq .str false m6 v):=by
  have e1:=rV h2
  have e2:(x::q).filter (fun v => !(aq .str false m6 v))=q.filter fun v => !(aq .str false m6 v):=by rw [List.filter_cons_of_neg];simpa using h3
  rw [h1,List.filter_append,e2]
  rw [show p.filter (fun v => !(aq .str false m6 v))=p from e1]
 obtain ⟨res, hres, m, b, rfl, hb, hm, ht⟩ := HV (step := fun a => run (fun _ => none) (gH97_v1_0 a)) q.length
  (fun k x=>∃(i:Nat) (b:List ByteArray),x=(l.length,(i:Int),((p.length+1+k:Nat):Int),b,m3,m4,m5,m6,())∧b.length=l.length∧i≤p.length+k∧b.take i=p++(q.take k).filter (fun v => !(aq .str false m6 v))∧b.drop (p.length+1+k)=q.drop k)
  (fun r => ∃ (m : Nat) (b : List ByteArray), r = (l.length, (m : Int), b, m3, m4, m5, m6, ()) ∧ b.length = l.length ∧ m ≤ l.length ∧ b.take m = p ++ q.filter fun v => !(aq .str false m6 v)) (by
   rintro k _ hk ⟨i,b,rfl,hb,hi,ht,hd⟩
   have hx:b.getD (p.length+1+k) (bs [])=q.getD k (bs []):=by
    have:=congrArg (fun l=>l.getD 0 (bs [])) hd
    simpa [List.getD_eq_getElem?_getD] using this
   have Y6:q.take (k+1)=q.take k++[q.getD k (bs [])]:=by
    rw [List.take_succ_eq_append_getElem hk];simp [List.getD_eq_getElem?_getD,List.getElem?_eq_getElem hk]
   generalize q.getD k (bs [])=y at hx Y6
   have i1:fu ((p.length+1+k:Nat):Int) ((l.length:Nat):Int)=true:=bQ (by omega) (by omega)
   have i2:fu (i:Int) ((l.length:Nat):Int)=true:=bQ (by omega) (by omega)
   have d1:decide (p.length+1+k<b.length)=true:=decide_eq_true (by omega)
   have d2:decide (i<b.length)=true:=decide_eq_true (by omega)
   have r1:gm .i64 ((i:Int)+1)=true:=aJ (by omega) (by omega)
   have r2:gm .i64 (((p.length+1+k:Nat):Int)+1)=true:=aJ (by omega) (by omega)
   simp only [gH97_v1_0,az,aD,bC,aW,aZ,af,Int.toNat_natCast,Nat.zero_add,hx,VM,aF,i1,i2,d1,d2,r1,r2,ax,bw]
   rw [if_pos (by omega)]
   by_cases hy:(aq .str false m6 y)=true
   ·refine ⟨_, by rw [FB (by rw [hy]; rfl)], i, b, by rw [show ((p.length + 1 + (k + 1) : Nat) : Int) = ((p.length + 1 + k : Nat) : Int) + 1 by omega], hb, by omega, ?_, ?_⟩
    ·rw [ht,Y6,List.filter_append,List.filter_cons_of_neg (by rw [hy];simp)];simp
    ·have := congrArg (List.drop 1) hd
     simpa [List.drop_drop,Nat.add_assoc] using this
   ·refine ⟨_, by rw [M6 (by rw [Bool.eq_false_iff.2 hy]; rfl)], i + 1, b.set i y, by rw [show ((p.length + 1 + (k + 1) : Nat) : Int) = ((p.length + 1 + k : Nat) : Int) + 1 by omega, show ((i + 1 : Nat) : Int) = (i : Int) + 1 by omega], by simp [hb], by omega, ?_, ?_⟩
    ·have e:(b.set i y).take (i+1)=b.take i++[y]:=by
      rw [List.take_succ_eq_append_getElem (by simp;omega)]
      simp [List.take_set_of_le]
     rw [e,ht,Y6,List.filter_append,List.filter_cons_of_pos (by simpa using hy)];simp
    ·have := congrArg (List.drop 1) hd
     rw [List.drop_set_of_lt (by omega)]
     simpa [List.drop_drop,Nat.add_assoc] using this) (by
   rintro _ ⟨i,b,rfl,hb,hi,ht,hd⟩
   simp only [gH97_v1_0,az,af,bw]
   rw [if_neg (by omega)]
   exact ⟨_,rfl,i,b,rfl,hb,by omega,by rw [ht,List.take_length]⟩) (x:=(l.length,(p.length:Int),(p.length:Int)+1,l,m3,m4,m5,m6,())) ⟨p.length,l,by simp,rfl,by omega,by rw [h1];simp,by rw [h1];simp⟩
 rw [av hres]
 have hml:m=(l.filter fun v => !(aq .str false m6 v)).length:=by rw [hk,←ht,List.length_take];omega
 simp only [Int.toNat_natCast,Nat.zero_add,Aj,Int.toNat_zero,Nat.sub_zero]
 rw [bR (by omega),bR (by omega),bR (by omega),bR (by omega),bR (by omega),bR (by omega)]
 refine ⟨b.take m++List.replicate (l.length - m) (bs [])++b.drop (m+(l.length - m)),?_,?_,by rw [←hml]⟩
 ·simp only [List.length_append,List.length_take,List.length_replicate,List.length_drop];omega
 ·rw [←hml,List.take_append_of_le_length (by simp;omega),List.take_append_of_le_length (by simp;omega),List.take_take,Nat.min_self,ht,hk]
end
end Go.Proofs.Tryz
end
section
namespace Go.Proofs.Tryz
open Go.AM
set_option maxRecDepth 100000
abbrev zM:Mg:=(bs [],(0:Int),bs [],bs [],(0:Int))
def jd (es:Aa) (m:Mg):Aa:=if aK .str es m.1=true then es else aQ .str es m.1 m
def pP (L:List Mg):Aa:=L.foldl jd []
def cnt (L:List Mg):List Mg:=(pP L).map (·.2)
theorem xP {es:Aa} (h:gh .str es) (m:Mg):gh .str (jd es m):=by
 unfold jd;split
 ·exact h
 ·exact h.gU kS
theorem xQ : ∀ {L : List Mg} {es : Aa}, gh .str es → gh .str (L.foldl jd es)
 |[],_,h=>h
 |m::L,es,h=>xQ (L:=L) (es:=jd es m) (xP h m)
theorem KR (L:List Mg):gh .str (pP L):=xQ .nil
theorem xR : ∀ {L : List Mg} {es : Aa} {e : ByteArray × Mg}, gh .str es → (e ∈ L.foldl jd es ↔ e ∈ es ∨ (aK .str es e.1 = false ∧ ∃ pre post, L = pre ++ e.2 :: post ∧ e.2.1 = e.1 ∧ ∀ x ∈ pre, x.1 ≠ e.1))
 |[],es,e,_=>by simp
 |m::L,es,e,h=>by
  rw [List.foldl_cons,xR (xP h m)]
  have hs:jd es m=es∧aK .str es m.1=true∨jd es m=aQ .str es m.1 m∧aK .str es m.1=false:=by
   unfold jd
   cases hm:aK .str es m.1
   ·right;simp
   ·left;simp
  rcases hs with ⟨hs,hm⟩|⟨hs,hm⟩
  ·rw [hs]
   refine or_congr_right ?_
   constructor
   ·rintro ⟨h1, pre, post, rfl, h2, h3⟩
    refine ⟨h1,m::pre,post,rfl,h2,fun x hx=>?_⟩
    rcases List.mem_cons.1 hx with rfl|hx
    ·intro e';rw [e'] at hm;rw [hm] at h1;cases h1
    ·exact h3 x hx
   ·rintro ⟨h1, pre, post, h2, h3, h4⟩
    cases pre with
    |nil =>
     simp only [List.nil_append,List.cons.injEq] at h2
     rw [h2.1] at hm;rw [h3] at hm;rw [hm] at h1;cases h1
    |cons p pre =>
     simp only [List.cons_append,List.cons.injEq] at h2
     exact ⟨h1,pre,post,h2.2,h3,fun x hx=>h4 x (List.mem_cons_of_mem _ hx)⟩
  ·rw [hs, eL kS h, oT kS h]
   have hk:∀{v:Mg},(m.1,v)∉es:=fun {v} hv=>by rw [(c8 kS).2 ⟨v,hv⟩] at hm;cases hm
   constructor
   ·rintro ((h1 | ⟨h1, _⟩) | ⟨h1, pre, post, rfl, h2, h3⟩)
    ·subst h1
     exact .inr ⟨hm,[],L,rfl,rfl,by simp⟩
    ·exact .inl h1
    ·simp only [Bool.or_eq_false_iff] at h1
     have hne:e.1≠m.1:=fun e'=>by have:=h1.1;rw [e',iD kS] at this;cases this
     refine .inr ⟨h1.2,m::pre,post,rfl,h2,fun x hx=>?_⟩
     rcases List.mem_cons.1 hx with rfl|hx
     ·exact Ne.symm hne
     ·exact h3 x hx
   ·rintro (h1 | ⟨h1, pre, post, h2, h3, h4⟩)
    ·refine .inl (.inr ⟨h1, fun e' => ?_⟩)
     obtain ⟨a,b⟩:=e
     simp only at e';subst e';exact hk h1
    ·cases pre with
     |nil =>
      simp only [List.nil_append,List.cons.injEq] at h2
      obtain ⟨a,b⟩:=e
      simp only at h2 h3
      exact .inl (.inl (by rw [←h3,h2.1]))
     |cons p pre =>
      simp only [List.cons_append,List.cons.injEq] at h2
      have hne:e.1≠m.1:=fun e'=>by
       have:=h4 p (List.mem_cons_self ..)
       rw [←h2.1,e'] at this;exact this rfl
      refine .inr ⟨?_,pre,post,h2.2,h3,fun x hx=>h4 x (List.mem_cons_of_mem _ hx)⟩
      rw [Bool.or_eq_false_iff]
      refine ⟨?_,h1⟩
      cases hd:dx .str e.1 m.1 with
      |false=>rfl
      |true=>exact absurd (bu hd) hne
theorem tn {L:List Mg} {e:ByteArray×Mg}:e∈pP L↔∃pre post,L=pre++e.2::post∧e.2.1=e.1∧∀x∈pre,x.1≠e.1:=by
 unfold pP
 rw [xR .nil]
 simp [aK]
theorem Ej {L:List Mg} {e:ByteArray×Mg} (h:e∈pP L):e.2.1=e.1:=by
 obtain ⟨_,_,_,h,_⟩:=tn.1 h;exact h
theorem Ek (L:List Mg):pP L=(cnt L).map fun m=>(m.1,m):=by
 unfold cnt
 rw [List.map_map]
 conv=>lhs;rw [←List.map_id (pP L)]
 refine List.map_congr_left fun e he=>?_
 have:=Ej he
 obtain ⟨a,b⟩:=e
 simp only at this;subst this;rfl
theorem IQ {L:List Mg} {m:Mg}:m∈cnt L↔(m.1,m)∈pP L:=by
 unfold cnt
 rw [List.mem_map]
 constructor
 ·rintro ⟨e, he, rfl⟩
  have:=Ej he
  obtain ⟨a,b⟩:=e
  simp only at this;subst this;exact he
 ·intro h;exact ⟨_,h,rfl⟩
def SI (c:List Mg):Prop:=c.Pairwise fun a b=>slt a.1 b.1=true
theorem dS (L:List Mg):SI (cnt L):=by
 have h:=KR L
 rw [Ek] at h
 unfold gh at h;rw [List.pairwise_map] at h;exact h
theorem SI.ZS {c:List Mg} (h:SI c):gh .str (c.map fun m=>(m.1,m)):=by
 unfold gh;rw [List.pairwise_map];exact h
theorem SI.inj {c:List Mg} (h:SI c) {m m':Mg} (hm:m∈c) (hm':m'∈c) (e:m.1=m'.1):m=m':=by
 have h1:=fJ (d:=zM) kS h.ZS (List.mem_map.2 ⟨m,hm,rfl⟩)
 have h2:=fJ (d:=zM) kS h.ZS (List.mem_map.2 ⟨m',hm',rfl⟩)
 rw [←h1,←h2,e]
theorem mQ {L:List Mg} {m:Mg} (h:m∈cnt L):m∈L:=by
 obtain ⟨pre,post,h,_⟩:=tn.1 (IQ.1 h)
 rw [h];simp
theorem vf {L:List Mg} (hL:SL L) {m:Mg}:m∈cnt L↔m∈L∧∀x∈L,x.1=m.1→x=m∨fC tM m x=true:=by
 rw [IQ,tn]
 constructor
 ·rintro ⟨pre, post, h, _, h2⟩
  simp only at h h2
  subst h
  refine ⟨by simp,fun x hx e=>?_⟩
  rcases List.mem_append.1 hx with hx|hx
  ·exact absurd e (h2 x hx)
  ·rcases List.mem_cons.1 hx with rfl | hx
   ·exact .inl rfl
   ·unfold SL at hL
    rw [List.pairwise_append,List.pairwise_cons] at hL
    exact .inr (hL.2.1.1 x hx)
 ·rintro ⟨h1, h2⟩
  obtain ⟨pre,post,h⟩:=List.append_of_mem h1
  refine ⟨pre,post,h,rfl,fun x hx e=>?_⟩
  subst h
  unfold SL at hL
  rw [List.pairwise_append] at hL
  have h3:=hL.2.2 x hx m (List.mem_cons_self ..)
  rcases h2 x (by simp [hx]) e with rfl|h4
  ·rw [eV kM] at h3;cases h3
  ·exact c7 kM h3 h4
theorem adT {L:List Mg} {m1:List (Mg×Bool)} (hl:L.length<1000000000):iter (fun x=>ak (gH66_0 x)) (L.length,((L.length:Nat):Int),(0:Int),L,m1,[],[],[],[],())=some (m1,pP L,[],[],[],()):=by
 refine bf L (fun k (es:Aa)=>(L.length,((L.length:Nat):Int),(k:Int),L,m1,es,[],[],[],())) (fun es r=>(m1,r.foldl jd es,[],[],[],())) (fun _ _=>True) ?_ ?_ (s:=[]) trivial
 ·intro pre x post es hx _
  have hlen:L.length=pre.length+(post.length+1):=by rw [hx];simp
  have hd:L.getD pre.length zM=x:=by rw [hx];exact bx rfl
  have i1:fu (pre.length:Int) ((L.length:Nat):Int)=true:=bQ (by omega) (by omega)
  have r1:gm .i64 ((pre.length:Int)+1)=true:=aJ (by omega) (by omega)
  have d1:decide (pre.length<L.length)=true:=decide_eq_true (by omega)
  left
  refine ⟨jd es x,?_,trivial,rfl⟩
  simp only [gH66_0,az,bC,aW,aZ,af,Int.toNat_natCast,Nat.zero_add,hd,i1,r1,d1,ax,bw]
  rw [if_pos (by omega)]
  unfold jd
  cases hm:aK .str es x.1
  ·rw [M6 (by rfl)];rfl
  ·rw [FB (by rfl)];rfl
 ·intro es _
  simp only [gH66_0,az,af,bw]
  rw [if_neg (by omega)]
  rfl
theorem Tz {c:List Mg} (h:SI c) (hl:c.length<1000000000):ak (FH81 (c.map fun m=>(m.1,m)))=some (c.length,c.map (·.1),c.map (fun m=>(m.1,m)),()):=by
 unfold FH81
 refine Eq.trans Bg (gr fun l hp=>?_)
 have yd:l.length=c.length:=by rw [hp.length_eq,List.length_map]
 simp only [aD,Bh]
 refine bind_eq (rU (m:=c.map fun m=>(m.1,m)) (l:=l) (by rw [yd];exact hl) fun e n b hn=>?_) ?_
 ·simp only [gH81f107f126_0i_0, aW, af, dm, ax]
  rw [bR (show _<cn by rw [jD];simp;omega)]
  rfl
 ·simp only [FH105, wX]
  have hpk:(c.map (·.1)).Perm (l.map (·.1)):=by
   have:=(hp.map (·.1)).symm
   rwa [List.map_map] at this
  have hs:zS .str (c.map (·.1)):=by
   have:=h.ZS.keys kS
   rwa [List.map_map] at this
  have:=ov kS hpk hs (by rw [List.length_map];omega)
  rw [List.length_map] at this
  rw [av this,yd]
  rfl
def kids (c:List Mg) (x:ByteArray):List ByteArray:=(c.filter fun m=>decide (m.2.1=2∧m.2.2.1=x)).map (·.1)
def kK (c:List Mg) (x:ByteArray):Bool:=c.any fun m=>decide (m.2.1=3∧m.2.2.1=x)
def je (t:EL) (m:Mg):EL:=if m.2.1=2 then aQ .str t m.2.2.1 (aq .str [] t m.2.2.1++[m.1]) else t
def jf (t:fq) (m:Mg):fq:=if m.2.1=3 then aQ .str t m.2.2.1 true else t
def bG (c:List Mg):EL:=c.foldl je []
def bZ (c:List Mg):fq:=c.foldl jf []
theorem Gx {t:EL} (h:gh .str t) (m:Mg):gh .str (je t m):=by
 unfold je;split
 ·exact h.gU kS
 ·exact h
theorem Gy {t:fq} (h:gh .str t) (m:Mg):gh .str (jf t m):=by
 unfold jf;split
 ·exact h.gU kS
 ·exact h
theorem xS : ∀ {c : List Mg} {t : EL}, gh .str t → gh .str (c.foldl je t) ∧ (∀ x, aq .str [] (c.foldl je t) x = aq .str [] t x ++ kids c x) ∧ ∀ x, aK .str (c.foldl je t) x = (aK .str t x || !(kids c x).isEmpty)
 |[],t,h=>⟨h,fun x=>by simp [kids],fun x=>by simp [kids]⟩
 |m::c,t,h=>by
  obtain ⟨h1,h2,h3⟩:=xS (c:=c) (Gx h m)
  refine ⟨h1,fun x=>?_,fun x=>?_⟩
  ·rw [List.foldl_cons, h2]
   unfold je kids
   by_cases hk:m.2.1=2
   ·rw [if_pos hk, KQ kS h]
    by_cases hx:m.2.2.1=x
    ·subst hx
     rw [if_pos (iD kS),List.filter_cons_of_pos (by simp [hk])]
     simp
    ·rw [if_neg (fun h=>hx (bu h).symm),List.filter_cons_of_neg (by simp [hx])]
   ·rw [if_neg hk,List.filter_cons_of_neg (by simp [hk])]
  ·rw [List.foldl_cons, h3]
   unfold je kids
   by_cases hk:m.2.1=2
   ·rw [if_pos hk, oT kS h]
    by_cases hx:m.2.2.1=x
    ·subst hx
     rw [iD kS,List.filter_cons_of_pos (by simp [hk])]
     simp
    ·have:dx .str x m.2.2.1=false:=by
      cases hd:dx .str x m.2.2.1 with
      |false=>rfl
      |true=>exact absurd (bu hd).symm hx
     rw [this,List.filter_cons_of_neg (by simp [hx]),Bool.false_or]
   ·rw [if_neg hk,List.filter_cons_of_neg (by simp [hk])]
theorem IU (c:List Mg):gh .str (bG c):=(xS .nil).1
theorem vh (c:List Mg) (x:ByteArray):aq .str [] (bG c) x=kids c x:=by
 exact ((xS (c:=c) (t:=[]) .nil).2.1 x).trans (by simp [aq])
theorem IV (c:List Mg) (x:ByteArray):aK .str (bG c) x = !(kids c x).isEmpty:=by
 exact ((xS (c:=c) (t:=[]) .nil).2.2 x).trans (by simp [aK])
theorem vj {c:List Mg} {e:ByteArray×List ByteArray}:e∈bG c↔e.2=kids c e.1∧kids c e.1≠[]:=by
 constructor
 ·intro h
  have h1:=fJ (d:=[]) kS (IU c) (show (e.1,e.2)∈bG c from h)
  rw [vh] at h1
  refine ⟨h1.symm,fun h2=>?_⟩
  have h3:=(c8 kS).2 ⟨e.2,(show (e.1,e.2)∈bG c from h)⟩
  rw [IV,h2] at h3;cases h3
 ·rintro ⟨h1, h2⟩
  have h3:aK .str (bG c) e.1=true:=by
   rw [IV]
   cases hk:kids c e.1 with
   |nil=>exact absurd hk h2
   |cons _ _=>rfl
  obtain ⟨v,hv⟩:=(c8 kS).1 h3
  have h4:=fJ (d:=[]) kS (IU c) hv
  rw [vh] at h4
  obtain ⟨a,b⟩:=e
  simp only at h1 h4 hv
  rw [h1,h4];exact hv
theorem O8 : ∀ {c : List Mg} {t : fq}, gh .str t → (∀ e ∈ t, e.2 = true) → gh .str (c.foldl jf t) ∧ (∀ e ∈ c.foldl jf t, e.2 = true) ∧ ∀ x, aK .str (c.foldl jf t) x = (aK .str t x || kK c x)
 |[],t,h,ht=>⟨h,ht,fun x=>by simp [kK]⟩
 |m::c,t,h,ht=>by
  obtain ⟨h1, h0, h2⟩ := O8 (c := c) (Gy h m) (by
   unfold jf;split
   ·exact O3 kS h ht
   ·exact ht)
  refine ⟨h1,h0,fun x=>?_⟩
  rw [List.foldl_cons,h2]
  unfold jf kK
  by_cases hk:m.2.1=3
  ·rw [if_pos hk, oT kS h, List.any_cons]
   have:dx .str x m.2.2.1=decide (m.2.1=3∧m.2.2.1=x):=by
    rw [IL];exact decide_eq_decide.2 ⟨fun e=>⟨hk,e.symm⟩,fun e=>e.2.symm⟩
   rw [this,Bool.or_comm (decide _) (aK .str t x),Bool.or_assoc]
  ·rw [if_neg hk, List.any_cons]
   simp [hk]
theorem TA (c:List Mg) (x:ByteArray):aq .str false (bZ c) x=kK c x:=by
 have h:=O8 (c:=c) (t:=[]) .nil (fun e h=>by cases h)
 rw [show bZ c=c.foldl jf [] from rfl,O4 kS h.1 h.2.1,h.2.2]
 simp [aK]
theorem ow (c:List Mg) (x:ByteArray):(kids c x).length≤c.length:=by
 unfold kids;rw [List.length_map];exact List.length_filter_le ..
theorem adU {c:List Mg} {m1:List (Mg×Bool)} (h:SI c) (hl:c.length<1000000):iter (fun x=>ak (gH66_1 x)) (c.length,((c.length:Nat):Int),(0:Int),c.map (·.1),m1,c.map (fun m=>(m.1,m)),[],[],[],()) =
  some (m1,c.map (fun m=>(m.1,m)),bG c,bZ c,[],()):=by
 have yd:(c.map (·.1)).length=c.length:=List.length_map ..
 refine bf c (fun k (s : EL × fq) => (c.length, ((c.length : Nat) : Int), (k : Int), c.map (·.1), m1, c.map (fun m => (m.1, m)), s.1, s.2, [], ())) (fun s r => (m1, c.map (fun m => (m.1, m)), r.foldl je s.1, r.foldl jf s.2, [], ()))
  (fun pre s=>s.1=pre.foldl je []) ?_ ?_ (s:=([],[])) rfl
 ·rintro pre x post ⟨t, r⟩ hx ht
  simp only at ht
  have hlen:c.length=pre.length+(post.length+1):=by rw [hx];simp
  have hd:(c.map (·.1)).getD pre.length (bs [])=x.1:=by rw [hx,List.map_append,List.map_cons];exact bx (by simp)
  have hg:aq .str zM (c.map fun m=>(m.1,m)) x.1=x:=fJ kS h.ZS (List.mem_map.2 ⟨x,by rw [hx];simp,rfl⟩)
  have i1:fu (pre.length:Int) ((c.length:Nat):Int)=true:=bQ (by omega) (by omega)
  have r1:gm .i64 ((pre.length:Int)+1)=true:=aJ (by omega) (by omega)
  have d1:decide (pre.length<(c.map (·.1)).length)=true:=decide_eq_true (by omega)
  left
  refine ⟨(je t x,jf r x),?_,by simp only;rw [ht,List.foldl_append];rfl,rfl⟩
  simp only [gH66_1,az,bC,aW,aZ,af,Int.toNat_natCast,Nat.zero_add,hd,hg,i1,r1,d1,ax,bw,cu]
  rw [if_pos (by omega)]
  unfold je jf
  by_cases h3:x.2.1=3
  ·rw [if_pos h3,if_pos h3,if_neg (by omega)];rfl
  ·rw [if_neg h3, if_neg h3]
   by_cases h2:x.2.1=2
   ·rw [if_pos h2, if_pos h2]
    have hlt:(aq .str [] t x.2.2.1).length≤c.length:=by
     have:=(xS (c:=pre) (t:=[]) .nil).2.1 x.2.2.1
     rw [←ht] at this
     rw [this]
     have:=ow pre x.2.2.1
     simp only [aq,List.nil_append];omega
    rw [bR (show _<cn by rw [jD];omega)]
    rfl
   ·rw [if_neg h2,if_neg h2];rfl
 ·rintro ⟨t, r⟩ _
  simp only [gH66_1,az,af,bw]
  rw [if_neg (by omega)]
  rfl
end Go.Proofs.Tryz
end
section
namespace Go.Proofs.Tryz
open Go.AM
set_option maxRecDepth 100000
theorem TB {A B : Type} {F : (A → Option B) → A → Option B} (R : A → B → Prop) (m : A → Nat)
  (h:∀rec x y,R x y→(∀x' y',R x' y'→m x'<m x→rec x'=some y')→F rec x=some y):∀x y,R x y→wV F x=some y:=by
 have key:∀n x y,R x y→m x<n→K4 F n x=some y:=by
  intro n
  induction n with
  |zero=>intro x y _ hm;omega
  |succ n ih=>intro x y hx hm;exact h _ x y hx fun x' y' hx' hm'=>ih x' y' hx' (by omega)
 intro x y hx
 exact HO (N:=m x+1) fun n hn=>key n x y hx (by omega)
structure ox (S:fq):Prop where
 c:gh .str S
 t:∀e∈S,e.2=true
theorem ox.nil:ox []:=⟨.nil,fun e h=>by cases h⟩
theorem ox.put {S:fq} (h:ox S) (x:ByteArray):ox (aQ .str S x true):=⟨h.c.gU kS,O3 kS h.c h.t⟩
abbrev has (S:fq) (x:ByteArray):Bool:=aK .str S x
def Sub (S S':fq):Prop:=∀x,has S x=true→has S' x=true
theorem Sub.rfl {S:fq}:Sub S S:=fun _ h=>h
theorem Sub.trans {S S' Bb:fq} (h:Sub S S') (h':Sub S' Bb):Sub S Bb:=fun x hx=>h' x (h x hx)
theorem oU {S:fq} (h:ox S) {x y:ByteArray}:has (aQ .str S x true) y=true↔y=x∨has S y=true:=by
 unfold has
 rw [oT kS h.c,Bool.or_eq_true,BT kS]
theorem Sub.put {S:fq} (h:ox S) (x:ByteArray):Sub S (aQ .str S x true):=fun y hy=>(oU h).2 (.inr hy)
theorem ox.ext {S S':fq} (h:ox S) (h':ox S') (hx:∀x,has S x=true↔has S' x=true):S=S' :=
 O5 kS h.c h'.c h.t h'.t fun x=>by rw [Bool.eq_iff_iff];exact hx x
section
variable {c:List Mg}
inductive kB (c : List Mg) : ByteArray → ByteArray → Prop
 |refl (x):kB c x x
 |step {x y z} (h:kB c x y) (hz:z∈kids c y):kB c x z
theorem kB.trans {x y z:ByteArray} (h:kB c x y) (h':kB c y z):kB c x z:=by
 induction h' with
 |refl=>exact h
 |step _ hz ih=>exact .step ih hz
theorem kB.cons {x y z:ByteArray} (hy:y∈kids c x) (h:kB c y z):kB c x z:=(kB.step (.refl x) hy).trans h
def ids (c:List Mg):List ByteArray:=c.map (·.1)
theorem iV {x z:ByteArray} (h:z∈kids c x):z∈ids c:=by
 unfold kids at h
 obtain ⟨m,hm,rfl⟩:=List.mem_map.1 h
 exact List.mem_map.2 ⟨m,(List.mem_filter.1 hm).1,rfl⟩
def Cg (c:List Mg) (S:fq):Nat:=((ids c).filter fun x => !has S x).length
theorem O9 (S:fq):Cg c S≤c.length:=by
 unfold Cg ids;exact Nat.le_trans (List.length_filter_le ..) (by simp)
theorem mR {α : Type} {p q : α → Bool} : ∀ {l : List α}, (∀ x ∈ l, p x = true → q x = true) → (l.filter p).length ≤ (l.filter q).length
 |[],_=>by simp
 |a::l,h=>by
  have ih:=mR (l:=l) fun x hx=>h x (List.mem_cons_of_mem _ hx)
  by_cases hp:p a=true
  ·rw [List.filter_cons_of_pos hp, List.filter_cons_of_pos (h a (List.mem_cons_self ..) hp)]
   simp only [List.length_cons];omega
  ·rw [List.filter_cons_of_neg hp]
   by_cases hq:q a=true
   ·rw [List.filter_cons_of_pos hq];simp only [List.length_cons];omega
   ·rw [List.filter_cons_of_neg hq];exact ih
theorem rW {α : Type} {p q : α → Bool} : ∀ {l : List α}, (∀ x ∈ l, p x = true → q x = true) → ∀ {y : α}, y ∈ l → q y = true → p y = false → (l.filter p).length < (l.filter q).length
 |[],_,y,h,_,_=>by cases h
 |a::l,h,y,hy,hq,hp=>by
  have hl:∀x∈l,p x=true→q x=true:=fun x hx=>h x (List.mem_cons_of_mem _ hx)
  rcases List.mem_cons.1 hy with rfl|hy
  ·rw [List.filter_cons_of_neg (by rw [hp]; simp), List.filter_cons_of_pos hq]
   have:=mR hl
   simp only [List.length_cons];omega
  ·have ih := rW hl hy hq hp
   by_cases hpa:p a=true
   ·rw [List.filter_cons_of_pos hpa, List.filter_cons_of_pos (h a (List.mem_cons_self ..) hpa)]
    simp only [List.length_cons];omega
   ·rw [List.filter_cons_of_neg hpa]
    by_cases hqa:q a=true
    ·rw [List.filter_cons_of_pos hqa];simp only [List.length_cons];omega
    ·rw [List.filter_cons_of_neg hqa];exact ih
theorem xU {S S':fq} (h:Sub S S'):Cg c S'≤Cg c S:=mR fun x _ hx=>by
 cases hs:has S x with
 |false=>rfl
 |true=>rw [h x hs] at hx;cases hx
theorem Gz {S:fq} (h:ox S) {x:ByteArray} (hx:x∈ids c) (hn:has S x=false):Cg c (aQ .str S x true)<Cg c S:=by
 refine rW (fun y _ hy=>?_) hx (by rw [hn];rfl) (by rw [(oU h).2 (.inl rfl)];rfl)
 cases hs:has S y with
 |false=>rfl
 |true=>rw [(oU h).2 (.inr hs)] at hy;cases hy
def cG (c : List Mg) : Nat → ByteArray → fq → fq
 |0,_,S=>S
 |n+1,x,S=>if has S x=true then S else (kids c x).foldl (fun S k=>cG c n k S) (aQ .str S x true)
theorem iE : ∀ {n : Nat} {x : ByteArray} {S : fq}, ox S → ox (cG c n x S) ∧ Sub S (cG c n x S)
 |0,_,_,h=>⟨h,.rfl⟩
 |n+1,x,S,h=>by
  unfold cG
  split
  ·exact ⟨h,.rfl⟩
  ·have key:∀(l:List ByteArray) (S:fq),ox S→ox (l.foldl (fun S k=>cG c n k S) S)∧Sub S (l.foldl (fun S k=>cG c n k S) S):=by
    intro l
    induction l with
    |nil=>intro S h;exact ⟨h,.rfl⟩
    |cons k l ih =>
     intro S h
     obtain ⟨h1,h2⟩:=iE (n:=n) (x:=k) h
     obtain ⟨h3,h4⟩:=ih _ h1
     exact ⟨h3,h2.trans h4⟩
   obtain ⟨h1,h2⟩:=key (kids c x) _ (h.put x)
   exact ⟨h1,(Sub.put h x).trans h2⟩
theorem rX {n : Nat} : ∀ {l : List ByteArray} {S : fq}, ox S → ox (l.foldl (fun S k => cG c n k S) S) ∧ Sub S (l.foldl (fun S k => cG c n k S) S)
 |[],_,h=>⟨h,.rfl⟩
 |k::l,S,h=>by
  obtain ⟨h1,h2⟩:=iE (c:=c) (n:=n) (x:=k) h
  obtain ⟨h3,h4⟩:=rX (l:=l) h1
  exact ⟨h3,h2.trans h4⟩
theorem uh : ∀ {n n' : Nat} {x : ByteArray} {S : fq}, ox S → x ∈ ids c → Cg c S < n → Cg c S < n' → cG c n x S = cG c n' x S
 |0,_,_,_,_,_,h,_=>by omega
 |_+1,0,_,_,_,_,_,h=>by omega
 |n+1,n'+1,x,S,hS,hx,h,h'=>by
  unfold cG
  split
  ·rfl
  ·rename_i hn
   have hn:has S x=false:=by simpa using hn
   have hlt:=Gz hS hx hn
   have key:∀(l:List ByteArray) (S1:fq),(∀k∈l,k∈ids c)→ox S1→Cg c S1<n→Cg c S1<n'→l.foldl (fun S k=>cG c n k S) S1=l.foldl (fun S k=>cG c n' k S) S1:=by
    intro l
    induction l with
    |nil=>intro _ _ _ _ _;rfl
    |cons k l ih =>
     intro S1 hk h1 h2 h3
     simp only [List.foldl_cons]
     rw [uh (n:=n) (n':=n') h1 (hk k (List.mem_cons_self ..)) h2 h3]
     obtain ⟨h4,h5⟩:=iE (c:=c) (n:=n') (x:=k) h1
     have:=xU (c:=c) h5
     exact ih _ (fun k hk'=>hk k (List.mem_cons_of_mem _ hk')) h4 (by omega) (by omega)
   exact key _ _ (fun k hk=>iV hk) (hS.put x) (by omega) (by omega)
theorem El {n:Nat} {x:ByteArray} {S:fq} (h:ox S) (hn:Cg c S<n):has (cG c n x S) x=true:=by
 cases n with
 |zero=>omega
 |succ n =>
  unfold cG
  split
  ·assumption
  ·exact (rX (h.put x)).2 x ((oU h).2 (.inl rfl))
theorem Ab : ∀ {n : Nat} {x : ByteArray} {S : fq}, ox S → ∀ y, has (cG c n x S) y = true → has S y = true ∨ kB c x y
 |0,_,_,_,y,hy=>.inl hy
 |n+1,x,S,h,y,hy=>by
  unfold cG at hy
  split at hy
  ·exact .inl hy
  ·have key:∀(l:List ByteArray) (S1:fq),(∀k∈l,k∈kids c x)→ox S1→has (l.foldl (fun S k=>cG c n k S) S1) y=true→has S1 y=true∨kB c x y:=by
    intro l
    induction l with
    |nil=>intro S1 _ _ h;exact .inl h
    |cons k l ih =>
     intro S1 hk h1 h2
     simp only [List.foldl_cons] at h2
     rcases ih _ (fun k hk'=>hk k (List.mem_cons_of_mem _ hk')) (iE h1).1 h2 with h3|h3
     ·rcases Ab h1 y h3 with h4 | h4
      ·exact .inl h4
      ·exact .inr (.cons (hk k (List.mem_cons_self ..)) h4)
     ·exact .inr h3
   rcases key _ _ (fun k hk=>hk) (h.put x) hy with h1|h1
   ·rcases (oU h).1 h1 with rfl | h2
    ·exact .inr (.refl _)
    ·exact .inl h2
   ·exact .inr h1
theorem Ad : ∀ {n : Nat} {x : ByteArray} {S : fq}, ox S → x ∈ ids c → Cg c S < n → ∀ y, has (cG c n x S) y = true → has S y = false → ∀ z ∈ kids c y, has (cG c n x S) z = true
 |0,_,_,_,_,h,_,_,_=>by omega
 |n+1,x,S,hS,hx,hlt,y,hy,hyn=>by
  intro z hz
  unfold cG at hy ⊢
  split at hy
  ·rw [hyn] at hy;cases hy
  ·rename_i hn
   rw [if_neg hn]
   have hn:has S x=false:=by simpa using hn
   have hl:=Gz hS hx hn
   have key:∀(l:List ByteArray) (S1:fq),(∀k∈l,k∈kids c x)→ox S1→Cg c S1<n→(∀k∈l,has (l.foldl (fun S k=>cG c n k S) S1) k=true) ∧
     (has (l.foldl (fun S k=>cG c n k S) S1) y=true→has S1 y=false→has (l.foldl (fun S k=>cG c n k S) S1) z=true):=by
    intro l
    induction l with
    |nil=>intro S1 _ _ _;exact ⟨(fun k hk=>by cases hk),(fun h h'=>by rw [List.foldl_nil,h'] at h;cases h)⟩
    |cons k l ih =>
     intro S1 hk h1 h2
     simp only [List.foldl_cons]
     obtain ⟨h3,h4⟩:=iE (c:=c) (n:=n) (x:=k) h1
     have h5:=xU (c:=c) h4
     obtain ⟨h6,h7⟩:=ih _ (fun k hk'=>hk k (List.mem_cons_of_mem _ hk')) h3 (by omega)
     have h8:=(rX (c:=c) (n:=n) (l:=l) h3).2
     refine ⟨fun k' hk'=>?_,fun h9 Z1=>?_⟩
     ·rcases List.mem_cons.1 hk' with rfl | hk'
      ·exact h8 _ (El h1 (by omega))
      ·exact h6 k' hk'
     ·cases Zw:has (cG c n k S1) y with
      |false=>exact h7 h9 Zw
      |true=>exact h8 _ (Ad h1 (iV (hk k (List.mem_cons_self ..))) h2 y Zw Z1 z hz)
   obtain ⟨h1,h2⟩:=key _ _ (fun k hk=>hk) (hS.put x) (by omega)
   by_cases he:y=x
   ·subst he;exact h1 z hz
   ·refine h2 hy ?_
    cases h3:has (aQ .str S x true) y with
    |false=>rfl
    |true =>
     rcases (oU hS).1 h3 with h4|h4
     ·exact absurd h4 he
     ·rw [hyn] at h4;cases h4
def VN (c:List Mg) (S:fq):Prop:=∀y,has S y=true→∀z∈kids c y,has S z=true
theorem VN.desc {S:fq} (h:VN c S) {x y:ByteArray} (hx:has S x=true) (hd:kB c x y):has S y=true:=by
 induction hd with
 |refl=>exact hx
 |step _ hz ih=>exact h _ ih _ hz
theorem Pa {n:Nat} {x:ByteArray} {S:fq} (hS:ox S) (hC:VN c S) (hx:x∈ids c) (hn:Cg c S<n):VN c (cG c n x S)∧∀y,has (cG c n x S) y=true↔has S y=true∨kB c x y:=by
 have hc:VN c (cG c n x S):=fun y hy z hz=>by
  cases h:has S y with
  |true=>exact (iE hS).2 z (hC y h z hz)
  |false=>exact Ad hS hx hn y hy h z hz
 refine ⟨hc,fun y=>⟨Ab hS y,?_⟩⟩
 rintro (h|h)
 ·exact (iE hS).2 y h
 ·exact hc.desc (El hS hn) h
theorem kH96 {m3:Aa} {m5:fq} {x:ByteArray} {S:fq} (hc:c.length<1000000) (hS:ox S) (hx:x∈ids c):ak (FH96fix x m3 (bG c) m5 S)=some (m3,bG c,m5,cG c (c.length+1) x S,()):=by
 have h0:ak (FH96fix x m3 (bG c) m5 S)=wV (A:=j9.T) (B:=kf.T) (fun r y=>run r (FH96 y.1 y.2.1 y.2.2.1 y.2.2.2.1 y.2.2.2.2.1)) (x,m3,bG c,m5,S,()):=rfl
 refine h0.trans ?_
 refine TB (A:=j9.T) (B:=kf.T) (fun a b=>∃x S,a=(x,m3,bG c,m5,S,())∧ox S∧x∈ids c∧b=(m3,bG c,m5,cG c (c.length+1) x S,())) (fun a=>Cg c a.2.2.2.2.1) ?_ _ _ ⟨x,S,rfl,hS,hx,rfl⟩
 rintro rec _ _ ⟨x,S,rfl,hS,hx,rfl⟩ ih
 have e:(run rec (FH96 x m3 (bG c) m5 S):Option (Aa×EL×fq×fq×Unit))=tW (aq .str false S x) (some (m3,bG c,m5,S,())) (cL (iter (fun a=>run rec (gH96_0 a)) (aq .str [] (bG c) x,(((aq .str [] (bG c) x).length:Nat):Int),(0:Int),m3,bG c,m5,aQ .str S x true,())) fun z=>some (z.1,z.2.1,z.2.2.1,z.2.2.2.1,())):=rfl
 refine Eq.trans (α:=Option (Aa×EL×fq×fq×Unit)) e ?_
 rw [O4 kS hS.c hS.t,vh]
 by_cases hh:has S x=true
 ·rw [M6 hh]
  have:cG c (c.length+1) x S=S:=by unfold cG;rw [if_pos hh]
  rw [this];rfl
 ·rw [FB (by simpa using hh)]
  have hn:has S x=false:=by simpa using hh
  have hlt:=Gz hS hx hn
  have hle:=O9 (c:=c) S
  have PS:=ow c x
  have he:cG c (c.length+1) x S=(kids c x).foldl (fun S k=>cG c (c.length+1) k S) (aQ .str S x true):=by
   have:cG c (c.length+1) x S=cG c (c.length+2) x S:=uh hS hx (by omega) (by omega)
   rw [this]
   conv=>lhs;unfold cG
   rw [if_neg hh]
  rw [he]
  refine bind_eq (bf (kids c x) (fun k (S:fq)=>(kids c x,(((kids c x).length:Nat):Int),(k:Int),m3,bG c,m5,S,())) (fun S r=>(m3,bG c,m5,r.foldl (fun S k=>cG c (c.length+1) k S) S,())) (fun _ S1=>ox S1∧Cg c S1<Cg c S) ?_ ?_ (s:=aQ .str S x true) ⟨hS.put x,hlt⟩) rfl
  ·rintro pre k post S1 hk ⟨h1, h2⟩
   have hlen:(kids c x).length=pre.length+(post.length+1):=by rw [hk];simp
   have hd:(kids c x).getD pre.length (bs [])=k:=by rw [hk];exact bx rfl
   have i1:fu (pre.length:Int) (((kids c x).length:Nat):Int)=true:=bQ (by omega) (by omega)
   have r1:gm .i64 ((pre.length:Int)+1)=true:=aJ (by omega) (by omega)
   have hki:k∈ids c:=iV (x:=x) (by rw [hk];simp)
   obtain ⟨h3,h4⟩:=iE (c:=c) (n:=c.length+1) (x:=k) h1
   have h5:=xU (c:=c) h4
   left
   refine ⟨cG c (c.length+1) k S1,?_,⟨h3,by omega⟩,rfl⟩
   simp only [gH96_0,az,bC,aZ,af,aD,W3,Int.toNat_natCast,hd,i1,r1,ax,bw]
   rw [if_pos (by omega)]
   have hq:(run rec (Tr.rc (k,m3,bG c,m5,S1,())):Option (Aa×EL×fq×fq×Unit))=some (m3,bG c,m5,cG c (c.length+1) k S1,()):=ih (k,m3,bG c,m5,S1,()) _ ⟨k,S1,rfl,h1,hki,rfl⟩ h2
   exact bind_eq (A:=Aa×EL×fq×fq×Unit) hq rfl
  ·rintro S1 _
   simp only [gH96_0,az,af,bw]
   rw [if_neg (by omega)]
   rfl
end
end Go.Proofs.Tryz
end
section
namespace Go.Proofs.Tryz
open Go.AM
set_option maxRecDepth 100000
def TC (c:List Mg) (x:ByteArray):Bool:=aK .str (c.map fun m=>(m.1,m)) x && !((aq .str zM (c.map fun m=>(m.1,m)) x).2.1==3)
def dir (c:List Mg) (e:ByteArray×List ByteArray):List ByteArray:=if TC c e.1=true then (match e.2.filter (kK c) with|[o]=>e.2.filter (fun k => !decide (k=o))|_=>[]) else []
def oy (c:List Mg) (S:fq) (e:ByteArray×List ByteArray):fq:=(dir c e).foldl (fun S k=>cG c (c.length+1) k S) S
def cN (c:List Mg):fq:=(bG c).foldl (oy c) []
abbrev bJ (c:List Mg):Aa:=c.map fun m=>(m.1,m)
section
variable {c:List Mg}
theorem oV {e:ByteArray×List ByteArray} {y:ByteArray} (h:y∈dir c e):y∈e.2:=by
 unfold dir at h
 split at h
 ·split at h
  ·exact (List.mem_filter.1 h).1
  ·cases h
 ·cases h
structure nq (c:List Mg) (l:List (ByteArray×List ByteArray)) (S:fq):Prop where
 ok:ox S
 ZK:VN c S
 iff:∀x,has S x=true↔∃e∈l,∃y∈dir c e,kB c y x
theorem adV {l:List ByteArray}:∀{S:fq},ox S→VN c S→(∀k∈l,k∈ids c)→ox (l.foldl (fun S k=>cG c (c.length+1) k S) S)∧VN c (l.foldl (fun S k=>cG c (c.length+1) k S) S) ∧
  ∀x,has (l.foldl (fun S k=>cG c (c.length+1) k S) S) x=true↔has S x=true∨∃y∈l,kB c y x:=by
 induction l with
 |nil=>intro S h1 h2 _;exact ⟨h1,h2,fun x=>by simp⟩
 |cons k l ih =>
  intro S h1 h2 h3
  have hn:Cg c S<c.length+1:=by have:=O9 (c:=c) S;omega
  have hk:=h3 k (List.mem_cons_self ..)
  obtain ⟨h4,h5⟩:=Pa h1 h2 hk hn
  obtain ⟨h6,h7,h8⟩:=ih (iE h1).1 h4 fun k hk=>h3 k (List.mem_cons_of_mem _ hk)
  refine ⟨h6,h7,fun x=>?_⟩
  rw [List.foldl_cons,h8,h5]
  simp only [List.mem_cons,exists_eq_or_imp,or_assoc]
theorem nq.step {l:List (ByteArray×List ByteArray)} {S:fq} (h:nq c l S) {e:ByteArray×List ByteArray} (he:∀k∈e.2,k∈ids c):nq c (l++[e]) (oy c S e):=by
 obtain ⟨h1,h2,h3⟩:=adV (l:=dir c e) h.ok h.ZK fun k hk=>he k (oV hk)
 refine ⟨h1,h2,fun x=>?_⟩
 unfold oy
 rw [h3,h.iff]
 constructor
 ·rintro (⟨e', he', h⟩ | h)
  ·exact ⟨e',by simp [he'],h⟩
  ·exact ⟨e,by simp,h⟩
 ·rintro ⟨e', he', h⟩
  rcases List.mem_append.1 he' with he'|he'
  ·exact .inl ⟨e',he',h⟩
  ·rw [List.mem_singleton] at he';subst he';exact .inr h
theorem nq.all : ∀ {r l : List (ByteArray × List ByteArray)} {S : fq}, nq c l S → (∀ e ∈ r, ∀ k ∈ e.2, k ∈ ids c) → nq c (l ++ r) (r.foldl (oy c) S)
 |[],l,S,h,_=>by simpa using h
 |e::r,l,S,h,hr=>by
  have:=nq.all (h.step (hr e (List.mem_cons_self ..))) fun e he=>hr e (List.mem_cons_of_mem _ he)
  simpa using this
theorem nq.nil:nq c [] []:=⟨.nil,fun y hy=>by simp [has,aK] at hy,fun x=>by simp [has,aK]⟩
theorem IW:∀e∈bG c,∀k∈e.2,k∈ids c:=fun e he k hk=>by
 rw [(vj.1 he).1] at hk;exact iV hk
theorem xV {l:List (ByteArray×List ByteArray)} (hp:l.Perm (bG c)):nq c l (l.foldl (oy c) []):=by
 have:=nq.all (c:=c) (r:=l) (l:=[]) .nil fun e he=>IW e (hp.mem_iff.1 he)
 simpa using this
theorem tq (c:List Mg):nq c (bG c) (cN c):=xV (.refl _)
theorem Y7 {l:List (ByteArray×List ByteArray)} (hp:l.Perm (bG c)):l.foldl (oy c) []=cN c :=
 (xV hp).ok.ext (tq c).ok fun x=>by
  rw [(xV hp).iff,(tq c).iff]
  exact ⟨fun ⟨e,he,h⟩=>⟨e,hp.mem_iff.1 he,h⟩,fun ⟨e,he,h⟩=>⟨e,hp.mem_iff.2 he,h⟩⟩
def gB (c:List Mg) (x:ByteArray):Bool:=has (cN c) x
theorem BU (x:ByteArray):aq .str false (cN c) x=gB c x:=O4 kS (tq c).ok.c (tq c).ok.t
theorem oz {x:ByteArray}:gB c x=true↔∃p y,y∈dir c (p,kids c p)∧kB c y x:=by
 unfold gB
 rw [(tq c).iff]
 constructor
 ·rintro ⟨⟨p, l⟩, he, y, hy, hd⟩
  have:=(vj.1 he).1
  simp only at this;subst this
  exact ⟨p,y,hy,hd⟩
 ·rintro ⟨p, y, hy, hd⟩
  refine ⟨(p,kids c p),vj.2 ⟨rfl,fun h=>?_⟩,y,hy,hd⟩
  have:=oV hy
  simp only at this h
  rw [h] at this;cases this
theorem TD {x z:ByteArray} (h:gB c x=true) (hz:z∈kids c x):gB c z=true:=(tq c).ZK x h z hz
theorem Y8 {m1:List (Mg×Bool)} {m6:Aa} {nw:Int} {ny:Bool} {l PU:List ByteArray} {o:ByteArray} {m:Mg} {S:fq} (hc:c.length<1000000) (hl:l.length≤c.length) (Qw:∀k∈l,k∈ids c) (hb:PU.getD 0 (bs [])=o) (qu:0<PU.length) (hS:ox S) :
  iter (fun x=>ak (gH66_2b_3 x)) (0,1,nw,ny,l,((l.length:Nat):Int),(0:Int),PU,bG c,m.1,m.2.1,m.2.2.1,m.2.2.2.1,m.2.2.2.2,m6,bZ c,S,m1,()) =
   some (nw,ny,bG c,m.1,m.2.1,m.2.2.1,m.2.2.2.1,m.2.2.2.2,m6,bZ c,(l.filter fun k => !decide (k=o)).foldl (fun S k=>cG c (c.length+1) k S) S,m1,()):=by
 refine bf l (fun k (S : fq) => (0, 1, nw, ny, l, ((l.length : Nat) : Int), (k : Int), PU, bG c, m.1, m.2.1, m.2.2.1, m.2.2.2.1, m.2.2.2.2, m6, bZ c, S, m1, ()))
  (fun S r=>(nw,ny,bG c,m.1,m.2.1,m.2.2.1,m.2.2.2.1,m.2.2.2.2,m6,bZ c,(r.filter fun k => !decide (k=o)).foldl (fun S k=>cG c (c.length+1) k S) S,m1,())) (fun _ S=>ox S) ?_ ?_ (s:=S) hS
 ·intro pre x post S hx hS
  have hlen:l.length=pre.length+(post.length+1):=by rw [hx];simp
  have hd:l.getD pre.length (bs [])=x:=by rw [hx];exact bx rfl
  have i1:fu (pre.length:Int) ((l.length:Nat):Int)=true:=bQ (by omega) (by omega)
  have i2:fu (0:Int) ((1:Nat):Int)=true:=bQ (by omega) (by omega)
  have r1:gm .i64 ((pre.length:Int)+1)=true:=aJ (by omega) (by omega)
  have d1:decide (0<PU.length)=true:=decide_eq_true qu
  left
  by_cases K2:x=o
  ·refine ⟨S, ?_, hS, by rw [List.filter_cons_of_neg (by simp [K2])]⟩
   simp only [gH66_2b_3,az,bC,aW,aZ,af,aD,Int.toNat_natCast,Int.toNat_zero,Nat.zero_add,Nat.add_zero,hd,hb,i1,i2,r1,d1,ax,bw,seq_eq,K2]
   rw [if_pos (by omega),FB (by simp)]
   rfl
  ·refine ⟨cG c (c.length + 1) x S, ?_, (iE hS).1, by rw [List.filter_cons_of_pos (by simp [K2])]; rfl⟩
   simp only [gH66_2b_3,az,bC,aW,aZ,af,aD,Int.toNat_natCast,Int.toNat_zero,Nat.zero_add,Nat.add_zero,hd,hb,i1,i2,r1,d1,ax,bw,seq_eq]
   rw [if_pos (by omega),M6 (by simp [K2])]
   rw [av (kH96 hc hS (Qw x (by rw [hx];simp)))]
   rfl
 ·intro S _
  simp only [gH66_2b_3,az,af,bw]
  rw [if_neg (by omega)]
  rfl
theorem adW {m1:List (Mg×Bool)} {e:ByteArray×List ByteArray} {S:fq} (hc:c.length<1000000) (he:e∈bG c) (hS:ox S):ak (gH66_2 e (bG c,m1,bJ c,bZ c,S,()))=some (bG c,m1,bJ c,bZ c,oy c S e,()):=by
 have PG:=(vj.1 he).1
 have hl:e.2.length≤c.length:=by rw [PG];exact ow c e.1
 simp only [gH66_2,az,aW,af,aD,bN,dm,ax,dw]
 unfold oy dir TC
 cases hh:aK .str (bJ c) e.1 with
 |false=>rw [cD];simp
 |true =>
  rw [eG]
  by_cases h3:(aq .str zM (bJ c) e.1).2.1=3
  ·rw [cu, if_pos h3, if_neg (by simp [h3])]
   rfl
  ·rw [cu, if_neg h3, if_pos (by simp [h3])]
   rw [av (kH98 (by omega))]
   obtain ⟨b,iL,ez,Ca⟩:=kH97 (m3:=bJ c) (m4:=bG c) (m5:=bZ c) (m6:=S) (l:=e.2) (by omega)
   rw [av Ca]
   have hf:(e.2.filter fun v => !(!aq .str false (bZ c) v))=e.2.filter (kK c):=List.filter_congr fun v _=>by rw [TA];simp
   rw [hf] at ez ⊢
   simp only [dm,ax,cu]
   by_cases h1:(e.2.filter (kK c)).length=1
   ·rw [if_pos (by omega)]
    obtain ⟨o,ho⟩:=List.length_eq_one_iff.1 h1
    rw [ho] at ez h1 ⊢
    simp only [List.length_singleton] at ez ⊢
    have qu:0<b.length:=by
     cases b with
     |nil=>simp at ez
     |cons _ _=>simp
    have hbo:b.getD 0 (bs [])=o:=by
     cases b with
     |nil=>simp at ez
     |cons x r=>simp at ez;simp [ez]
    rw [av (Y8 (m:=aq .str zM (bJ c) e.1) (o:=o) hc hl (IW e he) hbo qu hS)]
    simp only [dm,ax]
   ·rw [if_neg (by omega)]
    have:(match e.2.filter (kK c) with|[o]=>e.2.filter (fun k => !decide (k=o))|_=>[])=([]:List ByteArray):=by
     split
     ·rename_i o ho;rw [ho] at h1;simp at h1
     ·rfl
    rw [this]
    rfl
theorem Pb {L:List Mg} (h:kG L):ak (FH66 (bk L))=some (bk L,bJ (cnt L),bG (cnt L),bZ (cnt L),cN (cnt L),()):=by
 have hl:=h.len
 have ye:(cnt L).length≤60:=by
  have:(cnt L).length≤L.length:=by
   have hn:(cnt L).Nodup:=List.Pairwise.imp (fun {a b} h e=>by subst e;rw [show slt a.1 a.1=false from eV (t:=.str) kS a.1] at h;cases h) (dS L)
   exact List.Nodup.length_le_of_subset hn fun m hm=>mQ hm
  omega
 have hby:pP L=bJ (cnt L):=Ek L
 unfold FH66
 simp only [aD,bN,aW]
 rw [av (kH47 h.s (by omega))]
 simp only
 rw [av (adT (by omega))]
 simp only [FH95,af,aF]
 rw [hby,av (Tz (dS L) (by omega))]
 simp only [List.isEmpty_nil,ax]
 rw [av (adU (dS L) (by omega))]
 simp only
 have hmq:run (fun _=>none) (.mq gH66_2 (bG (cnt L)) (bG (cnt L),bk L,bJ (cnt L),bZ (cnt L),[],()))=some (bG (cnt L),bk L,bJ (cnt L),bZ (cnt L),cN (cnt L),()):=by
  refine Eq.trans FD (gr fun l hp=>?_)
  have := (Ei (step := fun e a => run (fun _ => none) (gH66_2 e a)) (fun (a : EL × List (Mg × Bool) × Aa × fq × fq × Unit) e => (bG (cnt L), bk L, bJ (cnt L), bZ (cnt L), oy (cnt L) a.2.2.2.2.1 e, ())) (fun a => ∃ S, a = (bG (cnt L), bk L, bJ (cnt L), bZ (cnt L), S, ()) ∧ ox S) l (bG (cnt L), bk L, bJ (cnt L), bZ (cnt L), [], ()) ⟨[], rfl, .nil⟩ (by
   rintro e he _ ⟨S,rfl,hS⟩
   refine ⟨adW (by omega) (hp.mem_iff.1 he) hS,_,rfl,?_⟩
   exact (rX hS).1)).1
  rw [this]
  have key:∀(l:List (ByteArray×List ByteArray)) (S:fq),l.foldl (fun (a:EL×List (Mg×Bool)×Aa×fq×fq×Unit) e=>(bG (cnt L),bk L,bJ (cnt L),bZ (cnt L),oy (cnt L) a.2.2.2.2.1 e,())) (bG (cnt L),bk L,bJ (cnt L),bZ (cnt L),S,())=(bG (cnt L),bk L,bJ (cnt L),bZ (cnt L),l.foldl (oy (cnt L)) S,()):=by
   intro l
   induction l with
   |nil=>intro S;rfl
   |cons e l ih=>intro S;exact ih _
  rw [key,Y7 hp]
 rw [av hmq]
end
end Go.Proofs.Tryz
end
section
namespace Go.Proofs.Tryz
open Go.AM
set_option maxRecDepth 100000
theorem TE {A B : Type} {F : (A → Option B) → A → Option B} (R : Nat → A → B → Prop)
  (h:∀rec n x y,R n x y→(∀n' x' y',n'<n→R n' x' y'→rec x'=some y')→F rec x=some y):∀n x y,R n x y→wV F x=some y:=by
 have key:∀k n x y,R n x y→n<k→K4 F k x=some y:=by
  intro k
  induction k with
  |zero=>intro n x y _ hm;omega
  |succ k ih=>intro n x y hx hm;exact h _ n x y hx fun n' x' y' hn' hx'=>ih n' x' y' hx' (by omega)
 intro n x y hx
 exact HO (N:=n+1) fun k hk=>key k n x y hx (by omega)
section
variable {c:List Mg}
theorem fK {x y:ByteArray}:y∈kids c x↔∃m∈c,m.1=y∧m.2.1=2∧m.2.2.1=x:=by
 unfold kids
 rw [List.mem_map]
 constructor
 ·rintro ⟨m, hm, rfl⟩
  obtain ⟨h1,h2⟩:=List.mem_filter.1 hm
  simp only [decide_eq_true_eq] at h2
  exact ⟨m,h1,rfl,h2⟩
 ·rintro ⟨m, hm, rfl, h⟩
  exact ⟨m,List.mem_filter.2 ⟨hm,by simpa using h⟩,rfl⟩
theorem IX (hs:SI c) {x x' y:ByteArray} (h:y∈kids c x) (h':y∈kids c x'):x=x':=by
 obtain ⟨m,h1,h2,_,h3⟩:=fK.1 h
 obtain ⟨m',h1',h2',_,h3'⟩:=fK.1 h'
 have:=hs.inj h1 h1' (h2.trans h2'.symm)
 subst this
 exact h3.symm.trans h3'
inductive jg (c : List Mg) (x : ByteArray) : Nat → ByteArray → Prop
 |zero:jg c x 0 x
 |step {n y z} (h:jg c x n y) (hz:z∈kids c y):jg c x (n+1) z
theorem jg.add {n m:Nat} {x y z:ByteArray} (h:jg c x n y) (h':jg c y m z):jg c x (n+m) z:=by
 induction h' with
 |zero=>exact h
 |step _ hz ih=>exact .step ih hz
theorem jg.up (hs:SI c) {n:Nat} {x y:ByteArray} (h:jg c x n y):∀{m:Nat} {x':ByteArray},jg c x' m y→n≤m→jg c x' (m - n) x:=by
 induction h with
 |zero=>intro m x' h' _;exact h'
 |step h hz ih =>
  intro m x' h' hle
  cases h' with
  |zero=>omega
  |step h2 pT =>
   have e:=IX hs hz pT
   subst e
   have:=ih h2 (by omega)
   rwa [Nat.add_sub_add_right]
theorem jg.desc {n:Nat} {x y:ByteArray} (h:jg c x n y):kB c x y:=by
 induction h with
 |zero=>exact .refl _
 |step _ hz ih=>exact .step ih hz
theorem kB.IY {x y:ByteArray} (h:kB c x y):∃n,jg c x n y:=by
 induction h with
 |refl=>exact ⟨0,.zero⟩
 |step _ hz ih=>obtain ⟨n,h⟩:=ih;exact ⟨n+1,.step h hz⟩
def TF (c:List Mg) (t:ByteArray):Prop:=∀x,t∉kids c x
theorem jg.deep (hs:SI c) {t:ByteArray} (ht:TF c t) {n m:Nat} {y:ByteArray} (h:jg c t n y) (h':jg c t m y):n=m:=by
 have key:∀{n m:Nat},jg c t n y→jg c t m y→n≤m→n=m:=fun {n m} h h' hle=>by
  have:=h.up hs h' hle
  generalize hk:m - n=k at this
  cases this with
  |zero=>omega
  |step _ hz=>exact absurd hz (ht _)
 rcases Nat.le_total n m with hle|hle
 ·exact key h h' hle
 ·exact (key h' h hle).symm
theorem jg.short (hs:SI c) {t:ByteArray} (ht:TF c t) (Cc:t∈ids c) {n:Nat} {y:ByteArray} (h:jg c t n y):n<c.length:=by
 have key:∃l:List ByteArray,l.length=n+1∧l.Nodup∧∀a∈l,a∈ids c∧∃i,i≤n∧jg c t i a:=by
  induction h with
  |zero=>exact ⟨[t],rfl,by simp,fun a ha=>by rw [List.mem_singleton] at ha;subst ha;exact ⟨Cc,0,Nat.le_refl _,.zero⟩⟩
  |step h hz ih =>
   rename_i n' y' z
   obtain ⟨l,h1,h2,h3⟩:=ih
   have hp:jg c t (n'+1) z:=.step h hz
   refine ⟨z::l,by simp [h1],List.nodup_cons.2 ⟨fun hzl=>?_,h2⟩,fun a ha=>?_⟩
   ·obtain ⟨_, i, hi, hpi⟩ := h3 z hzl
    have:=hpi.deep hs ht hp
    omega
   ·rcases List.mem_cons.1 ha with rfl | ha
    ·exact ⟨iV hz,n'+1,Nat.le_refl _,hp⟩
    ·obtain ⟨q1, i, hi, hpi⟩ := h3 a ha
     exact ⟨q1,i,by omega,hpi⟩
 obtain ⟨l,h1,h2,h3⟩:=key
 have:=List.Nodup.length_le_of_subset h2 (fun a ha=>(h3 a ha).1)
 have hl:(ids c).length=c.length:=by simp [ids]
 omega
def gx (c:List Mg) (x:ByteArray):List ByteArray:=(kids c x).filter fun k => !gB c k
theorem vk {x y:ByteArray} (h:y∈gx c x):y∈kids c x:=(List.mem_filter.1 h).1
theorem TG (x:ByteArray):(gx c x).length≤c.length:=Nat.le_trans (List.length_filter_le ..) (ow c x)
def bW (c : List Mg) : Nat → ByteArray → List ByteArray
 |0,_=>[]
 |n+1,x=>match gx c x with
  |[]=>[x]
  |k::l=>nY .str ((k::l).flatMap (bW c n))
def gR (c:List Mg) (t:ByteArray):List ByteArray:=bW c (c.length+1) t
theorem TH (hs:SI c) (x:ByteArray):(kids c x).Nodup:=by
 unfold kids List.Nodup
 rw [List.pairwise_map]
 refine List.Pairwise.imp (fun {a b} h e=>?_) (List.Pairwise.filter _ hs)
 rw [e,show slt b.1 b.1=false from eV (t:=.str) kS b.1] at h;cases h
theorem l6 : ∀ {n : Nat} {x y : ByteArray}, y ∈ bW c n x → kB c x y
 |0,_,_,h=>by cases h
 |n+1,x,y,h=>by
  unfold bW at h
  split at h
  ·rw [List.mem_singleton] at h;subst h;exact .refl _
  ·rename_i k l hl
   rw [(dR (t:=.str) _).mem_iff,List.mem_flatMap] at h
   obtain ⟨a,ha,h⟩:=h
   exact .cons (vk (by rw [hl];exact ha)) (l6 h)
theorem BV (hs : SI c) {t : ByteArray} (ht : TF c t) : ∀ {n d : Nat} {x : ByteArray}, jg c t d x → (bW c n x).Nodup
 |0,_,_,_=>.nil
 |n+1,d,x,hp=>by
  unfold bW
  split
  ·simp
  ·rename_i k l hl
   refine (dR (t:=.str) _).nodup_iff.2 ?_
   have hn:(k::l).Nodup:=by rw [←hl];exact List.Pairwise.filter _ (TH hs x)
   have hk:∀a∈k::l,a∈kids c x:=fun a ha=>vk (by rw [hl];exact ha)
   refine List.pairwise_flatMap.2 ⟨fun a ha=>BV hs ht (hp.step (hk a ha)),List.Pairwise.imp_of_mem (fun {a b} ha hb hab=>?_) hn⟩
   intro y hya y' hyb e
   subst e
   obtain ⟨i,hi⟩:=(l6 hya).IY
   obtain ⟨j,hj⟩:=(l6 hyb).IY
   have h1:=(hp.step (hk a ha)).add hi
   have h2:=(hp.step (hk b hb)).add hj
   have:=h1.deep hs ht h2
   have he:i=j:=by omega
   subst he
   have:=hi.up hs hj (Nat.le_refl _)
   rw [Nat.sub_self] at this
   cases this
   exact hab rfl
theorem l7 (hs:SI c) {t:ByteArray} (ht:TF c t) (Cc:t∈ids c) {n d:Nat} {x:ByteArray} (hp:jg c t d x):(bW c n x).length≤c.length:=by
 have h:=List.Nodup.length_le_of_subset (BV hs ht (n:=n) hp) (l₂:=ids c) fun y hy=>by
  have hd:kB c t y:=hp.desc.trans (l6 hy)
  cases hd with
  |refl=>exact Cc
  |step _ hz=>exact iV hz
 have hl:(ids c).length=c.length:=by simp [ids]
 omega
end
end Go.Proofs.Tryz
end
section
namespace Go.Proofs.Tryz
open Go.AM
set_option maxRecDepth 100000
section
variable {c:List Mg}
theorem adX (hc:c.length<1000000) (x:ByteArray):∃b,b.take (gx c x).length=gx c x∧(gx c x).length≤b.length∧ak (FH104 x (bJ c) (bG c) (bZ c) (cN c))=some (0,(gx c x).length,b,bJ c,bG c,bZ c,cN c,()):=by
 have hk:=ow c x
 obtain ⟨b,h1,h2,h3⟩:=Tx (m3:=bJ c) (m4:=bG c) (m5:=bZ c) (m6:=cN c) (l:=kids c x) (by omega)
 have hf:(kids c x).filter (fun v => !(aq .str false (cN c) v))=gx c x:=List.filter_congr fun v _=>by rw [BU]
 rw [hf] at h2 h3
 refine ⟨b,h2,by rw [h1];exact List.length_filter_le ..,?_⟩
 unfold FH104
 simp only [aD,vh]
 rw [av (kH98 (by omega))]
 simp only
 rw [av h3]
 rfl
abbrev ZT:=Nat×List ByteArray×Aa×EL×fq×fq×Unit
theorem Pc (hs:SI c) (hc:c.length<1000000) {t:ByteArray} (ht:TF c t) (Cc:t∈ids c):ak (FH76fix t (bJ c) (bG c) (bZ c) (cN c))=some ((gR c t).length,gR c t,bJ c,bG c,bZ c,cN c,()):=by
 have h0:ak (FH76fix t (bJ c) (bG c) (bZ c) (cN c))=wV (A:=kj.T) (B:=kn.T) (fun r y=>run r (FH76 y.1 y.2.1 y.2.2.1 y.2.2.2.1 y.2.2.2.2.1)) (t,bJ c,bG c,bZ c,cN c,()):=rfl
 refine h0.trans ?_
 refine TE (A:=kj.T) (B:=kn.T) (fun n a b=>∃z d,a=(z,bJ c,bG c,bZ c,cN c,())∧jg c t d z∧d+n=c.length∧b=((bW c (n+1) z).length,bW c (n+1) z,bJ c,bG c,bZ c,cN c,())) ?_ c.length _ _ ⟨t,0,rfl,.zero,by omega,rfl⟩
 rintro rec n _ _ ⟨z,d,rfl,hp,hn,rfl⟩ ih
 have hshort:=hp.short hs ht Cc
 obtain ⟨b,iL,ez,Ca⟩:=adX hc z
 have yd:=TG (c:=c) z
 have hvl:=l7 hs ht Cc (n:=n+1) hp
 have e : (run rec (FH76 z (bJ c) (bG c) (bZ c) (cN c)) : Option ZT) = cL (ak (FH104 z (bJ c) (bG c) (bZ c) (cN c))) fun y0 => tW (((y0.2.1 : Nat) : Int) == 0) (some (1, [z], y0.2.2.2.1, y0.2.2.2.2.1, y0.2.2.2.2.2.1, y0.2.2.2.2.2.2.1, ()))
   (cL (iter (fun a=>run rec (gH76_0 a)) (0,y0.1,y0.2.1,((y0.2.1:Nat):Int),(0:Int),[],y0.2.2.1,y0.2.2.2.1,y0.2.2.2.2.1,y0.2.2.2.2.2.1,y0.2.2.2.2.2.2.1,())) fun z2=>cL (ak (FH105 z2.1 z2.2.1)) fun y3=>some (z2.1,y3.1,z2.2.2.1,z2.2.2.2.1,z2.2.2.2.2.1,z2.2.2.2.2.2.1,())):=rfl
 refine Eq.trans (α:=Option ZT) e ?_
 rw [av Ca]
 simp only [cu]
 cases hl:gx c z with
 |nil =>
  have hv:bW c (n+1) z=[z]:=by unfold bW;rw [hl]
  rw [hv];rfl
 |cons k0 l0 =>
  have hlen:(gx c z).length=l0.length+1:=by rw [hl];rfl
  rw [←hl,if_neg (by omega)]
  have hv:bW c (n+1) z=nY .str ((gx c z).flatMap (bW c n)):=by
   conv=>lhs;unfold bW
   rw [hl]
  have hfl:((gx c z).flatMap (bW c n)).length≤c.length:=by
   have:=(dR (t:=.str) ((gx c z).flatMap (bW c n))).length_eq
   rw [←hv] at this
   omega
  have hit : iter (fun a => run rec (gH76_0 a)) (0, 0, (gx c z).length, (((gx c z).length : Nat) : Int), (0 : Int), [], b, bJ c, bG c, bZ c, cN c, ()) = some (((gx c z).flatMap (bW c n)).length, (gx c z).flatMap (bW c n), bJ c, bG c, bZ c, cN c, ()) := (bf (gx c z) (fun k (o : List ByteArray) => (o.length, 0, (gx c z).length, (((gx c z).length : Nat) : Int), (k : Int), o, b, bJ c, bG c, bZ c, cN c, ())) (fun o r => ((o ++ r.flatMap (bW c n)).length, o ++ r.flatMap (bW c n), bJ c, bG c, bZ c, cN c, ()))
   (fun pre o => o = pre.flatMap (bW c n)) (by
    rintro pre k post _ hx rfl
    have hlen:(gx c z).length=pre.length+(post.length+1):=by rw [hx];simp
    have hd:b.getD pre.length (bs [])=k:=by
     have:(b.take (gx c z).length).getD pre.length (bs [])=k:=by rw [iL,hx];exact bx rfl
     rw [getD_take (by omega)] at this;exact this
    have hkk:k∈kids c z:=vk (by rw [hx];simp)
    have i1:fu (pre.length:Int) (((gx c z).length:Nat):Int)=true:=bQ (by omega) (by omega)
    have r1:gm .i64 ((pre.length:Int)+1)=true:=aJ (by omega) (by omega)
    have d1:decide (pre.length<b.length)=true:=decide_eq_true (by omega)
    have hp':=hp.step hkk
    have hsh:=hp'.short hs ht Cc
    left
    refine ⟨pre.flatMap (bW c n)++bW c n k,?_,by simp,by simp [List.flatMap_cons]⟩
    have e2 : (run rec (gH76_0 ((pre.flatMap (bW c n)).length, 0, (gx c z).length, (((gx c z).length : Nat) : Int), (pre.length : Int), pre.flatMap (bW c n), b, bJ c, bG c, bZ c, cN c, ()))) = tW (decide ((pre.length : Int) < (((gx c z).length : Nat) : Int))) (need (fu (pre.length : Int) (((gx c z).length : Nat) : Int)) (need (decide (0 + Int.toNat (pre.length : Int) < b.length))
      (cL (rec (b.getD (0 + Int.toNat (pre.length : Int)) (bs []), bJ c, bG c, bZ c, cN c, ()) : Option ZT) fun y1 => need (decide ((pre.flatMap (bW c n)).length + ((y1.2.1.drop 0).take y1.1).length < cn)) (need (gm .i64 ((pre.length : Int) + 1))
       (some (.inl ((pre.flatMap (bW c n)).length+((y1.2.1.drop 0).take y1.1).length,0,(gx c z).length,(((gx c z).length:Nat):Int),(pre.length:Int)+1,(((pre.flatMap (bW c n)).drop 0).take (pre.flatMap (bW c n)).length)++((y1.2.1.drop 0).take y1.1),b,y1.2.2.1,y1.2.2.2.1,y1.2.2.2.2.1,y1.2.2.2.2.2.1,())))))))
      (some (.inr ((pre.flatMap (bW c n)).length,pre.flatMap (bW c n),bJ c,bG c,bZ c,cN c,()))):=rfl
    rw [e2,Int.toNat_natCast,Nat.zero_add,hd,i1,ax,d1,ax,bw,if_pos (by omega)]
    obtain ⟨n',rfl⟩:∃n',n=n'+1:=⟨n - 1,by omega⟩
    have hq:(rec (k,bJ c,bG c,bZ c,cN c,()):Option ZT)=some ((bW c (n'+1) k).length,bW c (n'+1) k,bJ c,bG c,bZ c,cN c,()):=ih n' (k,bJ c,bG c,bZ c,cN c,()) _ (by omega) ⟨k,d+1,rfl,hp',by omega,rfl⟩
    refine bind_eq (A:=ZT) hq ?_
    simp only [List.drop_zero,List.take_length,r1,ax]
    have hle:(pre.flatMap (bW c (n'+1))).length+(bW c (n'+1) k).length≤c.length:=by
     have:((gx c z).flatMap (bW c (n'+1))).length=(pre.flatMap (bW c (n'+1))).length+((bW c (n'+1) k).length+(post.flatMap (bW c (n'+1))).length):=by rw [hx];simp
     omega
    rw [bR (show _<cn by rw [jD];omega)]
    simp only [List.length_append]
    rfl) (by
    rintro o _
    have e2 : (run rec (gH76_0 (o.length, 0, (gx c z).length, (((gx c z).length : Nat) : Int), (((gx c z).length : Nat) : Int), o, b, bJ c, bG c, bZ c, cN c, ()))) = tW (decide ((((gx c z).length : Nat) : Int) < (((gx c z).length : Nat) : Int))) (need (fu (((gx c z).length : Nat) : Int) (((gx c z).length : Nat) : Int)) (need (decide (0 + Int.toNat (((gx c z).length : Nat) : Int) < b.length))
      (cL (rec (b.getD (0 + Int.toNat (((gx c z).length : Nat) : Int)) (bs []), bJ c, bG c, bZ c, cN c, ()) : Option ZT) fun y1 => need (decide (o.length + ((y1.2.1.drop 0).take y1.1).length < cn)) (need (gm .i64 ((((gx c z).length : Nat) : Int) + 1))
       (some (.inl (o.length+((y1.2.1.drop 0).take y1.1).length,0,(gx c z).length,(((gx c z).length:Nat):Int),(((gx c z).length:Nat):Int)+1,((o.drop 0).take o.length)++((y1.2.1.drop 0).take y1.1),b,y1.2.2.1,y1.2.2.2.1,y1.2.2.2.2.1,y1.2.2.2.2.2.1,())))))))
      (some (.inr (o.length,o,bJ c,bG c,bZ c,cN c,()))):=rfl
    rw [e2,bw,if_neg (by omega)]
    simp) (s:=[]) rfl)
  refine bind_eq (A:=Nat×List ByteArray×Aa×EL×fq×fq×Unit) hit ?_
  simp only [FH105,wX]
  have hsrt:ux .str ((gx c z).flatMap (bW c n)) ((gx c z).flatMap (bW c n)).length=some (nY .str ((gx c z).flatMap (bW c n)),()):=ov kS (dR _) (oS kS _) (by omega)
  refine bind_eq hsrt ?_
  rw [hv]
  have hpl:=(dR (t:=.str) ((gx c z).flatMap (bW c n))).length_eq
  rw [hpl]
  rfl
end
end Go.Proofs.Tryz
end
section
namespace Go.Proofs.Tryz
open Go.AM
set_option maxRecDepth 100000
def msg (c:List Mg) (x:ByteArray):Mg:=aq .str zM (bJ c) x
def lG (c:List Mg) (x:ByteArray):Bool:=aK .str (bJ c) x
section
variable {c:List Mg}
theorem bF {x:ByteArray}:lG c x=true↔x∈ids c:=by
 unfold lG ids
 rw [c8 kS]
 constructor
 ·rintro ⟨v, hv⟩
  obtain ⟨m,hm,h⟩:=List.mem_map.1 hv
  exact List.mem_map.2 ⟨m,hm,congrArg Prod.fst h⟩
 ·intro h
  obtain ⟨m,hm,rfl⟩:=List.mem_map.1 h
  exact ⟨m,List.mem_map.2 ⟨m,hm,rfl⟩⟩
theorem gO (hs:SI c) {m:Mg} (hm:m∈c):msg c m.1=m:=fJ kS hs.ZS (List.mem_map.2 ⟨m,hm,rfl⟩)
theorem k7 (hs:SI c) {x:ByteArray} (h:lG c x=true):msg c x∈c∧(msg c x).1=x:=by
 obtain ⟨m,hm,rfl⟩:=List.mem_map.1 (bF.1 h)
 rw [gO hs hm];exact ⟨hm,rfl⟩
theorem kC (hs:SI c) {x:ByteArray} (h:lG c x=true) (hk:(msg c x).2.1=1):TF c x:=by
 intro y hy
 obtain ⟨m,hm,h1,h2,_⟩:=fK.1 hy
 subst h1
 rw [gO hs hm] at hk
 omega
def yK (c : List Mg) : Nat → ByteArray → Option ByteArray
 |0,_=>none
 |n+1,x=>if lG c x=true then (if (msg c x).2.1=3 then none else if gB c x=true then none else if (msg c x).2.1=1 then some x else yK c n (msg c x).2.2.1) else none
theorem Em (hs : SI c) : ∀ {n : Nat} {x t : ByteArray}, yK c n x = some t → lG c t = true ∧ (msg c t).2.1 = 1 ∧ gB c t = false
 |0,_,_,h=>by cases h
 |n+1,x,t,h=>by
  unfold yK at h
  split at h<;>try (cases h;done)
  rename_i h1
  split at h<;>try (cases h;done)
  split at h<;>try (cases h;done)
  rename_i h3
  split at h
  ·rename_i h4;cases h;exact ⟨h1,h4,by simpa using h3⟩
  ·exact Em hs h
abbrev rY (c:List Mg) (x:ByteArray):Option ByteArray:=yK c c.length x
theorem kH74 (hs:SI c) (hc:c.length<1000000) (x:ByteArray):ak (FH74 x (bJ c) (bG c) (bZ c) (cN c)) =
  some (match rY c x with|some t=>((gR c t).length,true,gR c t,bJ c,bG c,bZ c,cN c,())|none=>(0,false,[],bJ c,bG c,bZ c,cN c,())):=by
 have key:∀(l:List (ByteArray×Mg)) (x:ByteArray),∃x',yz (fun e a=>run (fun _=>none) (gH74_0 e a)) l (x,bJ c,bG c,bZ c,cN c,()) =
   some (match yK c l.length x with|some t=>.inr ((gR c t).length,true,gR c t,bJ c,bG c,bZ c,cN c,())|none=>x') ∧
   (yK c l.length x=none→x' = .inr (0,false,[],bJ c,bG c,bZ c,cN c,())∨∃y,x' = .inl (y,bJ c,bG c,bZ c,cN c,())):=by
  intro l
  induction l with
  |nil=>intro x;exact ⟨.inl (x,bJ c,bG c,bZ c,cN c,()),rfl,fun _=>.inr ⟨x,rfl⟩⟩
  |cons e l ih =>
   intro x
   have hg:run (fun _=>none) (gH74_0 e (x,bJ c,bG c,bZ c,cN c,()))=if lG c x=true then (if (msg c x).2.1=3 then some (.inr (0,false,[],bJ c,bG c,bZ c,cN c,())) else if gB c x=true then some (.inr (0,false,[],bJ c,bG c,bZ c,cN c,())) else if (msg c x).2.1=1 then some (.inr ((gR c x).length,true,gR c x,bJ c,bG c,bZ c,cN c,())) else some (.inl ((msg c x).2.2.1,bJ c,bG c,bZ c,cN c,()))) else some (.inr (0,false,[],bJ c,bG c,bZ c,cN c,())):=by
    simp only [gH74_0,az,aD,aW,af,dm,ax,dw,cu,BU]
    rw [show aK .str (bJ c) x=lG c x from rfl,show aq .str zM (bJ c) x=msg c x from rfl,mU]
    split
    ·rename_i h1
     split
     ·rfl
     ·rw [mU]
      split
      ·rfl
      ·split
       ·rename_i h4
        rw [av (Pc hs hc (kC hs h1 h4) (bF.1 h1))]
       ·rfl
    ·rfl
   simp only [yz,hg,List.length_cons,yK]
   by_cases h1:lG c x=true
   ·rw [if_pos h1, if_pos h1]
    by_cases h2:(msg c x).2.1=3
    ·rw [if_pos h2,if_pos h2];exact ⟨_,rfl,fun _=>.inl rfl⟩
    ·rw [if_neg h2, if_neg h2]
     by_cases h3:gB c x=true
     ·rw [if_pos h3,if_pos h3];exact ⟨_,rfl,fun _=>.inl rfl⟩
     ·rw [if_neg h3, if_neg h3]
      by_cases h4:(msg c x).2.1=1
      ·rw [if_pos h4,if_pos h4];exact ⟨.inr (0,false,[],bJ c,bG c,bZ c,cN c,()),rfl,fun h=>by cases h⟩
      ·rw [if_neg h4,if_neg h4];exact ih _
   ·rw [if_neg h1,if_neg h1];exact ⟨_,rfl,fun _=>.inl rfl⟩
 unfold FH74
 simp only [aD]
 have hmp:∃x',run (fun _=>none) (.mp gH74_0 (bJ c) (x,bJ c,bG c,bZ c,cN c,()))=some (match rY c x with|some t=>.inr ((gR c t).length,true,gR c t,bJ c,bG c,bZ c,cN c,())|none=>x') ∧
   (rY c x=none→x' = .inr (0,false,[],bJ c,bG c,bZ c,cN c,())∨∃y,x' = .inl (y,bJ c,bG c,bZ c,cN c,())):=by
  obtain ⟨x',h1,h2⟩:=key (bJ c) x
  have hlen:(bJ c).length=c.length:=List.length_map ..
  rw [hlen] at h1 h2
  refine ⟨x',Eq.trans W4 (gr fun l hp=>?_),h2⟩
  have yd:l.length=(bJ c).length:=hp.length_eq
  have hany:∀(l l':List (ByteArray×Mg)) (a:ByteArray×Aa×EL×fq×fq×Unit),l.length=l'.length→yz (fun e a=>run (fun _=>none) (gH74_0 e a)) l a=yz (fun e a=>run (fun _=>none) (gH74_0 e a)) l' a:=by
   intro l
   induction l with
   |nil =>
    intro l' a h
    cases l' with
    |nil=>rfl
    |cons _ _=>simp at h
   |cons e l ih =>
    intro l' a h
    cases l' with
    |nil=>simp at h
    |cons e' l' =>
     have hs:run (fun _=>none) (gH74_0 e a)=run (fun _=>none) (gH74_0 e' a):=rfl
     simp only [yz,hs]
     split
     ·rfl
     ·exact ih l' _ (by simpa using h)
     ·rfl
  rw [hany l (bJ c) _ yd]
  exact h1
 obtain ⟨x',h1,h2⟩:=hmp
 rw [av h1]
 cases hst:rY c x with
 |some t=>simp only [lD,af]
 |none =>
  rcases h2 hst with rfl|⟨y,rfl⟩
  ·simp only [lD,af]
  ·simp only [sV,af]
def GA (x:ByteArray) (l:List ByteArray):Bool:=l.any fun y=>decide (y=x)
theorem rZ {x:ByteArray} {l:List ByteArray}:GA x l=true↔x∈l:=by
 unfold GA;rw [List.any_eq_true]
 constructor
 ·rintro ⟨y,hy,h⟩;have:=of_decide_eq_true h;subst this;exact hy
 ·intro h;exact ⟨x,h,decide_eq_true rfl⟩
theorem k75 {l:List ByteArray} (hl:l.length<1000000000) (x:ByteArray):ak (F75 l x)=some (GA x l,()):=by
 have hi:iter (fun a=>run (fun _=>none) (g103_0 a)) (l,x,((l.length:Nat):Int),(0:Int),())=some (match ef (fun y=>decide (y=x)) 0 l with|some k=>Sum.inl (((k:Nat):Int),())|none=>Sum.inr ()):=by
  refine bf l (fun k (_:Nat)=>(l,x,((l.length:Nat):Int),(k:Int),())) (fun k r=>match ef (fun y=>decide (y=x)) k r with|some k=>Sum.inl (((k:Nat):Int),())|none=>Sum.inr ()) (fun pre k=>k=pre.length) ?_ ?_ (s:=0) rfl
  ·rintro pre y post k hx rfl
   have hlen:l.length=pre.length+(post.length+1):=by rw [hx];simp
   have hd:l.getD pre.length (bs [])=y:=by rw [hx];exact bx rfl
   have i1:fu (pre.length:Int) ((l.length:Nat):Int)=true:=bQ (by omega) (by omega)
   have r1:gm .i64 ((pre.length:Int)+1)=true:=aJ (by omega) (by omega)
   simp only [g103_0,az,bC,aZ,af,Int.toNat_natCast,hd,i1,r1,ax,bw,seq_eq]
   rw [if_pos (by omega)]
   by_cases h:y=x
   ·right
    rw [if_pos h.symm]
    simp [ef,h]
   ·left
    refine ⟨pre.length+1,?_,by simp,?_⟩
    ·rw [if_neg (fun e=>h e.symm)];rfl
    ·simp [ef,h]
  ·rintro k _
   simp only [g103_0,az,bw,af]
   rw [if_neg (by omega)];rfl
 unfold F75 F103
 simp only [aD,bN]
 rcases k6 (fun y=>decide (y=x)) l 0 with ⟨p,y,q,h1,h2,h3,h4⟩|⟨h1,h2⟩
 ·rw [h4] at hi
  rw [av hi]
  have hy:y=x:=by simpa using h3
  simp only [sV,af,aF]
  congr 2
  rw [Bool.eq_iff_iff,decide_eq_true_eq,rZ]
  exact ⟨fun _=>by rw [h1,hy];simp,fun _=>by omega⟩
 ·rw [h2] at hi
  rw [av hi]
  simp only [lD,af,aF]
  congr 2
  rw [Bool.eq_iff_iff,decide_eq_true_eq,rZ]
  refine ⟨fun h=>by omega,fun h=>?_⟩
  have:=h1 x h
  simp at this
def ei (c:List Mg) (x:ByteArray):Int×Int :=
 if lG c x=true then (if (msg c x).2.1=3 then (0,18) else if gB c x=true then (2,0) else match rY c x with
  |none=>(1,0)
  |some t=>if GA x (gR c t)=true then (if 1<(gR c t).length then (5,0) else (4,0)) else (3,0)) else (0,5)
def jv (c:List Mg) (x:ByteArray):List ByteArray×Int:=if lG c x=true then (if (msg c x).2.1=1 then (gR c x,0) else ([],18)) else ([],5)
theorem k8 {L:List Mg} (h:kG L):(cnt L).length≤60:=by
 have hn:(cnt L).Nodup:=List.Pairwise.imp (fun {a b} h e=>by subst e;rw [show slt a.1 a.1=false from eV (t:=.str) kS a.1] at h;cases h) (dS L)
 have:=List.Nodup.length_le_of_subset hn (fun m hm=>mQ hm)
 have:=h.len
 omega
theorem Y9 {L:List Mg} (h:kG L) (x:ByteArray):ak (FH32 x (bk L))=some ((ei (cnt L) x).1,(ei (cnt L) x).2,bk L,()):=by
 have hs:=dS L
 have hc:=k8 h
 unfold FH32
 simp only [aD,Gw,aF,az,cD]
 rw [av (Pb h)]
 simp only [af,dw,cu,BU]
 rw [show aK .str (bJ (cnt L)) x=lG (cnt L) x from rfl,show aq .str zM (bJ (cnt L)) x=msg (cnt L) x from rfl,mU]
 unfold ei
 by_cases h1:lG (cnt L) x=true
 ·rw [if_pos h1, if_pos h1, if_pos trivial]
  by_cases h2:(msg (cnt L) x).2.1=3
  ·rw [if_pos h2,if_pos h2]
  ·rw [if_neg h2, if_neg h2, mU]
   by_cases h3:gB (cnt L) x=true
   ·rw [if_pos h3,if_pos h3]
   ·rw [if_neg h3, if_neg h3]
    rw [av (kH74 hs (by omega) x)]
    cases hst:rY (cnt L) x with
    |none=>simp
    |some t =>
     obtain ⟨ht1,ht2,_⟩:=Em hs hst
     have hvl:(gR (cnt L) t).length≤(cnt L).length:=l7 hs (kC hs ht1 ht2) (bF.1 ht1) .zero
     simp only [eG,List.drop_zero,List.take_length]
     rw [av (k75 (by omega) x)]
     rw [mU]
     simp only [bw]
     by_cases h4:GA x (gR (cnt L) t)=true
     ·rw [if_pos h4, if_pos h4]
      by_cases h5:1<(gR (cnt L) t).length
      ·rw [if_pos (by omega),if_pos h5]
      ·rw [if_neg (by omega),if_neg h5]
     ·rw [if_neg h4,if_neg h4]
 ·rw [if_neg h1,if_neg h1,if_neg (by omega)]
theorem Za {L:List Mg} (h:kG L) (x:ByteArray):ak (FH33 x (bk L))=some ((jv (cnt L) x).1.length,(jv (cnt L) x).2,(jv (cnt L) x).1,bk L,()):=by
 have hs:=dS L
 have hc:=k8 h
 unfold FH33
 simp only [aD,Gw,aF,az,cD]
 rw [av (Pb h)]
 simp only [af,dw,cu]
 rw [show aK .str (bJ (cnt L)) x=lG (cnt L) x from rfl,show aq .str zM (bJ (cnt L)) x=msg (cnt L) x from rfl,mU]
 unfold jv
 by_cases h1:lG (cnt L) x=true
 ·rw [if_pos h1, if_pos h1, if_pos trivial]
  by_cases h2:(msg (cnt L) x).2.1=1
  ·rw [if_pos h2,if_pos h2,av (Pc hs (by omega) (kC hs h1 h2) (bF.1 h1))]
  ·rw [if_neg h2,if_neg h2];rfl
 ·rw [if_neg h1,if_neg h1,if_neg (by omega)];rfl
theorem GB {L:List Mg} (h:kG L) (x:ByteArray) (n:Int):ak (FH40 x n (bk L))=some (decide (ei (cnt L) x=(n,0)),bk L,()):=by
 unfold FH40
 simp only [aD]
 rw [av (Y9 h x)]
 simp only [az,af,cu]
 by_cases h1:(ei (cnt L) x).2=0
 ·rw [if_pos h1]
  congr 2
  rw [Bool.eq_iff_iff,beq_iff_eq,decide_eq_true_eq]
  exact ⟨fun h=>Prod.ext h h1,fun h=>by rw [h]⟩
 ·rw [if_neg h1]
  congr 2
  exact (decide_eq_false fun h=>h1 (by rw [h])).symm
end
end Go.Proofs.Tryz
end
section
namespace Go.Proofs.Tryz
open Go.AM
set_option maxRecDepth 100000
abbrev Zs:=List (Int×Unit)
abbrev kI:bp (.int .i64)=some [.i]:=rfl
def kL (l:Zs) (n:Int) (nx:Zs):Zs:=l.foldl (fun nx e=>aQ (.int .i64) nx (e.1+n) ()) nx
def CZ (z:Zs):Prop:=gh (.int .i64) z
def vl (Z:Zs) (z:Int):Prop:=(z,())∈Z
theorem CZ.put {Z:Zs} (h:CZ Z) (z:Int):CZ (aQ (.int .i64) Z z ()):=gh.gU kI h
theorem IZ {Z:Zs} (h:CZ Z) {z y:Int}:vl (aQ (.int .i64) Z z ()) y↔y=z∨vl Z y:=by
 unfold vl
 rw [eL kI h]
 constructor
 ·rintro (e | ⟨h, _⟩)
  ·cases e;exact .inl rfl
  ·exact .inr h
 ·by_cases e : y = z
  ·subst e;exact fun _=>.inl rfl
  ·rintro (e' | h)
   ·exact absurd e' e
   ·exact .inr ⟨h,e⟩
theorem k9 {n : Int} : ∀ {l nx : Zs}, CZ nx → CZ (kL l n nx) ∧ ∀ z, vl (kL l n nx) z ↔ vl nx z ∨ ∃ x, vl l x ∧ z = x + n
 |[],nx,h=>⟨h,fun z=>by simp [kL,vl]⟩
 |e::l,nx,h=>by
  obtain ⟨h1,h2⟩:=k9 (n:=n) (l:=l) (h.put (e.1+n))
  refine ⟨h1,fun z=>?_⟩
  have h3:kL (e::l) n nx=kL l n (aQ (.int .i64) nx (e.1+n) ()):=rfl
  rw [h3,h2,IZ h]
  constructor
  ·rintro ((h | h) | ⟨x, hx, h⟩)
   ·exact .inr ⟨e.1,List.mem_cons_self ..,h⟩
   ·exact .inl h
   ·exact .inr ⟨x,List.mem_cons_of_mem _ hx,h⟩
  ·rintro (h | ⟨x, hx, h⟩)
   ·exact .inl (.inr h)
   ·rcases List.mem_cons.1 hx with e' | hx
    ·exact .inl (.inl (by rw [h,←e']))
    ·exact .inr ⟨x,hx,h⟩
theorem CZ.ext {Z Z':Zs} (h:CZ Z) (h':CZ Z') (hz:∀z,vl Z z↔vl Z' z):Z=Z':=IK kI h h' fun e=>hz e.1
theorem Ae {l l' nx:Zs} {n:Int} (h:CZ nx) (hp:l.Perm l'):kL l n nx=kL l' n nx :=
 (k9 h).1.ext (k9 h).1 fun z=>by
  rw [(k9 h).2,(k9 h).2]
  exact or_congr_right ⟨fun ⟨x,hx,e⟩=>⟨x,hp.mem_iff.1 hx,e⟩,fun ⟨x,hx,e⟩=>⟨x,hp.mem_iff.2 hx,e⟩⟩
def jw (f:ByteArray→Int) (can:Zs) (vs:List ByteArray):Zs:=vs.foldl (fun nx v=>kL can (f v) nx) []
theorem Eo {f : ByteArray → Int} {can : Zs} : ∀ {vs : List ByteArray} {nx : Zs}, CZ nx → CZ (vs.foldl (fun nx v => kL can (f v) nx) nx) ∧ ∀ z, vl (vs.foldl (fun nx v => kL can (f v) nx) nx) z ↔ vl nx z ∨ ∃ v ∈ vs, ∃ x, vl can x ∧ z = x + f v
 |[],nx,h=>⟨h,fun z=>by simp⟩
 |v::vs,nx,h=>by
  obtain ⟨h1,h2⟩:=k9 (n:=f v) (l:=can) h
  obtain ⟨h3,h4⟩:=Eo (f:=f) (can:=can) (vs:=vs) h1
  refine ⟨h3,fun z=>?_⟩
  rw [List.foldl_cons,h4,h2]
  simp only [List.mem_cons,exists_eq_or_imp,or_assoc]
theorem oB {f:ByteArray→Int} {can:Zs} {vs:List ByteArray}:CZ (jw f can vs)∧∀z,vl (jw f can vs) z↔∃v∈vs,∃x,vl can x∧z=x+f v:=by
 obtain ⟨h1,h2⟩:=Eo (f:=f) (can:=can) (vs:=vs) (nx:=[]) .nil
 exact ⟨h1,fun z=>(h2 z).trans (by simp [vl])⟩
def pe (c:List Mg):List ByteArray:=(c.filter fun m=>decide (m.2.1=1)).map (·.1)
def jE (c:List Mg) (f:ByteArray→Int) (ts:List ByteArray) (can:Zs):Zs:=ts.foldl (fun can t=>jw f can (gR c t)) can
def eM:Zs:=aQ (.int .i64) [] 0 ()
def lg (c:List Mg) (f:ByteArray→Int):List Int:=(jE c f (pe c) eM).map (·.1)
theorem dB:CZ eM∧∀z,vl eM z↔z=0:=⟨CZ.put .nil 0,fun z=>(IZ .nil).trans (by simp [vl])⟩
theorem vm {c : List Mg} {f : ByteArray → Int} : ∀ {ts : List ByteArray} {can : Zs}, CZ can → CZ (jE c f ts can)
 |[],_,h=>h
 |t::ts,can,_=>vm (ts:=ts) oB.1
def BZ (B:Int) (Z:Zs):Prop:=∀z,vl Z z → -B≤z∧z≤B
theorem r8 {f:ByteArray→Int} {can:Zs} {vs:List ByteArray} {B:Int} (h:BZ B can) (hf:∀v∈vs,-1000≤f v∧f v≤1000):BZ (B+1000) (jw f can vs):=fun z hz=>by
 obtain ⟨v,hv,x,hx,rfl⟩:=(oB.2 z).1 hz
 have:=h x hx;have:=hf v hv;omega
section
variable {c:List Mg}
theorem TI (hs:SI c) {t v:ByteArray} (ht:lG c t=true) (hk:(msg c t).2.1=1) (hv:v∈gR c t):lG c v=true∧((msg c v).2.1=1∨(msg c v).2.1=2):=by
 have hd:=l6 hv
 cases hd with
 |refl=>exact ⟨ht,.inl hk⟩
 |step _ hz =>
  obtain ⟨m,hm,h1,h2,_⟩:=fK.1 hz
  subst h1
  exact ⟨bF.2 (List.mem_map.2 ⟨m,hm,rfl⟩),.inr (by rw [gO hs hm];exact h2)⟩
theorem TJ {m:Mg} (h:nA m=0) (hk:m.2.1=1∨m.2.1=2) : -1000≤m.2.2.2.2∧m.2.2.2.2≤1000:=by
 unfold nA at h
 split at h
 ·cases h
 split at h
 ·unfold uF at h
  have h3:gX m=0:=by
   by_cases h1:iS m=0
   ·by_cases h2 : gX m = 0
    ·exact h2
    ·simp [h1,h2] at h
   ·simp [h1] at h
  unfold gX at h3
  rw [if_neg (by omega)] at h3
  split at h3
  ·split at h3
   ·assumption
   ·cases h3
  ·cases h3
 ·cases h
def fA (c:List Mg) (a v:ByteArray):Int:=if (msg c v).2.2.2.1=a then (msg c v).2.2.2.2 else 0
def fT (c:List Mg) (v:ByteArray):Int:=(msg c v).2.2.2.2
def VO (c:List Mg) (f:ByteArray→Int):Prop:=∀t v,lG c t=true→(msg c t).2.1=1→v∈gR c t → -1000≤f v∧f v≤1000
theorem bndT (hs:SI c) (hc:∀m∈c,nA m=0):VO c (fT c):=fun t v h1 h2 h3=>by
 obtain ⟨h4,h5⟩:=TI hs h1 h2 h3
 exact TJ (hc _ (k7 hs h4).1) h5
theorem Zb (hs:SI c) (hc:∀m∈c,nA m=0) (a:ByteArray):VO c (fA c a):=fun t v h1 h2 h3=>by
 have:=bndT hs hc t v h1 h2 h3
 unfold fA;unfold fT at this
 split<;>omega
theorem k68 (m:Mg) (a:ByteArray):ak (F68 m a)=some (if m.2.2.2.1=a then m.2.2.2.2 else 0,()):=by
 simp only [F68,az,af,dw,seq_eq,bw]
 split<;>rfl
theorem k78 (m:Mg):ak (F78 m)=some (m.2.2.2.2,()):=rfl
theorem I1 (z:Int) (m:Zs):ak (FH100 z m)=some (aQ (.int .i64) m z (),()):=rfl
theorem VP {Z:Zs} (h:CZ Z) (hl:Z.length<1000000000):ak (FH102 Z)=some (Z.length,Z.map (·.1),Z,()):=by
 unfold FH102
 refine Eq.trans Bg (gr fun l hp=>?_)
 have yd:l.length=Z.length:=hp.length_eq
 simp only [aD,Bh]
 refine bind_eq (rU (m:=Z) (l:=l) (by rw [yd];exact hl) fun e n b hn=>?_) ?_
 ·simp only [gH102f121f133_0i_0, aW, af, dm, ax]
  rw [bR (show _<cn by rw [jD];simp;omega)]
  rfl
 ·simp only [FH122, wX]
  have hpk:(Z.map (·.1)).Perm (l.map (·.1)):=(hp.map (·.1)).symm
  have:=ov kI hpk (gh.keys kI h) (by rw [List.length_map];omega)
  rw [List.length_map] at this
  rw [av this,yd]
  rfl
theorem GC {Z:Zs} {B:Nat} (h:CZ Z) (hb:BZ (B:Int) Z):Z.length≤2 * B+1:=by
 have hn:(Z.map (·.1)).Nodup:=by
  unfold List.Nodup
  rw [List.pairwise_map]
  exact List.Pairwise.imp (fun {a b} h e=>by rw [e,eV kI] at h;cases h) h
 have h2:((Z.map (·.1)).map fun z:Int=>(z+(B:Int)).toNat).Nodup:=by
  unfold List.Nodup
  rw [List.pairwise_map]
  refine List.Pairwise.imp_of_mem (fun {a b} ha hb' hab e=>hab ?_) hn
  obtain ⟨p,hp,rfl⟩:=List.mem_map.1 ha
  obtain ⟨q,hq,rfl⟩:=List.mem_map.1 hb'
  have h3:=hb p.1 hp
  have h4:=hb q.1 hq
  omega
 have:=List.Nodup.length_le_of_subset h2 (l₂:=List.range (2 * B+1)) fun z hz=>by
  obtain ⟨y,hy,rfl⟩:=List.mem_map.1 hz
  obtain ⟨p,hp,rfl⟩:=List.mem_map.1 hy
  have h3:=hb p.1 hp
  rw [List.mem_range];omega
 simpa using this
theorem kA67 {a:ByteArray} {nv:Nat} {w1 w2 n:Int} {o9 iW:List ByteArray} {can nx:Zs} (hx:CZ nx) (hb:BZ 1000000 can) (hn : -1000≤n∧n≤1000):ak (gH67_0b_2 (nv,w1,w2,n,o9,bJ c,bG c,bZ c,cN c,a,iW,can,nx,()))=some (nv,w1,w2,o9,bJ c,bG c,bZ c,cN c,a,iW,can,kL can n nx,()):=by
 unfold gH67_0b_2
 simp only [aD]
 refine bind_eq (Eq.trans FD (gr (b:=(nv,w1,w2,can,bJ c,bG c,bZ c,cN c,a,n,o9,iW,kL can n nx,())) fun l hp=>?_)) rfl
 have key:∀(l:Zs) (nx:Zs),(∀e∈l,e∈can)→zx (fun e a=>run (fun _=>none) (gH67_0b_2i_0 e a)) l (nv,w1,w2,can,bJ c,bG c,bZ c,cN c,a,n,o9,iW,nx,())=some (nv,w1,w2,can,bJ c,bG c,bZ c,cN c,a,n,o9,iW,kL l n nx,()):=by
  intro l
  induction l with
  |nil=>intro nx _;rfl
  |cons e l ih =>
   intro nx hm
   have hz:=hb e.1 (hm e (List.mem_cons_self ..))
   have hs:run (fun _=>none) (gH67_0b_2i_0 e (nv,w1,w2,can,bJ c,bG c,bZ c,cN c,a,n,o9,iW,nx,()))=some (nv,w1,w2,can,bJ c,bG c,bZ c,cN c,a,n,o9,iW,aQ (.int .i64) nx (e.1+n) (),()):=by
    simp only [gH67_0b_2i_0,aZ,aD,aW,af,I1,aF,dm,ax]
    rw [fU (aJ (by omega) (by omega))]
   simp only [zx,hs]
   exact ih _ fun e he=>hm e (List.mem_cons_of_mem _ he)
 rw [key l nx fun e he=>hp.mem_iff.1 he,Ae hx hp]
theorem kB67 {a:ByteArray} {iW:List ByteArray} {can:Zs} {vs:List ByteArray} (hvl:vs.length<1000000) (hb:BZ 1000000 can) (hf:∀v∈vs,-1000≤fA c a v∧fA c a v≤1000) :
  iter (fun x=>ak (gH67_0b_1 x)) (vs.length,((vs.length:Nat):Int),(0:Int),vs,bJ c,bG c,bZ c,cN c,a,iW,can,[],())=some (bJ c,bG c,bZ c,cN c,a,iW,vs,can,jw (fA c a) can vs,()):=by
 refine bf vs (fun k (nx:Zs)=>(vs.length,((vs.length:Nat):Int),(k:Int),vs,bJ c,bG c,bZ c,cN c,a,iW,can,nx,())) (fun nx r=>(bJ c,bG c,bZ c,cN c,a,iW,vs,can,r.foldl (fun nx v=>kL can (fA c a v) nx) nx,())) (fun _ nx=>CZ nx) ?_ ?_ (s:=[]) .nil
 ·intro pre v post nx hx Hw
  have hlen:vs.length=pre.length+(post.length+1):=by rw [hx];simp
  have hd:vs.getD pre.length (bs [])=v:=by rw [hx];exact bx rfl
  have i1:fu (pre.length:Int) ((vs.length:Nat):Int)=true:=bQ (by omega) (by omega)
  have r1:gm .i64 ((pre.length:Int)+1)=true:=aJ (by omega) (by omega)
  have d1:decide (pre.length<vs.length)=true:=decide_eq_true (by omega)
  left
  refine ⟨kL can (fA c a v) nx,?_,(k9 Hw).1,rfl⟩
  simp only [gH67_0b_1,az,bC,aW,aZ,aD,af,Int.toNat_natCast,Nat.zero_add,hd,i1,d1,ax,bw,FH101,FH120,aF]
  rw [if_pos (by omega)]
  rw [av (show ak (F68 ((aq .str zM (bJ c) v).1,(aq .str zM (bJ c) v).2.1,(aq .str zM (bJ c) v).2.2.1,(aq .str zM (bJ c) v).2.2.2.1,(aq .str zM (bJ c) v).2.2.2.2) a)=some (fA c a v,()) from k68 _ _)]
  rw [av (kA67 Hw hb (hf v (by rw [hx];simp)))]
  simp only [r1,ax]
  rfl
 ·intro nx _
  simp only [gH67_0b_1,az,af,bw]
  rw [if_neg (by omega)]
  rfl
theorem kC67 {a:ByteArray} (hs:SI c) (hl:c.length≤60) (hB:VO c (fA c a)):iter (fun x=>ak (gH67_0i_0 x)) (c.length,((c.length:Nat):Int),(0:Int),c.map (·.1),bJ c,bG c,bZ c,cN c,a,eM,()) =
  some (bJ c,bG c,bZ c,cN c,a,jE c (fA c a) (pe c) eM,()):=by
 have yd:(c.map (·.1)).length=c.length:=List.length_map ..
 refine bf c (fun k (can:Zs)=>(c.length,((c.length:Nat):Int),(k:Int),c.map (·.1),bJ c,bG c,bZ c,cN c,a,can,())) (fun can r=>(bJ c,bG c,bZ c,cN c,a,jE c (fA c a) ((r.filter fun m=>decide (m.2.1=1)).map (·.1)) can,())) (fun pre can=>CZ can∧BZ (1000 * (pre.length:Int)) can) ?_ ?_ (s:=eM) ⟨dB.1,fun z hz=>by rw [(dB.2 z).1 hz];simp⟩
 ·rintro pre m post can hx ⟨TK, hbz⟩
  have hlen:c.length=pre.length+(post.length+1):=by rw [hx];simp
  have hm:m∈c:=by rw [hx];simp
  have hd:(c.map (·.1)).getD pre.length (bs [])=m.1:=by rw [hx,List.map_append,List.map_cons];exact bx (by simp)
  have hg:aq .str zM (bJ c) m.1=m:=gO hs hm
  have i1:fu (pre.length:Int) ((c.length:Nat):Int)=true:=bQ (by omega) (by omega)
  have r1:gm .i64 ((pre.length:Int)+1)=true:=aJ (by omega) (by omega)
  have d1:decide (pre.length<(c.map (·.1)).length)=true:=decide_eq_true (by omega)
  have hpl:((pre++[m]).length:Int)=(pre.length:Int)+1:=by simp
  left
  by_cases hk:m.2.1=1
  ·have him : lG c m.1 = true := bF.2 (List.mem_map.2 ⟨m, hm, rfl⟩)
   have hkm:(msg c m.1).2.1=1:=by rw [gO hs hm];exact hk
   have hvl:(gR c m.1).length≤c.length:=l7 hs (kC hs him hkm) (bF.1 him) .zero
   refine ⟨jw (fA c a) can (gR c m.1),?_,⟨oB.1,?_⟩,?_⟩
   ·simp only [gH67_0i_0, az, bC, aW, aZ, aD, bN, af, Int.toNat_natCast, Nat.zero_add, hd, hg, i1, d1, ax, bw, cu]
    rw [if_pos (by omega),if_pos hk,av (Pc hs (by omega) (kC hs him hkm) (bF.1 him))]
    rw [av (kB67 (vs:=gR c m.1) (by omega) (fun z hz=>by have:=hbz z hz;omega) (fun v hv=>hB m.1 v him hkm hv))]
    simp only [r1,ax]
    rfl
   ·have := r8 (f := (fA c a)) (vs := gR c m.1) hbz fun v hv => hB m.1 v him hkm hv
    intro z hz
    have:=this z hz
    omega
   ·rw [List.filter_cons_of_pos (by simpa using hk)]
    rfl
  ·refine ⟨can, ?_, ⟨TK, fun z hz => by have := hbz z hz; omega⟩, ?_⟩
   ·simp only [gH67_0i_0, az, bC, aW, aZ, aD, bN, af, Int.toNat_natCast, Nat.zero_add, hd, hg, i1, d1, r1, ax, bw, cu]
    rw [if_pos (by omega),if_neg hk]
    rfl
   ·rw [List.filter_cons_of_neg (by simpa using hk)]
 ·rintro can _
  simp only [gH67_0i_0,az,af,bw]
  rw [if_neg (by omega)]
  rfl
theorem kH67 {a:ByteArray} (hs:SI c) (hl:c.length≤60) (hB:VO c (fA c a)):ak (FH67 a (bJ c) (bG c) (bZ c) (cN c))=some ((lg c (fA c a)).length,lg c (fA c a),bJ c,bG c,bZ c,cN c,a,()):=by
 have TK:CZ (jE c (fA c a) (pe c) eM):=vm dB.1
 have hbz:BZ 1000000 (jE c (fA c a) (pe c) eM):=by
  have key:∀(ts:List ByteArray) (can:Zs) (B:Int),(∀t∈ts,lG c t=true∧(msg c t).2.1=1)→BZ B can→BZ (B+1000 * ts.length) (jE c (fA c a) ts can):=by
   intro ts
   induction ts with
   |nil=>intro can B _ h;simpa [jE] using h
   |cons t ts ih =>
    intro can B ht h
    have h1:=ht t (List.mem_cons_self ..)
    have:=ih (jw (fA c a) can (gR c t)) (B+1000) (fun t h=>ht t (List.mem_cons_of_mem _ h)) (r8 h fun v hv=>hB t v h1.1 h1.2 hv)
    intro z hz
    have:=this z hz
    simp only [List.length_cons]
    omega
  have h1:=key (pe c) eM 0 (fun t ht=>by
   obtain ⟨m,hm,rfl⟩:=List.mem_map.1 ht
   obtain ⟨h1,h2⟩:=List.mem_filter.1 hm
   exact ⟨bF.2 (List.mem_map.2 ⟨m,h1,rfl⟩),by rw [gO hs h1];simpa using h2⟩) (fun z hz=>by rw [(dB.2 z).1 hz];simp)
  have hle:(pe c).length≤c.length:=by unfold pe;rw [List.length_map];exact List.length_filter_le ..
  intro z hz
  have:=h1 z hz
  omega
 have hlen:=GC (B:=1000000) TK (by simpa using hbz)
 unfold FH67 gH67_0
 simp only [aD,I1,aF,FH79,FH95,af,bN]
 rw [av (Tz hs (by omega))]
 refine bind_eq (bind_eq (kC67 hs hl hB) rfl) ?_
 simp only [aF,FH101,FH120,aD,af]
 rw [av (VP TK (by omega))]
 unfold lg
 rw [List.length_map]
theorem TL {nv:Nat} {w1 w2 n:Int} {o9 iW:List ByteArray} {can nx:Zs} (hx:CZ nx) (hb:BZ 1000000 can) (hn : -1000≤n∧n≤1000):ak (gH67_v1_0b_2 (nv,w1,w2,n,o9,bJ c,bG c,bZ c,cN c,iW,can,nx,()))=some (nv,w1,w2,o9,bJ c,bG c,bZ c,cN c,iW,can,kL can n nx,()):=by
 unfold gH67_v1_0b_2
 simp only [aD]
 refine bind_eq (Eq.trans FD (gr (b:=(nv,w1,w2,can,bJ c,bG c,bZ c,cN c,n,o9,iW,kL can n nx,())) fun l hp=>?_)) rfl
 have key:∀(l:Zs) (nx:Zs),(∀e∈l,e∈can)→zx (fun e a=>run (fun _=>none) (gH67_v1_0b_2i_0 e a)) l (nv,w1,w2,can,bJ c,bG c,bZ c,cN c,n,o9,iW,nx,())=some (nv,w1,w2,can,bJ c,bG c,bZ c,cN c,n,o9,iW,kL l n nx,()):=by
  intro l
  induction l with
  |nil=>intro nx _;rfl
  |cons e l ih =>
   intro nx hm
   have hz:=hb e.1 (hm e (List.mem_cons_self ..))
   have hs:run (fun _=>none) (gH67_v1_0b_2i_0 e (nv,w1,w2,can,bJ c,bG c,bZ c,cN c,n,o9,iW,nx,()))=some (nv,w1,w2,can,bJ c,bG c,bZ c,cN c,n,o9,iW,aQ (.int .i64) nx (e.1+n) (),()):=by
    simp only [gH67_v1_0b_2i_0,aZ,aD,aW,af,I1,aF,dm,ax]
    rw [fU (aJ (by omega) (by omega))]
   simp only [zx,hs]
   exact ih _ fun e he=>hm e (List.mem_cons_of_mem _ he)
 rw [key l nx fun e he=>hp.mem_iff.1 he,Ae hx hp]
theorem TM {iW:List ByteArray} {can:Zs} {vs:List ByteArray} (hvl:vs.length<1000000) (hb:BZ 1000000 can) (hf:∀v∈vs,-1000≤fT c v∧fT c v≤1000) :
  iter (fun x=>ak (gH67_v1_0b_1 x)) (vs.length,((vs.length:Nat):Int),(0:Int),vs,bJ c,bG c,bZ c,cN c,iW,can,[],())=some (bJ c,bG c,bZ c,cN c,iW,vs,can,jw (fT c) can vs,()):=by
 refine bf vs (fun k (nx:Zs)=>(vs.length,((vs.length:Nat):Int),(k:Int),vs,bJ c,bG c,bZ c,cN c,iW,can,nx,())) (fun nx r=>(bJ c,bG c,bZ c,cN c,iW,vs,can,r.foldl (fun nx v=>kL can (fT c v) nx) nx,())) (fun _ nx=>CZ nx) ?_ ?_ (s:=[]) .nil
 ·intro pre v post nx hx Hw
  have hlen:vs.length=pre.length+(post.length+1):=by rw [hx];simp
  have hd:vs.getD pre.length (bs [])=v:=by rw [hx];exact bx rfl
  have i1:fu (pre.length:Int) ((vs.length:Nat):Int)=true:=bQ (by omega) (by omega)
  have r1:gm .i64 ((pre.length:Int)+1)=true:=aJ (by omega) (by omega)
  have d1:decide (pre.length<vs.length)=true:=decide_eq_true (by omega)
  left
  refine ⟨kL can (fT c v) nx,?_,(k9 Hw).1,rfl⟩
  simp only [gH67_v1_0b_1,az,bC,aW,aZ,aD,af,Int.toNat_natCast,Nat.zero_add,hd,i1,d1,ax,bw,FH101,FH120,aF]
  rw [if_pos (by omega)]
  rw [av (show ak (F78 ((aq .str zM (bJ c) v).1,(aq .str zM (bJ c) v).2.1,(aq .str zM (bJ c) v).2.2.1,(aq .str zM (bJ c) v).2.2.2.1,(aq .str zM (bJ c) v).2.2.2.2))=some (fT c v,()) from k78 _)]
  rw [av (TL Hw hb (hf v (by rw [hx];simp)))]
  simp only [r1,ax]
  rfl
 ·intro nx _
  simp only [gH67_v1_0b_1,az,af,bw]
  rw [if_neg (by omega)]
  rfl
theorem TN (hs:SI c) (hl:c.length≤60) (hB:VO c (fT c)):iter (fun x=>ak (gH67_v1_0i_0 x)) (c.length,((c.length:Nat):Int),(0:Int),c.map (·.1),bJ c,bG c,bZ c,cN c,eM,()) =
  some (bJ c,bG c,bZ c,cN c,jE c (fT c) (pe c) eM,()):=by
 have yd:(c.map (·.1)).length=c.length:=List.length_map ..
 refine bf c (fun k (can:Zs)=>(c.length,((c.length:Nat):Int),(k:Int),c.map (·.1),bJ c,bG c,bZ c,cN c,can,())) (fun can r=>(bJ c,bG c,bZ c,cN c,jE c (fT c) ((r.filter fun m=>decide (m.2.1=1)).map (·.1)) can,())) (fun pre can=>CZ can∧BZ (1000 * (pre.length:Int)) can) ?_ ?_ (s:=eM) ⟨dB.1,fun z hz=>by rw [(dB.2 z).1 hz];simp⟩
 ·rintro pre m post can hx ⟨TK, hbz⟩
  have hlen:c.length=pre.length+(post.length+1):=by rw [hx];simp
  have hm:m∈c:=by rw [hx];simp
  have hd:(c.map (·.1)).getD pre.length (bs [])=m.1:=by rw [hx,List.map_append,List.map_cons];exact bx (by simp)
  have hg:aq .str zM (bJ c) m.1=m:=gO hs hm
  have i1:fu (pre.length:Int) ((c.length:Nat):Int)=true:=bQ (by omega) (by omega)
  have r1:gm .i64 ((pre.length:Int)+1)=true:=aJ (by omega) (by omega)
  have d1:decide (pre.length<(c.map (·.1)).length)=true:=decide_eq_true (by omega)
  have hpl:((pre++[m]).length:Int)=(pre.length:Int)+1:=by simp
  left
  by_cases hk:m.2.1=1
  ·have him : lG c m.1 = true := bF.2 (List.mem_map.2 ⟨m, hm, rfl⟩)
   have hkm:(msg c m.1).2.1=1:=by rw [gO hs hm];exact hk
   have hvl:(gR c m.1).length≤c.length:=l7 hs (kC hs him hkm) (bF.1 him) .zero
   refine ⟨jw (fT c) can (gR c m.1),?_,⟨oB.1,?_⟩,?_⟩
   ·simp only [gH67_v1_0i_0, az, bC, aW, aZ, aD, bN, af, Int.toNat_natCast, Nat.zero_add, hd, hg, i1, d1, ax, bw, cu]
    rw [if_pos (by omega),if_pos hk,av (Pc hs (by omega) (kC hs him hkm) (bF.1 him))]
    rw [av (TM (vs:=gR c m.1) (by omega) (fun z hz=>by have:=hbz z hz;omega) (fun v hv=>hB m.1 v him hkm hv))]
    simp only [r1,ax]
    rfl
   ·have := r8 (f := (fT c)) (vs := gR c m.1) hbz fun v hv => hB m.1 v him hkm hv
    intro z hz
    have:=this z hz
    omega
   ·rw [List.filter_cons_of_pos (by simpa using hk)]
    rfl
  ·refine ⟨can, ?_, ⟨TK, fun z hz => by have := hbz z hz; omega⟩, ?_⟩
   ·simp only [gH67_v1_0i_0, az, bC, aW, aZ, aD, bN, af, Int.toNat_natCast, Nat.zero_add, hd, hg, i1, d1, r1, ax, bw, cu]
    rw [if_pos (by omega),if_neg hk]
    rfl
   ·rw [List.filter_cons_of_neg (by simpa using hk)]
 ·rintro can _
  simp only [gH67_v1_0i_0,az,af,bw]
  rw [if_neg (by omega)]
  rfl
theorem TO (hs:SI c) (hl:c.length≤60) (hB:VO c (fT c)):ak (FH67_v1 (bJ c) (bG c) (bZ c) (cN c))=some ((lg c (fT c)).length,lg c (fT c),bJ c,bG c,bZ c,cN c,()):=by
 have TK:CZ (jE c (fT c) (pe c) eM):=vm dB.1
 have hbz:BZ 1000000 (jE c (fT c) (pe c) eM):=by
  have key:∀(ts:List ByteArray) (can:Zs) (B:Int),(∀t∈ts,lG c t=true∧(msg c t).2.1=1)→BZ B can→BZ (B+1000 * ts.length) (jE c (fT c) ts can):=by
   intro ts
   induction ts with
   |nil=>intro can B _ h;simpa [jE] using h
   |cons t ts ih =>
    intro can B ht h
    have h1:=ht t (List.mem_cons_self ..)
    have:=ih (jw (fT c) can (gR c t)) (B+1000) (fun t h=>ht t (List.mem_cons_of_mem _ h)) (r8 h fun v hv=>hB t v h1.1 h1.2 hv)
    intro z hz
    have:=this z hz
    simp only [List.length_cons]
    omega
  have h1:=key (pe c) eM 0 (fun t ht=>by
   obtain ⟨m,hm,rfl⟩:=List.mem_map.1 ht
   obtain ⟨h1,h2⟩:=List.mem_filter.1 hm
   exact ⟨bF.2 (List.mem_map.2 ⟨m,h1,rfl⟩),by rw [gO hs h1];simpa using h2⟩) (fun z hz=>by rw [(dB.2 z).1 hz];simp)
  have hle:(pe c).length≤c.length:=by unfold pe;rw [List.length_map];exact List.length_filter_le ..
  intro z hz
  have:=h1 z hz
  omega
 have hlen:=GC (B:=1000000) TK (by simpa using hbz)
 unfold FH67_v1 gH67_v1_0
 simp only [aD,I1,aF,FH79,FH95,af,bN]
 rw [av (Tz hs (by omega))]
 refine bind_eq (bind_eq (TN hs hl hB) rfl) ?_
 simp only [aF,FH101,FH120,aD,af]
 rw [av (VP TK (by omega))]
 unfold lg
 rw [List.length_map]
def oC (c:List Mg) (a:ByteArray):List Int×Int:=if cR a=true then (lg c (fA c a),0) else ([],8)
theorem vn {L:List Mg} (h:kG L):∀m∈cnt L,nA m=0:=fun m hm=>h.nA m (mQ hm)
theorem Pd {L:List Mg} (h:kG L) {a:ByteArray} (ha:Sh a):ak (FH23 a (bk L))=some ((oC (cnt L) a).1.length,(oC (cnt L) a).2,(oC (cnt L) a).1,bk L,()):=by
 unfold FH23
 simp only [aD,Gw,aF,az,cD,k65 a ha,dw]
 rw [mU]
 unfold oC
 split
 ·rw [av (Pb h)]
  simp only
  rw [av (kH67 (dS L) (k8 h) (Zb (dS L) (vn h) a))]
  rfl
 ·rfl
end
end Go.Proofs.Tryz
end
section
namespace Go.Proofs.Tryz
open Go.AM
set_option maxRecDepth 100000
def Pe (l:List Int):Int×Int:=(l.getD 0 0,l.getD (l.length - 1) 0)
theorem k72 {l:List Int} (h0:0<l.length) (hl:l.length<1000000000):ak (F72 l)=some (Pe l,()):=by
 unfold F72
 simp only [bC,aZ,af]
 rw [bQ (by omega) (by omega),ax,fU (aJ (by omega) (by omega)),bQ (by omega) (by omega),ax]
 rw [show ((l.length:Int) - 1).toNat=l.length - 1 by omega]
 rfl
section
variable {c:List Mg}
theorem Pf {f:ByteArray→Int} {can:Zs} {vs:List ByteArray} (hc:∃z,vl can z) (hv:vs≠[]):∃z,vl (jw f can vs) z:=by
 obtain ⟨z,hz⟩:=hc
 cases vs with
 |nil=>exact absurd rfl hv
 |cons v vs=>exact ⟨z+f v,(oB.2 _).2 ⟨v,List.mem_cons_self ..,z,hz,rfl⟩⟩
def I2 (c:List Mg) (a:ByteArray):(Int×Int)×Int:=if (oC c a).2=0 then (Pe (oC c a).1,0) else ((0,0),(oC c a).2)
def sumL (c:List Mg):Int×Int:=Pe (lg c (fT c))
abbrev Ss:=List (ByteArray×Unit)
def yL (c:List Mg) (vs:List ByteArray) (m:Ss):Ss:=vs.foldl (fun m v=>aQ .str m (msg c v).2.2.2.1 ()) m
def uG (c:List Mg) (ts:List ByteArray) (m:Ss):Ss:=ts.foldl (fun m t=>yL c (gR c t) m) m
def tr (c:List Mg):List ByteArray:=(uG c (pe c) []).map (·.1)
theorem Ep {vs:List ByteArray}:∀{m:Ss},gh .str m→gh .str (yL c vs m):=by
 induction vs with
 |nil=>exact fun h=>h
 |cons v vs ih=>exact fun h=>ih (h.gU kS)
theorem Er {ts:List ByteArray}:∀{m:Ss},gh .str m→gh .str (uG c ts m):=by
 induction ts with
 |nil=>exact fun h=>h
 |cons t ts ih=>exact fun h=>ih (Ep h)
theorem Es : ∀ {m : Ss} {k : ByteArray}, (pn .str m k ()).length = m.length + 1
 |[],_=>rfl
 |e::m,k=>by
  unfold pn
  split
  ·simp
  ·rw [List.length_cons,Es];rfl
theorem Pg {m:Ss} {k:ByteArray}:(aQ .str m k ()).length≤m.length+1:=by
 unfold aQ
 split
 ·rw [List.length_map];omega
 ·rw [Es];exact Nat.le_refl _
theorem TP {Z:Ss} (h:gh .str Z) (hl:Z.length<1000000000):ak (FH81_v1 Z)=some (Z.length,Z.map (·.1),Z,()):=by
 unfold FH81_v1
 refine Eq.trans Bg (gr fun l hp=>?_)
 have yd:l.length=Z.length:=hp.length_eq
 simp only [aD,Bh]
 refine bind_eq (rU (m:=Z) (l:=l) (by rw [yd];exact hl) fun e n b hn=>?_) ?_
 ·simp only [gH81_v1f107f126_0i_0, aW, af, dm, ax]
  rw [bR (show _<cn by rw [jD];simp;omega)]
  rfl
 ·simp only [FH105, wX]
  have hpk:(Z.map (·.1)).Perm (l.map (·.1)):=(hp.map (·.1)).symm
  have:=ov kS hpk (gh.keys kS h) (by rw [List.length_map];omega)
  rw [List.length_map] at this
  rw [av this,yd]
  rfl
theorem kB45 {m1:List (Mg×Bool)} {iW vs:List ByteArray} (hvl:vs.length<1000000) {m:Ss} :
  iter (fun x=>ak (gH45_0b_1 x)) (vs.length,((vs.length:Nat):Int),(0:Int),vs,bJ c,bG c,bZ c,cN c,m1,iW,m,())=some (m1,bJ c,bG c,bZ c,cN c,iW,vs,yL c vs m,()):=by
 refine bf vs (fun k (m:Ss)=>(vs.length,((vs.length:Nat):Int),(k:Int),vs,bJ c,bG c,bZ c,cN c,m1,iW,m,())) (fun m r=>(m1,bJ c,bG c,bZ c,cN c,iW,vs,yL c r m,())) (fun _ _=>True) ?_ ?_ (s:=m) trivial
 ·intro pre v post nx hx _
  have hlen:vs.length=pre.length+(post.length+1):=by rw [hx];simp
  have hd:vs.getD pre.length (bs [])=v:=by rw [hx];exact bx rfl
  have i1:fu (pre.length:Int) ((vs.length:Nat):Int)=true:=bQ (by omega) (by omega)
  have r1:gm .i64 ((pre.length:Int)+1)=true:=aJ (by omega) (by omega)
  have d1:decide (pre.length<vs.length)=true:=decide_eq_true (by omega)
  left
  refine ⟨aQ .str nx (msg c v).2.2.2.1 (),?_,trivial,rfl⟩
  simp only [gH45_0b_1,az,bC,aW,aZ,aD,af,Int.toNat_natCast,Nat.zero_add,hd,i1,d1,r1,ax,bw,FH80,aF]
  rw [if_pos (by omega)]
  rfl
 ·intro nx _
  simp only [gH45_0b_1,az,af,bw]
  rw [if_neg (by omega)]
  rfl
theorem kC45 {m1:List (Mg×Bool)} (hs:SI c) (hl:c.length≤60):iter (fun x=>ak (gH45_0i_0 x)) (c.length,((c.length:Nat):Int),(0:Int),c.map (·.1),bJ c,bG c,bZ c,cN c,m1,[],()) =
  some (m1,bJ c,bG c,bZ c,cN c,uG c (pe c) [],()):=by
 have yd:(c.map (·.1)).length=c.length:=List.length_map ..
 refine bf c (fun k (m:Ss)=>(c.length,((c.length:Nat):Int),(k:Int),c.map (·.1),bJ c,bG c,bZ c,cN c,m1,m,())) (fun m r=>(m1,bJ c,bG c,bZ c,cN c,uG c ((r.filter fun m=>decide (m.2.1=1)).map (·.1)) m,())) (fun _ _=>True) ?_ ?_ (s:=[]) trivial
 ·rintro pre m post can hx _
  have hlen:c.length=pre.length+(post.length+1):=by rw [hx];simp
  have hm:m∈c:=by rw [hx];simp
  have hd:(c.map (·.1)).getD pre.length (bs [])=m.1:=by rw [hx,List.map_append,List.map_cons];exact bx (by simp)
  have hg:aq .str zM (bJ c) m.1=m:=gO hs hm
  have i1:fu (pre.length:Int) ((c.length:Nat):Int)=true:=bQ (by omega) (by omega)
  have r1:gm .i64 ((pre.length:Int)+1)=true:=aJ (by omega) (by omega)
  have d1:decide (pre.length<(c.map (·.1)).length)=true:=decide_eq_true (by omega)
  left
  by_cases hk:m.2.1=1
  ·have him : lG c m.1 = true := bF.2 (List.mem_map.2 ⟨m, hm, rfl⟩)
   have hkm:(msg c m.1).2.1=1:=by rw [gO hs hm];exact hk
   have hvl:(gR c m.1).length≤c.length:=l7 hs (kC hs him hkm) (bF.1 him) .zero
   refine ⟨yL c (gR c m.1) can,?_,trivial,?_⟩
   ·simp only [gH45_0i_0, az, bC, aW, aZ, aD, bN, af, Int.toNat_natCast, Nat.zero_add, hd, hg, i1, d1, ax, bw, cu]
    rw [if_pos (by omega),if_pos hk,av (Pc hs (by omega) (kC hs him hkm) (bF.1 him))]
    rw [av (kB45 (vs:=gR c m.1) (by omega))]
    simp only [r1,ax]
    rfl
   ·rw [List.filter_cons_of_pos (by simpa using hk)]
    rfl
  ·refine ⟨can, ?_, trivial, ?_⟩
   ·simp only [gH45_0i_0, az, bC, aW, aZ, aD, bN, af, Int.toNat_natCast, Nat.zero_add, hd, hg, i1, d1, r1, ax, bw, cu]
    rw [if_pos (by omega),if_neg hk]
    rfl
   ·rw [List.filter_cons_of_neg (by simpa using hk)]
 ·rintro can _
  simp only [gH45_0i_0,az,af,bw]
  rw [if_neg (by omega)]
  rfl
theorem Ph {vs:List ByteArray}:∀{m:Ss},(yL c vs m).length≤m.length+vs.length:=by
 induction vs with
 |nil=>exact Nat.le_refl _
 |cons v vs ih =>
  intro m
  have h1:=ih (m:=aQ .str m (msg c v).2.2.2.1 ())
  have h2:=Pg (m:=m) (k:=(msg c v).2.2.2.1)
  simp only [List.length_cons]
  exact Nat.le_trans h1 (by omega)
theorem GD (hs:SI c) {t:ByteArray} (ht:t∈pe c):lG c t=true∧(msg c t).2.1=1:=by
 obtain ⟨m,hm,rfl⟩:=List.mem_map.1 ht
 obtain ⟨h1,h2⟩:=List.mem_filter.1 hm
 exact ⟨bF.2 (List.mem_map.2 ⟨m,h1,rfl⟩),by rw [gO hs h1];simpa using h2⟩
theorem I3:(pe c).length≤c.length:=by unfold pe;rw [List.length_map];exact List.length_filter_le ..
theorem BW (hs:SI c) {t:ByteArray} (ht:lG c t=true) (hk:(msg c t).2.1=1):(gR c t).length≤c.length:=l7 hs (kC hs ht hk) (bF.1 ht) .zero
theorem Et (hs : SI c) : ∀ {ts : List ByteArray} {m : Ss}, (∀ t ∈ ts, lG c t = true ∧ (msg c t).2.1 = 1) → (uG c ts m).length ≤ m.length + ts.length * c.length
 |[],m,_=>by simp [uG]
 |t::ts,m,h=>by
  have h1:=Et hs (ts:=ts) (m:=yL c (gR c t) m) fun t h'=>h t (List.mem_cons_of_mem _ h')
  have h2:=Ph (c:=c) (vs:=gR c t) (m:=m)
  have h3:=BW hs (h t (List.mem_cons_self ..)).1 (h t (List.mem_cons_self ..)).2
  have h4:(ts.length+1) * c.length=ts.length * c.length+c.length:=Nat.succ_mul ..
  simp only [List.length_cons,h4]
  exact Nat.le_trans h1 (by omega)
theorem Zc {L:List Mg} (h:kG L):ak (FH45 (bk L))=some ((tr (cnt L)).length,tr (cnt L),bk L,()):=by
 have hs:=dS L
 have hc:=k8 h
 have hz:=Et hs (ts:=pe (cnt L)) (m:=[]) fun t ht=>GD hs ht
 have hq:(pe (cnt L)).length * (cnt L).length≤60 * 60:=Nat.mul_le_mul (Nat.le_trans I3 hc) hc
 have hzl:(uG (cnt L) (pe (cnt L)) []).length<1000000000:=by simp only [List.length_nil] at hz;omega
 unfold FH45 gH45_0
 simp only [aD,Gw,aF,az,cD]
 rw [av (Pb h)]
 simp only [FH79,FH95,af,aF,bN]
 rw [av (Tz hs (by omega))]
 refine bind_eq (bind_eq (kC45 hs hc) rfl) ?_
 simp only [FH82,FH108,aD,af,aF]
 rw [av (TP (Er .nil) hzl)]
 unfold tr
 rw [List.length_map]
theorem Zd {Z:Zs} (h:∃z,vl Z z):0<Z.length:=by
 obtain ⟨z,hz⟩:=h
 exact List.length_pos_of_mem hz
theorem I4 (hs : SI c) {t : ByteArray} (ht : TF c t) (Cc : t ∈ ids c) : ∀ {n d : Nat} {x : ByteArray}, jg c t d x → d + n = c.length → bW c (n + 1) x ≠ []
 |0,d,x,hp,hd=>by have:=hp.short hs ht Cc;omega
 |n+1,d,x,hp,hd=>by
  unfold bW
  split
  ·simp
  ·rename_i k l hl
   intro h
   have h1:=(dR (t:=.str) ((k::l).flatMap (bW c (n+1)))).length_eq
   rw [show nY .str ((k::l).flatMap (bW c (n+1)))=[] from h] at h1
   have h2:=I4 hs ht Cc (n:=n) (hp.step (vk (by rw [hl];exact List.mem_cons_self ..))) (by omega)
   have h3:0<(bW c (n+1) k).length:=List.length_pos_iff.2 h2
   rw [List.flatMap_cons,List.length_append] at h1
   simp only [List.length_nil] at h1
   omega
theorem Ze (hs:SI c) {t:ByteArray} (ht:lG c t=true∧(msg c t).2.1=1):gR c t≠[]:=I4 hs (kC hs ht.1 ht.2) (bF.1 ht.1) .zero (by omega)
theorem I5 (hs : SI c) {f : ByteArray → Int} : ∀ {ts : List ByteArray} {can : Zs}, (∀ t ∈ ts, lG c t = true ∧ (msg c t).2.1 = 1) → (∃ z, vl can z) → ∃ z, vl (jE c f ts can) z
 |[],_,_,h=>h
 |t::ts,can,ht,h=>I5 hs (ts:=ts) (fun t h=>ht t (List.mem_cons_of_mem _ h)) (Pf h (Ze hs (ht t (List.mem_cons_self ..))))
theorem I6 (hs:SI c) {f:ByteArray→Int}:0<(lg c f).length:=by
 unfold lg
 rw [List.length_map]
 exact Zd (I5 hs (fun t ht=>GD hs ht) ⟨0,(dB.2 0).2 rfl⟩)
theorem TQ (hs:SI c) (hl:c.length≤60) {f:ByteArray→Int} (hB:VO c f):BZ 60000 (jE c f (pe c) eM):=by
 have key:∀(ts:List ByteArray) (can:Zs) (B:Int),(∀t∈ts,lG c t=true∧(msg c t).2.1=1)→BZ B can→BZ (B+1000 * ts.length) (jE c f ts can):=by
  intro ts
  induction ts with
  |nil=>intro can B _ h;simpa [jE] using h
  |cons t ts ih =>
   intro can B ht h
   have h1:=ht t (List.mem_cons_self ..)
   have:=ih (jw f can (gR c t)) (B+1000) (fun t h=>ht t (List.mem_cons_of_mem _ h)) (r8 h fun v hv=>hB t v h1.1 h1.2 hv)
   intro z hz
   have:=this z hz
   simp only [List.length_cons]
   omega
 have h1:=key (pe c) eM 0 (fun t ht=>GD hs ht) (fun z hz=>by rw [(dB.2 z).1 hz];simp)
 have hle:=I3 (c:=c)
 intro z hz
 have:=h1 z hz
 omega
theorem xW (hs:SI c) (hl:c.length≤60) {f:ByteArray→Int} (hB:VO c f):(lg c f).length<1000000:=by
 have:=GC (B:=60000) (vm dB.1) (by simpa using TQ hs hl hB)
 unfold lg
 rw [List.length_map]
 omega
theorem kH37 {L:List Mg} (h:kG L):ak (FH37 (bk L))=some (sumL (cnt L),0,bk L,()):=by
 have hs:=dS L
 have hc:=k8 h
 have hB:=bndT hs (vn h)
 unfold FH37
 simp only [aD,Gw,aF,az,cD]
 rw [av (Pb h)]
 simp only
 rw [av (TO hs hc hB)]
 simp only [List.drop_zero,List.take_length]
 rw [av (k72 (I6 hs) (by have:=xW hs hc hB;omega))]
 rfl
theorem kH25 {L:List Mg} (h:kG L) {a:ByteArray} (ha:Sh a):ak (FH25 a (bk L))=some ((I2 (cnt L) a).1,(I2 (cnt L) a).2,bk L,()):=by
 have hs:=dS L
 have hc:=k8 h
 have hB:=Zb hs (vn h) a
 unfold FH25
 simp only [aD]
 rw [av (Pd h ha)]
 simp only [az,dw,cu,af,List.drop_zero,List.take_length]
 unfold I2
 by_cases h0:(oC (cnt L) a).2=0
 ·rw [if_pos h0, if_pos h0]
  have h1:(oC (cnt L) a).1=lg (cnt L) (fA (cnt L) a):=by
   revert h0
   unfold oC
   split
   ·intro _;rfl
   ·intro h;cases h
  rw [h1,aD,av (k72 (I6 hs) (by have:=xW hs hc hB;omega))]
  rfl
 ·rw [if_neg h0,if_neg h0]
theorem k36 {l l':List ByteArray} (hl:l.length<1000000000):ak (F36 l l')=some (decide (l=l'),()):=by
 by_cases hn:l.length=l'.length
 ·have hi:iter (fun a=>run (fun _=>none) (g36_0 a)) (l,l',(0:Int),())=some (if l=l'.drop 0 then Sum.inr () else Sum.inl ()):=by
   refine bf l (fun k (_:Nat)=>(l,l',(k:Int),())) (fun k r=>if r=l'.drop k then Sum.inr () else Sum.inl ()) (fun pre k=>k=pre.length) ?_ ?_ (s:=0) rfl
   ·rintro pre x post k hx rfl
    have hlen:l.length=pre.length+(post.length+1):=by rw [hx];simp
    have hlt:pre.length<l'.length:=by omega
    have hd:l.getD pre.length (bs [])=x:=by rw [hx];exact bx rfl
    have hd':l'.getD pre.length (bs [])=l'[pre.length]:=by rw [List.getD_eq_getElem?_getD,List.getElem?_eq_getElem hlt];rfl
    have i1:fu (pre.length:Int) ((l.length:Nat):Int)=true:=bQ (by omega) (by omega)
    have i2:fu (pre.length:Int) ((l'.length:Nat):Int)=true:=bQ (by omega) (by omega)
    have r1:gm .i64 ((pre.length:Int)+1)=true:=aJ (by omega) (by omega)
    simp only [g36_0,az,bC,aZ,af,Int.toNat_natCast,hd,hd',i1,i2,r1,ax,bw,seq_eq,dw]
    rw [if_pos (by omega),List.drop_eq_getElem_cons hlt]
    by_cases h:x=l'[pre.length]
    ·left
     refine ⟨pre.length+1,?_,by simp,?_⟩
     ·rw [if_pos h];rfl
     ·rw [h];simp only [List.cons.injEq,true_and]
    ·right
     rw [if_neg h,if_neg (fun e=>h (List.cons.inj e).1)]
   ·rintro k rfl
    simp only [g36_0,az,bw,af]
    rw [if_neg (by omega),if_pos (by rw [hn,List.drop_length])]
  unfold F36
  simp only [az,aD,bN,dw,cu]
  rw [if_pos (by omega),av hi,List.drop_zero]
  by_cases h:l=l'
  ·rw [if_pos h];simp only [lD,af,h,decide_true]
  ·rw [if_neg h];simp only [sV,af,h,decide_false]
 ·unfold F36
  simp only [az,dw,cu,af]
  rw [if_neg (by omega),decide_eq_false fun e=>hn (by rw [e])]
theorem k27 {l l':List Int} (hl:l.length<1000000000):ak (F27 l l')=some (decide (l=l'),()):=by
 by_cases hn:l.length=l'.length
 ·have hi:iter (fun a=>run (fun _=>none) (g27_0 a)) (l,l',(0:Int),())=some (if l=l'.drop 0 then Sum.inr () else Sum.inl ()):=by
   refine bf l (fun k (_:Nat)=>(l,l',(k:Int),())) (fun k r=>if r=l'.drop k then Sum.inr () else Sum.inl ()) (fun pre k=>k=pre.length) ?_ ?_ (s:=0) rfl
   ·rintro pre x post k hx rfl
    have hlen:l.length=pre.length+(post.length+1):=by rw [hx];simp
    have hlt:pre.length<l'.length:=by omega
    have hd:l.getD pre.length (0:Int)=x:=by rw [hx];exact bx rfl
    have hd':l'.getD pre.length (0:Int)=l'[pre.length]:=by rw [List.getD_eq_getElem?_getD,List.getElem?_eq_getElem hlt];rfl
    have i1:fu (pre.length:Int) ((l.length:Nat):Int)=true:=bQ (by omega) (by omega)
    have i2:fu (pre.length:Int) ((l'.length:Nat):Int)=true:=bQ (by omega) (by omega)
    have r1:gm .i64 ((pre.length:Int)+1)=true:=aJ (by omega) (by omega)
    simp only [g27_0,az,bC,aZ,af,Int.toNat_natCast,hd,hd',i1,i2,r1,ax,bw,dw,cu]
    rw [if_pos (by omega),List.drop_eq_getElem_cons hlt]
    by_cases h:x=l'[pre.length]
    ·left
     refine ⟨pre.length+1,?_,by simp,?_⟩
     ·rw [if_pos h];rfl
     ·rw [h];simp only [List.cons.injEq,true_and]
    ·right
     rw [if_neg h,if_neg (fun e=>h (List.cons.inj e).1)]
   ·rintro k rfl
    simp only [g27_0,az,bw,af]
    rw [if_neg (by omega),if_pos (by rw [hn,List.drop_length])]
  unfold F27
  simp only [az,aD,bN,dw,cu]
  rw [if_pos (by omega),av hi,List.drop_zero]
  by_cases h:l=l'
  ·rw [if_pos h];simp only [lD,af,h,decide_true]
  ·rw [if_neg h];simp only [sV,af,h,decide_false]
 ·unfold F27
  simp only [az,dw,cu,af]
  rw [if_neg (by omega),decide_eq_false fun e=>hn (by rw [e])]
end
end Go.Proofs.Tryz
end
section
namespace Go.Proofs.Tryz
open Go.AM
set_option maxRecDepth 100000
def XL:List Mg:=[(bs [116,49],1,bs [],bs [97,110,97],40),(bs [116,50],1,bs [],bs [98,101,110],25),(bs [99,49],2,bs [116,49],bs [97,110,97],42),(bs [99,50],2,bs [116,49],bs [99,121],40),(bs [99,51],2,bs [99,49],bs [97,110,97],41),(bs [119,49],2,bs [120,57],bs [98,101,110],5),(bs [114,49],3,bs [99,49],bs [],0),(bs [114,50],3,bs [99,50],bs [],0)]
theorem k46:ak F46=some (XL,()):=by
 unfold F46
 simp only [aD,F50,F42,F39,af,aF]
 rfl
def L6:List Mg:=iU ((XL.drop (Int.toNat 0)).take (Int.toNat 6 - Int.toNat 0))
def L7:List Mg:=iU ((XL.drop (Int.toNat 0)).take (Int.toNat 7 - Int.toNat 0))
def L8:List Mg:=iU XL
theorem x1:jv (cnt L6) (bs [116,49])=([bs [99,50],bs [99,51]],0):=by kernel_rfl
theorem x2:oC (cnt L6) (bs [97,110,97])=([0,41],0):=by kernel_rfl
theorem x3:oC (cnt L7) (bs [97,110,97])=([41],0):=by kernel_rfl
theorem x4:sumL (cnt L6)=(65,66):=by kernel_rfl
theorem x5:I2 (cnt L8) (bs [99,121])=((0,40),0):=by kernel_rfl
theorem x6:tr (cnt L6)=[bs [97,110,97],bs [98,101,110],bs [99,121]]:=by kernel_rfl
theorem x7:ei (cnt L6) (bs [116,49])=(3,0):=by kernel_rfl
theorem x8:ei (cnt L6) (bs [116,50])=(4,0):=by kernel_rfl
theorem x9:ei (cnt L6) (bs [99,51])=(5,0):=by kernel_rfl
theorem x10:ei (cnt L6) (bs [119,49])=(1,0):=by kernel_rfl
theorem x11:ei (cnt L7) (bs [99,50])=(2,0):=by kernel_rfl
theorem x12:ei (cnt L7) (bs [99,51])=(4,0):=by kernel_rfl
theorem x13:ei (cnt L8) (bs [99,50])=(5,0):=by kernel_rfl
theorem x14:L8.length=8:=by kernel_rfl
instance (m:Mg):Decidable (IM m):=by unfold IM Sh;infer_instance
theorem ad0:ak (FH29 ((XL.drop (Int.toNat 0)).take (Int.toNat 6 - Int.toNat 0)))=some (bk L6,()):=Tw (by decide) (by decide +kernel)
theorem ad1:ak (FH29 ((XL.drop (Int.toNat 0)).take (Int.toNat 7 - Int.toNat 0)))=some (bk L7,()):=Tw (by decide) (by decide +kernel)
theorem ad2:ak (FH29 XL)=some (bk L8,()):=Tw (by decide) (by decide +kernel)
theorem o6:kG L6:=kG.told _
theorem o7:kG L7:=kG.told _
theorem o8:kG L8:=kG.told _
theorem xl:XL.length=8:=rfl
theorem Pj:Sh (bs [97,110,97]):=by unfold Sh;decide +kernel
theorem ad3:Sh (bs [99,121]):=by unfold Sh;decide +kernel
theorem e1:ak (FH33 (bs [116,49]) (bk L6))=some (2,0,[bs [99,50],bs [99,51]],bk L6,()):=by rw [Za o6,x1];rfl
theorem e2:ak (FH23 (bs [97,110,97]) (bk L6))=some (2,0,[0,41],bk L6,()):=by rw [Pd o6 Pj,x2];rfl
theorem e3:ak (FH23 (bs [97,110,97]) (bk L7))=some (1,0,[41],bk L7,()):=by rw [Pd o7 Pj,x3];rfl
theorem e4:ak (FH37 (bk L6))=some ((65,66),0,bk L6,()):=by rw [kH37 o6,x4]
theorem e5:ak (FH25 (bs [99,121]) (bk L8))=some ((0,40),0,bk L8,()):=by rw [kH25 o8 ad3,x5]
theorem e6:ak (FH45 (bk L6))=some (3,[bs [97,110,97],bs [98,101,110],bs [99,121]],bk L6,()):=by rw [Zc o6,x6];rfl
theorem e7:ak (F36 (([bs [99,50],bs [99,51]].drop 0).take 2) (([bs [99,50],bs [99,51]].drop 0).take 2))=some (true,()):=by rw [k36 (by decide)];rfl
theorem e8:ak (F27 ((([0,41]:List Int).drop 0).take 2) ((([0,41]:List Int).drop 0).take 2))=some (true,()):=by rw [k27 (by decide)];rfl
theorem e9:ak (F27 ((([41]:List Int).drop 0).take 1) ((([41]:List Int).drop 0).take 1))=some (true,()):=by rw [k27 (by decide)];rfl
theorem e10:ak (F36 (([bs [97,110,97],bs [98,101,110],bs [99,121]].drop 0).take 3) (([bs [97,110,97],bs [98,101,110],bs [99,121]].drop 0).take 3))=some (true,()):=by rw [k36 (by decide)];rfl
theorem e11:ak (FH40 (bs [116,49]) 3 (bk L6))=some (true,bk L6,()):=by rw [GB o6,x7];rfl
theorem e12:ak (FH40 (bs [116,50]) 4 (bk L6))=some (true,bk L6,()):=by rw [GB o6,x8];rfl
theorem e13:ak (FH40 (bs [99,51]) 5 (bk L6))=some (true,bk L6,()):=by rw [GB o6,x9];rfl
theorem e14:ak (FH40 (bs [119,49]) 1 (bk L6))=some (true,bk L6,()):=by rw [GB o6,x10];rfl
theorem e15:ak (FH40 (bs [99,50]) 2 (bk L7))=some (true,bk L7,()):=by rw [GB o7,x11];rfl
theorem e16:ak (FH40 (bs [99,51]) 4 (bk L7))=some (true,bk L7,()):=by rw [GB o7,x12];rfl
theorem e17:ak (FH40 (bs [99,50]) 5 (bk L8))=some (true,bk L8,()):=by rw [GB o8,x13];rfl
theorem e18:ak (FH47 (bk L8))=some (8,L8,bk L8,()):=by rw [kH47 o8.s (by rw [x14];decide),x14]
theorem k17:ak F17=some (true,()):=by
 unfold F17
 simp only [aD,aW,az,af,k46,aF,ad0,ad1,ad2,xl,e1,e2,e3,e4,e5,e6,e11,e12,e13,e14,e15,e16,e17,e18,cu]
 rw [bR (by decide),bR (by decide),bR (by decide),bR (by decide)]
 rw [if_pos trivial,if_pos trivial,if_pos trivial,if_pos trivial,if_pos trivial,av e7]
 simp only [eG]
 rw [av e8]
 simp only [eG]
 rw [av e9]
 simp only [eG]
 rw [show (((65,66):Int×Int).1==65&&(((65,66):Int×Int).2==66&&true))=true from by decide,show (((0,40):Int×Int).1==0&&(((0,40):Int×Int).2==40&&true))=true from by decide]
 simp only [eG]
 rw [av e10]
 simp only [eG]
 refine (bR (by decide)).trans ?_
 refine (bR (by decide)).trans ?_
 rfl
def mC:Mg:=(bs [99,49],2,bs [116,49],bs [97,110,97],43)
def L9:List Mg:=(jt L8 mC).2
theorem y1:(jt L8 mC).1=0:=by kernel_rfl
theorem y2:ei (cnt L9) (bs [114,49])=(0,18):=by kernel_rfl
theorem y3:jv (cnt L9) (bs [99,49])=([],18):=by kernel_rfl
theorem y4:ei (cnt L9) (bs [122,122])=(0,5):=by kernel_rfl
theorem y5:L9.length=9:=by kernel_rfl
theorem y6:ei (cnt L9) (bs [99,49])=(3,0):=by kernel_rfl
end Go.Proofs.Tryz
end
section
namespace Go.Proofs.Tryz
open Go.AM
set_option maxRecDepth 100000
abbrev Nu:=Int×Int×Int×Int
def U8 (z:Int):Prop:=0≤z∧z≤255
def PV (x:Nu):Prop:=U8 x.1∧U8 x.2.1∧U8 x.2.2.1∧U8 x.2.2.2
theorem Pk {z:Int} (h1:0≤z) (h2:z≤255):gm .u8 z=true:=by
 have e1:IntKind.u8.min=0:=by decide
 have e2:IntKind.u8.max=255:=by decide
 unfold gm
 rw [e1,e2]
 simp [h1,h2]
def pQ (f n:Int):ByteArray:=gF [f+n]
theorem k43 {f n:Int} (h1:0≤f) (h2:0≤n) (h3:f+n≤255):ak (F43 f n)=some (pQ f n,()):=by
 unfold F43
 simp only [aW,af]
 rw [fU (Pk h2 (by omega)),fU (Pk (by omega) h3)]
 rfl
def TS (x:Nu):Int:=if Int.tmod x.1 8=Int.tmod x.2.1 8 then Int.tmod (Int.tmod x.2.1 8+1) 8 else Int.tmod x.2.1 8
def EM (x:Nu):Mg :=
 let i:=pQ 97 (Int.tmod x.1 8)
 let a:=pQ 120 (Int.tmod x.2.2.1 3)
 let n:=Int.tmod (Int.tdiv x.2.2.1 3) 12 - 3
 let k:=Int.tmod x.2.2.2 8
 if k=0∨k=1∨k=2 then (i,1,bs [],a,n) else if k=3 then (i,3,pQ 97 (TS x),bs [],0) else (i,2,pQ 97 (TS x),a,n)
theorem EN {a:Int} (h:0≤a) (n:Int) (hn:0<n):0≤Int.tmod a n∧Int.tmod a n<n:=⟨Int.tmod_nonneg _ h,Int.tmod_lt_of_pos _ hn⟩
theorem Zf {a:Int} (h:0≤a) (h2:a≤255):0≤Int.tdiv a 3∧Int.tdiv a 3≤255:=by
 rw [Int.tdiv_eq_ediv_of_nonneg h];omega
theorem n83:(!((8:Int)==0))=true∧(!((3:Int)==0))=true∧(!((12:Int)==0))=true:=by decide
theorem ln4 {a b c d:Int}:decide (0<[a,b,c,d].length)=true∧decide (1<[a,b,c,d].length)=true∧decide (2<[a,b,c,d].length)=true∧decide (3<[a,b,c,d].length)=true:=⟨rfl,rfl,rfl,rfl⟩
theorem gd4 {a b c d:Int}:[a,b,c,d].getD 0 0=a∧[a,b,c,d].getD 1 0=b∧[a,b,c,d].getD 2 0=c∧[a,b,c,d].getD 3 0=d:=⟨rfl,rfl,rfl,rfl⟩
theorem k44 {x:Nu} (h:PV x):ak (F44 x)=some (EM x,()):=by
 obtain ⟨a,b,c,d⟩:=x
 obtain ⟨⟨a1,a2⟩,⟨b1,b2⟩,⟨c1,c2⟩,d1,d2⟩:=h
 simp only at a1 a2 b1 b2 c1 c2 d1 d2
 have ta:=EN a1 8 (by omega)
 have tb:=EN b1 8 (by omega)
 have tc:=EN c1 3 (by omega)
 have td:=EN d1 8 (by omega)
 have te:=Zf c1 c2
 have tf:=EN te.1 12 (by omega)
 have tg:=EN (show 0≤Int.tmod b 8+1 by omega) 8 (by omega)
 have ra:=aJ (z:=a) (by omega) (by omega)
 have rb:=aJ (z:=b) (by omega) (by omega)
 have rc:=aJ (z:=c) (by omega) (by omega)
 have rd:=aJ (z:=d) (by omega) (by omega)
 have re:=aJ (z:=Int.tdiv c 3) (by omega) (by omega)
 have rf:=aJ (z:=Int.tmod (Int.tdiv c 3) 12 - 3) (by omega) (by omega)
 have rg:=aJ (z:=Int.tmod b 8+1) (by omega) (by omega)
 unfold F44 EM TS
 simp only [aW,aZ,az,aD,af,ln4.1,ln4.2.1,ln4.2.2.1,ln4.2.2.2,gd4.1,gd4.2.1,gd4.2.2.1,gd4.2.2.2,n83.1,n83.2.1,n83.2.2,ax,ra,rb,rc,rd,re,rf,rg,cu]
 have q1:=k43 (f:=97) (n:=Int.tmod a 8) (by omega) (by omega) (by omega)
 have q2:=k43 (f:=97) (n:=Int.tmod b 8) (by omega) (by omega) (by omega)
 have q3:=k43 (f:=97) (n:=Int.tmod (Int.tmod b 8+1) 8) (by omega) (by omega) (by omega)
 have q4:=k43 (f:=120) (n:=Int.tmod c 3) (by omega) (by omega) (by omega)
 simp only [q1,q2,q3,q4,aF]
 by_cases e:Int.tmod a 8=Int.tmod b 8
 ·simp only [if_pos e]
  by_cases e0:Int.tmod d 8=0
  ·simp only [e0,if_true,true_or]
  ·by_cases e1 : Int.tmod d 8 = 1
   ·simp [e1]
   ·by_cases e2 : Int.tmod d 8 = 2
    ·simp [e2]
    ·by_cases e3 : Int.tmod d 8 = 3
     ·simp [e3]
     ·simp [e0,e1,e2,e3]
 ·simp only [if_neg e]
  by_cases e0:Int.tmod d 8=0
  ·simp only [e0,if_true,true_or]
  ·by_cases e1 : Int.tmod d 8 = 1
   ·simp [e1]
   ·by_cases e2 : Int.tmod d 8 = 2
    ·simp [e2]
    ·by_cases e3 : Int.tmod d 8 = 3
     ·simp [e3]
     ·simp [e0,e1,e2,e3]
def gy (p:List Nu):List Mg:=(p.take 10).map EM
theorem Af (p:List Nu):(gy p).length≤10:=by unfold gy;rw [List.length_map,List.length_take];omega
theorem k28 {p:List Nu} (h:∀x∈p,PV x):ak (F28 p)=some (gy p,()):=by
 have hi:iter (fun a=>run (fun _=>none) (g28_0 a)) (p,0,(0:Int),[],())=some ((gy p).length,gy p,()):=by
  have:=bf (p.take 10) (fun k (o:List Mg)=>(p,o.length,(k:Int),o,())) (fun o r=>((o++r.map EM).length,o++r.map EM,())) (fun pre o=>o=pre.map EM) (f:=fun a=>run (fun _=>none) (g28_0 a)) (s:=[]) ?_ ?_ rfl
  ·simpa [gy] using this
  ·rintro pre x post _ hx rfl
   have hlen:(p.take 10).length=pre.length+(post.length+1):=by rw [hx];simp
   rw [List.length_take] at hlen
   have hd:p.getD pre.length ((0:Int),(0:Int),(0:Int),(0:Int))=x:=by
    have:(p.take 10).getD pre.length ((0:Int),(0:Int),(0:Int),(0:Int))=x:=by rw [hx];exact bx rfl
    rw [getD_take (by omega)] at this;exact this
   have hxm:x∈p:=List.mem_of_mem_take (i:=10) (by rw [hx];simp)
   have i1:fu (pre.length:Int) ((p.length:Nat):Int)=true:=bQ (by omega) (by omega)
   have r1:gm .i64 ((pre.length:Int)+1)=true:=aJ (by omega) (by omega)
   left
   refine ⟨(pre++[x]).map EM,?_,rfl,?_⟩
   ·simp only [g28_0, az, bC, aD, aW, aZ, af, Int.toNat_natCast, hd, i1, r1, ax, bw]
    rw [if_pos (by omega),if_pos (by omega),av (k44 (x:=(x.1,x.2.1,x.2.2.1,x.2.2.2)) (h x hxm))]
    rw [bR (show _<cn by rw [jD];simp;omega)]
    simp
    exact List.take_of_length_le (by simp)
   ·simp
  ·rintro _ rfl
   simp only [g28_0,az,af,bw]
   have:(p.take 10).length=min 10 p.length:=List.length_take
   by_cases h1:(((p.take 10).length:Nat):Int)<((p.length:Nat):Int)
   ·rw [if_pos h1,if_neg (by omega)];simp
   ·rw [if_neg h1];simp
 unfold F28
 simp only [aD,bN]
 rw [av hi]
 simp only [af,List.drop_zero,List.take_length]
theorem lt_size (f n:Int):(pQ f n).size=1:=rfl
theorem xX (f n:Int):Sh (pQ f n):=by unfold Sh;rw [lt_size];omega
theorem Pm:Sh (bs []):=by unfold Sh;decide
theorem ad5 (x:Nu):IM (EM x):=by
 unfold EM
 simp only
 split
 ·exact ⟨xX _ _,Pm,xX _ _⟩
 ·split
  ·exact ⟨xX _ _,xX _ _,Pm⟩
  ·exact ⟨xX _ _,xX _ _,xX _ _⟩
end Go.Proofs.Tryz
end
section
namespace Go.Proofs.Tryz
open Go.AM
set_option maxRecDepth 100000
theorem Pn {l:List Int} (h:∀z∈l,0≤z∧z≤255):bA (gF l)=l:=by
 unfold bA gF
 rw [List.map_map]
 conv=>rhs;rw [←List.map_id l]
 refine List.map_congr_left fun z hz=>?_
 have:=h z hz
 simp only [Function.comp_apply,id]
 rw [UInt8.toNat_ofNat']
 omega
theorem GF {f n:Int} (h1:0≤f+n) (h2:f+n≤255):bA (pQ f n)=[f+n]:=Pn fun z hz=>by
 rw [List.mem_singleton] at hz;subst hz;exact ⟨h1,h2⟩
theorem Zg {f n m:Int} (h1:0≤f+n) (h2:f+n≤255) (h3:0≤f+m) (h4:f+m≤255) (e:pQ f n=pQ f m):n=m:=by
 have:=congrArg bA e
 rw [GF h1 h2,GF h3 h4] at this
 have:=(List.cons.inj this).1
 omega
theorem BX {f n:Int} (h1:97≤f+n) (h2:f+n≤122):cR (pQ f n)=true:=by
 unfold cR
 rw [GF (by omega) (by omega),lt_size]
 simp [Tv,xN,h1,h2]
theorem I7:uF [0,0]=0:=by decide
theorem VQ {x:Nu} (h:PV x):0≤TS x∧TS x<8∧Int.tmod x.1 8≠TS x:=by
 obtain ⟨⟨a1,a2⟩,⟨b1,b2⟩,_⟩:=h
 have ta:=EN a1 8 (by omega)
 have tb:=EN b1 8 (by omega)
 have tg:=EN (show 0≤Int.tmod x.2.1 8+1 by omega) 8 (by omega)
 unfold TS
 split
 ·rename_i e
  refine ⟨tg.1,tg.2,?_⟩
  rw [e,Int.tmod_eq_emod_of_nonneg (by omega:0≤Int.tmod x.2.1 8+1)]
  omega
 ·rename_i e
  exact ⟨tb.1,tb.2,e⟩
theorem Po {x:Nu} (h:PV x):nA (EM x)=0:=by
 have ho:=VQ h
 obtain ⟨⟨a1,a2⟩,⟨b1,b2⟩,⟨c1,c2⟩,d1,d2⟩:=h
 have ta:=EN a1 8 (by omega)
 have tc:=EN c1 3 (by omega)
 have te:=Zf c1 c2
 have tf:=EN te.1 12 (by omega)
 have n1:cR (pQ 97 (Int.tmod x.1 8))=true:=BX (by omega) (by omega)
 have n2:cR (pQ 97 (TS x))=true:=BX (by omega) (by omega)
 have n3:cR (pQ 120 (Int.tmod x.2.2.1 3))=true:=BX (by omega) (by omega)
 have n4:pQ 97 (TS x)≠pQ 97 (Int.tmod x.1 8):=fun e=>ho.2.2 (Zg (by omega) (by omega) (by omega) (by omega) e).symm
 have n5 : -1000≤Int.tmod (Int.tdiv x.2.2.1 3) 12 - 3∧Int.tmod (Int.tdiv x.2.2.1 3) 12 - 3≤1000:=by omega
 unfold EM
 simp only
 split
 ·simp [nA,iS,gX,n1,n3,n5,I7]
 ·split
  ·simp [nA,iS,gX,n1,n2,n4,I7]
  ·simp [nA,iS,gX,n1,n2,n3,n4,n5,I7]
theorem I8 {L:List Mg} {m:Mg} (hc:nA m=0) (hl:L.length+1≤60):jt L m=(0,qs L m):=by
 unfold jt
 have:=Eh (L:=L) (m:=m)
 rw [if_pos hc,if_neg (by omega)]
def Gd (l:List Mg):Prop:=∀m∈l,nA m=0
theorem Eu : ∀ {l L : List Mg}, kG L → Gd l → L.length + l.length ≤ 60 → ∀ x, x ∈ l.foldl (fun L m => (jt L m).2) L ↔ x ∈ L ∨ x ∈ l
 |[],L,_,_,_,x=>by simp
 |m::l,L,h,hg,hl,x=>by
  rw [List.length_cons] at hl
  have hc:=hg m (List.mem_cons_self ..)
  have ht:=I8 (L:=L) hc (by omega)
  have h2:=h.tell m
  rw [ht] at h2
  have:=Eh (L:=L) (m:=m)
  rw [List.foldl_cons,ht,Eu h2 (fun z hz=>hg z (List.mem_cons_of_mem _ hz)) (by simp only;omega)]
  simp only [Eg h.s,List.mem_cons]
  constructor
  ·rintro ((h | h) | h)
   ·exact .inr (.inl h)
   ·exact .inl h
   ·exact .inr (.inr h)
  ·rintro (h | h | h)
   ·exact .inl (.inr h)
   ·exact .inl (.inl h)
   ·exact .inr h
theorem kD {l:List Mg} (hg:Gd l) (hl:l.length≤60) (x:Mg):x∈iU l↔x∈l:=by
 have:=Eu kG.nil hg (by simpa using hl) x
 simpa [iU] using this
theorem vo {p:List Nu} (h:∀x∈p,PV x):Gd (gy p):=fun m hm=>by
 obtain ⟨x,hx,rfl⟩:=List.mem_map.1 hm
 exact Po (h x (List.mem_of_mem_take hx))
theorem TT (p:List Nu):∀m∈gy p,IM m:=fun m hm=>by
 obtain ⟨x,hx,rfl⟩:=List.mem_map.1 hm
 exact ad5 x
theorem kT {L:List Mg} (h:kG L) {m:Mg} (hm:IM m) (hc:nA m=0) (hl:L.length+1≤60):ak (FH20 (m.1,m.2.1,m.2.2.1,m.2.2.2.1,m.2.2.2.2) (bk L))=some (0,bk (qs L m),()):=by
 have:=Y4 h.s h.len hm
 rw [I8 hc hl] at this
 exact this
end Go.Proofs.Tryz
end
section
namespace Go.Proofs.Tryz
open Go.AM
set_option maxRecDepth 100000
theorem SL.nd {L:List Mg} (h:SL L):L.Nodup:=List.Pairwise.imp (fun {a b} h e=>by subst e;rw [eV kM] at h;cases h) h
def gP:List ByteArray:=[bs [120],bs [121],bs [122]]
def gT:List ByteArray:=[bs [97],bs [98],bs [99],bs [100],bs [101],bs [102],bs [103],bs [104]]
theorem TU:∀a∈gP,Sh a:=by unfold gP Sh;decide
theorem Pp {L:List Mg} (h:kG L) (a:ByteArray):(oC (cnt L) a).1.length<1000000000:=by
 unfold oC
 split
 ·have := xW (dS L) (k8 h) (Zb (dS L) (vn h) a)
  simp only;omega
 ·simp
abbrev B2:=List (Mg×Bool)×List (Mg×Bool)×Unit
theorem KT {L:List Mg} (h:kG L) (x:ByteArray):(jv (cnt L) x).1.length<1000000000:=by
 have hs:=dS L
 have hc:=k8 h
 unfold jv
 split
 ·rename_i h1
  split
  ·rename_i h2
   have:=BW hs h1 h2
   simp only;omega
  ·simp
 ·simp
end Go.Proofs.Tryz
end
section
namespace Go.Proofs.Tryz
open Go.AM
set_option maxRecDepth 100000
end Go.Proofs.Tryz
end
section
namespace Go.Proofs.Tryz
open Go.AM
set_option maxRecDepth 100000
abbrev ZU:Ty:=.int .u8
abbrev nuT:Ty:=.prod ZU (.prod ZU (.prod ZU ZU))
theorem Ev {z:Int} (h:Wf ZU z):U8 z:=by
 have e1:IntKind.u8.min=0:=by decide
 have e2:IntKind.u8.max=255:=by decide
 simp only [Wf,e1,e2] at h
 exact h
theorem ad6 {x:Nu} (h:Wf nuT x):PV x:=⟨Ev h.1,Ev h.2.1,Ev h.2.2.1,Ev h.2.2.2⟩
end Go.Proofs.Tryz
end
section
namespace Go.Proofs.Tryz
open Go.AM
set_option maxRecDepth 100000
def sev (m:Mg):Mg:=if m.2.1=3 then m else (m.1,m.2.1,m.2.2.1,m.2.2.2.1,7)
structure KS where
 met:List (ByteArray×Bool)
 out:List Mg
 s:Int
def MT (z:KS) (m:Mg):KS:=if aq .str false z.met m.1=true then z else ⟨aQ .str z.met m.1 true,z.out++[sev m],if m.2.1=1 then z.s+7 else z.s⟩
structure KI (z:KS):Prop where
 ZS:gh .str z.met
 met:∀x,aq .str false z.met x=true↔x∈z.out.map (·.1)
 nd:(z.out.map (·.1)).Nodup
 gd:Gd z.out
 sh:∀m∈z.out,IM m
 am:∀m∈z.out,m.2.1≠3→m.2.2.2.2=7
 s:z.s=7 * ((z.out.filter fun m=>decide (m.2.1=1)).length:Int)
def only (Z:Zs) (y:Int):Prop:=CZ Z∧∀z,vl Z z↔z=y
theorem TV {l:List Mg} (hl:l.length<1000000000) (hs:∀m∈l,IM m):ak (FH29_v1 l.length l)=some (l,bk (iU l),()):=by
 unfold FH29_v1
 simp only [aD,FH18,af,aF,bN]
 refine bind_eq (bf l (fun k (L:List Mg)=>(l.length,(k:Int),l,bk L,())) (fun L r=>(l,bk (r.foldl (fun L m=>(jt L m).2) L),())) (fun _ L=>kG L) ?_ ?_ (s:=[]) kG.nil) rfl
 ·intro pre x post L hx hL
  have hlen:l.length=pre.length+(post.length+1):=by rw [hx];simp
  have hd:l.getD pre.length (bs [],(0:Int),bs [],bs [],(0:Int))=x:=by rw [hx];exact bx rfl
  have hin:fu (pre.length:Int) (l.length:Int)=true:=bQ (by omega) (by omega)
  have hni:gm .i64 ((pre.length:Int)+1)=true:=aJ (by omega) (by omega)
  have d1:decide (pre.length<l.length)=true:=decide_eq_true (by omega)
  left
  refine ⟨(jt L x).2,?_,hL.tell x,rfl⟩
  simp only [gH29_v1_0,az,bC,aW,aZ,af,aD,Int.toNat_natCast,Nat.zero_add,bw,hin,hni,d1,ax]
  rw [if_pos (by omega)]
  have hk:=Y4 hL.s hL.len (hs x (by rw [hx];simp))
  rw [hd]
  rw [av (show ak (FH20 (x.1,x.2.1,x.2.2.1,x.2.2.2.1,x.2.2.2.2) (bk L))=_ from hk)]
  rfl
 ·intro L _
  simp only [gH29_v1_0,az,af,bw]
  rw [if_neg (by omega)]
  rfl
end Go.Proofs.Tryz
end
section
namespace Go.Proofs.Tryz
open Go.AM
set_option maxRecDepth 100000
section
variable {c:List Mg}
def PW (c:List Mg) (x:ByteArray):Bool:=c.any fun m=>decide (m.1=x∧m.2.1≠3)
theorem TW (hs:SI c) {x:ByteArray}:PW c x=true↔lG c x=true∧(msg c x).2.1≠3:=by
 unfold PW
 rw [List.any_eq_true]
 constructor
 ·rintro ⟨m, hm, h⟩
  obtain ⟨rfl,h3⟩:=of_decide_eq_true h
  exact ⟨bF.2 (List.mem_map.2 ⟨m,hm,rfl⟩),by rw [gO hs hm];exact h3⟩
 ·rintro ⟨h1, h3⟩
  obtain ⟨h4,h5⟩:=k7 hs h1
  exact ⟨msg c x,h4,decide_eq_true ⟨h5,h3⟩⟩
theorem TX (hs:SI c) (x:ByteArray):TC c x=PW c x:=by
 rw [Bool.eq_iff_iff,TW hs]
 unfold TC
 rw [Bool.and_eq_true,Bool.not_eq_true',beq_eq_false_iff_ne]
 exact Iff.rfl
theorem Zh {m:Mg} (hm:m∈c) (h:m.2.1=2):m.1∈kids c m.2.2.1:=fK.2 ⟨m,hm,rfl,h,rfl⟩
def par (c:List Mg) (m:Mg):Option Mg:=c.find? fun x=>decide (x.1=m.2.2.1∧x.2.1≠3)
def way (c : List Mg) : Nat → Mg → List Mg
 |0,_=>[]
 |n+1,m=>m::(if m.2.1=1 then [] else match par c m with|some x=>way c n x|none=>[])
end
end Go.Proofs.Tryz
end
section
namespace Go.Proofs.Tryz
open Go.AM
set_option maxRecDepth 100000
set_option maxHeartbeats 1000000
end Go.Proofs.Tryz
end
section
namespace Go.Proofs.Tryz
open Go.AM
set_option maxRecDepth 100000
section
variable {c:List Mg}
def K8 (c:List Mg):Prop:=∀m∈c,m.2.1=1∨m.2.1=2∨m.2.1=3
def Tk (c:List Mg) (t:ByteArray):Prop:=∃m∈c,m.1=t∧m.2.1=1
def NR (c:List Mg) (t:ByteArray):Prop:=∃m∈c,m.1=t∧m.2.1≠3
theorem TY (hs:SI c) {m:Mg} (hm:m∈c) {y:ByteArray} (h:m.1∈kids c y):m.2.1=2∧m.2.2.1=y:=by
  obtain ⟨m',hm',e,h2,h3⟩:=fK.1 h
  rw [hs.inj hm' hm e] at h2 h3;exact ⟨h2,h3⟩
theorem Tk.top (hs:SI c) {t:ByteArray} (h:Tk c t):TF c t:=by
  obtain ⟨m,hm,rfl,h1⟩:=h
  intro x hx
  have:=(TY hs hm hx).1
  omega
theorem Tk.ids {t:ByteArray} (h:Tk c t):t∈ids c:=by obtain ⟨m,hm,rfl,_⟩:=h;exact List.mem_map.2 ⟨m,hm,rfl⟩
theorem Tk.nr {t:ByteArray} (h:Tk c t):NR c t:=by obtain ⟨m,hm,rfl,h1⟩:=h;exact ⟨m,hm,rfl,by omega⟩
theorem TZ {x y:ByteArray} (h:y∈kids c x):NR c y:=by
  obtain ⟨m,hm,rfl,h2,_⟩:=fK.1 h;exact ⟨m,hm,rfl,by omega⟩
theorem fO {x z:ByteArray} {n:Nat} (h:jg c x n z):(n=0∧z=x)∨∃k y,n=k+1∧jg c x k y∧z∈kids c y:=by
  cases h with
  |zero=>exact .inl ⟨rfl,rfl⟩
  |step h hz=>exact .inr ⟨_,_,rfl,h,hz⟩
theorem B3 {n:Nat} {x y:ByteArray} (h:jg c x n y) (hx:x∈ids c):y∈ids c:=by
  rcases fO h with ⟨_,rfl⟩|⟨_,_,_,_,hz⟩
  · exact hx
  · exact iV hz
theorem Zi {n:Nat} {x y:ByteArray} (h:jg c x n y) (hx:NR c x):NR c y:=by
  rcases fO h with ⟨_,rfl⟩|⟨_,_,_,_,hz⟩
  · exact hx
  · exact TZ hz
theorem B4 {x : ByteArray} : ∀ {b a : Nat} {z : ByteArray}, jg c x (a + b) z → ∃ y, jg c x a y ∧ jg c y b z
  |0,_,z,h=>⟨z,h,.zero⟩
  |b+1,a,z,h=>by
    rcases fO h with ⟨h0,_⟩|⟨k,y,hk,h1,hz⟩
    · omega
    · obtain rfl : k = a + b := by omega
      obtain ⟨w,h2,h3⟩:=B4 h1
      exact ⟨w,h2,.step h3 hz⟩
theorem T0 {t:ByteArray} (ht:TF c t):gB c t=false:=by
  cases h:gB c t with
  |false=>rfl
  |true =>
    obtain ⟨p,y,hy,hd⟩:=oz.1 h
    obtain ⟨n,hp⟩:=hd.IY
    rcases fO hp with ⟨_,e⟩|⟨_,_,_,_,hz⟩
    · rw [←e] at hy;exact absurd (oV hy) (ht _)
    · exact absurd hz (ht _)
theorem Pq {x z:ByteArray} (h:gB c z=false) (hz:z∈kids c x):gB c x=false:=by
  cases h':gB c x with
  |false=>rfl
  |true=>rw [TD h' hz] at h;cases h
theorem I9 {n:Nat} {x z:ByteArray} (hp:jg c x n z) (h:gB c z=false):gB c x=false:=by
  induction hp with
  |zero=>exact h
  |step _ hz ih=>exact ih (Pq h hz)
theorem Ja (hs : SI c) (hk : K8 c) : ∀ {n : Nat} {x t : ByteArray}, yK c n x = some t ↔ Tk c t ∧ gB c x = false ∧ ∃ d, d < n ∧ jg c t d x
  |0,x,t=>by simp [yK]
  |n+1,x,t=>by
    unfold yK
    by_cases hm:lG c x=true
    · rw [if_pos hm]
      obtain ⟨fE,hm2⟩:=k7 hs hm
      by_cases h3:(msg c x).2.1=3
      · rw [if_pos h3]
        simp only [reduceCtorEq,false_iff]
        rintro ⟨ht,_,d,_,hp⟩
        obtain ⟨m,hm',e,h3'⟩:=Zi hp ht.nr
        have:=hs.inj hm' fE (by rw [e,hm2])
        rw [this] at h3'
        exact h3' h3
      · rw [if_neg h3]
        by_cases hst:gB c x=true
        · rw [if_pos hst]
          simp only [reduceCtorEq,false_iff]
          rintro ⟨_,h,_⟩
          rw [h] at hst;cases hst
        · rw [if_neg hst]
          have hst:gB c x=false:=by simpa using hst
          by_cases h1:(msg c x).2.1=1
          · rw [if_pos h1]
            have ht:Tk c x:=⟨_,fE,hm2,h1⟩
            constructor
            · intro e
              obtain rfl:=Option.some.inj e
              exact ⟨ht,hst,0,by omega,.zero⟩
            · rintro ⟨_, _, d, _, hp⟩
              rcases fO hp with ⟨_,e⟩|⟨_,_,_,_,hz⟩
              · rw [e]
              · exact absurd hz (ht.top hs _)
          · rw [if_neg h1, Ja hs hk]
            have h2:(msg c x).2.1=2:=by rcases hk _ fE with h|h|h<;>omega
            have T1:x∈kids c (msg c x).2.2.1:=by have:=Zh fE h2;rwa [hm2] at this
            constructor
            · rintro ⟨ht, _, d, hd, hp⟩
              exact ⟨ht,hst,d+1,by omega,.step hp T1⟩
            · rintro ⟨ht, _, d, hd, hp⟩
              rcases fO hp with ⟨_,e⟩|⟨k,z,hk',h4,hz⟩
              · exact absurd (by rw [←e];exact T1) (ht.top hs _)
              · rw [IX hs hz T1] at h4
                exact ⟨ht,Pq hst T1,k,by omega,h4⟩
    · rw [if_neg hm]
      simp only [reduceCtorEq,false_iff]
      rintro ⟨ht,_,d,_,hp⟩
      exact hm (bF.2 (B3 hp ht.ids))
theorem fL (hs:SI c) (hk:K8 c) {x t:ByteArray}:rY c x=some t↔Tk c t∧gB c x=false∧∃d,jg c t d x:=by
  rw [Ja hs hk]
  exact and_congr_right fun ht=>and_congr_right fun _=>⟨fun ⟨d,_,h⟩=>⟨d,h⟩,fun ⟨d,h⟩=>⟨d,h.short hs (ht.top hs) ht.ids,h⟩⟩
def uH (c:List Mg) (x:ByteArray):Option ByteArray:=if gx c x=[] then rY c x else none
theorem oW {x t:ByteArray}:uH c x=some t↔gx c x=[]∧rY c x=some t:=by
  unfold uH;split<;>simp [*]
theorem B5 {x y:ByteArray}:y∈gx c x↔y∈kids c x∧gB c y=false:=by
  unfold gx;rw [List.mem_filter];simp
theorem xY {y : ByteArray} : ∀ {n : Nat} {x : ByteArray}, gB c x = false → (y ∈ bW c n x ↔ gx c y = [] ∧ gB c y = false ∧ ∃ d, d < n ∧ jg c x d y)
  |0,x,_=>by simp [bW]
  |n+1,x,hx=>by
    unfold bW
    split
    · rename_i hl
      rw [List.mem_singleton]
      constructor
      · rintro rfl;exact ⟨hl,hx,0,by omega,.zero⟩
      · rintro ⟨_, h2, d, _, hp⟩
        cases d with
        | zero => rcases fO hp with ⟨_, e⟩ | ⟨_, _, h, _, _⟩
                  · exact e
                  · omega
        |succ d =>
          rw [Nat.add_comm] at hp
          obtain ⟨z,ZD,hz2⟩:=B4 hp
          rcases fO ZD with ⟨h,_⟩|⟨k,w,hk,hw,hzk⟩
          · omega
          · obtain rfl : k = 0 := by omega
            rcases fO hw with ⟨_,rfl⟩|⟨_,_,h,_,_⟩
            · have := B5.2 ⟨hzk, I9 hz2 h2⟩
              rw [hl] at this;cases this
            · omega
    · rename_i k l hl
      rw [(dR (t:=.str) _).mem_iff,List.mem_flatMap,←hl]
      constructor
      · rintro ⟨z, hz, h⟩
        obtain ⟨h1,h2⟩:=B5.1 hz
        obtain ⟨h3,h4,d,hd,hp⟩:=(xY h2).1 h
        exact ⟨h3,h4,1+d,by omega,jg.add (.step .zero h1) hp⟩
      · rintro ⟨h3, h4, d, hd, hp⟩
        cases d with
        |zero =>
          rcases fO hp with ⟨_,e⟩|⟨_,_,h,_,_⟩
          · subst e;rw [hl] at h3;cases h3
          · omega
        |succ d =>
          rw [Nat.add_comm] at hp
          obtain ⟨z,ZD,hz2⟩:=B4 hp
          rcases fO ZD with ⟨h,_⟩|⟨k,w,hk,hw,hzk⟩
          · omega
          · obtain rfl : k = 0 := by omega
            rcases fO hw with ⟨_,rfl⟩|⟨_,_,h,_,_⟩
            · have hsz := I9 hz2 h4
              exact ⟨z,B5.2 ⟨hzk,hsz⟩,(xY hsz).2 ⟨h3,h4,d,by omega,hz2⟩⟩
            · omega
theorem Jb (hs:SI c) (hk:K8 c) {t y:ByteArray} (ht:Tk c t):y∈gR c t↔uH c y=some t:=by
  unfold gR
  rw [xY (T0 (ht.top hs)),oW,fL hs hk]
  refine and_congr_right fun _=>?_
  constructor
  · rintro ⟨h,d,_,hp⟩;exact ⟨ht,h,d,hp⟩
  · rintro ⟨_,h,d,hp⟩;exact ⟨h,d,by have:=hp.short hs (ht.top hs) ht.ids;omega,hp⟩
theorem vp (x:ByteArray):slt x x=false:=eV (t:=.str) kS x
theorem Jc {x y:ByteArray} (h:slt x y=true) (h':slt y x=true):False:=c7 (t:=.str) kS h h'
theorem T2 {l l':List ByteArray} (h:l.Pairwise fun a b=>slt a b=true) (h':l'.Pairwise fun a b=>slt a b=true) (hm:∀x,x∈l↔x∈l'):l=l' :=
  kA (r:=fun a b=>slt a b=true) (fun a h=>by rw [vp] at h;cases h) (fun a b h1 h2=>Jc h1 h2) h h' hm
theorem GH {l:List ByteArray} (h:zS .str l) (hn:l.Nodup):l.Pairwise fun a b=>slt a b=true:=by
  refine List.Pairwise.imp₂ (fun a b h1 h2=>?_) h hn
  cases hlt:slt a b with
  |true=>rfl
  |false=>exact absurd (dX (t:=.str) kS hlt h1) h2
theorem Pr : ∀ {n : Nat} {x : ByteArray}, zS .str (bW c n x)
  |0,_=>.nil
  |n+1,x=>by
    unfold bW
    split
    · exact List.pairwise_singleton _ _
    · exact oS (t:=.str) kS _
theorem Pt (hs:SI c) (hk:K8 c) {t:ByteArray} (ht:Tk c t):gR c t=(c.filter fun m=>decide (uH c m.1=some t)).map (·.1):=by
  refine T2 (GH Pr (BV hs (ht.top hs) .zero)) ?_ fun y=>?_
  · rw [List.pairwise_map];exact List.Pairwise.filter _ hs
  · rw [Jb hs hk ht, List.mem_map]
    constructor
    · intro h
      obtain ⟨_,_,d,hp⟩:=(fL hs hk).1 (oW.1 h).2
      obtain ⟨m,hm,rfl⟩:=List.mem_map.1 (B3 hp ht.ids)
      exact ⟨m,List.mem_filter.2 ⟨hm,by simpa using h⟩,rfl⟩
    · rintro ⟨m, hm, rfl⟩
      simpa using (List.mem_filter.1 hm).2
end
end Go.Proofs.Tryz
end
section
namespace Go.Proofs.Tryz
open Go.AM
set_option maxRecDepth 100000
set_option maxHeartbeats 1000000
def Pu (x:ByteArray) (b z:Mg):Mg:=if z.1=x∧(b.2.1=0∨fC tM z b=true) then z else b
def Ew (l:List Mg) (x:ByteArray):Mg:=l.foldl (Pu x) zM
def B6 (l:List Mg) (r:List ByteArray):List Mg:=(r.map (Ew l)).filter fun m=>decide (0<m.2.1)
theorem k31:ak F31=some (gT,()):=rfl
def BS (x:ByteArray) (l:List Mg) (b:Mg):Prop:=(b=zM∧∀m∈l,m.1≠x)∨(b∈l∧b.1=x∧∀m∈l,m.1=x→m=b∨fC tM b m=true)
theorem Ag {x : ByteArray} : ∀ {l pre : List Mg} {b : Mg}, (∀ m ∈ pre ++ l, 1 ≤ m.2.1) → BS x pre b → BS x (pre ++ l) (l.foldl (Pu x) b)
 |[],pre,b,_,h=>by simpa using h
 |z::l,pre,b,hk,h=>by
  have hn:BS x (pre++[z]) (Pu x b z):=by
   unfold Pu
   rcases h with ⟨rfl,h⟩|⟨h1,h2,h3⟩
   ·by_cases hx : z.1 = x
    ·rw [if_pos ⟨hx, .inl rfl⟩]
     refine .inr ⟨by simp,hx,fun m hm e=>?_⟩
     rcases List.mem_append.1 hm with hm|hm
     ·exact absurd e (h m hm)
     ·exact .inl (List.mem_singleton.1 hm)
    ·rw [if_neg (fun h => hx h.1)]
     refine .inl ⟨rfl,fun m hm=>?_⟩
     rcases List.mem_append.1 hm with hm|hm
     ·exact h m hm
     ·rw [List.mem_singleton.1 hm];exact hx
   ·have hb0 : ¬ b.2.1 = 0 := by have := hk b (by simp [h1]); omega
    by_cases hc:z.1=x∧(b.2.1=0∨fC tM z b=true)
    ·rw [if_pos hc]
     have Hf:=hc.2.resolve_left hb0
     refine .inr ⟨by simp,hc.1,fun m hm e=>?_⟩
     rcases List.mem_append.1 hm with hm|hm
     ·rcases h3 m hm e with rfl | h4
      ·exact .inr Hf
      ·exact .inr (iu kM Hf h4)
     ·exact .inl (List.mem_singleton.1 hm)
    ·rw [if_neg hc]
     refine .inr ⟨by simp [h1],h2,fun m hm e=>?_⟩
     rcases List.mem_append.1 hm with hm|hm
     ·exact h3 m hm e
     ·rw [List.mem_singleton.1 hm] at e ⊢
      cases h4:fC tM b z with
      |true=>exact .inr rfl
      |false =>
       cases h5:fC tM z b with
       |true=>exact absurd ⟨e,.inr h5⟩ hc
       |false=>exact .inl (dX kM h5 h4)
  have:=Ag (l:=l) (pre:=pre++[z]) (b:=Pu x b z) (by simpa using hk) hn
  simpa using this
theorem oZ {l:List Mg} (hk:∀m∈l,1≤m.2.1) (x:ByteArray):BS x l (Ew l x):=by
 have:=Ag (x:=x) (l:=l) (pre:=[]) (b:=zM) (by simpa using hk) (.inl ⟨rfl,fun m h=>by cases h⟩)
 rw [List.nil_append] at this
 exact this
theorem xZ {m:Mg} (h:nA m=0):m.2.1=1∨m.2.1=2∨m.2.1=3:=by
 unfold nA at h
 split at h
 ·cases h
 ·omega
theorem T3:gT.Pairwise fun a b=>slt a b=true:=of_decide_eq_true (by kernel_rfl)
theorem Pv {c c':List Mg} (h:SI c) (h':SI c') (hm:∀m,m∈c↔m∈c'):c=c' :=
 kA (r:=fun a b:Mg=>slt a.1 b.1=true) (fun a h=>by rw [vp] at h;cases h) (fun a b h1 h2=>Jc h1 h2) h h' hm
theorem T4 {l:List Mg} (hg:Gd l) (hl:l.length≤60) (hi:∀m∈l,m.1∈gT):B6 l gT=cnt (iU l):=by
 have hk:∀m∈l,1≤m.2.1:=fun m hm=>by rcases xZ (hg m hm) with h|h|h<;>omega
 have key:∀r:List ByteArray,(r.Pairwise fun a b=>slt a b=true)→SI (B6 l r)∧∀m,m∈B6 l r↔∃x∈r,Ew l x=m∧m.1=x∧m∈l:=by
  intro r
  have hmem:∀m,m∈B6 l r↔∃x∈r,Ew l x=m∧m.1=x∧m∈l:=fun m=>by
   unfold B6
   rw [List.mem_filter,List.mem_map]
   constructor
   ·rintro ⟨⟨x, hx, rfl⟩, h0⟩
    rcases oZ hk x with ⟨e,_⟩|⟨h1,h2,_⟩
    ·rw [e] at h0;simp at h0
    ·exact ⟨x,hx,rfl,h2,h1⟩
   ·rintro ⟨x, hx, rfl, h2, h1⟩
    exact ⟨⟨x,hx,rfl⟩,by have:=hk _ h1;simp;omega⟩
  refine fun hr=>⟨?_,hmem⟩
  induction r with
  |nil=>exact .nil
  |cons x r ih =>
   rw [List.pairwise_cons] at hr
   have ih':SI (B6 l r):=by
    refine ih (fun m=>?_) hr.2
    unfold B6
    rw [List.mem_filter,List.mem_map]
    constructor
    ·rintro ⟨⟨x, hx, rfl⟩, h0⟩
     rcases oZ hk x with ⟨e,_⟩|⟨h1,h2,_⟩
     ·rw [e] at h0;simp at h0
     ·exact ⟨x,hx,rfl,h2,h1⟩
    ·rintro ⟨x, hx, rfl, h2, h1⟩
     exact ⟨⟨x,hx,rfl⟩,by have:=hk _ h1;simp;omega⟩
   unfold B6
   rw [List.map_cons]
   by_cases h0:0<(Ew l x).2.1
   ·rw [List.filter_cons_of_pos (by simpa using h0)]
    refine List.pairwise_cons.2 ⟨fun m hm=>?_,ih'⟩
    obtain ⟨fE,hm2⟩:=List.mem_filter.1 hm
    obtain ⟨y,hy,rfl⟩:=List.mem_map.1 fE
    rcases oZ hk x with ⟨e,_⟩|⟨_,h2,_⟩
    ·rw [e] at h0;simp at h0
    rcases oZ hk y with ⟨e,_⟩|⟨_,h4,_⟩
    ·rw [e] at hm2;simp at hm2
    rw [h2,h4];exact hr.1 y hy
   ·rw [List.filter_cons_of_neg (by simpa using h0)]
    exact ih'
 obtain ⟨h1,h2⟩:=key gT T3
 refine Pv h1 (dS _) fun m=>?_
 rw [h2,vf (kG.told l).s,kD hg hl]
 constructor
 ·rintro ⟨x, hx, hb, e, hm⟩
  refine ⟨hm,fun y hy e'=>?_⟩
  rcases oZ hk x with ⟨q,_⟩|⟨_,_,h3⟩
  ·rw [hb] at q;rw [q] at hm;have:=hk _ hm;simp at this
  ·rw [hb] at h3
   exact h3 y ((kD hg hl y).1 hy) (by rw [e',e])
 ·rintro ⟨hm, h3⟩
  refine ⟨m.1,hi m hm,?_,rfl,hm⟩
  rcases oZ hk m.1 with ⟨_,q⟩|⟨q1,q2,q3⟩
  ·exact absurd rfl (q m hm)
  ·rcases q3 m hm rfl with e | h4
   ·exact e.symm
   ·rcases h3 _ ((kD hg hl _).2 q1) q2 with e | h5
    ·exact e
    ·exact (c7 kM h4 h5).elim
theorem eu {l:List ByteArray} {k:Nat} (h:k<l.length):l.getD k (bs [])∈l:=by
 rw [List.getD_eq_getElem?_getD,List.getElem?_eq_getElem h];exact List.getElem_mem h
theorem Pw {n:Int} (h:0≤n) (h2:n<8):pQ 97 n∈gT:=by
 have h8:gT.length=8:=rfl
 have:n=0∨n=1∨n=2∨n=3∨n=4∨n=5∨n=6∨n=7:=by omega
 rcases this with rfl|rfl|rfl|rfl|rfl|rfl|rfl|rfl
 ·exact (show gT.getD 0 (bs [])=pQ 97 0 by kernel_rfl)▸eu (l:=gT) (k:=0) (by omega)
 ·exact (show gT.getD 1 (bs [])=pQ 97 1 by kernel_rfl)▸eu (l:=gT) (k:=1) (by omega)
 ·exact (show gT.getD 2 (bs [])=pQ 97 2 by kernel_rfl)▸eu (l:=gT) (k:=2) (by omega)
 ·exact (show gT.getD 3 (bs [])=pQ 97 3 by kernel_rfl)▸eu (l:=gT) (k:=3) (by omega)
 ·exact (show gT.getD 4 (bs [])=pQ 97 4 by kernel_rfl)▸eu (l:=gT) (k:=4) (by omega)
 ·exact (show gT.getD 5 (bs [])=pQ 97 5 by kernel_rfl)▸eu (l:=gT) (k:=5) (by omega)
 ·exact (show gT.getD 6 (bs [])=pQ 97 6 by kernel_rfl)▸eu (l:=gT) (k:=6) (by omega)
 ·exact (show gT.getD 7 (bs [])=pQ 97 7 by kernel_rfl)▸eu (l:=gT) (k:=7) (by omega)
theorem T5 {n:Int} (h:0≤n) (h2:n<3):pQ 120 n∈gP:=by
 have h8:gP.length=3:=rfl
 have:n=0∨n=1∨n=2:=by omega
 rcases this with rfl|rfl|rfl
 ·exact (show gP.getD 0 (bs [])=pQ 120 0 by kernel_rfl)▸eu (l:=gP) (k:=0) (by omega)
 ·exact (show gP.getD 1 (bs [])=pQ 120 1 by kernel_rfl)▸eu (l:=gP) (k:=1) (by omega)
 ·exact (show gP.getD 2 (bs [])=pQ 120 2 by kernel_rfl)▸eu (l:=gP) (k:=2) (by omega)
structure Zj (m:Mg):Prop where
 nA:nA m=0
 id:m.1∈gT
 of:m.2.1≠1→m.2.2.1∈gT
 acc:m.2.1≠3→m.2.2.2.1∈gP
 amt : -3≤m.2.2.2.2∧m.2.2.2.2≤8
theorem Zk {x:Nu} (h:PV x):Zj (EM x):=by
 have ho:=VQ h
 have hc:=Po h
 obtain ⟨⟨a1,a2⟩,⟨b1,b2⟩,⟨c1,c2⟩,d1,d2⟩:=h
 have ta:=EN a1 8 (by omega)
 have tc:=EN c1 3 (by omega)
 have te:=Zf c1 c2
 have tf:=EN te.1 12 (by omega)
 have n1:=Pw ta.1 ta.2
 have n2:=Pw ho.1 ho.2.1
 have n3:=T5 tc.1 tc.2
 refine ⟨hc,?_,?_,?_,?_⟩
 ·unfold EM; simp only; split
  ·exact n1
  ·split<;>exact n1
 ·unfold EM; simp only; split
  ·intro h;exact absurd rfl h
  ·split<;>exact fun _=>n2
 ·unfold EM; simp only; split
  ·exact fun _=>n3
  ·split
   ·intro h;exact absurd rfl h
   ·exact fun _=>n3
 ·unfold EM; simp only; split
  ·simp only;omega
  ·split
   ·simp
   ·simp only;omega
theorem yb {p:List Nu} (hp:∀x∈p,PV x):∀m∈gy p,Zj m:=fun m hm=>by
 obtain ⟨x,hx,rfl⟩:=List.mem_map.1 hm
 exact Zk (hp x (List.mem_of_mem_take hx))
structure CN (c:List Mg):Prop where
 si:SI c
 k3:K8 c
 byN:∀m∈c,Zj m
 len:c.length≤8
theorem T6 {p:List Nu} (hp:∀x∈p,PV x):CN (cnt (iU (gy p))):=by
 have hml:=Af p
 have hb:∀m∈cnt (iU (gy p)),Zj m:=fun m hm=>yb hp m ((kD (vo hp) (by omega) m).1 (mQ hm))
 refine ⟨dS _,fun m hm=>xZ (hb m hm).nA,hb,?_⟩
 rw [←T4 (vo hp) (by omega) fun m hm=>(yb hp m hm).id]
 unfold B6
 exact Nat.le_trans (List.length_filter_le ..) (by simp [gT])
end Go.Proofs.Tryz
end
section
namespace Go.Proofs.Tryz
open Go.AM
set_option maxRecDepth 100000
set_option maxHeartbeats 2000000
section
variable {c:List Mg}
end
end Go.Proofs.Tryz
end
section
namespace Go.Proofs.Tryz
open Go.AM
set_option maxRecDepth 100000
set_option maxHeartbeats 2000000
section
variable {c:List Mg}
theorem B7 (hs:SI c):∀t∈pe c,Tk c t:=fun t ht=>by
 obtain ⟨m,hm,rfl⟩:=List.mem_map.1 ht
 obtain ⟨h1,h2⟩:=List.mem_filter.1 hm
 exact ⟨m,h1,rfl,by simpa using h2⟩
end
end Go.Proofs.Tryz
end
section
namespace Go.Proofs.Tryz
open Go.AM
set_option maxRecDepth 100000
theorem Jd {α:Type} {a b:Option α} (h:∀t,a=some t↔b=some t):a=b:=by
 cases a with
 |some x=>exact ((h x).1 rfl).symm
 |none =>
  cases b with
  |none=>rfl
  |some y=>exact (h y).2 rfl
section
variable {c c':List Mg} {n:Mg}
abbrev D (c:List Mg) (p:ByteArray):List ByteArray:=dir c (p,kids c p)
theorem D_eq (hs:SI c) (p:ByteArray):D c p=if PW c p=true then (match (kids c p).filter (kK c) with|[o]=>(kids c p).filter (fun k => !decide (k=o))|_=>[]) else []:=by
 unfold D dir
 rw [TX hs]
 first|done|rfl
theorem Px (x:ByteArray):kids (c++[n]) x=kids c x++if n.2.1=2∧n.2.2.1=x then [n.1] else []:=by
 unfold kids
 rw [List.filter_append,List.map_append]
 congr 1
 by_cases h:n.2.1=2∧n.2.2.1=x
 ·rw [if_pos h,List.filter_cons_of_pos (by simpa using h)];rfl
 ·rw [if_neg h,List.filter_cons_of_neg (by simpa using h)];rfl
theorem Py (x:ByteArray):kK (c++[n]) x=(kK c x||decide (n.2.1=3∧n.2.2.1=x)):=by
 unfold kK;rw [List.any_append];simp
theorem Pz (h:∀x y,y∈kids c x→y∈kids c' x) {k:Nat} {x y:ByteArray} (hp:jg c x k y):jg c' x k y:=by
 induction hp with
 |zero=>exact .zero
 |step _ hz ih=>exact .step ih (h _ _ hz)
theorem Zl (h1:n.2.1≠1) {t:ByteArray}:Tk (c++[n]) t↔Tk c t:=by
 constructor
 ·rintro ⟨m, hm, e, hk⟩
  rcases List.mem_append.1 hm with hm|hm
  ·exact ⟨m,hm,e,hk⟩
  ·rw [List.mem_singleton.1 hm] at hk;exact absurd hk h1
 ·rintro ⟨m,hm,h⟩;exact ⟨m,List.mem_append_left _ hm,h⟩
theorem Zm (hk:K8 c) (hn:n.2.1=1∨n.2.1=2∨n.2.1=3):K8 (c++[n]):=fun m hm=>by
 rcases List.mem_append.1 hm with hm|hm
 ·exact hk m hm
 ·rw [List.mem_singleton.1 hm];exact hn
theorem GI {f f':ByteArray→Int} {can:Zs}:∀{vs:List ByteArray} {nx:Zs},(∀v∈vs,f v=f' v)→vs.foldl (fun nx v=>kL can (f v) nx) nx=vs.foldl (fun nx v=>kL can (f' v) nx) nx:=by
 intro vs
 induction vs with
 |nil=>intro nx _;rfl
 |cons v vs ih=>intro nx hv;rw [List.foldl_cons,List.foldl_cons,hv v (List.mem_cons_self ..)];exact ih fun v h=>hv v (List.mem_cons_of_mem _ h)
theorem Ah {f:ByteArray→Int} {t:ByteArray} {ts:List ByteArray} {can:Zs}:jE c f (t::ts) can=jE c f ts (jw f can (gR c t)):=by
 unfold jE;rw [List.foldl_cons]
theorem KU {t:ByteArray} {ts:List ByteArray} {m:Ss}:uG c (t::ts) m=uG c ts (yL c (gR c t) m):=by
 unfold uG;rw [List.foldl_cons]
theorem PA (hs:SI c) (hk:K8 c) {t v:ByteArray} (ht:Tk c t) (hv:v∈gR c t):lG c v=true:=by
 obtain ⟨_,_,d,hp⟩:=(fL hs hk).1 (oW.1 ((Jb hs hk ht).1 hv)).2
 exact bF.2 (B3 hp ht.ids)
end
end Go.Proofs.Tryz
end
section
namespace Go.Proofs.Tryz
open Go.AM
set_option maxRecDepth 100000
set_option maxHeartbeats 2000000
section
variable {c:List Mg} {n m:Mg} {t:ByteArray}
end
end Go.Proofs.Tryz
end
section
namespace Go.Proofs.Tryz
open Go.AM
set_option maxRecDepth 100000
set_option maxHeartbeats 2000000
section
variable {c:List Mg} {n m:Mg} {t:ByteArray}
structure Fx (c:List Mg) (n:Mg):Prop where
 si:SI c
 k3:K8 c
 ZV:SI (c++[n])
 k2:n.2.1=2
 ni:lG c n.1=false
 nk:kids c n.1=[]
 nr:kK c n.1=false
 no:n.1≠n.2.2.1
theorem Fx.k3' (h:Fx c n):K8 (c++[n]):=Zm h.k3 (.inr (.inl h.k2))
theorem Fx.ad8 (h:Fx c n) (x:ByteArray):n.1∉kids c x:=fun hx=>by
 have:=bF.2 (iV hx)
 rw [h.ni] at this;cases this
theorem Fx.kid (h:Fx c n) (x:ByteArray):kids (c++[n]) x=if x=n.2.2.1 then kids c x++[n.1] else kids c x:=by
 rw [Px]
 by_cases e:x=n.2.2.1
 ·rw [if_pos e,if_pos ⟨h.k2,e.symm⟩]
 ·rw [if_neg e,if_neg fun h=>e h.2.symm,List.append_nil]
theorem Fx.Je (h:Fx c n) {x y:ByteArray}:y∈kids (c++[n]) x↔y∈kids c x∨(x=n.2.2.1∧y=n.1):=by
 rw [h.kid]
 split
 ·rename_i e;simp [e]
 ·rename_i e;simp [e]
theorem Fx.rul (h:Fx c n) (x:ByteArray):kK (c++[n]) x=kK c x:=by rw [Py,decide_eq_false (by have:=h.k2;omega),Bool.or_false]
theorem Fx.IY (h:Fx c n) {k:Nat} {x y:ByteArray} (hp:jg (c++[n]) x k y) (hy:y≠n.1):jg c x k y:=by
 induction hp with
 |zero=>exact .zero
 |step _ hz ih =>
  rcases h.Je.1 hz with hz|⟨_,e⟩
  ·refine .step (ih fun e => ?_) hz
   rw [e,h.nk] at hz;cases hz
  ·exact absurd e hy
theorem Fx.T7 (h:Fx c n) {k:Nat} {x y:ByteArray} (hp:jg c x k y):jg (c++[n]) x k y:=Pz (fun _ _ hy=>h.Je.2 (.inl hy)) hp
theorem Fx.stk (h:Fx c n) (hD:∀p,D (c++[n]) p=D c p) {x:ByteArray} (hx:x≠n.1):gB (c++[n]) x=gB c x:=by
 rw [Bool.eq_iff_iff,oz,oz]
 constructor
 ·rintro ⟨p, y, hy, hd⟩
  obtain ⟨k,hp⟩:=hd.IY
  exact ⟨p,y,by have:y∈D (c++[n]) p:=hy;rw [hD p] at this;exact this,(h.IY hp hx).desc⟩
 ·rintro ⟨p, y, hy, hd⟩
  obtain ⟨k,hp⟩:=hd.IY
  exact ⟨p,y,by show y∈D (c++[n]) p;rw [hD p];exact hy,(h.T7 hp).desc⟩
theorem Fx.tk (h:Fx c n) {t:ByteArray}:Tk (c++[n]) t↔Tk c t:=Zl (by have:=h.k2;omega)
theorem Fx.fh (h:Fx c n) (hD:∀p,D (c++[n]) p=D c p) {x:ByteArray} (hx:x≠n.1):rY (c++[n]) x=rY c x:=Jd fun t=>by
 rw [fL h.ZV h.k3',fL h.si h.k3,h.tk,h.stk hD hx]
 exact and_congr_right fun _=>and_congr_right fun _=>exists_congr fun d=>⟨fun hp=>h.IY hp hx,h.T7⟩
theorem Fx.gx (h:Fx c n) (hD:∀p,D (c++[n]) p=D c p) {x:ByteArray} (hx:x≠n.2.2.1):gx (c++[n]) x=gx c x:=by
 unfold Tryz.gx
 rw [h.kid,if_neg hx]
 exact List.filter_congr fun k hk=>by rw [h.stk hD fun e=>h.ad8 x (by rw [←e];exact hk)]
end
end Go.Proofs.Tryz
end
section
namespace Go.Proofs.Tryz
open Go.AM
set_option maxRecDepth 100000
set_option maxHeartbeats 2000000
theorem KV:∀a∈gP,cR a=true:=by decide
section
variable {c:List Mg} {n:Mg} {t:ByteArray}
end
end Go.Proofs.Tryz
end
section
namespace Go.Proofs.Tryz
open Go.AM
set_option maxRecDepth 100000
set_option maxHeartbeats 2000000
def eO (f g:ByteArray→ByteArray) (m:Mg):Mg:=(f m.1,m.2.1,f m.2.2.1,g m.2.2.2.1,m.2.2.2.2)
def r9:List ByteArray:=bs []::gT
def PX:List ByteArray:=bs []::gP
structure Mon (l:List ByteArray) (f:ByteArray→ByteArray):Prop where
 lt:∀x∈l,∀y∈l,slt (f x) (f y)=slt x y
theorem Mon.inj {l:List ByteArray} {f:ByteArray→ByteArray} (h:Mon l f) {x y:ByteArray} (hx:x∈l) (hy:y∈l) (e:f x=f y):x=y:=by
 have h1:=h.lt x hx y hy
 have h2:=h.lt y hy x hx
 rw [e,vp] at h1
 rw [e,vp] at h2
 exact dX (t:=.str) kS h1.symm h2.symm
theorem Mon.dec {l:List ByteArray} {f:ByteArray→ByteArray} (h:Mon l f) {x y:ByteArray} (hx:x∈l) (hy:y∈l):decide (f x=f y)=decide (x=y) :=
 decide_eq_decide.2 ⟨h.inj hx hy,fun e=>by rw [e]⟩
structure T8 (m:Mg):Prop where
 id:m.1∈gT
 of:m.2.2.1∈r9
 acc:m.2.2.2.1∈PX
theorem B8 {m:Mg} (h:Zj m):T8 m:=by
 have hk:=xZ h.nA
 refine ⟨h.id,?_,?_⟩
 ·by_cases h1 : m.2.1 = 1
  ·have hc := h.nA
   unfold nA at hc
   split at hc
   ·cases hc
   ·split at hc
    ·unfold uF at hc
     by_cases ho:iS m=0
     ·unfold iS at ho
      rw [if_pos h1] at ho
      split at ho
      ·rename_i e;rw [e];exact List.mem_cons_self ..
      ·cases ho
     ·simp [ho] at hc
    ·cases hc
  ·exact List.mem_cons_of_mem _ (h.of h1)
 ·by_cases h3 : m.2.1 = 3
  ·have hc := h.nA
   unfold nA at hc
   split at hc
   ·cases hc
   ·split at hc
    ·unfold uF at hc
     by_cases ho:iS m=0
     ·by_cases he : gX m = 0
      ·unfold gX at he
       rw [if_pos h3] at he
       split at he
       ·rename_i e;rw [e.1];exact List.mem_cons_self ..
       ·cases he
      ·simp [ho,he] at hc
     ·simp [ho] at hc
    ·cases hc
  ·exact List.mem_cons_of_mem _ (h.acc h3)
theorem cH {x:ByteArray} (h:x∈gT):x∈r9:=List.mem_cons_of_mem _ h
section
variable {f g:ByteArray→ByteArray}
theorem sg (hf:Mon r9 f) (hg:Mon PX g) {x y:Mg} (hx:T8 x) (hy:T8 y):fC tM (eO f g x) (eO f g y)=fC tM x y:=by
 have e:∀z b:Mg,fC tM z b=(slt z.1 b.1||(dx .str z.1 b.1&&(decide (z.2.1<b.2.1)||((z.2.1==b.2.1)&&(slt z.2.2.1 b.2.2.1||(dx .str z.2.2.1 b.2.2.1&&(slt z.2.2.2.1 b.2.2.2.1||(dx .str z.2.2.2.1 b.2.2.2.1&&decide (z.2.2.2.2<b.2.2.2.2))))))))):=fun _ _=>rfl
 rw [e,e]
 simp only [eO,IL]
 rw [hf.lt _ (cH hx.id) _ (cH hy.id),hf.lt _ hx.of _ hy.of,hg.lt _ hx.acc _ hy.acc,hf.dec (cH hx.id) (cH hy.id),hf.dec hx.of hy.of,hg.dec hx.acc hy.acc]
 rfl
theorem T9 (hf:Mon r9 f) (hg:Mon PX g) {x y:Mg} (hx:T8 x) (hy:T8 y) (e:eO f g x=eO f g y):x=y:=by
 have h1:=sg hf hg hx hy
 have h2:=sg hf hg hy hx
 rw [e,eV kM] at h1
 rw [e,eV kM] at h2
 exact dX kM h1.symm h2.symm
theorem PB (hf:Mon r9 f) (hg:Mon PX g) {l:List Mg} (hl:∀m∈l,T8 m) (hg1:Gd l) (hg2:Gd (l.map (eO f g))) (hlen:l.length≤60):iU (l.map (eO f g))=(iU l).map (eO f g):=by
 have hm:=kD hg1 hlen
 refine (kG.told _).s.ext ?_ fun x=>?_
 ·unfold SL
  rw [List.pairwise_map]
  refine List.Pairwise.imp_of_mem ?_ (kG.told l).s
  intro a b ha hb hab
  rw [sg hf hg (hl a ((hm a).1 ha)) (hl b ((hm b).1 hb))]
  exact hab
 ·rw [kD hg2 (by rw [List.length_map]; exact hlen), List.mem_map, List.mem_map]
  exact exists_congr fun y=>and_congr_left fun _=>(hm y).symm
theorem Ua (hf:Mon r9 f) (hg:Mon PX g) {L:List Mg} (h:SL L) (hl:∀m∈L,T8 m) (h':SL (L.map (eO f g))):cnt (L.map (eO f g))=(cnt L).map (eO f g):=by
 refine Pv (dS _) ?_ fun m=>?_
 ·unfold SI
  rw [List.pairwise_map]
  refine List.Pairwise.imp_of_mem ?_ (dS L)
  intro a b ha hb hab
  show slt (f a.1) (f b.1)=true
  rw [hf.lt _ (cH (hl a (mQ ha)).id) _ (cH (hl b (mQ hb)).id)]
  exact hab
 ·rw [vf h', List.mem_map, List.mem_map]
  constructor
  ·rintro ⟨⟨x, hx, rfl⟩, h2⟩
   refine ⟨x,(vf h).2 ⟨hx,fun y hy e=>?_⟩,rfl⟩
   rcases h2 (eO f g y) (List.mem_map.2 ⟨y,hy,rfl⟩) (by show f y.1=f x.1;rw [e]) with e2|h3
   ·exact .inl (T9 hf hg (hl y hy) (hl x hx) e2)
   ·right;rwa [sg hf hg (hl x hx) (hl y hy)] at h3
  ·rintro ⟨x, hx, rfl⟩
   obtain ⟨h1,h2⟩:=(vf h).1 hx
   refine ⟨⟨x,h1,rfl⟩,fun z hz e=>?_⟩
   obtain ⟨y,hy,rfl⟩:=List.mem_map.1 hz
   have e':y.1=x.1:=hf.inj (cH (hl y hy).id) (cH (hl x h1).id) e
   rcases h2 y hy e' with e2|h3
   ·left;rw [e2]
   ·right;rw [sg hf hg (hl x h1) (hl y hy)];exact h3
end
structure Ren (c:List Mg) (f g:ByteArray→ByteArray):Prop where
 si:SI c
 k3:K8 c
 ZV:SI (c.map (eO f g))
 nm:∀m∈c,T8 m
 f:Mon r9 f
 g:Mon PX g
section
variable {c:List Mg} {f g:ByteArray→ByteArray}
theorem Ren.k3' (h:Ren c f g):K8 (c.map (eO f g)):=fun m hm=>by
 obtain ⟨x,hx,rfl⟩:=List.mem_map.1 hm
 exact h.k3 x hx
theorem Ren.kids (h:Ren c f g) {x:ByteArray} (hx:x∈r9):kids (c.map (eO f g)) (f x)=(kids c x).map f:=by
 unfold Tryz.kids
 rw [List.filter_map,List.map_map,List.map_map]
 have:(c.filter ((fun m:Mg=>decide (m.2.1=2∧m.2.2.1=f x))∘eO f g))=c.filter fun m=>decide (m.2.1=2∧m.2.2.1=x):=List.filter_congr fun m hm=>by
  exact decide_eq_decide.2 (and_congr_right fun _=>⟨h.f.inj (h.nm m hm).of hx,fun e=>by show f m.2.2.1=f x;rw [e]⟩)
 rw [this]
 rfl
theorem Ren.lF (h:Ren c f g) {x y:ByteArray} (hy:y∈Tryz.kids c x):y∈gT∧x∈r9:=by
 obtain ⟨m,hm,rfl,_,e⟩:=fK.1 hy
 exact ⟨(h.nm m hm).id,by rw [←e];exact (h.nm m hm).of⟩
theorem Ren.PC (h:Ren c f g) {x y:ByteArray} (hy:y∈Tryz.kids (c.map (eO f g)) x):∃x0 y0,x0∈r9∧x=f x0∧y=f y0∧y0∈Tryz.kids c x0:=by
 obtain ⟨m',hm',rfl,h2,e⟩:=fK.1 hy
 obtain ⟨m,hm,rfl⟩:=List.mem_map.1 hm'
 exact ⟨m.2.2.1,m.1,(h.nm m hm).of,e.symm,rfl,fK.2 ⟨m,hm,rfl,h2,rfl⟩⟩
theorem Ren.rul (h:Ren c f g) {x:ByteArray} (hx:x∈r9):kK (c.map (eO f g)) (f x)=kK c x:=by
 unfold kK
 rw [List.any_map]
 rw [Bool.eq_iff_iff,List.any_eq_true,List.any_eq_true]
 refine exists_congr fun m=>and_congr_right fun hm=>?_
 simp only [Function.comp_apply,decide_eq_true_eq]
 exact and_congr_right fun _=>⟨h.f.inj (h.nm m hm).of hx,fun e=>by show f m.2.2.1=f x;rw [e]⟩
theorem Ren.PW (h:Ren c f g) {x:ByteArray} (hx:x∈r9):PW (c.map (eO f g)) (f x)=PW c x:=by
 unfold Tryz.PW
 rw [List.any_map]
 rw [Bool.eq_iff_iff,List.any_eq_true,List.any_eq_true]
 refine exists_congr fun m=>and_congr_right fun hm=>?_
 simp only [Function.comp_apply,decide_eq_true_eq]
 exact and_congr_left fun _=>⟨h.f.inj (cH (h.nm m hm).id) hx,fun e=>by show f m.1=f x;rw [e]⟩
theorem Ren.D (h:Ren c f g) {x:ByteArray} (hx:x∈r9):D (c.map (eO f g)) (f x)=(D c x).map f:=by
 rw [D_eq h.si,D_eq h.ZV,h.PW hx,h.kids hx]
 have e1:((Tryz.kids c x).map f).filter (kK (c.map (eO f g)))=((Tryz.kids c x).filter (kK c)).map f:=by
  rw [List.filter_map]
  refine congrArg (List.map f) (List.filter_congr fun k hk=>?_)
  exact h.rul (cH (h.lF hk).1)
 rw [e1]
 by_cases ht:Tryz.PW c x=true
 ·rw [if_pos ht, if_pos ht]
  cases hf:(Tryz.kids c x).filter (kK c) with
  |nil=>rfl
  |cons o r =>
   cases r with
   |cons _ _=>rfl
   |nil =>
    simp only [List.map_cons,List.map_nil]
    have ho:o∈Tryz.kids c x:=(List.mem_filter.1 (show o∈(Tryz.kids c x).filter (kK c) by rw [hf];exact List.mem_singleton.2 rfl)).1
    rw [List.filter_map]
    refine congrArg (List.map f) (List.filter_congr fun k hk=>?_)
    simp only [Function.comp_apply]
    rw [h.f.dec (cH (h.lF hk).1) (cH (h.lF ho).1)]
 ·rw [if_neg ht,if_neg ht];rfl
theorem Ren.IY (h:Ren c f g) {k:Nat} {x y:ByteArray} (hp:jg c x k y):jg (c.map (eO f g)) (f x) k (f y):=by
 induction hp with
 |zero=>exact .zero
 |step _ hz ih=>exact .step ih (by rw [h.kids (h.lF hz).2];exact List.mem_map.2 ⟨_,hz,rfl⟩)
theorem Ren.T7 (h:Ren c f g) {x:ByteArray} (hx:x∈r9):∀{k:Nat} {z:ByteArray},jg (c.map (eO f g)) (f x) k z→∃y,y∈r9∧z=f y∧jg c x k y:=by
 intro k z hp
 induction hp with
 |zero=>exact ⟨x,hx,rfl,.zero⟩
 |step _ hz ih =>
  obtain ⟨y,hy,rfl,hp⟩:=ih
  rw [h.kids hy] at hz
  obtain ⟨w,hw,rfl⟩:=List.mem_map.1 hz
  exact ⟨w,cH (h.lF hw).1,rfl,.step hp hw⟩
theorem Ren.Jf (h:Ren c f g) {x y:ByteArray} (hx:x∈r9) (hy:y∈r9) {k:Nat}:jg (c.map (eO f g)) (f x) k (f y)↔jg c x k y:=by
 refine ⟨fun hp=>?_,h.IY⟩
 obtain ⟨z,hz,e,hp⟩:=h.T7 hx hp
 rw [h.f.inj hy hz e];exact hp
theorem Ren.stk (h:Ren c f g) {x:ByteArray} (hx:x∈r9):gB (c.map (eO f g)) (f x)=gB c x:=by
 rw [Bool.eq_iff_iff,oz,oz]
 constructor
 ·rintro ⟨p, y, hy, hd⟩
  obtain ⟨x0,y0,h1,rfl,rfl,h2⟩:=h.PC (oV hy)
  have hy':f y0∈Tryz.D (c.map (eO f g)) (f x0):=hy
  rw [h.D h1] at hy'
  obtain ⟨y1,hy1,e⟩:=List.mem_map.1 hy'
  have e:=h.f.inj (cH (h.lF (oV hy1)).1) (cH (h.lF h2).1) e
  subst e
  obtain ⟨k,hp⟩:=hd.IY
  exact ⟨x0,y1,hy1,((h.Jf (cH (h.lF h2).1) hx).1 hp).desc⟩
 ·rintro ⟨p, y, hy, hd⟩
  obtain ⟨h1,h2⟩:=h.lF (oV hy)
  obtain ⟨k,hp⟩:=hd.IY
  exact ⟨f p,f y,by show f y∈Tryz.D (c.map (eO f g)) (f p);rw [h.D h2];exact List.mem_map.2 ⟨y,hy,rfl⟩,(h.IY hp).desc⟩
theorem Ren.lG (h:Ren c f g) {x:ByteArray} (hx:x∈r9):lG (c.map (eO f g)) (f x)=lG c x:=by
 rw [Bool.eq_iff_iff,bF,bF]
 unfold ids
 rw [List.map_map,List.mem_map,List.mem_map]
 exact exists_congr fun m=>and_congr_right fun hm=>⟨h.f.inj (cH (h.nm m hm).id) hx,fun e=>by show f m.1=f x;rw [e]⟩
theorem Ren.msg (h:Ren c f g) {x:ByteArray} (hM:Tryz.lG c x=true):msg (c.map (eO f g)) (f x)=eO f g (msg c x):=by
 obtain ⟨h1,h2⟩:=k7 h.si hM
 have:=gO h.ZV (List.mem_map.2 ⟨_,h1,rfl⟩:eO f g (Tryz.msg c x)∈c.map (eO f g))
 rw [show (eO f g (Tryz.msg c x)).1=f x by show f (Tryz.msg c x).1=f x;rw [h2]] at this
 exact this
theorem Ren.tk (h:Ren c f g) {x:ByteArray} (hx:x∈r9):Tk (c.map (eO f g)) (f x)↔Tk c x:=by
 constructor
 ·rintro ⟨m', hm', e, h1⟩
  obtain ⟨m,hm,rfl⟩:=List.mem_map.1 hm'
  exact ⟨m,hm,h.f.inj (cH (h.nm m hm).id) hx e,h1⟩
 ·rintro ⟨m, hm, rfl, h1⟩
  exact ⟨eO f g m,List.mem_map.2 ⟨m,hm,rfl⟩,rfl,h1⟩
theorem Ren.Ey (h:Ren c f g) {t:ByteArray} (ht:Tk c t):t∈gT:=by
 obtain ⟨m,hm,rfl,_⟩:=ht;exact (h.nm m hm).id
theorem Ren.Ub (h:Ren c f g) {t:ByteArray} (ht:Tk (c.map (eO f g)) t):∃t0,t=f t0∧Tk c t0:=by
 obtain ⟨m',hm',rfl,h1⟩:=ht
 obtain ⟨m,hm,rfl⟩:=List.mem_map.1 hm'
 exact ⟨m.1,rfl,m,hm,rfl,h1⟩
theorem Ren.fh (h:Ren c f g) {x:ByteArray} (hx:x∈r9):rY (c.map (eO f g)) (f x)=(rY c x).map f:=Jd fun t=>by
 rw [fL h.ZV h.k3',h.stk hx,Option.map_eq_some_iff]
 constructor
 ·rintro ⟨ht, hs, d, hp⟩
  obtain ⟨t0,rfl,ht0⟩:=h.Ub ht
  exact ⟨t0,(fL h.si h.k3).2 ⟨ht0,hs,d,(h.Jf (cH (h.Ey ht0)) hx).1 hp⟩,rfl⟩
 ·rintro ⟨t0, h1, rfl⟩
  obtain ⟨ht,hs,d,hp⟩:=(fL h.si h.k3).1 h1
  exact ⟨(h.tk (cH (h.Ey ht))).2 ht,hs,d,h.IY hp⟩
theorem Ren.gx (h:Ren c f g) {x:ByteArray} (hx:x∈r9):gx (c.map (eO f g)) (f x)=(gx c x).map f:=by
 unfold Tryz.gx
 rw [h.kids hx,List.filter_map]
 refine congrArg (List.map f) (List.filter_congr fun k hk=>?_)
 simp only [Function.comp_apply]
 rw [h.stk (cH (h.lF hk).1)]
theorem Ren.uH (h:Ren c f g) {x:ByteArray} (hx:x∈r9):uH (c.map (eO f g)) (f x)=(uH c x).map f:=by
 unfold Tryz.uH
 rw [h.gx hx,h.fh hx]
 cases hl:Tryz.gx c x with
 |nil=>rfl
 |cons a l=>rfl
theorem Ren.gR (h:Ren c f g) {t:ByteArray} (ht:Tk c t):gR (c.map (eO f g)) (f t)=(gR c t).map f:=by
 rw [Pt h.si h.k3 ht,Pt h.ZV h.k3' ((h.tk (cH (h.Ey ht))).2 ht),List.filter_map,List.map_map,List.map_map]
 have:c.filter ((fun m:Mg=>decide (Tryz.uH (c.map (eO f g)) m.1=some (f t)))∘eO f g)=c.filter fun m=>decide (Tryz.uH c m.1=some t):=List.filter_congr fun m hm=>by
  simp only [Function.comp_apply]
  refine decide_eq_decide.2 ?_
  show Tryz.uH (c.map (eO f g)) (f m.1)=some (f t)↔_
  rw [h.uH (cH (h.nm m hm).id),Option.map_eq_some_iff]
  constructor
  ·rintro ⟨t0, h1, e⟩
   rw [h1,h.f.inj (cH (h.Ey ((fL h.si h.k3).1 (oW.1 h1).2).1)) (cH (h.Ey ht)) e]
  ·intro h1;exact ⟨t,h1,rfl⟩
 rw [this]
 rfl
theorem Ren.tu (h:Ren c f g) {t v:ByteArray} (ht:Tk c t) (hv:v∈Tryz.gR c t):Tryz.lG c v=true∧v∈gT:=by
 have h1:=PA h.si h.k3 ht hv
 obtain ⟨m,hm,rfl⟩:=List.mem_map.1 (bF.1 h1)
 exact ⟨h1,(h.nm m hm).id⟩
theorem Ren.mem (h:Ren c f g) {x:ByteArray} (hx:x∈r9) {l:List ByteArray} (hl:∀y∈l,y∈r9):GA (f x) (l.map f)=GA x l:=by
 rw [Bool.eq_iff_iff,rZ,rZ,List.mem_map]
 exact ⟨fun ⟨y,hy,e⟩=>by rw [←h.f.inj (hl y hy) hx e];exact hy,fun hy=>⟨x,hy,rfl⟩⟩
theorem Ren.state (h:Ren c f g) {x:ByteArray} (hx:x∈gT):ei (c.map (eO f g)) (f x)=ei c x:=by
 have hx:=cH hx
 unfold ei
 rw [h.lG hx]
 by_cases hM:Tryz.lG c x=true
 ·rw [if_pos hM, if_pos hM, h.msg hM, h.stk hx, h.fh hx]
  show (if (Tryz.msg c x).2.1=3 then _ else _)=_
  by_cases h3:(Tryz.msg c x).2.1=3
  ·rw [if_pos h3,if_pos h3]
  ·rw [if_neg h3, if_neg h3]
   split
   ·rfl
   ·cases hs:rY c x with
    |none=>rfl
    |some t =>
     have ht:=((fL h.si h.k3).1 hs).1
     simp only [Option.map_some]
     rw [h.gR ht,h.mem hx fun y hy=>cH (h.tu ht hy).2,List.length_map]
 ·rw [if_neg hM,if_neg hM]
theorem Ren.vers (h:Ren c f g) {x:ByteArray} (hx:x∈gT):jv (c.map (eO f g)) (f x)=((jv c x).1.map f,(jv c x).2):=by
 have hx:=cH hx
 unfold jv
 rw [h.lG hx]
 by_cases hM:Tryz.lG c x=true
 ·rw [if_pos hM, if_pos hM, h.msg hM]
  show (if (Tryz.msg c x).2.1=1 then _ else _)=_
  by_cases h1:(Tryz.msg c x).2.1=1
  ·obtain ⟨q1, q2⟩ := k7 h.si hM
   rw [if_pos h1,if_pos h1,h.gR ⟨_,q1,q2,h1⟩]
  ·rw [if_neg h1,if_neg h1];rfl
 ·rw [if_neg hM,if_neg hM];rfl
theorem Ren.pe (h:Ren c f g):pe (c.map (eO f g))=(pe c).map f:=by
 unfold Tryz.pe
 rw [List.filter_map,List.map_map,List.map_map]
 rfl
theorem Ren.sums (h:Ren c f g) {φ ψ:ByteArray→Int} (hφ:∀t,Tk c t→∀v∈Tryz.gR c t,ψ (f v)=φ v):∀{ts:List ByteArray} {can:Zs},(∀t∈ts,Tk c t)→jE (c.map (eO f g)) ψ (ts.map f) can=jE c φ ts can:=by
 intro ts
 induction ts with
 |nil=>intro can _;simp only [List.map_nil,jE,List.foldl_nil]
 |cons t ts ih =>
  intro can ht
  have h1:=ht t (List.mem_cons_self ..)
  rw [List.map_cons,Ah,Ah,h.gR h1]
  have e:jw ψ can ((Tryz.gR c t).map f)=jw φ can (Tryz.gR c t):=by
   unfold jw
   rw [List.foldl_map]
   exact GI fun v hv=>hφ t h1 v hv
  rw [e]
  exact ih fun t h'=>ht t (List.mem_cons_of_mem _ h')
theorem Ren.tot (h:Ren c f g) {a:ByteArray} (ha:a∈gP) (h1:cR a=true) (h2:cR (g a)=true):oC (c.map (eO f g)) (g a)=oC c a:=by
 unfold oC lg
 rw [if_pos h1,if_pos h2,h.pe,h.sums (φ:=fA c a) (fun t ht v hv=>?_) (B7 h.si)]
 obtain ⟨hM,_⟩:=h.tu ht hv
 obtain ⟨q1,_⟩:=k7 h.si hM
 unfold fA
 rw [h.msg hM]
 show (if g (Tryz.msg c v).2.2.2.1=g a then (Tryz.msg c v).2.2.2.2 else 0)=_
 by_cases e:(Tryz.msg c v).2.2.2.1=a
 ·rw [if_pos e,if_pos (by rw [e])]
 ·rw [if_neg e,if_neg fun e'=>e (h.g.inj (h.nm _ q1).acc (List.mem_cons_of_mem _ ha) e')]
theorem PD {vs:List ByteArray}:∀{m:Ss} {x:ByteArray},gh .str m→((x,())∈yL c vs m↔(x,())∈m∨∃v∈vs,(Tryz.msg c v).2.2.2.1=x):=by
 unfold yL
 induction vs with
 |nil=>intro m x _;simp
 |cons v vs ih =>
  intro m x hm
  rw [List.foldl_cons,ih (hm.gU kS),eL kS hm]
  simp only [List.mem_cons,exists_eq_or_imp]
  by_cases e:(Tryz.msg c v).2.2.2.1=x
  ·subst e;simp
  ·have : x ≠ (Tryz.msg c v).2.2.2.1 := fun h => e h.symm
   simp [e,this]
theorem PE {ts:List ByteArray}:∀{m:Ss} {x:ByteArray},gh .str m→((x,())∈uG c ts m↔(x,())∈m∨∃t∈ts,∃v∈Tryz.gR c t,(Tryz.msg c v).2.2.2.1=x):=by
 induction ts with
 |nil=>intro m x _;simp [uG]
 |cons t ts ih =>
  intro m x hm
  rw [KU,ih (Ep hm),PD hm]
  simp only [List.mem_cons,exists_eq_or_imp,or_assoc]
theorem sj {x:ByteArray}:x∈tr c↔∃t∈Tryz.pe c,∃v∈Tryz.gR c t,(Tryz.msg c v).2.2.2.1=x:=by
 have:=PE (c:=c) (ts:=Tryz.pe c) (m:=[]) (x:=x) .nil
 simp only [List.not_mem_nil,false_or] at this
 rw [←this]
 unfold tr
 rw [List.mem_map]
 exact ⟨fun ⟨e,he,h⟩=>by rw [←h];exact he,fun h=>⟨_,h,rfl⟩⟩
theorem Jg:(tr c).Nodup:=by
 have h:=gh.kd kS (Er (c:=c) (ts:=Tryz.pe c) (m:=[]) .nil)
 unfold tr List.Nodup
 rw [List.pairwise_map]
 refine List.Pairwise.imp (fun {a b} h e=>?_) h
 rw [e,iD kS] at h;cases h
theorem Ren.accs (h:Ren c f g):(tr (c.map (eO f g))).length=(tr c).length:=by
 have hin:∀x∈tr c,x∈PX:=fun x hx=>by
  obtain ⟨t,ht,v,hv,rfl⟩:=sj.1 hx
  obtain ⟨q1,_⟩:=k7 h.si (h.tu (B7 h.si t ht) hv).1
  exact (h.nm _ q1).acc
 have hp:(tr (c.map (eO f g))).Perm ((tr c).map g):=by
  refine (List.perm_ext_iff_of_nodup Jg ?_).2 fun x=>?_
  ·unfold List.Nodup
   rw [List.pairwise_map]
   exact List.Pairwise.imp_of_mem (fun {a b} ha hb hab e=>hab (h.g.inj (hin a ha) (hin b hb) e)) Jg
  ·rw [sj, List.mem_map, h.pe]
   constructor
   ·rintro ⟨t', ht', v', oK, rfl⟩
    obtain ⟨t,ht,rfl⟩:=List.mem_map.1 ht'
    have hT:=B7 h.si t ht
    rw [h.gR hT] at oK
    obtain ⟨v,hv,rfl⟩:=List.mem_map.1 oK
    exact ⟨_,sj.2 ⟨t,ht,v,hv,rfl⟩,by rw [h.msg (h.tu hT hv).1];rfl⟩
   ·rintro ⟨a, ha, rfl⟩
    obtain ⟨t,ht,v,hv,rfl⟩:=sj.1 ha
    have hT:=B7 h.si t ht
    exact ⟨f t,List.mem_map.2 ⟨t,ht,rfl⟩,f v,by rw [h.gR hT];exact List.mem_map.2 ⟨v,hv,rfl⟩,by rw [h.msg (h.tu hT hv).1];rfl⟩
 rw [hp.length_eq,List.length_map]
end
end Go.Proofs.Tryz
end
section
namespace Go.Proofs.Tryz
open Go.AM
set_option maxRecDepth 100000
set_option maxHeartbeats 2000000
def cat (a b:ByteArray):ByteArray:=gF (bA a++bA b)
def kN (k:Int):ByteArray:=cat (pQ 97 k) (bs [48])
def fN (k:Int) (x:ByteArray):ByteArray:=if x.size=0 then bs [] else cat x (kN k)
def gN (a:ByteArray):ByteArray:=if a.size=0 then bs [] else cat (bs [113]) a
theorem Zn:((List.range 26).all fun k=>r9.all fun x=>(r9.all fun y=>slt (fN k x) (fN k y)==slt x y)&&(x.size==0||cR (fN k x))&&decide ((fN k x).size≤3)&&decide ((kN k).size≤2))=true:=by kernel_rfl
theorem Zo:(PX.all fun x=>(PX.all fun y=>slt (gN x) (gN y)==slt x y)&&(x.size==0||cR (gN x))&&decide ((gN x).size≤3)&&decide (x.size≤1))=true:=by kernel_rfl
theorem Ez:∀x∈gT,x.size=1:=by decide
theorem ad9:∀x∈r9,x.size≤1:=by decide
theorem B9:∀x∈gP,x.size=1:=by decide
section
variable {k:Int}
theorem EA (h0:0≤k) (h1:k<26):Mon r9 (fN k)∧(∀x∈gT,cR (fN k x)=true∧Sh (fN k x))∧(kN k).size≤2:=by
 obtain ⟨n,rfl⟩:∃n:Nat,k=(n:Int):=⟨k.toNat,by omega⟩
 have h:=List.all_eq_true.1 Zn n (List.mem_range.2 (by omega))
 rw [List.all_eq_true] at h
 have hx:=fun x hx=>h x hx
 simp only [Bool.and_eq_true,Bool.or_eq_true,decide_eq_true_eq,List.all_eq_true,beq_iff_eq] at hx
 refine ⟨⟨fun x hx' y hy=>(hx x hx').1.1.1 y hy⟩,fun x hx'=>⟨?_,?_⟩,(hx (bs []) (List.mem_cons_self ..)).2⟩
 ·rcases (hx x (cH hx')).1.1.2 with h | h
  ·rw [Ez x hx'] at h;cases h
  ·exact h
 ·have := (hx x (cH hx')).1.2
  unfold Sh;omega
theorem PF:Mon PX gN∧∀x∈gP,cR (gN x)=true∧Sh (gN x):=by
 have h:=Zo
 rw [List.all_eq_true] at h
 have hx:=fun x hx=>h x hx
 simp only [Bool.and_eq_true,Bool.or_eq_true,decide_eq_true_eq,List.all_eq_true,beq_iff_eq] at hx
 refine ⟨⟨fun x hx' y hy=>(hx x hx').1.1.1 y hy⟩,fun x hx'=>⟨?_,?_⟩⟩
 ·rcases (hx x (List.mem_cons_of_mem _ hx')).1.1.2 with h | h
  ·rw [B9 x hx'] at h;cases h
  ·exact h
 ·have := (hx x (List.mem_cons_of_mem _ hx')).1.2
  unfold Sh;omega
theorem GJ {x:ByteArray} (hx:x∈gT):fN k x=cat x (kN k):=by unfold fN;rw [if_neg (by rw [Ez x hx];omega)]
theorem Zp {x:ByteArray} (hx:x∈gP):gN x=cat (bs [113]) x:=by unfold gN;rw [if_neg (by rw [B9 x hx];omega)]
theorem Zq:fN k (bs [])=bs []:=rfl
theorem Jh {x:ByteArray}:x.size=0↔x=bs []:=by
 constructor
 ·intro h
  have hl:(bA x).length=0:=by rw [tZ];exact h
  obtain ⟨d⟩:=x
  unfold bA at hl
  rw [List.length_map] at hl
  have:=Array.toList_eq_nil_iff.1 (List.length_eq_zero_iff.1 hl)
  simp only at this
  rw [this]
  rfl
 ·rintro rfl;rfl
theorem Uc {m:Mg} (h:nA m=0):¬(m.2.1<1∨3<m.2.1)∧cR m.1=true∧iS m=0∧gX m=0:=by
 unfold nA at h
 split at h
 ·cases h
 ·rename_i h1
  split at h
  ·rename_i h2
   unfold uF at h
   by_cases ho:iS m=0
   ·by_cases he : gX m = 0
    ·exact ⟨h1,h2,ho,he⟩
    ·simp [ho,he] at h
   ·simp [ho] at h
  ·cases h
theorem Ji (h0:0≤k) (h1:k<26) {m:Mg} (h:Zj m):nA (eO (fN k) gN m)=0∧IM (eO (fN k) gN m):=by
 obtain ⟨hf,hfn,_⟩:=EA h0 h1
 obtain ⟨hg,UL⟩:=PF
 obtain ⟨c1,c2,c3,c4⟩:=Uc h.nA
 have hn:=B8 h
 have e0:Sh (bs []):=by unfold Sh;decide
 have ho:iS (eO (fN k) gN m)=0:=by
  unfold iS at c3 ⊢
  show (if m.2.1=1 then (if fN k m.2.2.1=bs [] then (0:Int) else 22) else if cR (fN k m.2.2.1)=true then (if fN k m.2.2.1=fN k m.1 then 22 else 0) else 8)=0
  by_cases h1:m.2.1=1
  ·rw [if_pos h1] at c3 ⊢
   split at c3
   ·rename_i e;rw [e,if_pos Zq]
   ·cases c3
  ·have hi := h.of h1
   rw [if_neg h1] at c3 ⊢
   rw [if_pos (hfn _ hi).1]
   split at c3
   ·split at c3
    ·cases c3
    ·rename_i hne
     rw [if_neg fun e=>hne (hf.inj hn.of (cH hn.id) e)]
   ·cases c3
 have he:gX (eO (fN k) gN m)=0:=by
  unfold gX at c4 ⊢
  show (if m.2.1=3 then (if gN m.2.2.2.1=bs []∧m.2.2.2.2=0 then (0:Int) else 22) else if cR (gN m.2.2.2.1)=true then (if -1000≤m.2.2.2.2∧m.2.2.2.2≤1000 then 0 else 2) else 8)=0
  by_cases h3:m.2.1=3
  ·rw [if_pos h3] at c4 ⊢
   split at c4
   ·rename_i e;rw [e.1,if_pos ⟨rfl,e.2⟩]
   ·cases c4
  ·rw [if_neg h3] at c4 ⊢
   rw [if_pos (UL _ (h.acc h3)).1]
   split at c4
   ·exact c4
   ·cases c4
 refine ⟨?_,(hfn _ h.id).2,?_,?_⟩
 ·unfold nA
  rw [if_neg (show ¬((eO (fN k) gN m).2.1<1∨3<(eO (fN k) gN m).2.1) from c1),if_pos (show cR (eO (fN k) gN m).1=true from (hfn _ h.id).1),ho,he]
  exact I7
 ·rcases List.mem_cons.1 hn.of with e | hi
  ·show Sh (fN k m.2.2.1);rw [e];exact e0
  ·exact (hfn _ hi).2
 ·rcases List.mem_cons.1 hn.acc with e | hi
  ·show Sh (gN m.2.2.2.1);rw [e];exact e0
  ·exact (UL _ hi).2
theorem aea (h0:0≤k) (h1:k<26) {l:List Mg} (hl:l.length≤10) (hb:∀m∈l,Zj m) :
  iter (fun a=>ak (g11_0 a)) (l,kN k,(0:Nat),l,((l.length:Nat):Int),(0:Int),[],())=some (l,kN k,(l.map (eO (fN k) gN)).length,l.map (eO (fN k) gN),()):=by
 obtain ⟨hf,hfn,yf⟩:=EA h0 h1
 refine bf l (fun j (o : List Mg) => (l, kN k, o.length, l, ((l.length : Nat) : Int), (j : Int), o, ()))
  (fun o r=>(l,kN k,(o++r.map (eO (fN k) gN)).length,o++r.map (eO (fN k) gN),())) (fun pre o=>o.length≤pre.length) ?_ ?_ (s:=[]) (Nat.le_refl _)
 ·intro pre z post o hz ho
  have hlen:l.length=pre.length+(post.length+1):=by rw [hz];simp
  have hd:l.getD pre.length (bs [],(0:Int),bs [],bs [],(0:Int))=z:=by rw [hz];exact bx rfl
  have i1:fu (pre.length:Int) ((l.length:Nat):Int)=true:=bQ (by omega) (by omega)
  have r1:gm .i64 ((pre.length:Int)+1)=true:=aJ (by omega) (by omega)
  have d1:decide (o.length+1<cn)=true:=decide_eq_true (by rw [jD];omega)
  have Hf:=hb z (by rw [hz];simp)
  have ZE:=B8 Hf
  have s1:=Ez _ Hf.id
  have s2:=ad9 _ ZE.of
  have s3:z.2.2.2.1.size≤1:=by
   rcases List.mem_cons.1 ZE.acc with e|hi
   ·rw [e];decide
   ·rw [B9 _ hi];omega
  have s4:(bs [113]).size=1:=rfl
  have t1:gm .i64 (((z.1.size:Nat):Int)+(((kN k).size:Nat):Int))=true:=aJ (by omega) (by omega)
  have t2:gm .i64 (((z.2.2.1.size:Nat):Int)+(((kN k).size:Nat):Int))=true:=aJ (by omega) (by omega)
  have t3:gm .i64 ((((bs [113]).size:Nat):Int)+((z.2.2.2.1.size:Nat):Int))=true:=aJ (by omega) (by omega)
  have u1:gF (bA z.1++bA (kN k))=fN k z.1:=(GJ Hf.id).symm
  have u2:(if z.2.2.1=bs [] then z.2.2.1 else gF (bA z.2.2.1++bA (kN k)))=fN k z.2.2.1:=by
   unfold fN
   by_cases e:z.2.2.1=bs []
   ·rw [if_pos e,if_pos (Jh.2 e),e]
   ·rw [if_neg e,if_neg fun h=>e (Jh.1 h)];rfl
  have u3:(if z.2.2.2.1=bs [] then z.2.2.2.1 else gF (bA (bs [113])++bA z.2.2.2.1))=gN z.2.2.2.1:=by
   unfold gN
   by_cases e:z.2.2.2.1=bs []
   ·rw [if_pos e,if_pos (Jh.2 e),e]
   ·rw [if_neg e,if_neg fun h=>e (Jh.1 h)];rfl
  have e1:(([(fN k z.1,z.2.1,fN k z.2.2.1,gN z.2.2.2.1,z.2.2.2.2)]:List Mg).take 1)=[eO (fN k) gN z]:=rfl
  left
  refine ⟨o++[eO (fN k) gN z],?_,by simp;omega,by simp⟩
  simp only [g11_0,az,bC,aW,aZ,af,W2,Int.toNat_natCast,hd,i1,t1,t2,t3,ax,bw,dw,seq_eq,u1]
  rw [if_pos (by omega)]
  by_cases c1:z.2.2.1=bs []<;>by_cases c2:z.2.2.2.1=bs []
  ·rw [if_pos c1] at u2; rw [if_pos c2] at u3
   simp only [if_pos c1,if_pos c2,aF,FC]
   rw [u2]
   try simp only [FC,aF]
   rw [u3]
   simp only [t3,ax,aF,FC,List.drop_zero,e1,List.length_singleton,d1,r1,List.take_length,List.length_append]
   rfl
  ·rw [if_pos c1] at u2; rw [if_neg c2] at u3
   simp only [if_pos c1,if_neg c2,aF,FC]
   rw [u2]
   try simp only [FC,aF]
   rw [u3]
   simp only [t3,ax,aF,FC,List.drop_zero,e1,List.length_singleton,d1,r1,List.take_length,List.length_append]
   rfl
  ·rw [if_neg c1] at u2; rw [if_pos c2] at u3
   simp only [if_neg c1,if_pos c2,aF,FC]
   rw [u2]
   try simp only [FC,aF]
   rw [u3]
   simp only [t3,ax,aF,FC,List.drop_zero,e1,List.length_singleton,d1,r1,List.take_length,List.length_append]
   rfl
  ·rw [if_neg c1] at u2; rw [if_neg c2] at u3
   simp only [if_neg c1,if_neg c2,aF,FC]
   rw [u2]
   try simp only [FC,aF]
   rw [u3]
   simp only [t3,ax,aF,FC,List.drop_zero,e1,List.length_singleton,d1,r1,List.take_length,List.length_append]
   rfl
 ·intro o _
  simp only [g11_0,az,af,bw]
  rw [if_neg (by omega)]
  simp
theorem aeb (h0:0≤k) (h1:k<26) {A:List ByteArray} (hA:∀x∈A,x∈gT) (hl:A.length<1000000) {EK:List ByteArray} {v72 BK v109 BL BN BO BR nw:Int} {BM BQ ny:Bool} {n1 n2:Nat} {m4 m5:List (Mg×Bool)} :
  iter (fun a=>ak (g11_2 a)) (kN k,A.length,(A.map (fN k)).length,EK,v72,BK,v109,BL,BM,BN,BO,BQ,n1,BR,n2,nw,ny,((A.length:Nat):Int),(0:Int),A,A.map (fN k),m4,m5,()) =
   some (.inr (kN k,EK,v72,BK,v109,BL,BM,BN,BO,BQ,n1,BR,n2,nw,ny,A,A.map (fN k),m4,m5,())):=by
 obtain ⟨hf,hfn,yf⟩:=EA h0 h1
 refine qh A.length (fun j=>(kN k,A.length,(A.map (fN k)).length,EK,v72,BK,v109,BL,BM,BN,BO,BQ,n1,BR,n2,nw,ny,((A.length:Nat):Int),(j:Int),A,A.map (fN k),m4,m5,())) (fun j hj=>?_) ?_
 ·have i1 : fu (j : Int) ((A.length : Nat) : Int) = true := bQ (by omega) (by omega)
  have i2:fu (j:Int) (((A.map (fN k)).length:Nat):Int)=true:=bQ (by omega) (by rw [List.length_map];omega)
  have r1:gm .i64 ((j:Int)+1)=true:=aJ (by omega) (by omega)
  have d1:decide (j<A.length)=true:=decide_eq_true hj
  have d2:decide (j<(A.map (fN k)).length)=true:=decide_eq_true (by rw [List.length_map];exact hj)
  have hin:=hA _ (eu hj)
  have s1:=Ez _ hin
  have t1:gm .i64 ((((A.getD j (bs [])).size:Nat):Int)+(((kN k).size:Nat):Int))=true:=aJ (by omega) (by omega)
  have e1:(A.map (fN k)).getD j (bs [])=fN k (A.getD j (bs [])):=by
   rw [List.getD_eq_getElem?_getD,List.getD_eq_getElem?_getD,List.getElem?_map,List.getElem?_eq_getElem hj];rfl
  have u1:gF (bA (A.getD j (bs []))++bA (kN k))=fN k (A.getD j (bs [])):=(GJ hin).symm
  simp only [g11_2,az,bC,aW,aZ,af,Int.toNat_natCast,Nat.zero_add,i1,i2,d1,d2,r1,t1,ax,bw,e1,u1,seq_eq,decide_true,Bool.not_true,cD]
  rw [if_pos (by omega)]
  rfl
 ·simp only [g11_2, az, af, bw]
  rw [if_neg (by omega)]
theorem aec (h0:0≤k) (h1:k<26) {L L':List Mg} (hL:kG L) (hL':kG L') (hR:Ren (cnt L) (fN k) gN) (hc:cnt L'=(cnt L).map (eO (fN k) gN)) (hC:CN (cnt L)) :
  iter (fun a=>ak (g11_1 a)) (kN k,gT,((gT.length:Nat):Int),(0:Int),bk L,bk L',())=some (.inr (bk L,bk L',())):=by
 obtain ⟨hf,hfn,yf⟩:=EA h0 h1
 have h8:gT.length=8:=rfl
 refine qh 8 (fun j=>(kN k,gT,((gT.length:Nat):Int),(j:Int),bk L,bk L',())) (fun j hj=>?_) ?_
 ·have i1 : fu (j : Int) ((gT.length : Nat) : Int) = true := bQ (by omega) (by omega)
  have r1:gm .i64 ((j:Int)+1)=true:=aJ (by omega) (by omega)
  have hin:=eu (l:=gT) (k:=j) (by omega)
  have s1:=Ez _ hin
  have t1:gm .i64 ((((gT.getD j (bs [])).size:Nat):Int)+(((kN k).size:Nat):Int))=true:=aJ (by omega) (by omega)
  have u1:gF (bA (gT.getD j (bs []))++bA (kN k))=fN k (gT.getD j (bs [])):=(GJ hin).symm
  have h32:=Y9 hL (gT.getD j (bs []))
  have h33:=Za hL (gT.getD j (bs []))
  have h32':=Y9 hL' (fN k (gT.getD j (bs [])))
  have h33':=Za hL' (fN k (gT.getD j (bs [])))
  rw [hc,hR.state hin] at h32'
  rw [hc,hR.vers hin] at h33'
  have hvi:∀y∈(jv (cnt L) (gT.getD j (bs []))).1,y∈gT:=by
   unfold jv
   split
   ·rename_i hM
    split
    ·rename_i Uj
     obtain ⟨q1,q2⟩:=k7 hC.si hM
     exact fun y hy=>(hR.tu ⟨_,q1,q2,Uj⟩ hy).2
    ·intro y hy;cases hy
   ·intro y hy;cases hy
  have hvl:=KT hL (gT.getD j (bs []))
  have LI:(jv (cnt L) (gT.getD j (bs []))).1.length<1000000:=by
   unfold jv
   split
   ·rename_i hM
    split
    ·rename_i Uj
     have:=BW hC.si hM Uj
     have:=hC.len
     simp only;omega
    ·simp
   ·simp
  simp only [g11_1,az,bC,aW,aZ,aD,bN,af,Int.toNat_natCast,i1,t1,ax,bw]
  generalize gT.getD j (bs [])=x at *
  rw [if_pos (by omega),av h32]
  simp only [u1]
  rw [av h32']
  simp only
  rw [av h33]
  simp only
  rw [av h33']
  simp only [beq_self_eq_true,Bool.not_true,cD,List.length_map]
  have h112:=fun {v72 BK v109 BL BN BO BR nw:Int} {BM BQ ny:Bool} {n1 n2:Nat}=>aeb h0 h1 hvi LI (EK:=gT) (v72:=v72) (BK:=BK) (v109:=v109) (BL:=BL) (BN:=BN) (BO:=BO) (BR:=BR) (nw:=nw) (BM:=BM) (BQ:=BQ) (ny:=ny) (n1:=n1) (n2:=n2) (m4:=bk L) (m5:=bk L')
  rw [List.length_map] at h112
  refine Eq.trans (av h112) ?_
  simp only [lD,aZ,af,r1,ax]
  rfl
 ·simp only [g11_1, az, af, bw]
  rw [if_neg (by omega)]
theorem aeg {L L':List Mg} (hL:kG L) (hL':kG L') (hR:Ren (cnt L) (fN k) gN) (hc:cnt L'=(cnt L).map (eO (fN k) gN)) :
  iter (fun a=>ak (g11_3 a)) (gP,((gP.length:Nat):Int),(0:Int),bk L,bk L',())=some (.inr (bk L,bk L',())):=by
 obtain ⟨hg,UL⟩:=PF
 have h3:gP.length=3:=rfl
 refine qh 3 (fun j=>(gP,((gP.length:Nat):Int),(j:Int),bk L,bk L',())) (fun j hj=>?_) ?_
 ·have i1 : fu (j : Int) ((gP.length : Nat) : Int) = true := bQ (by omega) (by omega)
  have r1:gm .i64 ((j:Int)+1)=true:=aJ (by omega) (by omega)
  have hin:=eu (l:=gP) (k:=j) (by omega)
  have s1:=B9 _ hin
  have s2:(bs [113]).size=1:=rfl
  have t1:gm .i64 ((((bs [113]).size:Nat):Int)+(((gP.getD j (bs [])).size:Nat):Int))=true:=aJ (by omega) (by omega)
  have u1:gF (bA (bs [113])++bA (gP.getD j (bs [])))=gN (gP.getD j (bs [])):=(Zp hin).symm
  have h23:=Pd hL (TU _ hin)
  have h23':=Pd hL' (UL _ hin).2
  rw [hc,hR.tot hin (KV _ hin) (UL _ hin).1] at h23'
  have htl:=Pp hL (gP.getD j (bs []))
  simp only [g11_3,az,bC,aW,aZ,aD,bN,af,Int.toNat_natCast,i1,t1,ax,bw]
  rw [if_pos (by omega),av h23]
  simp only [u1]
  rw [av h23']
  simp only [List.drop_zero,List.take_length]
  rw [av (k27 htl)]
  simp only [decide_true,beq_self_eq_true,Bool.not_true,cD,r1,ax]
  rfl
 ·simp only [g11_3, az, af, bw]
  rw [if_neg (by omega)]
end
theorem k38n:ak F38=some (gP,()):=rfl
theorem k11 {p:List Nu} {w:Int} (hp:∀x∈p,PV x) (hw:U8 w):ak (F11 p w)=some (true,()):=by
 have hml:=Af p
 have hL:=kG.told (gy p)
 have hC:=T6 hp
 have hw1:=hw.1
 have hw2:=hw.2
 have tw:=EN hw1 26 (by omega)
 have hby:=yb hp
 obtain ⟨hf,hfn,yf⟩:=EA tw.1 tw.2
 obtain ⟨hg,UL⟩:=PF
 have hgd:Gd ((gy p).map (eO (fN (Int.tmod w 26)) gN)):=fun m hm=>by
  obtain ⟨x,hx,rfl⟩:=List.mem_map.1 hm
  exact (Ji tw.1 tw.2 (hby x hx)).1
 have hshm:∀m∈(gy p).map (eO (fN (Int.tmod w 26)) gN),IM m:=fun m hm=>by
  obtain ⟨x,hx,rfl⟩:=List.mem_map.1 hm
  exact (Ji tw.1 tw.2 (hby x hx)).2
 have hto:=PB hf hg (l:=gy p) (fun m hm=>B8 (hby m hm)) (vo hp) hgd (by omega)
 have hL':=kG.told ((gy p).map (eO (fN (Int.tmod w 26)) gN))
 have hnm:∀m∈iU (gy p),T8 m:=fun m hm=>B8 (hby m ((kD (vo hp) (by omega) m).1 hm))
 have hcn:cnt (iU ((gy p).map (eO (fN (Int.tmod w 26)) gN)))=(cnt (iU (gy p))).map (eO (fN (Int.tmod w 26)) gN):=by
  have h':=hL'.s
  rw [hto] at h' ⊢
  exact Ua hf hg hL.s hnm h'
 have hR:Ren (cnt (iU (gy p))) (fN (Int.tmod w 26)) gN:=⟨hC.si,hC.k3,by rw [←hcn];exact dS _,fun m hm=>hnm m (mQ hm),hf,hg⟩
 have e2:(bs [48]).size=1:=rfl
 have e1:((pQ 97 (Int.tmod w 26)).size)=1:=lt_size _ _
 have eN:gF (bA (pQ 97 (Int.tmod w 26))++bA (bs [48]))=kN (Int.tmod w 26):=rfl
 have e26:(!((26:Int)==0))=true:=by decide
 unfold F11
 simp only [aD]
 rw [av (k28 hp)]
 simp only [aZ,aW,aD]
 rw [lV (by omega) (by omega),fU e26,av (k43 (by omega) tw.1 (by omega))]
 simp only [bN]
 rw [lV (by omega) (by omega),eN,av (aea tw.1 tw.2 hml hby)]
 simp only
 rw [av (Tw (by omega) (TT p))]
 simp only
 rw [av (TV (by rw [List.length_map];omega) hshm)]
 simp only
 rw [av k31]
 simp only
 refine Eq.trans (av (aec tw.1 tw.2 hL hL' hR hcn hC)) ?_
 simp only [lD,aD]
 rw [av k38n]
 simp only [bN]
 refine Eq.trans (av (aeg hL hL' hR hcn)) ?_
 simp only [lD,aD]
 rw [av (Zc hL)]
 simp only
 rw [av (Zc hL'),hcn,hR.accs]
 simp only [az,beq_self_eq_true,eG,aD]
 rw [av k17]
 rfl
theorem aei (p:List Nu) (w:Int) (hW:Dp [.list nuT,ZU] (p,w,())):ak (F11 p w)=some (true,()):=k11 (fun x hx=>ad6 (hW.1.2 x hx)) (Ev hW.2.1)
end Go.Proofs.Tryz
end
