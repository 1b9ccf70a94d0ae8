/- Maps that are kept in order: what stands in them. Plain Lean. Messages: names, what is wrong with them. Books: telling, all messages in order. DeleteFunc, Clone, the keys of maps. The messages that count, and what they say of each other. Striking: what is struck, and what corrects it. A book's desk. The versions of a ticket. The versions of a ticket: walked. States and versions. Sums. Spans, sums, accounts. The examples: what works() and Known come to. Messages by numbers. Books that were told good messages. Joins; books that answer the same. TicketOrder. TicketOrder: the row. TicketKept. Ways up to a ticket. Struck, the chain, versions: walked. Ways up: what they say. The messages that count: the first of each id. TicketStates. TicketExact. TicketExact: what the ways say. A book that was told one message more. TicketRuled. -/
import Derived.Test.YthemjfloiapaaaaGreatW31
set_option linter.unusedSectionVars false
set_option linter.unusedVariables false
set_option linter.unusedSimpArgs false
section
namespace Go.AM
theorem ja {α : Type} {r : α → α → Prop} (irr : ∀ a, ¬ r a a) (asy : ∀ a b, r a b → ¬ r b a) : ∀ {l l' : List α}, l.Pairwise r → l'.Pairwise r → (∀ x, x ∈ l ↔ x ∈ l') → l = l'
 |[],[],_,_,_=>rfl
 |[],b::s,_,_,h=>by have:=(h b).2 (List.mem_cons_self ..);cases this
 |a::r',[],_,_,h=>by have:=(h a).1 (List.mem_cons_self ..);cases this
 |a::l,b::s,h1,h2,h=>by
  rw [List.pairwise_cons] at h1 h2
  have e:a=b:=by
   rcases List.mem_cons.1 ((h a).1 (List.mem_cons_self ..)) with e|ha
   ·exact e
   rcases List.mem_cons.1 ((h b).2 (List.mem_cons_self ..)) with e|hb
   ·exact e.symm
   ·exact absurd (h2.1 a ha) (asy _ _ (h1.1 b hb))
  subst e
  rw [ja irr asy h1.2 h2.2 fun x=>?_]
  constructor
  ·intro hx
   rcases List.mem_cons.1 ((h x).1 (List.mem_cons_of_mem _ hx)) with e|hx'
   ·subst e;exact absurd (h1.1 x hx) (irr x)
   ·exact hx'
  ·intro hx
   rcases List.mem_cons.1 ((h x).2 (List.mem_cons_of_mem _ hx)) with e|hx'
   ·subst e;exact absurd (h2.1 x hx) (irr x)
   ·exact hx'
section
variable {t:Ty} {ks:List Kd} {β:Type}
theorem j5 (hk:bL t=some ks) {x:t.den}:dV t x x=true:=kW x hk
theorem C7 (hk:bL t=some ks) {x y:t.den}:dV t x y=true↔x=y:=⟨bS,fun h=>by subst h;exact j5 hk⟩
theorem fq (hk:bL t=some ks) (x:t.den):fE t x x=false:=by
 cases h:fE t x x with
 |false=>rfl
 |true=>exact (di hk h h).elim
theorem WG (hk:bL t=some ks) {x y:t.den} (h:fE t x y=true):dV t x y=false:=by
 cases h':dV t x y with
 |false=>rfl
 |true=>rw [bS h',fq hk] at h;cases h
def iq (t:Ty) (es:List (t.den×β)):Prop:=es.Pairwise fun a b=>fE t a.1 b.1=true
theorem iq.kd (hk:bL t=some ks) {es:List (t.den×β)} (h:iq t es):KD t es:=List.Pairwise.imp (fun h=>WG hk h) h
theorem FQ {es:List (t.den×β)} {x:t.den} {v:β} {e:t.den×β}:e∈qt t es x v↔e=(x,v)\/e∈es:=by
 rw [kj.mem_iff];simp
theorem iq.mins (hk : bL t = some ks) {x : t.den} {v : β} : ∀ {es : List (t.den × β)}, iq t es → aR t es x = false → iq t (qt t es x v)
 |[],_,_=>by unfold iq;simp [qt]
 |e::r,h,hn=>by
  unfold iq at h
  rw [List.pairwise_cons] at h
  have hne:=uc hn (List.mem_cons_self ..)
  have hnr:aR t r x=false:=by simpa [aR,hne] using hn
  unfold qt
  split
  ·rename_i hlt
   unfold iq
   rw [List.pairwise_cons]
   refine ⟨fun b hb=>?_,List.pairwise_cons.2 h⟩
   rcases List.mem_cons.1 hb with rfl|hb
   ·exact hlt
   ·exact gX hk hlt (h.1 b hb)
  ·rename_i hlt
   unfold iq
   rw [List.pairwise_cons]
   refine ⟨fun b hb=>?_,iq.mins hk h.2 hnr⟩
   rcases FQ.1 hb with rfl|hb
   ·cases hlt':fE t e.1 x with
    |true=>rfl
    |false =>
     have:=gb hk (by simpa using hlt) hlt'
     rw [this,j5 hk] at hne;cases hne
   ·exact h.1 b hb
theorem iq.iG (hk:bL t=some ks) {x:t.den} {v:β} {es:List (t.den×β)} (h:iq t es):iq t (bq t es x v):=by
 unfold bq
 split
 ·unfold iq
  rw [List.pairwise_map]
  refine List.Pairwise.imp ?_ h
  intro a b hab
  split<;>split
  ·rename_i h1 h2
   rw [<-bS h1,<-bS h2,fq hk] at hab;cases hab
  ·rename_i h1 h2
   rw [<-bS h1] at hab;exact hab
  ·rename_i h1 h2
   rw [<-bS h2] at hab;exact hab
  ·exact hab
 ·rename_i hn
  exact h.mins hk (by simpa using hn)
theorem dJ (hk:bL t=some ks) {es:List (t.den×β)} {x:t.den}:aR t es x=true↔∃v,(x,v)∈es:=by
 unfold aR
 rw [List.any_eq_true]
 constructor
 ·rintro ⟨e,he,hx⟩;rw [bS hx];exact ⟨e.2,he⟩
 ·rintro ⟨v,hv⟩;exact ⟨_,hv,j5 hk⟩
theorem gF (hk:bL t=some ks) {es:List (t.den×β)} {x:t.den} {v d:β} (h:iq t es) (hm:(x,v)∈es):az t d es x=v:=nD (h.kd hk) hm (j5 hk)
theorem fP (hk:bL t=some ks) {es:List (t.den×β)} {x:t.den} {v:β} (h:iq t es) {e:t.den×β}:e∈bq t es x v↔e=(x,v)\/(e∈es/\e.1≠x):=by
 unfold bq
 split
 ·rename_i hh
  obtain ⟨u,hu⟩:=(dJ hk).1 hh
  rw [List.mem_map]
  constructor
  ·rintro ⟨e', he', rfl⟩
   split
   ·exact .inl rfl
   ·rename_i hne;exact .inr ⟨he',fun e=>hne (by rw [e];exact j5 hk)⟩
  ·rintro (rfl | ⟨he, hne⟩)
   ·exact ⟨(x,u),hu,by simp [j5 hk]⟩
   ·exact ⟨e,he,by rw [if_neg];intro h;exact hne (bS h).symm⟩
 ·rename_i hh
  rw [FQ]
  constructor
  ·rintro (h | h)
   ·exact .inl h
   ·refine .inr ⟨h, fun e' => hh ?_⟩
    rw [<-e'];exact (dJ hk).2 ⟨_,h⟩
  ·rintro (h | h)
   ·exact .inl h
   ·exact .inr h.1
theorem Nl (hk:bL t=some ks) {es:List (t.den×β)} {x y:t.den} {v d:β} (h:iq t es):az t d (bq t es x v) y=if dV t y x=true then v else az t d es y:=by
 have hc:=h.iG (x:=x) (v:=v) hk
 split
 ·rename_i e; have e := bS e; subst e
  exact gF hk hc ((fP hk h).2 (.inl rfl))
 ·rename_i e0
  have e:y≠x:=fun h=>e0 ((C7 hk).2 h)
  cases hm:aR t es y with
  |true =>
   obtain ⟨u,hu⟩:=(dJ hk).1 hm
   rw [gF hk h hu]
   exact gF hk hc ((fP hk h).2 (.inr ⟨hu,e⟩))
  |false =>
   rw [gQ hm,gQ]
   cases hm':aR t (bq t es x v) y with
   |false=>rfl
   |true =>
    obtain ⟨u,hu⟩:=(dJ hk).1 hm'
    rcases (fP hk h).1 hu with e'|⟨h',_⟩
    ·cases e';exact absurd rfl e
    ·rw [(dJ hk).2 ⟨u,h'⟩] at hm;cases hm
theorem qf (hk:bL t=some ks) {es:List (t.den×β)} {x y:t.den} {v:β} (h:iq t es):aR t (bq t es x v) y=(dV t y x||aR t es y):=by
 rw [Bool.eq_iff_iff,dJ hk,Bool.or_eq_true,C7 hk,dJ hk]
 constructor
 ·rintro ⟨u, hu⟩
  rcases (fP hk h).1 hu with e|⟨h',_⟩
  ·cases e;exact .inl rfl
  ·exact .inr ⟨u,h'⟩
 ·by_cases e : y = x
  ·subst e;exact fun _=>⟨v,(fP hk h).2 (.inl rfl)⟩
  ·rintro (h' | ⟨u, hu⟩)
   ·exact absurd h' e
   ·exact ⟨u,(fP hk h).2 (.inr ⟨hu,e⟩)⟩
theorem KE (hk:bL t=some ks) {es es':List (t.den×β)} (h:iq t es) (h':iq t es') (hm:∀e,e∈es↔e∈es'):es=es' :=
 ja (r:=fun a b:t.den×β=>fE t a.1 b.1=true) (fun a h=>by rw [fq hk] at h;cases h) (fun a b h1 h2=>di hk h1 h2) h h' hm
theorem iq.keys (hk:bL t=some ks) {es:List (t.den×β)} (h:iq t es):Bf t (es.map (·.1)):=by
 unfold Bf
 rw [List.pairwise_map]
 refine List.Pairwise.imp (fun {a b} hab=>?_) h
 cases hba:fE t b.1 a.1 with
 |false=>rfl
 |true=>exact (di hk hab hba).elim
theorem iq.nil:iq (β:=β) t []:=List.Pairwise.nil
theorem RQ {es:List (t.den×Bool)} (hk:bL t=some ks) (h:iq t es) (ht:∀e∈es,e.2=true) {x:t.den}:∀e∈bq t es x true,e.2=true:=fun e he=>by
 rcases (fP hk h).1 he with rfl|⟨h',_⟩
 ·rfl
 ·exact ht e h'
theorem RR {es:List (t.den×Bool)} (hk:bL t=some ks) (h:iq t es) (ht:∀e∈es,e.2=true) {x:t.den}:az t false es x=aR t es x:=by
 cases hm:aR t es x with
 |false=>exact gQ hm
 |true =>
  obtain ⟨u,hu⟩:=(dJ hk).1 hm
  rw [gF hk h hu];exact ht _ hu
theorem RT (hk:bL t=some ks) {es es':List (t.den×Bool)} (h:iq t es) (h':iq t es') (ht:∀e∈es,e.2=true) (ht':∀e∈es',e.2=true) (hm:∀x,aR t es x=aR t es' x):es=es':=by
 refine KE hk h h' fun e=>?_
 have key:∀{es es':List (t.den×Bool)},(∀e∈es,e.2=true)->(∀e∈es',e.2=true)->(∀x,aR t es x=aR t es' x)->e∈es->e∈es':=fun {es es'} ht ht' hm he=>by
  have h1:aR t es' e.1=true:=by rw [<-hm];exact (dJ hk).2 ⟨e.2,he⟩
  obtain ⟨u,hu⟩:=(dJ hk).1 h1
  have e1:=ht e he
  have e2:=ht' _ hu
  obtain ⟨a,b⟩:=e
  simp only at e1 e2;subst e1;subst e2;exact hu
 exact ⟨key ht ht' hm,key ht' ht fun x=>(hm x).symm⟩
end
end Go.AM
end
section
namespace Go.Proofs.Tryz
open Go.AM
set_option maxRecDepth 100000
abbrev Mg:=ByteArray×Int×ByteArray×ByteArray×Int
abbrev tM:Ty:=.prod .str (.prod (.int .i64) (.prod .str (.prod .str (.int .i64))))
abbrev kM:bL tM=some [.s,.i,.s,.s,.i]:=rfl
abbrev kS:bL .str=some [.s]:=rfl
theorem seq_eq (a b:ByteArray):seq a b=decide (a=b):=by
 unfold seq
 rw [Go.ByteArray.toList_eq,Go.ByteArray.toList_eq]
 by_cases h:a=b
 ·subst h;simp
 ·rw [decide_eq_false h, beq_eq_false_iff_ne]
  intro e;apply h
  obtain ⟨x⟩:=a;obtain ⟨y⟩:=b
  simp at e;rw [e]
theorem tu (a b:ByteArray):dV .str a b=decide (a=b):=by
 rw [<-seq_eq];simp only [dV,seq,Go.ByteArray.toList_eq]
def nZ (i:Nat) (b:Int):Bool:=decide (97<=b/\b<=122)||decide (i≠0/\48<=b/\b<=57)
def KF : Nat → List Int → Bool
 |_,[]=>true
 |i,b::r=>nZ i b&&KF (i+1) r
def jG (s:ByteArray):Bool:=KF 0 (fH s)&&decide (0<s.size/\s.size<=10)
theorem k65 (s:ByteArray) (hs:s.size<1000000000):ai (F65 s)=some (jG s,()):=by
 have hl:(fH s).length=s.size:=vm s
 unfold F65
 simp only [aA,bn]
 refine bind_eq (aQ (fH s) (fun k (_:Nat)=>(s,fH s,((fH s).length:Int),(k:Int),())) (fun i r=>if KF i r=true then .inr (s,()) else .inl ()) (fun pre i=>i=pre.length) ?_ ?_ (s:=0) rfl) ?_
 ·intro pre x post i hx hi
  subst hi
  have hlen:(fH s).length=pre.length+(post.length+1):=by rw [hx];simp
  have hd:(fH s).getD pre.length 0=x:=by rw [hx];exact aT rfl
  have key:run (fun _=>none) (g65_0 (s,fH s,((fH s).length:Int),(pre.length:Int),()))=if nZ pre.length x=true then some (.inl (s,fH s,((fH s).length:Int),((pre.length+1:Nat):Int),())) else some (.inr (.inl ())):=by
   simp only [g65_0,aj,aJ,aI,aS,aa,Int.toNat_natCast,hd,aK,aZ]
   rw [if_pos (by omega),EG (by omega) (by omega)]
   unfold nZ;simp only [Bool.or_eq_true,decide_eq_true_eq]
   by_cases h1:x<97
   ·rw [if_pos h1]
    by_cases h2:(pre.length:Int)=0
    ·rw [if_pos h2,if_neg (by omega)]
    ·rw [if_neg h2]
     by_cases h3:x<48
     ·rw [if_pos h3,if_neg (by omega)]
     ·rw [if_neg h3]
      by_cases h4:57<x
      ·rw [if_pos h4,if_neg (by omega)]
      ·rw [if_neg h4, if_pos, sJ (by omega) (by omega)]; · rfl
       omega
   ·rw [if_neg h1]
    by_cases h5:122<x
    ·rw [if_pos h5]
     by_cases h2:(pre.length:Int)=0
     ·rw [if_pos h2,if_neg (by omega)]
     ·rw [if_neg h2]
      by_cases h3:x<48
      ·omega
      ·rw [if_neg h3,if_pos (by omega),if_neg (by omega)]
    ·rw [if_neg h5, if_pos, sJ (by omega) (by omega)]; · rfl
     omega
  rw [key]
  by_cases hb:nZ pre.length x=true
  ·left
   exact ⟨pre.length+1,by rw [if_pos hb],by simp,by simp [KF,hb]⟩
  ·right
   rw [if_neg hb]
   have:KF pre.length (x::post)=false:=by simp [KF,hb]
   simp [this]
 ·intro i _
  simp only [g65_0,aj,aK]
  rw [if_neg (by omega)]
  simp [KF,aa]
 ·unfold jG
  by_cases h:KF 0 (fH s)=true
  ·rw [if_pos h, h]
   simp only [iW,aj,aa,aK]
   by_cases h0:(0:Int)<((s.size:Nat):Int)
   ·rw [if_pos h0, Bool.true_and]
    congr 2
    exact decide_eq_decide.2 (by omega)
   ·rw [if_neg h0]
    simp;omega
  ·rw [if_neg h]
   simp [h,mg,aa]
def FR (l:List Int):Int:=(l.find? (· != 0)).getD 0
theorem k86 (l:List Int) (hl:l.length<1000000000):ai (F86 l)=some (FR l,()):=by
 unfold F86
 simp only [aA,bn]
 refine bind_eq (aQ l (fun k (_:Nat)=>((0:Int),l,((l.length:Nat):Int),(k:Int),())) (fun i r=>if (r.find? (· != 0)).isSome then .inl (FR r,()) else .inr (0,())) (fun pre i=>i=pre.length) ?_ ?_ (s:=0) rfl) ?_
 ·intro pre x post i hx hi
  subst hi
  have hlen:l.length=pre.length+(post.length+1):=by rw [hx];simp
  have hd:l.getD pre.length 0=x:=by rw [hx];exact aT rfl
  have hin:bT (pre.length:Int) (l.length:Int)=true:=aP (by omega) (by omega)
  have hni:dc .i64 ((pre.length:Int)+1)=true:=aD (by omega) (by omega)
  by_cases h:x=0
  ·left
   refine ⟨pre.length+1,?_,by simp,by simp [h,FR]⟩
   simp only [g86_0,aj,aJ,aI,aa,Int.toNat_natCast,hd,aK,aZ,bx,hin,hni,af]
   rw [if_pos (by omega),if_pos h];rfl
  ·right
   simp only [g86_0,aj,aJ,aI,aa,Int.toNat_natCast,hd,aK,aZ,bx,hin,hni,af]
   rw [if_pos (by omega),if_neg h]
   simp [h,FR]
 ·intro i _
  simp only [g86_0,aj,aK]
  rw [if_neg (by omega)]
  simp [aa]
 ·cases h:(l.find? (· != 0)).isSome with
  |true=>rw [if_pos rfl];simp only [mg,aa]
  |false =>
   rw [if_neg (by simp)]
   have:FR l=0:=by
    unfold FR
    cases h':l.find? (· != 0) with
    |none=>rfl
    |some _=>rw [h'] at h;cases h
   rw [this];simp only [iW,aa]
def vA (m:Mg):Int:=if m.2.1=1 then (if m.2.2.1=bs [] then 0 else 22) else if jG m.2.2.1=true then (if m.2.2.1=m.1 then 22 else 0) else 8
def qH (m:Mg):Int:=if m.2.1=3 then (if m.2.2.2.1=bs []/\m.2.2.2.2=0 then 0 else 22) else if jG m.2.2.2.1=true then (if -1000<=m.2.2.2.2/\m.2.2.2.2<=1000 then 0 else 2) else 8
def zx (m:Mg):Int:=if m.2.1<1\/3<m.2.1 then 18 else if jG m.1=true then FR [vA m,qH m] else 8
def Sh (s:ByteArray):Prop:=s.size<1000000000
def SR (m:Mg):Prop:=Sh m.1/\Sh m.2.2.1/\Sh m.2.2.2.1
theorem k87 (m:Mg) (h:SR m):ai (F87 m)=some (vA m,()):=by
 unfold F87 vA
 simp only [aj,aA,aa,aZ,k65 _ h.2.1,aF,bx,seq_eq,aK]
 split
 ·split<;>rfl
 ·rw [jR]
  split
  ·split<;>rfl
  ·rfl
theorem k88 (m:Mg) (h:SR m):ai (F88 m)=some (qH m,()):=by
 unfold F88 qH
 simp only [aj,aA,aa,aZ,k65 _ h.2.2,aF,bx,seq_eq,aK]
 split
 ·by_cases h1 : m.2.2.2.1 = bs []
  ·by_cases h2:m.2.2.2.2=0<;>simp [h1,h2]
  ·simp [h1]
 ·rw [jR]
  split
  ·by_cases h1 : m.2.2.2.2 < -1000
   ·rw [if_pos h1,if_neg (by omega)]
   ·rw [if_neg h1]
    by_cases h2:1000<m.2.2.2.2
    ·rw [if_pos h2,if_neg (by omega)]
    ·rw [if_neg h2,if_pos (by omega)]
  ·rfl
theorem k55 (m:Mg) (h:SR m):ai (F55 m)=some (zx m,()):=by
 have h86:=k86 [vA m,qH m] (by simp)
 unfold F55 zx
 simp only [aj,aA,aa,aK,k65 _ h.1,aF,bx,k87 m h,k88 m h]
 have hl:((vA m::qH m::[]).drop 0).take 2=[vA m,qH m]:=rfl
 simp only [hl,h86,aF]
 by_cases h1:m.2.1<1
 ·rw [if_pos h1,if_pos (.inl h1)]
 ·rw [if_neg h1]
  by_cases h2:3<m.2.1
  ·rw [if_pos h2,if_pos (.inr h2)]
  ·rw [if_neg h2, if_neg (by omega), jR]
   split<;>rfl
end Go.Proofs.Tryz
end
section
namespace Go.Proofs.Tryz
open Go.AM
set_option maxRecDepth 100000
def bk (L:List Mg):List (Mg×Bool):=L.map fun m=>(m,true)
def SL (L:List Mg):Prop:=L.Pairwise fun a b=>fE tM a b=true
theorem SL.can {L:List Mg} (h:SL L):iq tM (bk L):=by
 unfold iq bk;rw [List.pairwise_map];exact h
theorem bk_t {L:List Mg}:∀e∈bk L,e.2=true:=fun e he=>by
 obtain ⟨m,_,rfl⟩:=List.mem_map.1 he;rfl
theorem Iz {L:List Mg} {m:Mg} {b:Bool}:(m,b)∈bk L↔m∈L/\b=true:=by
 unfold bk;rw [List.mem_map]
 constructor
 ·rintro ⟨x,hx,h⟩;cases h;exact ⟨hx,rfl⟩
 ·rintro ⟨h,rfl⟩;exact ⟨m,h,rfl⟩
theorem KG {L:List Mg}:(bk L).map (·.1)=L:=by simp [bk,List.map_map,Function.comp_def]
theorem RU {L:List Mg}:(bk L).length=L.length:=by simp [bk]
theorem ah7 {es:List (Mg×Bool)} (h:∀e∈es,e.2=true):bk (es.map (·.1))=es:=by
 unfold bk;rw [List.map_map]
 conv=>rhs;rw [<-List.map_id es]
 refine List.map_congr_left fun e he=>?_
 obtain ⟨a,b⟩:=e
 have:=h _ he
 simp only at this;subst this;rfl
def mj (L:List Mg) (m:Mg):List Mg:=(bq tM (bk L) m true).map (·.1)
theorem IA {L:List Mg} (h:SL L) {m:Mg}:bk (mj L m)=bq tM (bk L) m true:=ah7 (RQ kM h.can bk_t)
theorem zy {L:List Mg} (h:SL L) {m x:Mg}:x∈mj L m↔x=m\/x∈L:=by
 have:x∈mj L m↔(x,true)∈bk (mj L m):=by rw [Iz];simp
 rw [this,IA h,fP kM h.can]
 constructor
 ·rintro (e | ⟨h1, h2⟩)
  ·cases e;exact .inl rfl
  ·exact .inr (Iz.1 h1).1
 ·by_cases e : x = m
  ·subst e;exact fun _=>.inl rfl
  ·rintro (e' | h')
   ·exact absurd e' e
   ·exact .inr ⟨Iz.2 ⟨h',rfl⟩,e⟩
theorem SL.ins {L:List Mg} (h:SL L) {m:Mg}:SL (mj L m):=by
 have:=h.can.iG (x:=m) (v:=true) kM
 rw [<-IA h] at this
 unfold iq bk at this;rw [List.pairwise_map] at this;exact this
theorem SL.ext {L L':List Mg} (h:SL L) (h':SL L') (hm:∀x,x∈L↔x∈L'):L=L' :=
 ja (fun a h=>by rw [fq kM] at h;cases h) (fun a b h1 h2=>di kM h1 h2) h h' hm
theorem RW {L:List Mg} {m:Mg}:(mj L m).length<=L.length+1:=by
 unfold mj bq
 rw [List.length_map]
 split
 ·simp [bk]
 ·rw [kj.length_eq];simp [bk]
theorem KH {L:List Mg} (h:SL L) {m:Mg} (hm:m∈L):mj L m=L:=h.ins.ext h fun x=>by
 rw [zy h]
 constructor
 ·rintro (rfl | h')
  ·exact hm
  ·exact h'
 ·exact .inr
theorem IB (m:List (Mg×Bool)):ai (FH54 m)=some (false,m,()):=rfl
def iA (L:List Mg) (m:Mg):Int×List Mg:=if zx m=0 then (if 60<(mj L m).length then (15,L) else (0,mj L m)) else (zx m,L)
theorem g56 {mm m1:List (Mg×Bool)} {b3:List Mg} {n:Nat} {k:Nat} (hn:n=b3.length) (hb:n<1000000000) (hk:k<n) :
  ai (gH56_0 (n,((n:Nat):Int),(k:Int),mm,b3,m1,()))=some (.inl (n,((n:Nat):Int),((k+1:Nat):Int),bq tM mm (b3.getD k (bs [],(0:Int),bs [],bs [],(0:Int))) true,b3,m1,())):=by
 have hin:bT (k:Int) (n:Int)=true:=aP (by omega) (by omega)
 have hni:dc .i64 ((k:Int)+1)=true:=aD (by omega) (by omega)
 simp only [gH56_0,aj,aJ,aS,aI,aa,Int.toNat_natCast,Nat.zero_add,aK,hin,hni,af]
 rw [if_pos (by omega),cm (by omega)]
 rfl
theorem g56e {mm m1:List (Mg×Bool)} {b3:List Mg} {n:Nat}:ai (gH56_0 (n,((n:Nat):Int),(n:Int),mm,b3,m1,()))=some (.inr (mm,m1,())):=by
 simp only [gH56_0,aj,aa,aK]
 rw [if_neg (by omega)]
theorem kH56 {L:List Mg} (h:SL L) (hl:L.length<=60) (m:Mg):ai (FH56 m.1 m.2.1 m.2.2.1 m.2.2.2.1 m.2.2.2.2 (bk L))=some (if 60<(mj L m).length then (15,bk L,()) else (0,bk (mj L m),())):=by
 have hit:iter (fun x=>ai (gH56_0 x)) ((1:Nat),((1:Nat):Int),(0:Int),bk L,[m],bk L,())=some (bk (mj L m),bk L,()):=by
  rw [IA h]
  exact oS (g56 (b3:=[m]) (n:=1) (k:=0) rfl (by omega) (by omega)) (jt g56e)
 unfold FH56
 simp only [aA,FH89,FH193,aa,aF,bn]
 refine bind_eq hit ?_
 simp only [aj,aa,aK,RU]
 by_cases hc:60<(mj L m).length
 ·rw [if_pos (by omega),if_pos hc]
 ·rw [if_neg (by omega),if_neg hc]
theorem acn {L:List Mg} (h:SL L) (hl:L.length<=60) {m:Mg} (hm:SR m):ai (FH20 m (bk L))=some ((iA L m).1,bk (iA L m).2,()):=by
 have h55:=k55 m hm
 unfold FH20
 simp only [aA,IB,aF,aj,aO]
 rw [ag (show ai (F55 (m.1,m.2.1,m.2.2.1,m.2.2.2.1,m.2.2.2.2))=_ from h55)]
 simp only [bx,aZ]
 unfold iA
 by_cases hc:zx m=0
 ·rw [if_pos hc, if_pos hc]
  rw [ag (kH56 h hl m)]
  split<;>rfl
 ·rw [if_neg hc,if_neg hc];rfl
structure lG (L:List Mg):Prop where
 s:SL L
 len:L.length<=60
 zx:∀m∈L,zx m=0
theorem lG.nil:lG []:=⟨.nil,by simp,fun m h=>by cases h⟩
theorem lG.tell {L:List Mg} (h:lG L) (m:Mg):lG (iA L m).2:=by
 unfold iA
 split
 ·rename_i hc
  split
  ·exact h
  ·rename_i h60
   refine ⟨h.s.ins,by simp only;omega,fun x hx=>?_⟩
   rcases (zy h.s).1 hx with rfl|hx
   ·exact hc
   ·exact h.zx x hx
 ·exact h
def zz (l:List Mg):List Mg:=l.foldl (fun L m=>(iA L m).2) []
theorem lG.fold {L : List Mg} (h : lG L) : ∀ l : List Mg, lG (l.foldl (fun L m => (iA L m).2) L)
 |[]=>h
 |m::l=>lG.fold (h.tell m) l
theorem lG.told (l:List Mg):lG (zz l):=lG.nil.fold l
theorem aco {l:List Mg} (hl:l.length<1000000000) (hs:∀m∈l,SR m):ai (FH29 l)=some (bk (zz l),()):=by
 unfold FH29
 simp only [aA,FH18,aa,aF,bn]
 refine bind_eq (aQ l (fun k (L:List Mg)=>(l,(k:Int),bk L,())) (fun L r=>(bk (r.foldl (fun L m=>(iA L m).2) L),())) (fun _ L=>lG L) ?_ ?_ (s:=[]) lG.nil) rfl
 ·intro pre x post L hx hL
  have hlen:l.length=pre.length+(post.length+1):=by rw [hx];simp
  have hd:l.getD pre.length (bs [],(0:Int),bs [],bs [],(0:Int))=x:=by rw [hx];exact aT rfl
  have hin:bT (pre.length:Int) (l.length:Int)=true:=aP (by omega) (by omega)
  have hni:dc .i64 ((pre.length:Int)+1)=true:=aD (by omega) (by omega)
  left
  refine ⟨(iA L x).2,?_,hL.tell x,rfl⟩
  simp only [gH29_0,aj,aJ,aI,aa,aA,Int.toNat_natCast,aK,hin,hni,af]
  rw [if_pos (by omega)]
  have hk:=acn hL.s hL.len (hs x (by rw [hx];simp))
  rw [hd]
  rw [ag (show ai (FH20 (x.1,x.2.1,x.2.2.1,x.2.2.2.1,x.2.2.2.2) (bk L))=_ from hk)]
  rfl
 ·intro L _
  simp only [gH29_0,aj,aa,aK]
  rw [if_neg (by omega)]
  rfl
theorem FT {E A : Type} {step : E → A → Option A} (f : A → E → A) (I : A → Prop) : ∀ (l : List E) (x : A), I x → (∀ e ∈ l, ∀ x, I x → step e x = some (f x e) ∧ I (f x e)) → AV step l x = some (l.foldl f x) ∧ I (l.foldl f x)
 |[],x,hx,_=>⟨rfl,hx⟩
 |e::l,x,hx,h=>by
  obtain ⟨h1,h2⟩:=h e (List.mem_cons_self ..) x hx
  obtain ⟨h3,h4⟩:=FT f I l (f x e) h2 fun e he=>h e (List.mem_cons_of_mem _ he)
  exact ⟨by simp only [AV,h1];exact h3,h4⟩
theorem tw {K V M : Type} {step : K × V → M × Nat × List K × Unit → Option (M × Nat × List K × Unit)} {m : M} {l : List (K × V)} (hl : l.length < 1000000000)
  (h:∀e n b,n<1000000000->step e (m,n,b,())=some (m,n+1,(b.drop 0).take n++[e.1],())):AV step l (m,0,[],())=some (m,l.length,l.map (·.1),()):=by
 have key:∀(l:List (K×V)) (b:List K),b.length+l.length<1000000000->AV step l (m,b.length,b,())=some (m,b.length+l.length,b++l.map (·.1),()):=by
  intro l
  induction l with
  |nil=>intro b _;simp [AV]
  |cons e l ih =>
   intro b hb
   simp only [List.length_cons] at hb
   simp only [AV,h e b.length b (by omega)]
   have:=ih (b++[e.1]) (by simp;omega)
   simp only [List.drop_zero,List.take_length]
   rw [List.length_append,List.length_singleton] at this
   rw [this]
   simp only [List.length_cons,List.map_cons,List.append_assoc,List.singleton_append]
   congr 3
   omega
 have:=key l [] (by simpa using hl)
 simpa using this
theorem pM {t:Ty} {ks:List Kd} (hk:bL t=some ks) {l s:List t.den} (hp:s.Perm l) (hs:Bf t s) (hl:l.length<1000000000):vN t l l.length=some (s,()):=by
 unfold vN
 rw [if_pos ⟨Nat.le_refl _,by rw [cO];omega⟩,List.take_length,List.drop_length,List.append_nil,sM hk hp hs]
theorem SL.Xr {L:List Mg} (h:SL L):Bf tM L:=by
 have:=h.can.keys kM
 rwa [KG] at this
theorem kH83 {L:List Mg} (h:SL L) (hl:L.length<1000000000):ai (FH83 (bk L))=some (L.length,L,bk L,()):=by
 unfold FH83
 refine Eq.trans CC (gV fun l hp=>?_)
 have zO:l.length=L.length:=by rw [hp.length_eq,RU]
 simp only [aA,CD]
 refine bind_eq (tw (m:=bk L) (l:=l) (by rw [zO];exact hl) fun e n b hn=>?_) ?_
 ·simp only [gH83f109f128_0i_0, aS, aa, dQ, af]
  rw [cm (show _<bp by rw [cO];simp;omega)]
  rfl
 ·simp only [FH110, yE]
  have hpk:L.Perm (l.map (·.1)):=by
   have:=(hp.map (·.1)).symm
   rwa [KG] at this
  have:=pM kM hpk h.Xr (by rw [List.length_map];omega)
  rw [List.length_map] at this
  rw [ag this,zO]
  rfl
theorem acp {L:List Mg} (h:SL L) (hl:L.length<1000000000):ai (FH47 (bk L))=some (L.length,L,bk L,()):=by
 unfold FH47
 simp only [aA,IB,aF,aj,aO,FH84,aa]
 rw [ag (kH83 h hl)]
end Go.Proofs.Tryz
end
section
namespace Go.Proofs.Tryz
open Go.AM
set_option maxRecDepth 100000
abbrev Bt:=List (ByteArray×Mg)
abbrev Gs:=List (ByteArray×List ByteArray)
abbrev gv:=List (ByteArray×Bool)
theorem kH98 {l:List ByteArray} (hl:l.length<1000000000):ai (FH98 l)=some (l.length,l,()):=by
 simp only [FH98,aj,aaa,aS,aa,aZ]
 rw [EU (by omega)]
 split
 ·have : l = [] := List.length_eq_zero_iff.1 (by omega)
  subst this
  simp only [List.length_nil,List.drop_nil,List.take_nil,List.append_nil,Nat.add_zero]
  exact LG
 ·simp
def fc (del : ByteArray → Bool) : Nat → List ByteArray → Option Nat
 |_,[]=>none
 |k,x::r=>if del x=true then some k else fc del (k+1) r
theorem lY (del : ByteArray → Bool) : ∀ (l : List ByteArray) (k : Nat), (∃ p x q, l = p ++ x :: q ∧ (∀ c ∈ p, del c = false) ∧ del x = true ∧ fc del k l = some (k + p.length)) ∨ ((∀ c ∈ l, del c = false) ∧ fc del k l = none)
 |[],k=>.inr ⟨by simp,rfl⟩
 |y::l,k=>by
  by_cases h:del y=true
  ·left
   exact ⟨[],y,l,rfl,by simp,h,by simp [fc,h]⟩
  ·rcases lY del l (k + 1) with ⟨p, x, q, h1, h2, h3, h4⟩ | ⟨h1, h2⟩
   ·left
    refine ⟨y::p,x,q,by rw [h1];rfl,fun c hc=>?_,h3,?_⟩
    ·rcases List.mem_cons.1 hc with rfl | hc
     ·simpa using h
     ·exact h2 c hc
    ·unfold fc;rw [if_neg h,h4,List.length_cons,show k+1+p.length=k+(p.length+1) by omega]
   ·right
    refine ⟨fun c hc=>?_,by unfold fc;rw [if_neg h,h2]⟩
    rcases List.mem_cons.1 hc with rfl|hc
    ·simpa using h
    ·exact h1 c hc
theorem tA {del:ByteArray->Bool} {l:List ByteArray} (h:∀c∈l,del c=false):l.filter (fun c => !del c)=l:=List.filter_eq_self.2 fun c hc=>by rw [h c hc];rfl
section
variable {m3:Bt} {m4:Gs} {m5 m6:gv}
theorem kH99 (v:ByteArray):ai (FH99 v m3 m4 m5 m6)=some (!(az .str false m5 v),m3,m4,m5,m6,()):=rfl
theorem aia {l:List ByteArray} (hl:l.length<1000000000):ai (FH119 l.length l m3 m4 m5 m6)=some ((match fc (fun v => !(az .str false m5 v)) 0 l with|some k=>((k:Nat):Int)|none => -1),m3,m4,m5,m6,l,()):=by
 have hi := aQ (f := fun a => run (fun _ => none) (gH119_0 a)) l (fun k (_ : Nat) => (l.length, ((l.length : Nat) : Int), (k : Int), l, m3, m4, m5, m6, ())) (fun k r => match fc (fun v => !(az .str false m5 v)) k r with | some k => .inl (((k : Nat) : Int), m3, m4, m5, m6, l, ()) | none => .inr (m3, m4, m5, m6, l, ())) (fun pre k => k = pre.length) (by
  rintro pre x post k hx rfl
  have hlen:l.length=pre.length+(post.length+1):=by rw [hx];simp
  have hd:l.getD pre.length (bs [])=x:=by rw [hx];exact aT rfl
  have i1:bT (pre.length:Int) ((l.length:Nat):Int)=true:=aP (by omega) (by omega)
  have r1:dc .i64 ((pre.length:Int)+1)=true:=aD (by omega) (by omega)
  have d1:decide (pre.length<l.length)=true:=decide_eq_true (by omega)
  simp only [gH119_0,aj,aA,aJ,aS,aI,aa,Int.toNat_natCast,Nat.zero_add,hd,kH99,aF,i1,r1,d1,af,aK]
  rw [if_pos (by omega)]
  by_cases h:(!(az .str false m5 x))=true
  ·right;rw [h,bO];simp only [fc,h,if_true]
  ·left
   refine ⟨pre.length+1,?_⟩
   rw [Hu (by simpa using h)]
   refine ⟨rfl,by simp,?_⟩
   simp only [fc,h,if_false];rfl) (by
  rintro k _
  simp only [gH119_0,aj,aK,aa]
  rw [if_neg (by omega)];rfl) (s:=0) rfl
 simp only [FH119,aA,bn]
 refine bind_eq hi ?_
 split<;>rfl
theorem kH97 {l:List ByteArray} (hl:l.length<1000000000):∃b,b.length=l.length/\b.take (l.filter fun v => !(!(az .str false m5 v))).length=l.filter (fun v => !(!(az .str false m5 v)))/\ai (FH97 l.length l m3 m4 m5 m6)=some (0,(l.filter fun v => !(!(az .str false m5 v))).length,b,m3,m4,m5,m6,()):=by
 have acq:=aia (m3:=m3) (m4:=m4) (m5:=m5) (m6:=m6) hl
 simp only [FH97,aA,bn,aj,aa,aI,aS,aZ]
 rw [ag acq]
 rcases lY (fun v => !(az .str false m5 v)) l 0 with ⟨p,x,q,h1,h2,h3,h4⟩|⟨h1,h2⟩
 case inr =>
  rw [h2]
  simp only [if_true]
  rw [tA h1]
  exact ⟨l,rfl,List.take_length ..,rfl⟩
 rw [h4]
 simp only [Nat.zero_add]
 have hlen:l.length=p.length+(q.length+1):=by rw [h1];simp
 rw [if_neg (by omega),sJ (by omega) (by omega)]
 have hk:l.filter (fun v => !(!(az .str false m5 v)))=p++q.filter fun v => !(!(az .str false m5 v)):=by
  have e1:=tA h2
  have e2:(x::q).filter (fun v => !(!(az .str false m5 v)))=q.filter fun v => !(!(az .str false m5 v)):=by rw [List.filter_cons_of_neg];simpa using h3
  rw [h1,List.filter_append,e2]
  rw [show p.filter (fun v => !(!(az .str false m5 v)))=p from e1]
 obtain ⟨res, hres, m, b, rfl, hb, hm, ht⟩ := dI (step := fun a => run (fun _ => none) (gH97_0 a)) q.length
  (fun k x=>∃(i:Nat) (b:List ByteArray),x=(l.length,(i:Int),((p.length+1+k:Nat):Int),b,m3,m4,m5,m6,())/\b.length=l.length/\i<=p.length+k/\b.take i=p++(q.take k).filter (fun v => !(!(az .str false m5 v)))/\b.drop (p.length+1+k)=q.drop k)
  (fun r => ∃ (m : Nat) (b : List ByteArray), r = (l.length, (m : Int), b, m3, m4, m5, m6, ()) ∧ b.length = l.length ∧ m ≤ l.length ∧ b.take m = p ++ q.filter fun v => !(!(az .str false m5 v))) (by
   rintro k _ hk ⟨i,b,rfl,hb,hi,ht,hd⟩
   have hx:b.getD (p.length+1+k) (bs [])=q.getD k (bs []):=by
    have:=congrArg (fun l=>l.getD 0 (bs [])) hd
    simpa [List.getD_eq_getElem?_getD] using this
   have hqk:q.take (k+1)=q.take k++[q.getD k (bs [])]:=by
    rw [List.take_succ_eq_append_getElem hk];simp [List.getD_eq_getElem?_getD,List.getElem?_eq_getElem hk]
   generalize q.getD k (bs [])=y at hx hqk
   have i1:bT ((p.length+1+k:Nat):Int) ((l.length:Nat):Int)=true:=aP (by omega) (by omega)
   have i2:bT (i:Int) ((l.length:Nat):Int)=true:=aP (by omega) (by omega)
   have d1:decide (p.length+1+k<b.length)=true:=decide_eq_true (by omega)
   have d2:decide (i<b.length)=true:=decide_eq_true (by omega)
   have r1:dc .i64 ((i:Int)+1)=true:=aD (by omega) (by omega)
   have r2:dc .i64 (((p.length+1+k:Nat):Int)+1)=true:=aD (by omega) (by omega)
   simp only [gH97_0,aj,aA,aJ,aS,aI,aa,Int.toNat_natCast,Nat.zero_add,hx,kH99,aF,i1,i2,d1,d2,r1,r2,af,aK]
   rw [if_pos (by omega)]
   by_cases hy:(!(az .str false m5 y))=true
   ·refine ⟨_, by rw [Hu (by rw [hy]; rfl)], i, b, by rw [show ((p.length + 1 + (k + 1) : Nat) : Int) = ((p.length + 1 + k : Nat) : Int) + 1 by omega], hb, by omega, ?_, ?_⟩
    ·rw [ht,hqk,List.filter_append,List.filter_cons_of_neg (by rw [hy];simp)];simp
    ·have := congrArg (List.drop 1) hd
     simpa [List.drop_drop,Nat.add_assoc] using this
   ·refine ⟨_, by rw [PD (by rw [Bool.eq_false_iff.2 hy]; rfl)], i + 1, b.set i y, by rw [show ((p.length + 1 + (k + 1) : Nat) : Int) = ((p.length + 1 + k : Nat) : Int) + 1 by omega, show ((i + 1 : Nat) : Int) = (i : Int) + 1 by omega], by simp [hb], by omega, ?_, ?_⟩
    ·have e:(b.set i y).take (i+1)=b.take i++[y]:=by
      rw [List.take_succ_eq_append_getElem (by simp;omega)]
      simp [List.take_set_of_le]
     rw [e,ht,hqk,List.filter_append,List.filter_cons_of_pos (by simpa using hy)];simp
    ·have := congrArg (List.drop 1) hd
     rw [List.drop_set_of_lt (by omega)]
     simpa [List.drop_drop,Nat.add_assoc] using this) (by
   rintro _ ⟨i,b,rfl,hb,hi,ht,hd⟩
   simp only [gH97_0,aj,aa,aK]
   rw [if_neg (by omega)]
   exact ⟨_,rfl,i,b,rfl,hb,by omega,by rw [ht,List.take_length]⟩) (x:=(l.length,(p.length:Int),(p.length:Int)+1,l,m3,m4,m5,m6,())) ⟨p.length,l,by simp,rfl,by omega,by rw [h1];simp,by rw [h1];simp⟩
 rw [ag hres]
 have hml:m=(l.filter fun v => !(!(az .str false m5 v))).length:=by rw [hk,<-ht,List.length_take];omega
 simp only [Int.toNat_natCast,Nat.zero_add,BF,Int.toNat_zero,Nat.sub_zero]
 rw [cm (by omega),cm (by omega),cm (by omega),cm (by omega),cm (by omega),cm (by omega)]
 refine ⟨b.take m++List.replicate (l.length - m) (bs [])++b.drop (m+(l.length - m)),?_,?_,by rw [<-hml]⟩
 ·simp only [List.length_append,List.length_take,List.length_replicate,List.length_drop];omega
 ·rw [<-hml,List.take_append_of_le_length (by simp;omega),List.take_append_of_le_length (by simp;omega),List.take_take,Nat.min_self,ht,hk]
theorem YW (v:ByteArray):ai (FH123 v m3 m4 m5 m6)=some (az .str false m6 v,m3,m4,m5,m6,()):=rfl
theorem RX {l:List ByteArray} (hl:l.length<1000000000):ai (FH119_v1 l.length l m3 m4 m5 m6)=some ((match fc (fun v=>az .str false m6 v) 0 l with|some k=>((k:Nat):Int)|none => -1),m3,m4,m5,m6,l,()):=by
 have hi := aQ (f := fun a => run (fun _ => none) (gH119_v1_0 a)) l (fun k (_ : Nat) => (l.length, ((l.length : Nat) : Int), (k : Int), l, m3, m4, m5, m6, ())) (fun k r => match fc (fun v => az .str false m6 v) k r with | some k => .inl (((k : Nat) : Int), m3, m4, m5, m6, l, ()) | none => .inr (m3, m4, m5, m6, l, ())) (fun pre k => k = pre.length) (by
  rintro pre x post k hx rfl
  have hlen:l.length=pre.length+(post.length+1):=by rw [hx];simp
  have hd:l.getD pre.length (bs [])=x:=by rw [hx];exact aT rfl
  have i1:bT (pre.length:Int) ((l.length:Nat):Int)=true:=aP (by omega) (by omega)
  have r1:dc .i64 ((pre.length:Int)+1)=true:=aD (by omega) (by omega)
  have d1:decide (pre.length<l.length)=true:=decide_eq_true (by omega)
  simp only [gH119_v1_0,aj,aA,aJ,aS,aI,aa,Int.toNat_natCast,Nat.zero_add,hd,YW,aF,i1,r1,d1,af,aK]
  rw [if_pos (by omega)]
  by_cases h:(az .str false m6 x)=true
  ·right;rw [h,bO];simp only [fc,h,if_true]
  ·left
   refine ⟨pre.length+1,?_⟩
   rw [Hu (by simpa using h)]
   refine ⟨rfl,by simp,?_⟩
   simp only [fc,h,if_false];rfl) (by
  rintro k _
  simp only [gH119_v1_0,aj,aK,aa]
  rw [if_neg (by omega)];rfl) (s:=0) rfl
 simp only [FH119_v1,aA,bn]
 refine bind_eq hi ?_
 split<;>rfl
theorem WH {l:List ByteArray} (hl:l.length<1000000000):∃b,b.length=l.length/\b.take (l.filter fun v => !(az .str false m6 v)).length=l.filter (fun v => !(az .str false m6 v))/\ai (FH97_v1 l.length l m3 m4 m5 m6)=some (0,(l.filter fun v => !(az .str false m6 v)).length,b,m3,m4,m5,m6,()):=by
 have acq:=RX (m3:=m3) (m4:=m4) (m5:=m5) (m6:=m6) hl
 simp only [FH97_v1,aA,bn,aj,aa,aI,aS,aZ]
 rw [ag acq]
 rcases lY (fun v=>az .str false m6 v) l 0 with ⟨p,x,q,h1,h2,h3,h4⟩|⟨h1,h2⟩
 case inr =>
  rw [h2]
  simp only [if_true]
  rw [tA h1]
  exact ⟨l,rfl,List.take_length ..,rfl⟩
 rw [h4]
 simp only [Nat.zero_add]
 have hlen:l.length=p.length+(q.length+1):=by rw [h1];simp
 rw [if_neg (by omega),sJ (by omega) (by omega)]
 have hk:l.filter (fun v => !(az .str false m6 v))=p++q.filter fun v => !(az .str false m6 v):=by
  have e1:=tA h2
  have e2:(x::q).filter (fun v => !(az .str false m6 v))=q.filter fun v => !(az .str false m6 v):=by rw [List.filter_cons_of_neg];simpa using h3
  rw [h1,List.filter_append,e2]
  rw [show p.filter (fun v => !(az .str false m6 v))=p from e1]
 obtain ⟨res, hres, m, b, rfl, hb, hm, ht⟩ := dI (step := fun a => run (fun _ => none) (gH97_v1_0 a)) q.length
  (fun k x=>∃(i:Nat) (b:List ByteArray),x=(l.length,(i:Int),((p.length+1+k:Nat):Int),b,m3,m4,m5,m6,())/\b.length=l.length/\i<=p.length+k/\b.take i=p++(q.take k).filter (fun v => !(az .str false m6 v))/\b.drop (p.length+1+k)=q.drop k)
  (fun r => ∃ (m : Nat) (b : List ByteArray), r = (l.length, (m : Int), b, m3, m4, m5, m6, ()) ∧ b.length = l.length ∧ m ≤ l.length ∧ b.take m = p ++ q.filter fun v => !(az .str false m6 v)) (by
   rintro k _ hk ⟨i,b,rfl,hb,hi,ht,hd⟩
   have hx:b.getD (p.length+1+k) (bs [])=q.getD k (bs []):=by
    have:=congrArg (fun l=>l.getD 0 (bs [])) hd
    simpa [List.getD_eq_getElem?_getD] using this
   have hqk:q.take (k+1)=q.take k++[q.getD k (bs [])]:=by
    rw [List.take_succ_eq_append_getElem hk];simp [List.getD_eq_getElem?_getD,List.getElem?_eq_getElem hk]
   generalize q.getD k (bs [])=y at hx hqk
   have i1:bT ((p.length+1+k:Nat):Int) ((l.length:Nat):Int)=true:=aP (by omega) (by omega)
   have i2:bT (i:Int) ((l.length:Nat):Int)=true:=aP (by omega) (by omega)
   have d1:decide (p.length+1+k<b.length)=true:=decide_eq_true (by omega)
   have d2:decide (i<b.length)=true:=decide_eq_true (by omega)
   have r1:dc .i64 ((i:Int)+1)=true:=aD (by omega) (by omega)
   have r2:dc .i64 (((p.length+1+k:Nat):Int)+1)=true:=aD (by omega) (by omega)
   simp only [gH97_v1_0,aj,aA,aJ,aS,aI,aa,Int.toNat_natCast,Nat.zero_add,hx,YW,aF,i1,i2,d1,d2,r1,r2,af,aK]
   rw [if_pos (by omega)]
   by_cases hy:(az .str false m6 y)=true
   ·refine ⟨_, by rw [Hu (by rw [hy]; rfl)], i, b, by rw [show ((p.length + 1 + (k + 1) : Nat) : Int) = ((p.length + 1 + k : Nat) : Int) + 1 by omega], hb, by omega, ?_, ?_⟩
    ·rw [ht,hqk,List.filter_append,List.filter_cons_of_neg (by rw [hy];simp)];simp
    ·have := congrArg (List.drop 1) hd
     simpa [List.drop_drop,Nat.add_assoc] using this
   ·refine ⟨_, by rw [PD (by rw [Bool.eq_false_iff.2 hy]; rfl)], i + 1, b.set i y, by rw [show ((p.length + 1 + (k + 1) : Nat) : Int) = ((p.length + 1 + k : Nat) : Int) + 1 by omega, show ((i + 1 : Nat) : Int) = (i : Int) + 1 by omega], by simp [hb], by omega, ?_, ?_⟩
    ·have e:(b.set i y).take (i+1)=b.take i++[y]:=by
      rw [List.take_succ_eq_append_getElem (by simp;omega)]
      simp [List.take_set_of_le]
     rw [e,ht,hqk,List.filter_append,List.filter_cons_of_pos (by simpa using hy)];simp
    ·have := congrArg (List.drop 1) hd
     rw [List.drop_set_of_lt (by omega)]
     simpa [List.drop_drop,Nat.add_assoc] using this) (by
   rintro _ ⟨i,b,rfl,hb,hi,ht,hd⟩
   simp only [gH97_v1_0,aj,aa,aK]
   rw [if_neg (by omega)]
   exact ⟨_,rfl,i,b,rfl,hb,by omega,by rw [ht,List.take_length]⟩) (x:=(l.length,(p.length:Int),(p.length:Int)+1,l,m3,m4,m5,m6,())) ⟨p.length,l,by simp,rfl,by omega,by rw [h1];simp,by rw [h1];simp⟩
 rw [ag hres]
 have hml:m=(l.filter fun v => !(az .str false m6 v)).length:=by rw [hk,<-ht,List.length_take];omega
 simp only [Int.toNat_natCast,Nat.zero_add,BF,Int.toNat_zero,Nat.sub_zero]
 rw [cm (by omega),cm (by omega),cm (by omega),cm (by omega),cm (by omega),cm (by omega)]
 refine ⟨b.take m++List.replicate (l.length - m) (bs [])++b.drop (m+(l.length - m)),?_,?_,by rw [<-hml]⟩
 ·simp only [List.length_append,List.length_take,List.length_replicate,List.length_drop];omega
 ·rw [<-hml,List.take_append_of_le_length (by simp;omega),List.take_append_of_le_length (by simp;omega),List.take_take,Nat.min_self,ht,hk]
end
end Go.Proofs.Tryz
end
section
namespace Go.Proofs.Tryz
open Go.AM
set_option maxRecDepth 100000
abbrev zM:Mg:=(bs [],(0:Int),bs [],bs [],(0:Int))
def jH (es:Bt) (m:Mg):Bt:=if aR .str es m.1=true then es else bq .str es m.1 m
def qI (L:List Mg):Bt:=L.foldl jH []
def cnt (L:List Mg):List Mg:=(qI L).map (·.2)
theorem zA {es:Bt} (h:iq .str es) (m:Mg):iq .str (jH es m):=by
 unfold jH;split
 ·exact h
 ·exact h.iG kS
theorem zB : ∀ {L : List Mg} {es : Bt}, iq .str es → iq .str (L.foldl jH es)
 |[],_,h=>h
 |m::L,es,h=>zB (L:=L) (es:=jH es m) (zA h m)
theorem Nn (L:List Mg):iq .str (qI L):=zB .nil
theorem zC : ∀ {L : List Mg} {es : Bt} {e : ByteArray × Mg}, iq .str es → (e ∈ L.foldl jH es ↔ e ∈ es ∨ (aR .str es e.1 = false ∧ ∃ pre post, L = pre ++ e.2 :: post ∧ e.2.1 = e.1 ∧ ∀ x ∈ pre, x.1 ≠ e.1))
 |[],es,e,_=>by simp
 |m::L,es,e,h=>by
  rw [List.foldl_cons,zC (zA h m)]
  have hs:jH es m=es/\aR .str es m.1=true\/jH es m=bq .str es m.1 m/\aR .str es m.1=false:=by
   unfold jH
   cases hm:aR .str es m.1
   ·right;simp
   ·left;simp
  rcases hs with ⟨hs,hm⟩|⟨hs,hm⟩
  ·rw [hs]
   refine or_congr_right ?_
   constructor
   ·rintro ⟨h1, pre, post, rfl, h2, h3⟩
    refine ⟨h1,m::pre,post,rfl,h2,fun x hx=>?_⟩
    rcases List.mem_cons.1 hx with rfl|hx
    ·intro e';rw [e'] at hm;rw [hm] at h1;cases h1
    ·exact h3 x hx
   ·rintro ⟨h1, pre, post, h2, h3, h4⟩
    cases pre with
    |nil =>
     simp only [List.nil_append,List.cons.injEq] at h2
     rw [h2.1] at hm;rw [h3] at hm;rw [hm] at h1;cases h1
    |cons p pre =>
     simp only [List.cons_append,List.cons.injEq] at h2
     exact ⟨h1,pre,post,h2.2,h3,fun x hx=>h4 x (List.mem_cons_of_mem _ hx)⟩
  ·rw [hs, fP kS h, qf kS h]
   have hk:∀{v:Mg},(m.1,v)∉es:=fun {v} hv=>by rw [(dJ kS).2 ⟨v,hv⟩] at hm;cases hm
   constructor
   ·rintro ((h1 | ⟨h1, _⟩) | ⟨h1, pre, post, rfl, h2, h3⟩)
    ·subst h1
     exact .inr ⟨hm,[],L,rfl,rfl,by simp⟩
    ·exact .inl h1
    ·simp only [Bool.or_eq_false_iff] at h1
     have hne:e.1≠m.1:=fun e'=>by have:=h1.1;rw [e',j5 kS] at this;cases this
     refine .inr ⟨h1.2,m::pre,post,rfl,h2,fun x hx=>?_⟩
     rcases List.mem_cons.1 hx with rfl|hx
     ·exact Ne.symm hne
     ·exact h3 x hx
   ·rintro (h1 | ⟨h1, pre, post, h2, h3, h4⟩)
    ·refine .inl (.inr ⟨h1, fun e' => ?_⟩)
     obtain ⟨a,b⟩:=e
     simp only at e';subst e';exact hk h1
    ·cases pre with
     |nil =>
      simp only [List.nil_append,List.cons.injEq] at h2
      obtain ⟨a,b⟩:=e
      simp only at h2 h3
      exact .inl (.inl (by rw [<-h3,h2.1]))
     |cons p pre =>
      simp only [List.cons_append,List.cons.injEq] at h2
      have hne:e.1≠m.1:=fun e'=>by
       have:=h4 p (List.mem_cons_self ..)
       rw [<-h2.1,e'] at this;exact this rfl
      refine .inr ⟨?_,pre,post,h2.2,h3,fun x hx=>h4 x (List.mem_cons_of_mem _ hx)⟩
      rw [Bool.or_eq_false_iff]
      refine ⟨?_,h1⟩
      cases hd:dV .str e.1 m.1 with
      |false=>rfl
      |true=>exact absurd (bS hd) hne
theorem uM {L:List Mg} {e:ByteArray×Mg}:e∈qI L↔∃pre post,L=pre++e.2::post/\e.2.1=e.1/\∀x∈pre,x.1≠e.1:=by
 unfold qI
 rw [zC .nil]
 simp [aR]
theorem FU {L:List Mg} {e:ByteArray×Mg} (h:e∈qI L):e.2.1=e.1:=by
 obtain ⟨_,_,_,h,_⟩:=uM.1 h;exact h
theorem FV (L:List Mg):qI L=(cnt L).map fun m=>(m.1,m):=by
 unfold cnt
 rw [List.map_map]
 conv=>lhs;rw [<-List.map_id (qI L)]
 refine List.map_congr_left fun e he=>?_
 have:=FU he
 obtain ⟨a,b⟩:=e
 simp only at this;subst this;rfl
theorem KI {L:List Mg} {m:Mg}:m∈cnt L↔(m.1,m)∈qI L:=by
 unfold cnt
 rw [List.mem_map]
 constructor
 ·rintro ⟨e, he, rfl⟩
  have:=FU he
  obtain ⟨a,b⟩:=e
  simp only at this;subst this;exact he
 ·intro h;exact ⟨_,h,rfl⟩
def SI (c:List Mg):Prop:=c.Pairwise fun a b=>slt a.1 b.1=true
theorem fe (L:List Mg):SI (cnt L):=by
 have h:=Nn L
 rw [FV] at h
 unfold iq at h;rw [List.pairwise_map] at h;exact h
theorem SI.cam {c:List Mg} (h:SI c):iq .str (c.map fun m=>(m.1,m)):=by
 unfold iq;rw [List.pairwise_map];exact h
theorem SI.inj {c:List Mg} (h:SI c) {m m':Mg} (hm:m∈c) (hm':m'∈c) (e:m.1=m'.1):m=m':=by
 have h1:=gF (d:=zM) kS h.cam (List.mem_map.2 ⟨m,hm,rfl⟩)
 have h2:=gF (d:=zM) kS h.cam (List.mem_map.2 ⟨m',hm',rfl⟩)
 rw [<-h1,<-h2,e]
theorem C8 {L:List Mg} {m:Mg} (h:m∈cnt L):m∈L:=by
 obtain ⟨pre,post,h,_⟩:=uM.1 (KI.1 h)
 rw [h];simp
theorem WI {L:List Mg} (hL:SL L) {m:Mg}:m∈cnt L↔m∈L/\∀x∈L,x.1=m.1->x=m\/fE tM m x=true:=by
 rw [KI,uM]
 constructor
 ·rintro ⟨pre, post, h, _, h2⟩
  simp only at h h2
  subst h
  refine ⟨by simp,fun x hx e=>?_⟩
  rcases List.mem_append.1 hx with hx|hx
  ·exact absurd e (h2 x hx)
  ·rcases List.mem_cons.1 hx with rfl | hx
   ·exact .inl rfl
   ·unfold SL at hL
    rw [List.pairwise_append,List.pairwise_cons] at hL
    exact .inr (hL.2.1.1 x hx)
 ·rintro ⟨h1, h2⟩
  obtain ⟨pre,post,h⟩:=List.append_of_mem h1
  refine ⟨pre,post,h,rfl,fun x hx e=>?_⟩
  subst h
  unfold SL at hL
  rw [List.pairwise_append] at hL
  have h3:=hL.2.2 x hx m (List.mem_cons_self ..)
  rcases h2 x (by simp [hx]) e with rfl|h4
  ·rw [fq kM] at h3;cases h3
  ·exact di kM h3 h4
theorem aic {L:List Mg} {m1:List (Mg×Bool)} (hl:L.length<1000000000):iter (fun x=>ai (gH66_0 x)) (L.length,((L.length:Nat):Int),(0:Int),L,m1,[],[],[],[],())=some (m1,qI L,[],[],[],()):=by
 refine aQ L (fun k (es:Bt)=>(L.length,((L.length:Nat):Int),(k:Int),L,m1,es,[],[],[],())) (fun es r=>(m1,r.foldl jH es,[],[],[],())) (fun _ _=>True) ?_ ?_ (s:=[]) trivial
 ·intro pre x post es hx _
  have hlen:L.length=pre.length+(post.length+1):=by rw [hx];simp
  have hd:L.getD pre.length zM=x:=by rw [hx];exact aT rfl
  have i1:bT (pre.length:Int) ((L.length:Nat):Int)=true:=aP (by omega) (by omega)
  have r1:dc .i64 ((pre.length:Int)+1)=true:=aD (by omega) (by omega)
  have d1:decide (pre.length<L.length)=true:=decide_eq_true (by omega)
  left
  refine ⟨jH es x,?_,trivial,rfl⟩
  simp only [gH66_0,aj,aJ,aS,aI,aa,Int.toNat_natCast,Nat.zero_add,hd,i1,r1,d1,af,aK]
  rw [if_pos (by omega)]
  unfold jH
  cases hm:aR .str es x.1
  ·rw [PD (by rfl)];rfl
  ·rw [Hu (by rfl)];rfl
 ·intro es _
  simp only [gH66_0,aj,aa,aK]
  rw [if_neg (by omega)]
  rfl
theorem WJ {c:List Mg} (h:SI c) (hl:c.length<1000000000):ai (FH81 (c.map fun m=>(m.1,m)))=some (c.length,c.map (·.1),c.map (fun m=>(m.1,m)),()):=by
 unfold FH81
 refine Eq.trans CC (gV fun l hp=>?_)
 have zO:l.length=c.length:=by rw [hp.length_eq,List.length_map]
 simp only [aA,CD]
 refine bind_eq (tw (m:=c.map fun m=>(m.1,m)) (l:=l) (by rw [zO];exact hl) fun e n b hn=>?_) ?_
 ·simp only [gH81f107f126_0i_0, aS, aa, dQ, af]
  rw [cm (show _<bp by rw [cO];simp;omega)]
  rfl
 ·simp only [FH105, yE]
  have hpk:(c.map (·.1)).Perm (l.map (·.1)):=by
   have:=(hp.map (·.1)).symm
   rwa [List.map_map] at this
  have hs:Bf .str (c.map (·.1)):=by
   have:=h.cam.keys kS
   rwa [List.map_map] at this
  have:=pM kS hpk hs (by rw [List.length_map];omega)
  rw [List.length_map] at this
  rw [ag this,zO]
  rfl
def kids (c:List Mg) (x:ByteArray):List ByteArray:=(c.filter fun m=>decide (m.2.1=2/\m.2.2.1=x)).map (·.1)
def fD (c:List Mg) (x:ByteArray):Bool:=c.any fun m=>decide (m.2.1=3/\m.2.2.1=x)
def jI (t:Gs) (m:Mg):Gs:=if m.2.1=2 then bq .str t m.2.2.1 (az .str [] t m.2.2.1++[m.1]) else t
def jJ (t:gv) (m:Mg):gv:=if m.2.1=3 then bq .str t m.2.2.1 true else t
def bU (c:List Mg):Gs:=c.foldl jI []
def cM (c:List Mg):gv:=c.foldl jJ []
theorem IC {t:Gs} (h:iq .str t) (m:Mg):iq .str (jI t m):=by
 unfold jI;split
 ·exact h.iG kS
 ·exact h
theorem ID {t:gv} (h:iq .str t) (m:Mg):iq .str (jJ t m):=by
 unfold jJ;split
 ·exact h.iG kS
 ·exact h
theorem zD : ∀ {c : List Mg} {t : Gs}, iq .str t → iq .str (c.foldl jI t) ∧ (∀ x, az .str [] (c.foldl jI t) x = az .str [] t x ++ kids c x) ∧ ∀ x, aR .str (c.foldl jI t) x = (aR .str t x || !(kids c x).isEmpty)
 |[],t,h=>⟨h,fun x=>by simp [kids],fun x=>by simp [kids]⟩
 |m::c,t,h=>by
  obtain ⟨h1,h2,h3⟩:=zD (c:=c) (IC h m)
  refine ⟨h1,fun x=>?_,fun x=>?_⟩
  ·rw [List.foldl_cons, h2]
   unfold jI kids
   by_cases hk:m.2.1=2
   ·rw [if_pos hk, Nl kS h]
    by_cases hx:m.2.2.1=x
    ·subst hx
     rw [if_pos (j5 kS),List.filter_cons_of_pos (by simp [hk])]
     simp
    ·rw [if_neg (fun h=>hx (bS h).symm),List.filter_cons_of_neg (by simp [hx])]
   ·rw [if_neg hk,List.filter_cons_of_neg (by simp [hk])]
  ·rw [List.foldl_cons, h3]
   unfold jI kids
   by_cases hk:m.2.1=2
   ·rw [if_pos hk, qf kS h]
    by_cases hx:m.2.2.1=x
    ·subst hx
     rw [j5 kS,List.filter_cons_of_pos (by simp [hk])]
     simp
    ·have:dV .str x m.2.2.1=false:=by
      cases hd:dV .str x m.2.2.1 with
      |false=>rfl
      |true=>exact absurd (bS hd).symm hx
     rw [this,List.filter_cons_of_neg (by simp [hx]),Bool.false_or]
   ·rw [if_neg hk,List.filter_cons_of_neg (by simp [hk])]
theorem KJ (c:List Mg):iq .str (bU c):=(zD .nil).1
theorem wN (c:List Mg) (x:ByteArray):az .str [] (bU c) x=kids c x:=by
 exact ((zD (c:=c) (t:=[]) .nil).2.1 x).trans (by simp [az])
theorem KK (c:List Mg) (x:ByteArray):aR .str (bU c) x = !(kids c x).isEmpty:=by
 exact ((zD (c:=c) (t:=[]) .nil).2.2 x).trans (by simp [aR])
theorem wO {c:List Mg} {e:ByteArray×List ByteArray}:e∈bU c↔e.2=kids c e.1/\kids c e.1≠[]:=by
 constructor
 ·intro h
  have h1:=gF (d:=[]) kS (KJ c) (show (e.1,e.2)∈bU c from h)
  rw [wN] at h1
  refine ⟨h1.symm,fun h2=>?_⟩
  have h3:=(dJ kS).2 ⟨e.2,(show (e.1,e.2)∈bU c from h)⟩
  rw [KK,h2] at h3;cases h3
 ·rintro ⟨h1, h2⟩
  have h3:aR .str (bU c) e.1=true:=by
   rw [KK]
   cases hk:kids c e.1 with
   |nil=>exact absurd hk h2
   |cons _ _=>rfl
  obtain ⟨v,hv⟩:=(dJ kS).1 h3
  have h4:=gF (d:=[]) kS (KJ c) hv
  rw [wN] at h4
  obtain ⟨a,b⟩:=e
  simp only at h1 h4 hv
  rw [h1,h4];exact hv
theorem RY : ∀ {c : List Mg} {t : gv}, iq .str t → (∀ e ∈ t, e.2 = true) → iq .str (c.foldl jJ t) ∧ (∀ e ∈ c.foldl jJ t, e.2 = true) ∧ ∀ x, aR .str (c.foldl jJ t) x = (aR .str t x || fD c x)
 |[],t,h,ht=>⟨h,ht,fun x=>by simp [fD]⟩
 |m::c,t,h,ht=>by
  obtain ⟨h1, h0, h2⟩ := RY (c := c) (ID h m) (by
   unfold jJ;split
   ·exact RQ kS h ht
   ·exact ht)
  refine ⟨h1,h0,fun x=>?_⟩
  rw [List.foldl_cons,h2]
  unfold jJ fD
  by_cases hk:m.2.1=3
  ·rw [if_pos hk, qf kS h, List.any_cons]
   have:dV .str x m.2.2.1=decide (m.2.1=3/\m.2.2.1=x):=by
    rw [tu];exact decide_eq_decide.2 ⟨fun e=>⟨hk,e.symm⟩,fun e=>e.2.symm⟩
   rw [this,Bool.or_comm (decide _) (aR .str t x),Bool.or_assoc]
  ·rw [if_neg hk, List.any_cons]
   simp [hk]
theorem WK (c:List Mg) (x:ByteArray):az .str false (cM c) x=fD c x:=by
 have h:=RY (c:=c) (t:=[]) .nil (fun e h=>by cases h)
 rw [show cM c=c.foldl jJ [] from rfl,RR kS h.1 h.2.1,h.2.2]
 simp [aR]
theorem pN (c:List Mg) (x:ByteArray):(kids c x).length<=c.length:=by
 unfold kids;rw [List.length_map];exact List.length_filter_le ..
theorem aid {c:List Mg} {m1:List (Mg×Bool)} (h:SI c) (hl:c.length<1000000):iter (fun x=>ai (gH66_1 x)) (c.length,((c.length:Nat):Int),(0:Int),c.map (·.1),m1,c.map (fun m=>(m.1,m)),[],[],[],()) =
  some (m1,c.map (fun m=>(m.1,m)),bU c,cM c,[],()):=by
 have zO:(c.map (·.1)).length=c.length:=List.length_map ..
 refine aQ c (fun k (s : Gs × gv) => (c.length, ((c.length : Nat) : Int), (k : Int), c.map (·.1), m1, c.map (fun m => (m.1, m)), s.1, s.2, [], ())) (fun s r => (m1, c.map (fun m => (m.1, m)), r.foldl jI s.1, r.foldl jJ s.2, [], ()))
  (fun pre s=>s.1=pre.foldl jI []) ?_ ?_ (s:=([],[])) rfl
 ·rintro pre x post ⟨t, r⟩ hx ht
  simp only at ht
  have hlen:c.length=pre.length+(post.length+1):=by rw [hx];simp
  have hd:(c.map (·.1)).getD pre.length (bs [])=x.1:=by rw [hx,List.map_append,List.map_cons];exact aT (by simp)
  have hg:az .str zM (c.map fun m=>(m.1,m)) x.1=x:=gF kS h.cam (List.mem_map.2 ⟨x,by rw [hx];simp,rfl⟩)
  have i1:bT (pre.length:Int) ((c.length:Nat):Int)=true:=aP (by omega) (by omega)
  have r1:dc .i64 ((pre.length:Int)+1)=true:=aD (by omega) (by omega)
  have d1:decide (pre.length<(c.map (·.1)).length)=true:=decide_eq_true (by omega)
  left
  refine ⟨(jI t x,jJ r x),?_,by simp only;rw [ht,List.foldl_append];rfl,rfl⟩
  simp only [gH66_1,aj,aJ,aS,aI,aa,Int.toNat_natCast,Nat.zero_add,hd,hg,i1,r1,d1,af,aK,aZ]
  rw [if_pos (by omega)]
  unfold jI jJ
  by_cases h3:x.2.1=3
  ·rw [if_pos h3,if_pos h3,if_neg (by omega)];rfl
  ·rw [if_neg h3, if_neg h3]
   by_cases h2:x.2.1=2
   ·rw [if_pos h2, if_pos h2]
    have hlt:(az .str [] t x.2.2.1).length<=c.length:=by
     have:=(zD (c:=pre) (t:=[]) .nil).2.1 x.2.2.1
     rw [<-ht] at this
     rw [this]
     have:=pN pre x.2.2.1
     simp only [az,List.nil_append];omega
    rw [cm (show _<bp by rw [cO];omega)]
    rfl
   ·rw [if_neg h2,if_neg h2];rfl
 ·rintro ⟨t, r⟩ _
  simp only [gH66_1,aj,aa,aK]
  rw [if_neg (by omega)]
  rfl
end Go.Proofs.Tryz
end
section
namespace Go.Proofs.Tryz
open Go.AM
set_option maxRecDepth 100000
theorem WL {A B : Type} {F : (A → Option B) → A → Option B} (R : A → B → Prop) (m : A → Nat)
  (h:∀rec x y,R x y->(∀x' y',R x' y'->m x'<m x->rec x'=some y')->F rec x=some y):∀x y,R x y->uA F x=some y:=by
 have key:∀n x y,R x y->m x<n->Ud F n x=some y:=by
  intro n
  induction n with
  |zero=>intro x y _ hm;omega
  |succ n ih=>intro x y hx hm;exact h _ x y hx fun x' y' hx' hm'=>ih x' y' hx' (by omega)
 intro x y hx
 exact JF (N:=m x+1) fun n hn=>key n x y hx (by omega)
structure pO (S:gv):Prop where
 c:iq .str S
 t:∀e∈S,e.2=true
theorem pO.nil:pO []:=⟨.nil,fun e h=>by cases h⟩
theorem pO.put {S:gv} (h:pO S) (x:ByteArray):pO (bq .str S x true):=⟨h.c.iG kS,RQ kS h.c h.t⟩
abbrev has (S:gv) (x:ByteArray):Bool:=aR .str S x
def Sub (S S':gv):Prop:=∀x,has S x=true->has S' x=true
theorem Sub.rfl {S:gv}:Sub S S:=fun _ h=>h
theorem Sub.trans {S S' Cv:gv} (h:Sub S S') (h':Sub S' Cv):Sub S Cv:=fun x hx=>h' x (h x hx)
theorem qg {S:gv} (h:pO S) {x y:ByteArray}:has (bq .str S x true) y=true↔y=x\/has S y=true:=by
 unfold has
 rw [qf kS h.c,Bool.or_eq_true,C7 kS]
theorem Sub.put {S:gv} (h:pO S) (x:ByteArray):Sub S (bq .str S x true):=fun y hy=>(qg h).2 (.inr hy)
theorem pO.ext {S S':gv} (h:pO S) (h':pO S') (hx:∀x,has S x=true↔has S' x=true):S=S' :=
 RT kS h.c h'.c h.t h'.t fun x=>by rw [Bool.eq_iff_iff];exact hx x
section
variable {c:List Mg}
inductive lz (c : List Mg) : ByteArray → ByteArray → Prop
 |refl (x):lz c x x
 |step {x y z} (h:lz c x y) (hz:z∈kids c y):lz c x z
theorem lz.trans {x y z:ByteArray} (h:lz c x y) (h':lz c y z):lz c x z:=by
 induction h' with
 |refl=>exact h
 |step _ hz ih=>exact .step ih hz
theorem lz.cons {x y z:ByteArray} (hy:y∈kids c x) (h:lz c y z):lz c x z:=(lz.step (.refl x) hy).trans h
def ids (c:List Mg):List ByteArray:=c.map (·.1)
theorem iC {x z:ByteArray} (h:z∈kids c x):z∈ids c:=by
 unfold kids at h
 obtain ⟨m,hm,rfl⟩:=List.mem_map.1 h
 exact List.mem_map.2 ⟨m,(List.mem_filter.1 hm).1,rfl⟩
def DA (c:List Mg) (S:gv):Nat:=((ids c).filter fun x => !has S x).length
theorem RZ (S:gv):DA c S<=c.length:=by
 unfold DA ids;exact Nat.le_trans (List.length_filter_le ..) (by simp)
theorem n4 {α : Type} {p q : α → Bool} : ∀ {l : List α}, (∀ x ∈ l, p x = true → q x = true) → (l.filter p).length ≤ (l.filter q).length
 |[],_=>by simp
 |a::l,h=>by
  have ih:=n4 (l:=l) fun x hx=>h x (List.mem_cons_of_mem _ hx)
  by_cases hp:p a=true
  ·rw [List.filter_cons_of_pos hp, List.filter_cons_of_pos (h a (List.mem_cons_self ..) hp)]
   simp only [List.length_cons];omega
  ·rw [List.filter_cons_of_neg hp]
   by_cases hq:q a=true
   ·rw [List.filter_cons_of_pos hq];simp only [List.length_cons];omega
   ·rw [List.filter_cons_of_neg hq];exact ih
theorem tB {α : Type} {p q : α → Bool} : ∀ {l : List α}, (∀ x ∈ l, p x = true → q x = true) → ∀ {y : α}, y ∈ l → q y = true → p y = false → (l.filter p).length < (l.filter q).length
 |[],_,y,h,_,_=>by cases h
 |a::l,h,y,hy,hq,hp=>by
  have hl:∀x∈l,p x=true->q x=true:=fun x hx=>h x (List.mem_cons_of_mem _ hx)
  rcases List.mem_cons.1 hy with rfl|hy
  ·rw [List.filter_cons_of_neg (by rw [hp]; simp), List.filter_cons_of_pos hq]
   have:=n4 hl
   simp only [List.length_cons];omega
  ·have ih := tB hl hy hq hp
   by_cases hpa:p a=true
   ·rw [List.filter_cons_of_pos hpa, List.filter_cons_of_pos (h a (List.mem_cons_self ..) hpa)]
    simp only [List.length_cons];omega
   ·rw [List.filter_cons_of_neg hpa]
    by_cases hqa:q a=true
    ·rw [List.filter_cons_of_pos hqa];simp only [List.length_cons];omega
    ·rw [List.filter_cons_of_neg hqa];exact ih
theorem zF {S S':gv} (h:Sub S S'):DA c S'<=DA c S:=n4 fun x _ hx=>by
 cases hs:has S x with
 |false=>rfl
 |true=>rw [h x hs] at hx;cases hx
theorem IE {S:gv} (h:pO S) {x:ByteArray} (hx:x∈ids c) (hn:has S x=false):DA c (bq .str S x true)<DA c S:=by
 refine tB (fun y _ hy=>?_) hx (by rw [hn];rfl) (by rw [(qg h).2 (.inl rfl)];rfl)
 cases hs:has S y with
 |false=>rfl
 |true=>rw [(qg h).2 (.inr hs)] at hy;cases hy
def dm (c : List Mg) : Nat → ByteArray → gv → gv
 |0,_,S=>S
 |n+1,x,S=>if has S x=true then S else (kids c x).foldl (fun S k=>dm c n k S) (bq .str S x true)
theorem je : ∀ {n : Nat} {x : ByteArray} {S : gv}, pO S → pO (dm c n x S) ∧ Sub S (dm c n x S)
 |0,_,_,h=>⟨h,.rfl⟩
 |n+1,x,S,h=>by
  unfold dm
  split
  ·exact ⟨h,.rfl⟩
  ·have key:∀(l:List ByteArray) (S:gv),pO S->pO (l.foldl (fun S k=>dm c n k S) S)/\Sub S (l.foldl (fun S k=>dm c n k S) S):=by
    intro l
    induction l with
    |nil=>intro S h;exact ⟨h,.rfl⟩
    |cons k l ih =>
     intro S h
     obtain ⟨h1,h2⟩:=je (n:=n) (x:=k) h
     obtain ⟨h3,h4⟩:=ih _ h1
     exact ⟨h3,h2.trans h4⟩
   obtain ⟨h1,h2⟩:=key (kids c x) _ (h.put x)
   exact ⟨h1,(Sub.put h x).trans h2⟩
theorem tC {n : Nat} : ∀ {l : List ByteArray} {S : gv}, pO S → pO (l.foldl (fun S k => dm c n k S) S) ∧ Sub S (l.foldl (fun S k => dm c n k S) S)
 |[],_,h=>⟨h,.rfl⟩
 |k::l,S,h=>by
  obtain ⟨h1,h2⟩:=je (c:=c) (n:=n) (x:=k) h
  obtain ⟨h3,h4⟩:=tC (l:=l) h1
  exact ⟨h3,h2.trans h4⟩
theorem vB : ∀ {n n' : Nat} {x : ByteArray} {S : gv}, pO S → x ∈ ids c → DA c S < n → DA c S < n' → dm c n x S = dm c n' x S
 |0,_,_,_,_,_,h,_=>by omega
 |_+1,0,_,_,_,_,_,h=>by omega
 |n+1,n'+1,x,S,hS,hx,h,h'=>by
  unfold dm
  split
  ·rfl
  ·rename_i hn
   have hn:has S x=false:=by simpa using hn
   have hlt:=IE hS hx hn
   have key:∀(l:List ByteArray) (S1:gv),(∀k∈l,k∈ids c)->pO S1->DA c S1<n->DA c S1<n'->l.foldl (fun S k=>dm c n k S) S1=l.foldl (fun S k=>dm c n' k S) S1:=by
    intro l
    induction l with
    |nil=>intro _ _ _ _ _;rfl
    |cons k l ih =>
     intro S1 hk h1 h2 h3
     simp only [List.foldl_cons]
     rw [vB (n:=n) (n':=n') h1 (hk k (List.mem_cons_self ..)) h2 h3]
     obtain ⟨h4,h5⟩:=je (c:=c) (n:=n') (x:=k) h1
     have:=zF (c:=c) h5
     exact ih _ (fun k hk'=>hk k (List.mem_cons_of_mem _ hk')) h4 (by omega) (by omega)
   exact key _ _ (fun k hk=>iC hk) (hS.put x) (by omega) (by omega)
theorem FW {n:Nat} {x:ByteArray} {S:gv} (h:pO S) (hn:DA c S<n):has (dm c n x S) x=true:=by
 cases n with
 |zero=>omega
 |succ n =>
  unfold dm
  split
  ·assumption
  ·exact (tC (h.put x)).2 x ((qg h).2 (.inl rfl))
theorem Bu : ∀ {n : Nat} {x : ByteArray} {S : gv}, pO S → ∀ y, has (dm c n x S) y = true → has S y = true ∨ lz c x y
 |0,_,_,_,y,hy=>.inl hy
 |n+1,x,S,h,y,hy=>by
  unfold dm at hy
  split at hy
  ·exact .inl hy
  ·have key:∀(l:List ByteArray) (S1:gv),(∀k∈l,k∈kids c x)->pO S1->has (l.foldl (fun S k=>dm c n k S) S1) y=true->has S1 y=true\/lz c x y:=by
    intro l
    induction l with
    |nil=>intro S1 _ _ h;exact .inl h
    |cons k l ih =>
     intro S1 hk h1 h2
     simp only [List.foldl_cons] at h2
     rcases ih _ (fun k hk'=>hk k (List.mem_cons_of_mem _ hk')) (je h1).1 h2 with h3|h3
     ·rcases Bu h1 y h3 with h4 | h4
      ·exact .inl h4
      ·exact .inr (.cons (hk k (List.mem_cons_self ..)) h4)
     ·exact .inr h3
   rcases key _ _ (fun k hk=>hk) (h.put x) hy with h1|h1
   ·rcases (qg h).1 h1 with rfl | h2
    ·exact .inr (.refl _)
    ·exact .inl h2
   ·exact .inr h1
theorem Bv : ∀ {n : Nat} {x : ByteArray} {S : gv}, pO S → x ∈ ids c → DA c S < n → ∀ y, has (dm c n x S) y = true → has S y = false → ∀ z ∈ kids c y, has (dm c n x S) z = true
 |0,_,_,_,_,h,_,_,_=>by omega
 |n+1,x,S,hS,hx,hlt,y,hy,hyn=>by
  intro z hz
  unfold dm at hy ⊢
  split at hy
  ·rw [hyn] at hy;cases hy
  ·rename_i hn
   rw [if_neg hn]
   have hn:has S x=false:=by simpa using hn
   have hl:=IE hS hx hn
   have key:∀(l:List ByteArray) (S1:gv),(∀k∈l,k∈kids c x)->pO S1->DA c S1<n->(∀k∈l,has (l.foldl (fun S k=>dm c n k S) S1) k=true) /\
     (has (l.foldl (fun S k=>dm c n k S) S1) y=true->has S1 y=false->has (l.foldl (fun S k=>dm c n k S) S1) z=true):=by
    intro l
    induction l with
    |nil=>intro S1 _ _ _;exact ⟨(fun k hk=>by cases hk),(fun h h'=>by rw [List.foldl_nil,h'] at h;cases h)⟩
    |cons k l ih =>
     intro S1 hk h1 h2
     simp only [List.foldl_cons]
     obtain ⟨h3,h4⟩:=je (c:=c) (n:=n) (x:=k) h1
     have h5:=zF (c:=c) h4
     obtain ⟨h6,h7⟩:=ih _ (fun k hk'=>hk k (List.mem_cons_of_mem _ hk')) h3 (by omega)
     have h8:=(tC (c:=c) (n:=n) (l:=l) h3).2
     refine ⟨fun k' hk'=>?_,fun h9 h10=>?_⟩
     ·rcases List.mem_cons.1 hk' with rfl | hk'
      ·exact h8 _ (FW h1 (by omega))
      ·exact h6 k' hk'
     ·cases h11:has (dm c n k S1) y with
      |false=>exact h7 h9 h11
      |true=>exact h8 _ (Bv h1 (iC (hk k (List.mem_cons_self ..))) h2 y h11 h10 z hz)
   obtain ⟨h1,h2⟩:=key _ _ (fun k hk=>hk) (hS.put x) (by omega)
   by_cases he:y=x
   ·subst he;exact h1 z hz
   ·refine h2 hy ?_
    cases h3:has (bq .str S x true) y with
    |false=>rfl
    |true =>
     rcases (qg hS).1 h3 with h4|h4
     ·exact absurd h4 he
     ·rw [hyn] at h4;cases h4
def YX (c:List Mg) (S:gv):Prop:=∀y,has S y=true->∀z∈kids c y,has S z=true
theorem YX.desc {S:gv} (h:YX c S) {x y:ByteArray} (hx:has S x=true) (hd:lz c x y):has S y=true:=by
 induction hd with
 |refl=>exact hx
 |step _ hz ih=>exact h _ ih _ hz
theorem R1 {n:Nat} {x:ByteArray} {S:gv} (hS:pO S) (hC:YX c S) (hx:x∈ids c) (hn:DA c S<n):YX c (dm c n x S)/\∀y,has (dm c n x S) y=true↔has S y=true\/lz c x y:=by
 have hc:YX c (dm c n x S):=fun y hy z hz=>by
  cases h:has S y with
  |true=>exact (je hS).2 z (hC y h z hz)
  |false=>exact Bv hS hx hn y hy h z hz
 refine ⟨hc,fun y=>⟨Bu hS y,?_⟩⟩
 rintro (h|h)
 ·exact (je hS).2 y h
 ·exact hc.desc (FW hS hn) h
theorem kH96 {m3:Bt} {m5:gv} {x:ByteArray} {S:gv} (hc:c.length<1000000) (hS:pO S) (hx:x∈ids c):ai (FH96fix x m3 (bU c) m5 S)=some (m3,bU c,m5,dm c (c.length+1) x S,()):=by
 have h0:ai (FH96fix x m3 (bU c) m5 S)=uA (A:=k4.T) (B:=k5.T) (fun r y=>run r (FH96 y.1 y.2.1 y.2.2.1 y.2.2.2.1 y.2.2.2.2.1)) (x,m3,bU c,m5,S,()):=rfl
 refine h0.trans ?_
 refine WL (A:=k4.T) (B:=k5.T) (fun a b=>∃x S,a=(x,m3,bU c,m5,S,())/\pO S/\x∈ids c/\b=(m3,bU c,m5,dm c (c.length+1) x S,())) (fun a=>DA c a.2.2.2.2.1) ?_ _ _ ⟨x,S,rfl,hS,hx,rfl⟩
 rintro rec _ _ ⟨x,S,rfl,hS,hx,rfl⟩ ih
 have e:(run rec (FH96 x m3 (bU c) m5 S):Option (Bt×Gs×gv×gv×Unit))=lF (az .str false S x) (some (m3,bU c,m5,S,())) (cI (iter (fun a=>run rec (gH96_0 a)) (az .str [] (bU c) x,(((az .str [] (bU c) x).length:Nat):Int),(0:Int),m3,bU c,m5,bq .str S x true,())) fun z=>some (z.1,z.2.1,z.2.2.1,z.2.2.2.1,())):=rfl
 refine Eq.trans (α:=Option (Bt×Gs×gv×gv×Unit)) e ?_
 rw [RR kS hS.c hS.t,wN]
 by_cases hh:has S x=true
 ·rw [PD hh]
  have:dm c (c.length+1) x S=S:=by unfold dm;rw [if_pos hh]
  rw [this];rfl
 ·rw [Hu (by simpa using hh)]
  have hn:has S x=false:=by simpa using hh
  have hlt:=IE hS hx hn
  have hle:=RZ (c:=c) S
  have SK:=pN c x
  have he:dm c (c.length+1) x S=(kids c x).foldl (fun S k=>dm c (c.length+1) k S) (bq .str S x true):=by
   have:dm c (c.length+1) x S=dm c (c.length+2) x S:=vB hS hx (by omega) (by omega)
   rw [this]
   conv=>lhs;unfold dm
   rw [if_neg hh]
  rw [he]
  refine bind_eq (aQ (kids c x) (fun k (S:gv)=>(kids c x,(((kids c x).length:Nat):Int),(k:Int),m3,bU c,m5,S,())) (fun S r=>(m3,bU c,m5,r.foldl (fun S k=>dm c (c.length+1) k S) S,())) (fun _ S1=>pO S1/\DA c S1<DA c S) ?_ ?_ (s:=bq .str S x true) ⟨hS.put x,hlt⟩) rfl
  ·rintro pre k post S1 hk ⟨h1, h2⟩
   have hlen:(kids c x).length=pre.length+(post.length+1):=by rw [hk];simp
   have hd:(kids c x).getD pre.length (bs [])=k:=by rw [hk];exact aT rfl
   have i1:bT (pre.length:Int) (((kids c x).length:Nat):Int)=true:=aP (by omega) (by omega)
   have r1:dc .i64 ((pre.length:Int)+1)=true:=aD (by omega) (by omega)
   have hki:k∈ids c:=iC (x:=x) (by rw [hk];simp)
   obtain ⟨h3,h4⟩:=je (c:=c) (n:=c.length+1) (x:=k) h1
   have h5:=zF (c:=c) h4
   left
   refine ⟨dm c (c.length+1) k S1,?_,⟨h3,by omega⟩,rfl⟩
   simp only [gH96_0,aj,aJ,aI,aa,aA,aab,Int.toNat_natCast,hd,i1,r1,af,aK]
   rw [if_pos (by omega)]
   have hq:(run rec (Tr.rc (k,m3,bU c,m5,S1,())):Option (Bt×Gs×gv×gv×Unit))=some (m3,bU c,m5,dm c (c.length+1) k S1,()):=ih (k,m3,bU c,m5,S1,()) _ ⟨k,S1,rfl,h1,hki,rfl⟩ h2
   exact bind_eq (A:=Bt×Gs×gv×gv×Unit) hq rfl
  ·rintro S1 _
   simp only [gH96_0,aj,aa,aK]
   rw [if_neg (by omega)]
   rfl
end
end Go.Proofs.Tryz
end
section
namespace Go.Proofs.Tryz
open Go.AM
set_option maxRecDepth 100000
def WM (c:List Mg) (x:ByteArray):Bool:=aR .str (c.map fun m=>(m.1,m)) x && !((az .str zM (c.map fun m=>(m.1,m)) x).2.1==3)
def dir (c:List Mg) (e:ByteArray×List ByteArray):List ByteArray:=if WM c e.1=true then (match e.2.filter (fD c) with|[o]=>e.2.filter (fun k => !decide (k=o))|_=>[]) else []
def pP (c:List Mg) (S:gv) (e:ByteArray×List ByteArray):gv:=(dir c e).foldl (fun S k=>dm c (c.length+1) k S) S
def dz (c:List Mg):gv:=(bU c).foldl (pP c) []
abbrev bZ (c:List Mg):Bt:=c.map fun m=>(m.1,m)
section
variable {c:List Mg}
theorem qh {e:ByteArray×List ByteArray} {y:ByteArray} (h:y∈dir c e):y∈e.2:=by
 unfold dir at h
 split at h
 ·split at h
  ·exact (List.mem_filter.1 h).1
  ·cases h
 ·cases h
structure ox (c:List Mg) (l:List (ByteArray×List ByteArray)) (S:gv):Prop where
 ok:pO S
 Zo:YX c S
 iff:∀x,has S x=true↔∃e∈l,∃y∈dir c e,lz c y x
theorem aie {l:List ByteArray}:∀{S:gv},pO S->YX c S->(∀k∈l,k∈ids c)->pO (l.foldl (fun S k=>dm c (c.length+1) k S) S)/\YX c (l.foldl (fun S k=>dm c (c.length+1) k S) S) /\
  ∀x,has (l.foldl (fun S k=>dm c (c.length+1) k S) S) x=true↔has S x=true\/∃y∈l,lz c y x:=by
 induction l with
 |nil=>intro S h1 h2 _;exact ⟨h1,h2,fun x=>by simp⟩
 |cons k l ih =>
  intro S h1 h2 h3
  have hn:DA c S<c.length+1:=by have:=RZ (c:=c) S;omega
  have hk:=h3 k (List.mem_cons_self ..)
  obtain ⟨h4,h5⟩:=R1 h1 h2 hk hn
  obtain ⟨h6,h7,h8⟩:=ih (je h1).1 h4 fun k hk=>h3 k (List.mem_cons_of_mem _ hk)
  refine ⟨h6,h7,fun x=>?_⟩
  rw [List.foldl_cons,h8,h5]
  simp only [List.mem_cons,exists_eq_or_imp,or_assoc]
theorem ox.step {l:List (ByteArray×List ByteArray)} {S:gv} (h:ox c l S) {e:ByteArray×List ByteArray} (he:∀k∈e.2,k∈ids c):ox c (l++[e]) (pP c S e):=by
 obtain ⟨h1,h2,h3⟩:=aie (l:=dir c e) h.ok h.Zo fun k hk=>he k (qh hk)
 refine ⟨h1,h2,fun x=>?_⟩
 unfold pP
 rw [h3,h.iff]
 constructor
 ·rintro (⟨e', he', h⟩ | h)
  ·exact ⟨e',by simp [he'],h⟩
  ·exact ⟨e,by simp,h⟩
 ·rintro ⟨e', he', h⟩
  rcases List.mem_append.1 he' with he'|he'
  ·exact .inl ⟨e',he',h⟩
  ·rw [List.mem_singleton] at he';subst he';exact .inr h
theorem ox.all : ∀ {r l : List (ByteArray × List ByteArray)} {S : gv}, ox c l S → (∀ e ∈ r, ∀ k ∈ e.2, k ∈ ids c) → ox c (l ++ r) (r.foldl (pP c) S)
 |[],l,S,h,_=>by simpa using h
 |e::r,l,S,h,hr=>by
  have:=ox.all (h.step (hr e (List.mem_cons_self ..))) fun e he=>hr e (List.mem_cons_of_mem _ he)
  simpa using this
theorem ox.nil:ox c [] []:=⟨.nil,fun y hy=>by simp [has,aR] at hy,fun x=>by simp [has,aR]⟩
theorem KL:∀e∈bU c,∀k∈e.2,k∈ids c:=fun e he k hk=>by
 rw [(wO.1 he).1] at hk;exact iC hk
theorem zG {l:List (ByteArray×List ByteArray)} (hp:l.Perm (bU c)):ox c l (l.foldl (pP c) []):=by
 have:=ox.all (c:=c) (r:=l) (l:=[]) .nil fun e he=>KL e (hp.mem_iff.1 he)
 simpa using this
theorem uN (c:List Mg):ox c (bU c) (dz c):=zG (.refl _)
theorem acs {l:List (ByteArray×List ByteArray)} (hp:l.Perm (bU c)):l.foldl (pP c) []=dz c :=
 (zG hp).ok.ext (uN c).ok fun x=>by
  rw [(zG hp).iff,(uN c).iff]
  exact ⟨fun ⟨e,he,h⟩=>⟨e,hp.mem_iff.1 he,h⟩,fun ⟨e,he,h⟩=>⟨e,hp.mem_iff.2 he,h⟩⟩
def dg (c:List Mg) (x:ByteArray):Bool:=has (dz c) x
theorem C9 (x:ByteArray):az .str false (dz c) x=dg c x:=RR kS (uN c).ok.c (uN c).ok.t
theorem zH {x:ByteArray}:dg c x=true↔∃p y,y∈dir c (p,kids c p)/\lz c y x:=by
 unfold dg
 rw [(uN c).iff]
 constructor
 ·rintro ⟨⟨p, l⟩, he, y, hy, hd⟩
  have:=(wO.1 he).1
  simp only at this;subst this
  exact ⟨p,y,hy,hd⟩
 ·rintro ⟨p, y, hy, hd⟩
  refine ⟨(p,kids c p),wO.2 ⟨rfl,fun h=>?_⟩,y,hy,hd⟩
  have:=qh hy
  simp only at this h
  rw [h] at this;cases this
theorem Da {x z:ByteArray} (h:dg c x=true) (hz:z∈kids c x):dg c z=true:=(uN c).Zo x h z hz
theorem acu {m1:List (Mg×Bool)} {m6:Bt} {E2:Int} {E3:Bool} {l SM:List ByteArray} {o:ByteArray} {m:Mg} {S:gv} (hc:c.length<1000000) (hl:l.length<=c.length) (SD:∀k∈l,k∈ids c) (hb:SM.getD 0 (bs [])=o) (rJ:0<SM.length) (hS:pO S) :
  iter (fun x=>ai (gH66_2b_3 x)) (0,1,E2,E3,l,((l.length:Nat):Int),(0:Int),SM,bU c,m.1,m.2.1,m.2.2.1,m.2.2.2.1,m.2.2.2.2,m6,cM c,S,m1,()) =
   some (E2,E3,bU c,m.1,m.2.1,m.2.2.1,m.2.2.2.1,m.2.2.2.2,m6,cM c,(l.filter fun k => !decide (k=o)).foldl (fun S k=>dm c (c.length+1) k S) S,m1,()):=by
 refine aQ l (fun k (S : gv) => (0, 1, E2, E3, l, ((l.length : Nat) : Int), (k : Int), SM, bU c, m.1, m.2.1, m.2.2.1, m.2.2.2.1, m.2.2.2.2, m6, cM c, S, m1, ()))
  (fun S r=>(E2,E3,bU c,m.1,m.2.1,m.2.2.1,m.2.2.2.1,m.2.2.2.2,m6,cM c,(r.filter fun k => !decide (k=o)).foldl (fun S k=>dm c (c.length+1) k S) S,m1,())) (fun _ S=>pO S) ?_ ?_ (s:=S) hS
 ·intro pre x post S hx hS
  have hlen:l.length=pre.length+(post.length+1):=by rw [hx];simp
  have hd:l.getD pre.length (bs [])=x:=by rw [hx];exact aT rfl
  have i1:bT (pre.length:Int) ((l.length:Nat):Int)=true:=aP (by omega) (by omega)
  have i2:bT (0:Int) ((1:Nat):Int)=true:=aP (by omega) (by omega)
  have r1:dc .i64 ((pre.length:Int)+1)=true:=aD (by omega) (by omega)
  have d1:decide (0<SM.length)=true:=decide_eq_true rJ
  left
  by_cases NB:x=o
  ·refine ⟨S, ?_, hS, by rw [List.filter_cons_of_neg (by simp [NB])]⟩
   simp only [gH66_2b_3,aj,aJ,aS,aI,aa,aA,Int.toNat_natCast,Int.toNat_zero,Nat.zero_add,Nat.add_zero,hd,hb,i1,i2,r1,d1,af,aK,seq_eq,NB]
   rw [if_pos (by omega),Hu (by simp)]
   rfl
  ·refine ⟨dm c (c.length + 1) x S, ?_, (je hS).1, by rw [List.filter_cons_of_pos (by simp [NB])]; rfl⟩
   simp only [gH66_2b_3,aj,aJ,aS,aI,aa,aA,Int.toNat_natCast,Int.toNat_zero,Nat.zero_add,Nat.add_zero,hd,hb,i1,i2,r1,d1,af,aK,seq_eq]
   rw [if_pos (by omega),PD (by simp [NB])]
   rw [ag (kH96 hc hS (SD x (by rw [hx];simp)))]
   rfl
 ·intro S _
  simp only [gH66_2b_3,aj,aa,aK]
  rw [if_neg (by omega)]
  rfl
theorem aif {m1:List (Mg×Bool)} {e:ByteArray×List ByteArray} {S:gv} (hc:c.length<1000000) (he:e∈bU c) (hS:pO S):ai (gH66_2 e (bU c,m1,bZ c,cM c,S,()))=some (bU c,m1,bZ c,cM c,pP c S e,()):=by
 have SB:=(wO.1 he).1
 have hl:e.2.length<=c.length:=by rw [SB];exact pN c e.1
 simp only [gH66_2,aj,aS,aa,aA,bn,dQ,af,bx]
 unfold pP dir WM
 cases hh:aR .str (bZ c) e.1 with
 |false=>rw [aO];simp
 |true =>
  rw [bO]
  by_cases h3:(az .str zM (bZ c) e.1).2.1=3
  ·rw [aZ, if_pos h3, if_neg (by simp [h3])]
   rfl
  ·rw [aZ, if_neg h3, if_pos (by simp [h3])]
   rw [ag (kH98 (by omega))]
   obtain ⟨b,iP,fF,AB⟩:=kH97 (m3:=bZ c) (m4:=bU c) (m5:=cM c) (m6:=S) (l:=e.2) (by omega)
   rw [ag AB]
   have hf:(e.2.filter fun v => !(!az .str false (cM c) v))=e.2.filter (fD c):=List.filter_congr fun v _=>by rw [WK];simp
   rw [hf] at fF ⊢
   simp only [dQ,af,aZ]
   by_cases h1:(e.2.filter (fD c)).length=1
   ·rw [if_pos (by omega)]
    obtain ⟨o,ho⟩:=List.length_eq_one_iff.1 h1
    rw [ho] at fF h1 ⊢
    simp only [List.length_singleton] at fF ⊢
    have rJ:0<b.length:=by
     cases b with
     |nil=>simp at fF
     |cons _ _=>simp
    have hbo:b.getD 0 (bs [])=o:=by
     cases b with
     |nil=>simp at fF
     |cons x r=>simp at fF;simp [fF]
    rw [ag (acu (m:=az .str zM (bZ c) e.1) (o:=o) hc hl (KL e he) hbo rJ hS)]
    simp only [dQ,af]
   ·rw [if_neg (by omega)]
    have:(match e.2.filter (fD c) with|[o]=>e.2.filter (fun k => !decide (k=o))|_=>[])=([]:List ByteArray):=by
     split
     ·rename_i o ho;rw [ho] at h1;simp at h1
     ·rfl
    rw [this]
    rfl
theorem R2 {L:List Mg} (h:lG L):ai (FH66 (bk L))=some (bk L,bZ (cnt L),bU (cnt L),cM (cnt L),dz (cnt L),()):=by
 have hl:=h.len
 have tY:(cnt L).length<=60:=by
  have:(cnt L).length<=L.length:=by
   have hn:(cnt L).Nodup:=List.Pairwise.imp (fun {a b} h e=>by subst e;rw [show slt a.1 a.1=false from fq (t:=.str) kS a.1] at h;cases h) (fe L)
   exact List.Nodup.length_le_of_subset hn fun m hm=>C8 hm
  omega
 have hby:qI L=bZ (cnt L):=FV L
 unfold FH66
 simp only [aA,bn,aS]
 rw [ag (acp h.s (by omega))]
 simp only
 rw [ag (aic (by omega))]
 simp only [FH95,aa,aF]
 rw [hby,ag (WJ (fe L) (by omega))]
 simp only [List.isEmpty_nil,af]
 rw [ag (aid (fe L) (by omega))]
 simp only
 have hmq:run (fun _=>none) (.mq gH66_2 (bU (cnt L)) (bU (cnt L),bk L,bZ (cnt L),cM (cnt L),[],()))=some (bU (cnt L),bk L,bZ (cnt L),cM (cnt L),dz (cnt L),()):=by
  refine Eq.trans Hw (gV fun l hp=>?_)
  have := (FT (step := fun e a => run (fun _ => none) (gH66_2 e a)) (fun (a : Gs × List (Mg × Bool) × Bt × gv × gv × Unit) e => (bU (cnt L), bk L, bZ (cnt L), cM (cnt L), pP (cnt L) a.2.2.2.2.1 e, ())) (fun a => ∃ S, a = (bU (cnt L), bk L, bZ (cnt L), cM (cnt L), S, ()) ∧ pO S) l (bU (cnt L), bk L, bZ (cnt L), cM (cnt L), [], ()) ⟨[], rfl, .nil⟩ (by
   rintro e he _ ⟨S,rfl,hS⟩
   refine ⟨aif (by omega) (hp.mem_iff.1 he) hS,_,rfl,?_⟩
   exact (tC hS).1)).1
  rw [this]
  have key:∀(l:List (ByteArray×List ByteArray)) (S:gv),l.foldl (fun (a:Gs×List (Mg×Bool)×Bt×gv×gv×Unit) e=>(bU (cnt L),bk L,bZ (cnt L),cM (cnt L),pP (cnt L) a.2.2.2.2.1 e,())) (bU (cnt L),bk L,bZ (cnt L),cM (cnt L),S,())=(bU (cnt L),bk L,bZ (cnt L),cM (cnt L),l.foldl (pP (cnt L)) S,()):=by
   intro l
   induction l with
   |nil=>intro S;rfl
   |cons e l ih=>intro S;exact ih _
  rw [key,acs hp]
 rw [ag hmq]
end
end Go.Proofs.Tryz
end
section
namespace Go.Proofs.Tryz
open Go.AM
set_option maxRecDepth 100000
theorem Db {A B : Type} {F : (A → Option B) → A → Option B} (R : Nat → A → B → Prop)
  (h:∀rec n x y,R n x y->(∀n' x' y',n'<n->R n' x' y'->rec x'=some y')->F rec x=some y):∀n x y,R n x y->uA F x=some y:=by
 have key:∀k n x y,R n x y->n<k->Ud F k x=some y:=by
  intro k
  induction k with
  |zero=>intro n x y _ hm;omega
  |succ k ih=>intro n x y hx hm;exact h _ n x y hx fun n' x' y' hn' hx'=>ih n' x' y' hx' (by omega)
 intro n x y hx
 exact JF (N:=n+1) fun k hk=>key k n x y hx (by omega)
section
variable {c:List Mg}
theorem lB {x y:ByteArray}:y∈kids c x↔∃m∈c,m.1=y/\m.2.1=2/\m.2.2.1=x:=by
 unfold kids
 rw [List.mem_map]
 constructor
 ·rintro ⟨m, hm, rfl⟩
  obtain ⟨h1,h2⟩:=List.mem_filter.1 hm
  simp only [decide_eq_true_eq] at h2
  exact ⟨m,h1,rfl,h2⟩
 ·rintro ⟨m, hm, rfl, h⟩
  exact ⟨m,List.mem_filter.2 ⟨hm,by simpa using h⟩,rfl⟩
theorem KM (hs:SI c) {x x' y:ByteArray} (h:y∈kids c x) (h':y∈kids c x'):x=x':=by
 obtain ⟨m,h1,h2,_,h3⟩:=lB.1 h
 obtain ⟨m',h1',h2',_,h3'⟩:=lB.1 h'
 have:=hs.inj h1 h1' (h2.trans h2'.symm)
 subst this
 exact h3.symm.trans h3'
inductive jU (c : List Mg) (x : ByteArray) : Nat → ByteArray → Prop
 |zero:jU c x 0 x
 |step {n y z} (h:jU c x n y) (hz:z∈kids c y):jU c x (n+1) z
theorem jU.add {n m:Nat} {x y z:ByteArray} (h:jU c x n y) (h':jU c y m z):jU c x (n+m) z:=by
 induction h' with
 |zero=>exact h
 |step _ hz ih=>exact .step ih hz
theorem jU.up (hs:SI c) {n:Nat} {x y:ByteArray} (h:jU c x n y):∀{m:Nat} {x':ByteArray},jU c x' m y->n<=m->jU c x' (m - n) x:=by
 induction h with
 |zero=>intro m x' h' _;exact h'
 |step h hz ih =>
  intro m x' h' hle
  cases h' with
  |zero=>omega
  |step h2 tK =>
   have e:=KM hs hz tK
   subst e
   have:=ih h2 (by omega)
   rwa [Nat.add_sub_add_right]
theorem jU.desc {n:Nat} {x y:ByteArray} (h:jU c x n y):lz c x y:=by
 induction h with
 |zero=>exact .refl _
 |step _ hz ih=>exact .step ih hz
theorem lz.pth {x y:ByteArray} (h:lz c x y):∃n,jU c x n y:=by
 induction h with
 |refl=>exact ⟨0,.zero⟩
 |step _ hz ih=>obtain ⟨n,h⟩:=ih;exact ⟨n+1,.step h hz⟩
def WN (c:List Mg) (t:ByteArray):Prop:=∀x,t∉kids c x
theorem jU.deep (hs:SI c) {t:ByteArray} (ht:WN c t) {n m:Nat} {y:ByteArray} (h:jU c t n y) (h':jU c t m y):n=m:=by
 have key:∀{n m:Nat},jU c t n y->jU c t m y->n<=m->n=m:=fun {n m} h h' hle=>by
  have:=h.up hs h' hle
  generalize hk:m - n=k at this
  cases this with
  |zero=>omega
  |step _ hz=>exact absurd hz (ht _)
 rcases Nat.le_total n m with hle|hle
 ·exact key h h' hle
 ·exact (key h' h hle).symm
theorem jU.short (hs:SI c) {t:ByteArray} (ht:WN c t) (Dv:t∈ids c) {n:Nat} {y:ByteArray} (h:jU c t n y):n<c.length:=by
 have key:∃l:List ByteArray,l.length=n+1/\l.Nodup/\∀a∈l,a∈ids c/\∃i,i<=n/\jU c t i a:=by
  induction h with
  |zero=>exact ⟨[t],rfl,by simp,fun a ha=>by rw [List.mem_singleton] at ha;subst ha;exact ⟨Dv,0,Nat.le_refl _,.zero⟩⟩
  |step h hz ih =>
   rename_i n' y' z
   obtain ⟨l,h1,h2,h3⟩:=ih
   have hp:jU c t (n'+1) z:=.step h hz
   refine ⟨z::l,by simp [h1],List.nodup_cons.2 ⟨fun hzl=>?_,h2⟩,fun a ha=>?_⟩
   ·obtain ⟨_, i, hi, hpi⟩ := h3 z hzl
    have:=hpi.deep hs ht hp
    omega
   ·rcases List.mem_cons.1 ha with rfl | ha
    ·exact ⟨iC hz,n'+1,Nat.le_refl _,hp⟩
    ·obtain ⟨q1, i, hi, hpi⟩ := h3 a ha
     exact ⟨q1,i,by omega,hpi⟩
 obtain ⟨l,h1,h2,h3⟩:=key
 have:=List.Nodup.length_le_of_subset h2 (fun a ha=>(h3 a ha).1)
 have hl:(ids c).length=c.length:=by simp [ids]
 omega
def eF (c:List Mg) (x:ByteArray):List ByteArray:=(kids c x).filter fun k => !dg c k
theorem wP {x y:ByteArray} (h:y∈eF c x):y∈kids c x:=(List.mem_filter.1 h).1
theorem WO (x:ByteArray):(eF c x).length<=c.length:=Nat.le_trans (List.length_filter_le ..) (pN c x)
def cB (c : List Mg) : Nat → ByteArray → List ByteArray
 |0,_=>[]
 |n+1,x=>match eF c x with
  |[]=>[x]
  |k::l=>o9 .str ((k::l).flatMap (cB c n))
def ir (c:List Mg) (t:ByteArray):List ByteArray:=cB c (c.length+1) t
theorem WQ (hs:SI c) (x:ByteArray):(kids c x).Nodup:=by
 unfold kids List.Nodup
 rw [List.pairwise_map]
 refine List.Pairwise.imp (fun {a b} h e=>?_) (List.Pairwise.filter _ hs)
 rw [e,show slt b.1 b.1=false from fq (t:=.str) kS b.1] at h;cases h
theorem mY : ∀ {n : Nat} {x y : ByteArray}, y ∈ cB c n x → lz c x y
 |0,_,_,h=>by cases h
 |n+1,x,y,h=>by
  unfold cB at h
  split at h
  ·rw [List.mem_singleton] at h;subst h;exact .refl _
  ·rename_i k l hl
   rw [(dS (t:=.str) _).mem_iff,List.mem_flatMap] at h
   obtain ⟨a,ha,h⟩:=h
   exact .cons (wP (by rw [hl];exact ha)) (mY h)
theorem Dc (hs : SI c) {t : ByteArray} (ht : WN c t) : ∀ {n d : Nat} {x : ByteArray}, jU c t d x → (cB c n x).Nodup
 |0,_,_,_=>.nil
 |n+1,d,x,hp=>by
  unfold cB
  split
  ·simp
  ·rename_i k l hl
   refine (dS (t:=.str) _).nodup_iff.2 ?_
   have hn:(k::l).Nodup:=by rw [<-hl];exact List.Pairwise.filter _ (WQ hs x)
   have hk:∀a∈k::l,a∈kids c x:=fun a ha=>wP (by rw [hl];exact ha)
   refine List.pairwise_flatMap.2 ⟨fun a ha=>Dc hs ht (hp.step (hk a ha)),List.Pairwise.imp_of_mem (fun {a b} ha hb hab=>?_) hn⟩
   intro y hya y' hyb e
   subst e
   obtain ⟨i,hi⟩:=(mY hya).pth
   obtain ⟨j,hj⟩:=(mY hyb).pth
   have h1:=(hp.step (hk a ha)).add hi
   have h2:=(hp.step (hk b hb)).add hj
   have:=h1.deep hs ht h2
   have he:i=j:=by omega
   subst he
   have:=hi.up hs hj (Nat.le_refl _)
   rw [Nat.sub_self] at this
   cases this
   exact hab rfl
theorem gG (hs:SI c) {t:ByteArray} (ht:WN c t) (Dv:t∈ids c) {n d:Nat} {x:ByteArray} (hp:jU c t d x):(cB c n x).length<=c.length:=by
 have h:=List.Nodup.length_le_of_subset (Dc hs ht (n:=n) hp) (l₂:=ids c) fun y hy=>by
  have hd:lz c t y:=hp.desc.trans (mY hy)
  cases hd with
  |refl=>exact Dv
  |step _ hz=>exact iC hz
 have hl:(ids c).length=c.length:=by simp [ids]
 omega
end
end Go.Proofs.Tryz
end
section
namespace Go.Proofs.Tryz
open Go.AM
set_option maxRecDepth 100000
section
variable {c:List Mg}
theorem aih (hc:c.length<1000000) (x:ByteArray):∃b,b.take (eF c x).length=eF c x/\(eF c x).length<=b.length/\ai (FH104 x (bZ c) (bU c) (cM c) (dz c))=some (0,(eF c x).length,b,bZ c,bU c,cM c,dz c,()):=by
 have hk:=pN c x
 obtain ⟨b,h1,h2,h3⟩:=WH (m3:=bZ c) (m4:=bU c) (m5:=cM c) (m6:=dz c) (l:=kids c x) (by omega)
 have hf:(kids c x).filter (fun v => !(az .str false (dz c) v))=eF c x:=List.filter_congr fun v _=>by rw [C9]
 rw [hf] at h2 h3
 refine ⟨b,h2,by rw [h1];exact List.length_filter_le ..,?_⟩
 unfold FH104
 simp only [aA,wN]
 rw [ag (kH98 (by omega))]
 simp only
 rw [ag h3]
 rfl
abbrev D76:=Nat×List ByteArray×Bt×Gs×gv×gv×Unit
theorem R3 (hs:SI c) (hc:c.length<1000000) {t:ByteArray} (ht:WN c t) (Dv:t∈ids c):ai (FH76fix t (bZ c) (bU c) (cM c) (dz c))=some ((ir c t).length,ir c t,bZ c,bU c,cM c,dz c,()):=by
 have h0:ai (FH76fix t (bZ c) (bU c) (cM c) (dz c))=uA (A:=k6.T) (B:=k7.T) (fun r y=>run r (FH76 y.1 y.2.1 y.2.2.1 y.2.2.2.1 y.2.2.2.2.1)) (t,bZ c,bU c,cM c,dz c,()):=rfl
 refine h0.trans ?_
 refine Db (A:=k6.T) (B:=k7.T) (fun n a b=>∃z d,a=(z,bZ c,bU c,cM c,dz c,())/\jU c t d z/\d+n=c.length/\b=((cB c (n+1) z).length,cB c (n+1) z,bZ c,bU c,cM c,dz c,())) ?_ c.length _ _ ⟨t,0,rfl,.zero,by omega,rfl⟩
 rintro rec n _ _ ⟨z,d,rfl,hp,hn,rfl⟩ ih
 have R4:=hp.short hs ht Dv
 obtain ⟨b,iP,fF,AB⟩:=aih hc z
 have zO:=WO (c:=c) z
 have hvl:=gG hs ht Dv (n:=n+1) hp
 have e : (run rec (FH76 z (bZ c) (bU c) (cM c) (dz c)) : Option D76) = cI (ai (FH104 z (bZ c) (bU c) (cM c) (dz c))) fun y0 => lF (((y0.2.1 : Nat) : Int) == 0) (some (1, [z], y0.2.2.2.1, y0.2.2.2.2.1, y0.2.2.2.2.2.1, y0.2.2.2.2.2.2.1, ()))
   (cI (iter (fun a=>run rec (gH76_0 a)) (0,y0.1,y0.2.1,((y0.2.1:Nat):Int),(0:Int),[],y0.2.2.1,y0.2.2.2.1,y0.2.2.2.2.1,y0.2.2.2.2.2.1,y0.2.2.2.2.2.2.1,())) fun z2=>cI (ai (FH105 z2.1 z2.2.1)) fun y3=>some (z2.1,y3.1,z2.2.2.1,z2.2.2.2.1,z2.2.2.2.2.1,z2.2.2.2.2.2.1,())):=rfl
 refine Eq.trans (α:=Option D76) e ?_
 rw [ag AB]
 simp only [aZ]
 cases hl:eF c z with
 |nil =>
  have hv:cB c (n+1) z=[z]:=by unfold cB;rw [hl]
  rw [hv];rfl
 |cons k0 l0 =>
  have hlen:(eF c z).length=l0.length+1:=by rw [hl];rfl
  rw [<-hl,if_neg (by omega)]
  have hv:cB c (n+1) z=o9 .str ((eF c z).flatMap (cB c n)):=by
   conv=>lhs;unfold cB
   rw [hl]
  have hfl:((eF c z).flatMap (cB c n)).length<=c.length:=by
   have:=(dS (t:=.str) ((eF c z).flatMap (cB c n))).length_eq
   rw [<-hv] at this
   omega
  have hit : iter (fun a => run rec (gH76_0 a)) (0, 0, (eF c z).length, (((eF c z).length : Nat) : Int), (0 : Int), [], b, bZ c, bU c, cM c, dz c, ()) = some (((eF c z).flatMap (cB c n)).length, (eF c z).flatMap (cB c n), bZ c, bU c, cM c, dz c, ()) := (aQ (eF c z) (fun k (o : List ByteArray) => (o.length, 0, (eF c z).length, (((eF c z).length : Nat) : Int), (k : Int), o, b, bZ c, bU c, cM c, dz c, ())) (fun o r => ((o ++ r.flatMap (cB c n)).length, o ++ r.flatMap (cB c n), bZ c, bU c, cM c, dz c, ()))
   (fun pre o => o = pre.flatMap (cB c n)) (by
    rintro pre k post _ hx rfl
    have hlen:(eF c z).length=pre.length+(post.length+1):=by rw [hx];simp
    have hd:b.getD pre.length (bs [])=k:=by
     have:(b.take (eF c z).length).getD pre.length (bs [])=k:=by rw [iP,hx];exact aT rfl
     rw [getD_take (by omega)] at this;exact this
    have hkk:k∈kids c z:=wP (by rw [hx];simp)
    have i1:bT (pre.length:Int) (((eF c z).length:Nat):Int)=true:=aP (by omega) (by omega)
    have r1:dc .i64 ((pre.length:Int)+1)=true:=aD (by omega) (by omega)
    have d1:decide (pre.length<b.length)=true:=decide_eq_true (by omega)
    have Ot:=hp.step hkk
    have hsh:=Ot.short hs ht Dv
    left
    refine ⟨pre.flatMap (cB c n)++cB c n k,?_,by simp,by simp [List.flatMap_cons]⟩
    have e2 : (run rec (gH76_0 ((pre.flatMap (cB c n)).length, 0, (eF c z).length, (((eF c z).length : Nat) : Int), (pre.length : Int), pre.flatMap (cB c n), b, bZ c, bU c, cM c, dz c, ()))) = lF (decide ((pre.length : Int) < (((eF c z).length : Nat) : Int))) (need (bT (pre.length : Int) (((eF c z).length : Nat) : Int)) (need (decide (0 + Int.toNat (pre.length : Int) < b.length))
      (cI (rec (b.getD (0 + Int.toNat (pre.length : Int)) (bs []), bZ c, bU c, cM c, dz c, ()) : Option D76) fun y1 => need (decide ((pre.flatMap (cB c n)).length + ((y1.2.1.drop 0).take y1.1).length < bp)) (need (dc .i64 ((pre.length : Int) + 1))
       (some (.inl ((pre.flatMap (cB c n)).length+((y1.2.1.drop 0).take y1.1).length,0,(eF c z).length,(((eF c z).length:Nat):Int),(pre.length:Int)+1,(((pre.flatMap (cB c n)).drop 0).take (pre.flatMap (cB c n)).length)++((y1.2.1.drop 0).take y1.1),b,y1.2.2.1,y1.2.2.2.1,y1.2.2.2.2.1,y1.2.2.2.2.2.1,())))))))
      (some (.inr ((pre.flatMap (cB c n)).length,pre.flatMap (cB c n),bZ c,bU c,cM c,dz c,()))):=rfl
    rw [e2,Int.toNat_natCast,Nat.zero_add,hd,i1,af,d1,af,aK,if_pos (by omega)]
    obtain ⟨n',rfl⟩:∃n',n=n'+1:=⟨n - 1,by omega⟩
    have hq:(rec (k,bZ c,bU c,cM c,dz c,()):Option D76)=some ((cB c (n'+1) k).length,cB c (n'+1) k,bZ c,bU c,cM c,dz c,()):=ih n' (k,bZ c,bU c,cM c,dz c,()) _ (by omega) ⟨k,d+1,rfl,Ot,by omega,rfl⟩
    refine bind_eq (A:=D76) hq ?_
    simp only [List.drop_zero,List.take_length,r1,af]
    have hle:(pre.flatMap (cB c (n'+1))).length+(cB c (n'+1) k).length<=c.length:=by
     have:((eF c z).flatMap (cB c (n'+1))).length=(pre.flatMap (cB c (n'+1))).length+((cB c (n'+1) k).length+(post.flatMap (cB c (n'+1))).length):=by rw [hx];simp
     omega
    rw [cm (show _<bp by rw [cO];omega)]
    simp only [List.length_append]
    rfl) (by
    rintro o _
    have e2 : (run rec (gH76_0 (o.length, 0, (eF c z).length, (((eF c z).length : Nat) : Int), (((eF c z).length : Nat) : Int), o, b, bZ c, bU c, cM c, dz c, ()))) = lF (decide ((((eF c z).length : Nat) : Int) < (((eF c z).length : Nat) : Int))) (need (bT (((eF c z).length : Nat) : Int) (((eF c z).length : Nat) : Int)) (need (decide (0 + Int.toNat (((eF c z).length : Nat) : Int) < b.length))
      (cI (rec (b.getD (0 + Int.toNat (((eF c z).length : Nat) : Int)) (bs []), bZ c, bU c, cM c, dz c, ()) : Option D76) fun y1 => need (decide (o.length + ((y1.2.1.drop 0).take y1.1).length < bp)) (need (dc .i64 ((((eF c z).length : Nat) : Int) + 1))
       (some (.inl (o.length+((y1.2.1.drop 0).take y1.1).length,0,(eF c z).length,(((eF c z).length:Nat):Int),(((eF c z).length:Nat):Int)+1,((o.drop 0).take o.length)++((y1.2.1.drop 0).take y1.1),b,y1.2.2.1,y1.2.2.2.1,y1.2.2.2.2.1,y1.2.2.2.2.2.1,())))))))
      (some (.inr (o.length,o,bZ c,bU c,cM c,dz c,()))):=rfl
    rw [e2,aK,if_neg (by omega)]
    simp) (s:=[]) rfl)
  refine bind_eq (A:=Nat×List ByteArray×Bt×Gs×gv×gv×Unit) hit ?_
  simp only [FH105,yE]
  have hsrt:vN .str ((eF c z).flatMap (cB c n)) ((eF c z).flatMap (cB c n)).length=some (o9 .str ((eF c z).flatMap (cB c n)),()):=pM kS (dS _) (qe kS _) (by omega)
  refine bind_eq hsrt ?_
  rw [hv]
  have hpl:=(dS (t:=.str) ((eF c z).flatMap (cB c n))).length_eq
  rw [hpl]
  rfl
end
end Go.Proofs.Tryz
end
section
namespace Go.Proofs.Tryz
open Go.AM
set_option maxRecDepth 100000
def msg (c:List Mg) (x:ByteArray):Mg:=az .str zM (bZ c) x
def oy (c:List Mg) (x:ByteArray):Bool:=aR .str (bZ c) x
section
variable {c:List Mg}
theorem bF {x:ByteArray}:oy c x=true↔x∈ids c:=by
 unfold oy ids
 rw [dJ kS]
 constructor
 ·rintro ⟨v, hv⟩
  obtain ⟨m,hm,h⟩:=List.mem_map.1 hv
  exact List.mem_map.2 ⟨m,hm,congrArg Prod.fst h⟩
 ·intro h
  obtain ⟨m,hm,rfl⟩:=List.mem_map.1 h
  exact ⟨m,List.mem_map.2 ⟨m,hm,rfl⟩⟩
theorem eo (hs:SI c) {m:Mg} (hm:m∈c):msg c m.1=m:=gF kS hs.cam (List.mem_map.2 ⟨m,hm,rfl⟩)
theorem Dd (hs:SI c) {x:ByteArray} (h:oy c x=true):msg c x∈c/\(msg c x).1=x:=by
 obtain ⟨m,hm,rfl⟩:=List.mem_map.1 (bF.1 h)
 rw [eo hs hm];exact ⟨hm,rfl⟩
theorem lC (hs:SI c) {x:ByteArray} (h:oy c x=true) (hk:(msg c x).2.1=1):WN c x:=by
 intro y hy
 obtain ⟨m,hm,h1,h2,_⟩:=lB.1 hy
 subst h1
 rw [eo hs hm] at hk
 omega
def Am (c : List Mg) : Nat → ByteArray → Option ByteArray
 |0,_=>none
 |n+1,x=>if oy c x=true then (if (msg c x).2.1=3 then none else if dg c x=true then none else if (msg c x).2.1=1 then some x else Am c n (msg c x).2.2.1) else none
theorem FX (hs : SI c) : ∀ {n : Nat} {x t : ByteArray}, Am c n x = some t → oy c t = true ∧ (msg c t).2.1 = 1 ∧ dg c t = false
 |0,_,_,h=>by cases h
 |n+1,x,t,h=>by
  unfold Am at h
  split at h<;>try (cases h;done)
  rename_i h1
  split at h<;>try (cases h;done)
  split at h<;>try (cases h;done)
  rename_i h3
  split at h
  ·rename_i h4;cases h;exact ⟨h1,h4,by simpa using h3⟩
  ·exact FX hs h
abbrev mZ (c:List Mg) (x:ByteArray):Option ByteArray:=Am c c.length x
theorem kH74 (hs:SI c) (hc:c.length<1000000) (x:ByteArray):ai (FH74 x (bZ c) (bU c) (cM c) (dz c)) =
  some (match mZ c x with|some t=>((ir c t).length,true,ir c t,bZ c,bU c,cM c,dz c,())|none=>(0,false,[],bZ c,bU c,cM c,dz c,())):=by
 have key:∀(l:List (ByteArray×Mg)) (x:ByteArray),∃x',zY (fun e a=>run (fun _=>none) (gH74_0 e a)) l (x,bZ c,bU c,cM c,dz c,()) =
   some (match Am c l.length x with|some t=>.inr ((ir c t).length,true,ir c t,bZ c,bU c,cM c,dz c,())|none=>x') /\
   (Am c l.length x=none->x' = .inr (0,false,[],bZ c,bU c,cM c,dz c,())\/∃y,x' = .inl (y,bZ c,bU c,cM c,dz c,())):=by
  intro l
  induction l with
  |nil=>intro x;exact ⟨.inl (x,bZ c,bU c,cM c,dz c,()),rfl,fun _=>.inr ⟨x,rfl⟩⟩
  |cons e l ih =>
   intro x
   have hg:run (fun _=>none) (gH74_0 e (x,bZ c,bU c,cM c,dz c,()))=if oy c x=true then (if (msg c x).2.1=3 then some (.inr (0,false,[],bZ c,bU c,cM c,dz c,())) else if dg c x=true then some (.inr (0,false,[],bZ c,bU c,cM c,dz c,())) else if (msg c x).2.1=1 then some (.inr ((ir c x).length,true,ir c x,bZ c,bU c,cM c,dz c,())) else some (.inl ((msg c x).2.2.1,bZ c,bU c,cM c,dz c,()))) else some (.inr (0,false,[],bZ c,bU c,cM c,dz c,())):=by
    simp only [gH74_0,aj,aA,aS,aa,dQ,af,bx,aZ,C9]
    rw [show aR .str (bZ c) x=oy c x from rfl,show az .str zM (bZ c) x=msg c x from rfl,jR]
    split
    ·rename_i h1
     split
     ·rfl
     ·rw [jR]
      split
      ·rfl
      ·split
       ·rename_i h4
        rw [ag (R3 hs hc (lC hs h1 h4) (bF.1 h1))]
       ·rfl
    ·rfl
   simp only [zY,hg,List.length_cons,Am]
   by_cases h1:oy c x=true
   ·rw [if_pos h1, if_pos h1]
    by_cases h2:(msg c x).2.1=3
    ·rw [if_pos h2,if_pos h2];exact ⟨_,rfl,fun _=>.inl rfl⟩
    ·rw [if_neg h2, if_neg h2]
     by_cases h3:dg c x=true
     ·rw [if_pos h3,if_pos h3];exact ⟨_,rfl,fun _=>.inl rfl⟩
     ·rw [if_neg h3, if_neg h3]
      by_cases h4:(msg c x).2.1=1
      ·rw [if_pos h4,if_pos h4];exact ⟨.inr (0,false,[],bZ c,bU c,cM c,dz c,()),rfl,fun h=>by cases h⟩
      ·rw [if_neg h4,if_neg h4];exact ih _
   ·rw [if_neg h1,if_neg h1];exact ⟨_,rfl,fun _=>.inl rfl⟩
 unfold FH74
 simp only [aA]
 have hmp:∃x',run (fun _=>none) (.mp gH74_0 (bZ c) (x,bZ c,bU c,cM c,dz c,()))=some (match mZ c x with|some t=>.inr ((ir c t).length,true,ir c t,bZ c,bU c,cM c,dz c,())|none=>x') /\
   (mZ c x=none->x' = .inr (0,false,[],bZ c,bU c,cM c,dz c,())\/∃y,x' = .inl (y,bZ c,bU c,cM c,dz c,())):=by
  obtain ⟨x',h1,h2⟩:=key (bZ c) x
  have hlen:(bZ c).length=c.length:=List.length_map ..
  rw [hlen] at h1 h2
  refine ⟨x',Eq.trans aac (gV fun l hp=>?_),h2⟩
  have zO:l.length=(bZ c).length:=hp.length_eq
  have hany:∀(l l':List (ByteArray×Mg)) (a:ByteArray×Bt×Gs×gv×gv×Unit),l.length=l'.length->zY (fun e a=>run (fun _=>none) (gH74_0 e a)) l a=zY (fun e a=>run (fun _=>none) (gH74_0 e a)) l' a:=by
   intro l
   induction l with
   |nil =>
    intro l' a h
    cases l' with
    |nil=>rfl
    |cons _ _=>simp at h
   |cons e l ih =>
    intro l' a h
    cases l' with
    |nil=>simp at h
    |cons e' l' =>
     have hs:run (fun _=>none) (gH74_0 e a)=run (fun _=>none) (gH74_0 e' a):=rfl
     simp only [zY,hs]
     split
     ·rfl
     ·exact ih l' _ (by simpa using h)
     ·rfl
  rw [hany l (bZ c) _ zO]
  exact h1
 obtain ⟨x',h1,h2⟩:=hmp
 rw [ag h1]
 cases hst:mZ c x with
 |some t=>simp only [iW,aa]
 |none =>
  rcases h2 hst with rfl|⟨y,rfl⟩
  ·simp only [iW,aa]
  ·simp only [mg,aa]
def R5 (x:ByteArray) (l:List ByteArray):Bool:=l.any fun y=>decide (y=x)
theorem tD {x:ByteArray} {l:List ByteArray}:R5 x l=true↔x∈l:=by
 unfold R5;rw [List.any_eq_true]
 constructor
 ·rintro ⟨y,hy,h⟩;have:=of_decide_eq_true h;subst this;exact hy
 ·intro h;exact ⟨x,h,decide_eq_true rfl⟩
theorem k75 {l:List ByteArray} (hl:l.length<1000000000) (x:ByteArray):ai (F75 l x)=some (R5 x l,()):=by
 have hi:iter (fun a=>run (fun _=>none) (g103_0 a)) (l,x,((l.length:Nat):Int),(0:Int),())=some (match fc (fun y=>decide (y=x)) 0 l with|some k=>Sum.inl (((k:Nat):Int),())|none=>Sum.inr ()):=by
  refine aQ l (fun k (_:Nat)=>(l,x,((l.length:Nat):Int),(k:Int),())) (fun k r=>match fc (fun y=>decide (y=x)) k r with|some k=>Sum.inl (((k:Nat):Int),())|none=>Sum.inr ()) (fun pre k=>k=pre.length) ?_ ?_ (s:=0) rfl
  ·rintro pre y post k hx rfl
   have hlen:l.length=pre.length+(post.length+1):=by rw [hx];simp
   have hd:l.getD pre.length (bs [])=y:=by rw [hx];exact aT rfl
   have i1:bT (pre.length:Int) ((l.length:Nat):Int)=true:=aP (by omega) (by omega)
   have r1:dc .i64 ((pre.length:Int)+1)=true:=aD (by omega) (by omega)
   simp only [g103_0,aj,aJ,aI,aa,Int.toNat_natCast,hd,i1,r1,af,aK,seq_eq]
   rw [if_pos (by omega)]
   by_cases h:y=x
   ·right
    rw [if_pos h.symm]
    simp [fc,h]
   ·left
    refine ⟨pre.length+1,?_,by simp,?_⟩
    ·rw [if_neg (fun e=>h e.symm)];rfl
    ·simp [fc,h]
  ·rintro k _
   simp only [g103_0,aj,aK,aa]
   rw [if_neg (by omega)];rfl
 unfold F75 F103
 simp only [aA,bn]
 rcases lY (fun y=>decide (y=x)) l 0 with ⟨p,y,q,h1,h2,h3,h4⟩|⟨h1,h2⟩
 ·rw [h4] at hi
  rw [ag hi]
  have hy:y=x:=by simpa using h3
  simp only [mg,aa,aF]
  congr 2
  rw [Bool.eq_iff_iff,decide_eq_true_eq,tD]
  exact ⟨fun _=>by rw [h1,hy];simp,fun _=>by omega⟩
 ·rw [h2] at hi
  rw [ag hi]
  simp only [iW,aa,aF]
  congr 2
  rw [Bool.eq_iff_iff,decide_eq_true_eq,tD]
  refine ⟨fun h=>by omega,fun h=>?_⟩
  have:=h1 x h
  simp at this
def dU (c:List Mg) (x:ByteArray):Int×Int :=
 if oy c x=true then (if (msg c x).2.1=3 then (0,18) else if dg c x=true then (2,0) else match mZ c x with
  |none=>(1,0)
  |some t=>if R5 x (ir c t)=true then (if 1<(ir c t).length then (5,0) else (4,0)) else (3,0)) else (0,5)
def nc (c:List Mg) (x:ByteArray):List ByteArray×Int:=if oy c x=true then (if (msg c x).2.1=1 then (ir c x,0) else ([],18)) else ([],5)
theorem gd {L:List Mg} (h:lG L):(cnt L).length<=60:=by
 have hn:(cnt L).Nodup:=List.Pairwise.imp (fun {a b} h e=>by subst e;rw [show slt a.1 a.1=false from fq (t:=.str) kS a.1] at h;cases h) (fe L)
 have:=List.Nodup.length_le_of_subset hn (fun m hm=>C8 hm)
 have:=h.len
 omega
theorem kH32 {L:List Mg} (h:lG L) (x:ByteArray):ai (FH32 x (bk L))=some ((dU (cnt L) x).1,(dU (cnt L) x).2,bk L,()):=by
 have hs:=fe L
 have hc:=gd h
 unfold FH32
 simp only [aA,IB,aF,aj,aO]
 rw [ag (R2 h)]
 simp only [aa,bx,aZ,C9]
 rw [show aR .str (bZ (cnt L)) x=oy (cnt L) x from rfl,show az .str zM (bZ (cnt L)) x=msg (cnt L) x from rfl,jR]
 unfold dU
 by_cases h1:oy (cnt L) x=true
 ·rw [if_pos h1, if_pos h1, if_pos trivial]
  by_cases h2:(msg (cnt L) x).2.1=3
  ·rw [if_pos h2,if_pos h2]
  ·rw [if_neg h2, if_neg h2, jR]
   by_cases h3:dg (cnt L) x=true
   ·rw [if_pos h3,if_pos h3]
   ·rw [if_neg h3, if_neg h3]
    rw [ag (kH74 hs (by omega) x)]
    cases hst:mZ (cnt L) x with
    |none=>simp
    |some t =>
     obtain ⟨ht1,ht2,_⟩:=FX hs hst
     have hvl:(ir (cnt L) t).length<=(cnt L).length:=gG hs (lC hs ht1 ht2) (bF.1 ht1) .zero
     simp only [bO,List.drop_zero,List.take_length]
     rw [ag (k75 (by omega) x)]
     rw [jR]
     simp only [aK]
     by_cases h4:R5 x (ir (cnt L) t)=true
     ·rw [if_pos h4, if_pos h4]
      by_cases h5:1<(ir (cnt L) t).length
      ·rw [if_pos (by omega),if_pos h5]
      ·rw [if_neg (by omega),if_neg h5]
     ·rw [if_neg h4,if_neg h4]
 ·rw [if_neg h1,if_neg h1,if_neg (by omega)]
theorem kH33 {L:List Mg} (h:lG L) (x:ByteArray):ai (FH33 x (bk L))=some ((nc (cnt L) x).1.length,(nc (cnt L) x).2,(nc (cnt L) x).1,bk L,()):=by
 have hs:=fe L
 have hc:=gd h
 unfold FH33
 simp only [aA,IB,aF,aj,aO]
 rw [ag (R2 h)]
 simp only [aa,bx,aZ]
 rw [show aR .str (bZ (cnt L)) x=oy (cnt L) x from rfl,show az .str zM (bZ (cnt L)) x=msg (cnt L) x from rfl,jR]
 unfold nc
 by_cases h1:oy (cnt L) x=true
 ·rw [if_pos h1, if_pos h1, if_pos trivial]
  by_cases h2:(msg (cnt L) x).2.1=1
  ·rw [if_pos h2,if_pos h2,ag (R3 hs (by omega) (lC hs h1 h2) (bF.1 h1))]
  ·rw [if_neg h2,if_neg h2];rfl
 ·rw [if_neg h1,if_neg h1,if_neg (by omega)];rfl
theorem IF {L:List Mg} (h:lG L) (x:ByteArray) (n:Int):ai (FH40 x n (bk L))=some (decide (dU (cnt L) x=(n,0)),bk L,()):=by
 unfold FH40
 simp only [aA]
 rw [ag (kH32 h x)]
 simp only [aj,aa,aZ]
 by_cases h1:(dU (cnt L) x).2=0
 ·rw [if_pos h1]
  congr 2
  rw [Bool.eq_iff_iff,beq_iff_eq,decide_eq_true_eq]
  exact ⟨fun h=>Prod.ext h h1,fun h=>by rw [h]⟩
 ·rw [if_neg h1]
  congr 2
  exact (decide_eq_false fun h=>h1 (by rw [h])).symm
end
end Go.Proofs.Tryz
end
section
namespace Go.Proofs.Tryz
open Go.AM
set_option maxRecDepth 100000
abbrev Zs:=List (Int×Unit)
abbrev kI:bL (.int .i64)=some [.i]:=rfl
def nh (l:Zs) (n:Int) (nx:Zs):Zs:=l.foldl (fun nx e=>bq (.int .i64) nx (e.1+n) ()) nx
def CZ (z:Zs):Prop:=iq (.int .i64) z
def tN (Z:Zs) (z:Int):Prop:=(z,())∈Z
theorem CZ.put {Z:Zs} (h:CZ Z) (z:Int):CZ (bq (.int .i64) Z z ()):=iq.iG kI h
theorem KN {Z:Zs} (h:CZ Z) {z y:Int}:tN (bq (.int .i64) Z z ()) y↔y=z\/tN Z y:=by
 unfold tN
 rw [fP kI h]
 constructor
 ·rintro (e | ⟨h, _⟩)
  ·cases e;exact .inl rfl
  ·exact .inr h
 ·by_cases e : y = z
  ·subst e;exact fun _=>.inl rfl
  ·rintro (e' | h)
   ·exact absurd e' e
   ·exact .inr ⟨h,e⟩
theorem lZ {n : Int} : ∀ {l nx : Zs}, CZ nx → CZ (nh l n nx) ∧ ∀ z, tN (nh l n nx) z ↔ tN nx z ∨ ∃ x, tN l x ∧ z = x + n
 |[],nx,h=>⟨h,fun z=>by simp [nh,tN]⟩
 |e::l,nx,h=>by
  obtain ⟨h1,h2⟩:=lZ (n:=n) (l:=l) (h.put (e.1+n))
  refine ⟨h1,fun z=>?_⟩
  have h3:nh (e::l) n nx=nh l n (bq (.int .i64) nx (e.1+n) ()):=rfl
  rw [h3,h2,KN h]
  constructor
  ·rintro ((h | h) | ⟨x, hx, h⟩)
   ·exact .inr ⟨e.1,List.mem_cons_self ..,h⟩
   ·exact .inl h
   ·exact .inr ⟨x,List.mem_cons_of_mem _ hx,h⟩
  ·rintro (h | ⟨x, hx, h⟩)
   ·exact .inl (.inr h)
   ·rcases List.mem_cons.1 hx with e' | hx
    ·exact .inl (.inl (by rw [h,<-e']))
    ·exact .inr ⟨x,hx,h⟩
theorem CZ.ext {Z Z':Zs} (h:CZ Z) (h':CZ Z') (hz:∀z,tN Z z↔tN Z' z):Z=Z':=KE kI h h' fun e=>hz e.1
theorem Bw {l l' nx:Zs} {n:Int} (h:CZ nx) (hp:l.Perm l'):nh l n nx=nh l' n nx :=
 (lZ h).1.ext (lZ h).1 fun z=>by
  rw [(lZ h).2,(lZ h).2]
  exact or_congr_right ⟨fun ⟨x,hx,e⟩=>⟨x,hp.mem_iff.1 hx,e⟩,fun ⟨x,hx,e⟩=>⟨x,hp.mem_iff.2 hx,e⟩⟩
def nj (f:ByteArray->Int) (can:Zs) (vs:List ByteArray):Zs:=vs.foldl (fun nx v=>nh can (f v) nx) []
theorem FY {f : ByteArray → Int} {can : Zs} : ∀ {vs : List ByteArray} {nx : Zs}, CZ nx → CZ (vs.foldl (fun nx v => nh can (f v) nx) nx) ∧ ∀ z, tN (vs.foldl (fun nx v => nh can (f v) nx) nx) z ↔ tN nx z ∨ ∃ v ∈ vs, ∃ x, tN can x ∧ z = x + f v
 |[],nx,h=>⟨h,fun z=>by simp⟩
 |v::vs,nx,h=>by
  obtain ⟨h1,h2⟩:=lZ (n:=f v) (l:=can) h
  obtain ⟨h3,h4⟩:=FY (f:=f) (can:=can) (vs:=vs) h1
  refine ⟨h3,fun z=>?_⟩
  rw [List.foldl_cons,h4,h2]
  simp only [List.mem_cons,exists_eq_or_imp,or_assoc]
theorem nk {f:ByteArray->Int} {can:Zs} {vs:List ByteArray}:CZ (nj f can vs)/\∀z,tN (nj f can vs) z↔∃v∈vs,∃x,tN can x/\z=x+f v:=by
 obtain ⟨h1,h2⟩:=FY (f:=f) (can:=can) (vs:=vs) (nx:=[]) .nil
 exact ⟨h1,fun z=>(h2 z).trans (by simp [tN])⟩
def qo (c:List Mg):List ByteArray:=(c.filter fun m=>decide (m.2.1=1)).map (·.1)
def iD (c:List Mg) (f:ByteArray->Int) (ts:List ByteArray) (can:Zs):Zs:=ts.foldl (fun can t=>nj f can (ir c t)) can
def cC:Zs:=bq (.int .i64) [] 0 ()
def iE (c:List Mg) (f:ByteArray->Int):List Int:=(iD c f (qo c) cC).map (·.1)
theorem cQ:CZ cC/\∀z,tN cC z↔z=0:=⟨CZ.put .nil 0,fun z=>(KN .nil).trans (by simp [tN])⟩
theorem tE {c : List Mg} {f : ByteArray → Int} : ∀ {ts : List ByteArray} {can : Zs}, CZ can → CZ (iD c f ts can)
 |[],_,h=>h
 |t::ts,can,_=>tE (ts:=ts) nk.1
def BZ (B:Int) (Z:Zs):Prop:=∀z,tN Z z -> -B<=z/\z<=B
theorem qi {f:ByteArray->Int} {can:Zs} {vs:List ByteArray} {B:Int} (h:BZ B can) (hf:∀v∈vs,-1000<=f v/\f v<=1000):BZ (B+1000) (nj f can vs):=fun z hz=>by
 obtain ⟨v,hv,x,hx,rfl⟩:=(nk.2 z).1 hz
 have:=h x hx;have:=hf v hv;omega
section
variable {c:List Mg}
theorem WR (hs:SI c) {t v:ByteArray} (ht:oy c t=true) (hk:(msg c t).2.1=1) (hv:v∈ir c t):oy c v=true/\((msg c v).2.1=1\/(msg c v).2.1=2):=by
 have hd:=mY hv
 cases hd with
 |refl=>exact ⟨ht,.inl hk⟩
 |step _ hz =>
  obtain ⟨m,hm,h1,h2,_⟩:=lB.1 hz
  subst h1
  exact ⟨bF.2 (List.mem_map.2 ⟨m,hm,rfl⟩),.inr (by rw [eo hs hm];exact h2)⟩
theorem WS {m:Mg} (h:zx m=0) (hk:m.2.1=1\/m.2.1=2) : -1000<=m.2.2.2.2/\m.2.2.2.2<=1000:=by
 unfold zx at h
 split at h
 ·cases h
 split at h
 ·unfold FR at h
  have h3:qH m=0:=by
   by_cases h1:vA m=0
   ·by_cases h2 : qH m = 0
    ·exact h2
    ·simp [h1,h2] at h
   ·simp [h1] at h
  unfold qH at h3
  rw [if_neg (by omega)] at h3
  split at h3
  ·split at h3
   ·assumption
   ·cases h3
  ·cases h3
 ·cases h
def fA (c:List Mg) (a v:ByteArray):Int:=if (msg c v).2.2.2.1=a then (msg c v).2.2.2.2 else 0
def fT (c:List Mg) (v:ByteArray):Int:=(msg c v).2.2.2.2
def SS (c:List Mg) (f:ByteArray->Int):Prop:=∀t v,oy c t=true->(msg c t).2.1=1->v∈ir c t -> -1000<=f v/\f v<=1000
theorem WT (hs:SI c) (hc:∀m∈c,zx m=0):SS c (fT c):=fun t v h1 h2 h3=>by
 obtain ⟨h4,h5⟩:=WR hs h1 h2 h3
 exact WS (hc _ (Dd hs h4).1) h5
theorem acv (hs:SI c) (hc:∀m∈c,zx m=0) (a:ByteArray):SS c (fA c a):=fun t v h1 h2 h3=>by
 have:=WT hs hc t v h1 h2 h3
 unfold fA;unfold fT at this
 split<;>omega
theorem k68 (m:Mg) (a:ByteArray):ai (F68 m a)=some (if m.2.2.2.1=a then m.2.2.2.2 else 0,()):=by
 simp only [F68,aj,aa,bx,seq_eq,aK]
 split<;>rfl
theorem k78 (m:Mg):ai (F78 m)=some (m.2.2.2.2,()):=rfl
theorem KO (z:Int) (m:Zs):ai (FH100 z m)=some (bq (.int .i64) m z (),()):=rfl
theorem YY {Z:Zs} (h:CZ Z) (hl:Z.length<1000000000):ai (FH102 Z)=some (Z.length,Z.map (·.1),Z,()):=by
 unfold FH102
 refine Eq.trans CC (gV fun l hp=>?_)
 have zO:l.length=Z.length:=hp.length_eq
 simp only [aA,CD]
 refine bind_eq (tw (m:=Z) (l:=l) (by rw [zO];exact hl) fun e n b hn=>?_) ?_
 ·simp only [gH102f121f133_0i_0, aS, aa, dQ, af]
  rw [cm (show _<bp by rw [cO];simp;omega)]
  rfl
 ·simp only [FH122, yE]
  have hpk:(Z.map (·.1)).Perm (l.map (·.1)):=(hp.map (·.1)).symm
  have:=pM kI hpk (iq.keys kI h) (by rw [List.length_map];omega)
  rw [List.length_map] at this
  rw [ag this,zO]
  rfl
theorem IG {Z:Zs} {B:Nat} (h:CZ Z) (hb:BZ (B:Int) Z):Z.length<=2 * B+1:=by
 have hn:(Z.map (·.1)).Nodup:=by
  unfold List.Nodup
  rw [List.pairwise_map]
  exact List.Pairwise.imp (fun {a b} h e=>by rw [e,fq kI] at h;cases h) h
 have h2:((Z.map (·.1)).map fun z:Int=>(z+(B:Int)).toNat).Nodup:=by
  unfold List.Nodup
  rw [List.pairwise_map]
  refine List.Pairwise.imp_of_mem (fun {a b} ha hb' hab e=>hab ?_) hn
  obtain ⟨p,hp,rfl⟩:=List.mem_map.1 ha
  obtain ⟨q,hq,rfl⟩:=List.mem_map.1 hb'
  have h3:=hb p.1 hp
  have h4:=hb q.1 hq
  omega
 have:=List.Nodup.length_le_of_subset h2 (l₂:=List.range (2 * B+1)) fun z hz=>by
  obtain ⟨y,hy,rfl⟩:=List.mem_map.1 hz
  obtain ⟨p,hp,rfl⟩:=List.mem_map.1 hy
  have h3:=hb p.1 hp
  rw [List.mem_range];omega
 simpa using this
theorem kA67 {a:ByteArray} {nv:Nat} {w1 w2 n:Int} {qn jA:List ByteArray} {can nx:Zs} (hx:CZ nx) (hb:BZ 1000000 can) (hn : -1000<=n/\n<=1000):ai (gH67_0b_2 (nv,w1,w2,n,qn,bZ c,bU c,cM c,dz c,a,jA,can,nx,()))=some (nv,w1,w2,qn,bZ c,bU c,cM c,dz c,a,jA,can,nh can n nx,()):=by
 unfold gH67_0b_2
 simp only [aA]
 refine bind_eq (Eq.trans Hw (gV (b:=(nv,w1,w2,can,bZ c,bU c,cM c,dz c,a,n,qn,jA,nh can n nx,())) fun l hp=>?_)) rfl
 have key:∀(l:Zs) (nx:Zs),(∀e∈l,e∈can)->AV (fun e a=>run (fun _=>none) (gH67_0b_2i_0 e a)) l (nv,w1,w2,can,bZ c,bU c,cM c,dz c,a,n,qn,jA,nx,())=some (nv,w1,w2,can,bZ c,bU c,cM c,dz c,a,n,qn,jA,nh l n nx,()):=by
  intro l
  induction l with
  |nil=>intro nx _;rfl
  |cons e l ih =>
   intro nx hm
   have hz:=hb e.1 (hm e (List.mem_cons_self ..))
   have hs:run (fun _=>none) (gH67_0b_2i_0 e (nv,w1,w2,can,bZ c,bU c,cM c,dz c,a,n,qn,jA,nx,()))=some (nv,w1,w2,can,bZ c,bU c,cM c,dz c,a,n,qn,jA,bq (.int .i64) nx (e.1+n) (),()):=by
    simp only [gH67_0b_2i_0,aI,aA,aS,aa,KO,aF,dQ,af]
    rw [iU (aD (by omega) (by omega))]
   simp only [AV,hs]
   exact ih _ fun e he=>hm e (List.mem_cons_of_mem _ he)
 rw [key l nx fun e he=>hp.mem_iff.1 he,Bw hx hp]
theorem kB67 {a:ByteArray} {jA:List ByteArray} {can:Zs} {vs:List ByteArray} (hvl:vs.length<1000000) (hb:BZ 1000000 can) (hf:∀v∈vs,-1000<=fA c a v/\fA c a v<=1000) :
  iter (fun x=>ai (gH67_0b_1 x)) (vs.length,((vs.length:Nat):Int),(0:Int),vs,bZ c,bU c,cM c,dz c,a,jA,can,[],())=some (bZ c,bU c,cM c,dz c,a,jA,vs,can,nj (fA c a) can vs,()):=by
 refine aQ vs (fun k (nx:Zs)=>(vs.length,((vs.length:Nat):Int),(k:Int),vs,bZ c,bU c,cM c,dz c,a,jA,can,nx,())) (fun nx r=>(bZ c,bU c,cM c,dz c,a,jA,vs,can,r.foldl (fun nx v=>nh can (fA c a v) nx) nx,())) (fun _ nx=>CZ nx) ?_ ?_ (s:=[]) .nil
 ·intro pre v post nx hx Gl
  have hlen:vs.length=pre.length+(post.length+1):=by rw [hx];simp
  have hd:vs.getD pre.length (bs [])=v:=by rw [hx];exact aT rfl
  have i1:bT (pre.length:Int) ((vs.length:Nat):Int)=true:=aP (by omega) (by omega)
  have r1:dc .i64 ((pre.length:Int)+1)=true:=aD (by omega) (by omega)
  have d1:decide (pre.length<vs.length)=true:=decide_eq_true (by omega)
  left
  refine ⟨nh can (fA c a v) nx,?_,(lZ Gl).1,rfl⟩
  simp only [gH67_0b_1,aj,aJ,aS,aI,aA,aa,Int.toNat_natCast,Nat.zero_add,hd,i1,d1,af,aK,FH101,FH120,aF]
  rw [if_pos (by omega)]
  rw [ag (show ai (F68 ((az .str zM (bZ c) v).1,(az .str zM (bZ c) v).2.1,(az .str zM (bZ c) v).2.2.1,(az .str zM (bZ c) v).2.2.2.1,(az .str zM (bZ c) v).2.2.2.2) a)=some (fA c a v,()) from k68 _ _)]
  rw [ag (kA67 Gl hb (hf v (by rw [hx];simp)))]
  simp only [r1,af]
  rfl
 ·intro nx _
  simp only [gH67_0b_1,aj,aa,aK]
  rw [if_neg (by omega)]
  rfl
theorem kC67 {a:ByteArray} (hs:SI c) (hl:c.length<=60) (hB:SS c (fA c a)):iter (fun x=>ai (gH67_0i_0 x)) (c.length,((c.length:Nat):Int),(0:Int),c.map (·.1),bZ c,bU c,cM c,dz c,a,cC,()) =
  some (bZ c,bU c,cM c,dz c,a,iD c (fA c a) (qo c) cC,()):=by
 have zO:(c.map (·.1)).length=c.length:=List.length_map ..
 refine aQ c (fun k (can:Zs)=>(c.length,((c.length:Nat):Int),(k:Int),c.map (·.1),bZ c,bU c,cM c,dz c,a,can,())) (fun can r=>(bZ c,bU c,cM c,dz c,a,iD c (fA c a) ((r.filter fun m=>decide (m.2.1=1)).map (·.1)) can,())) (fun pre can=>CZ can/\BZ (1000 * (pre.length:Int)) can) ?_ ?_ (s:=cC) ⟨cQ.1,fun z hz=>by rw [(cQ.2 z).1 hz];simp⟩
 ·rintro pre m post can hx ⟨vW, hbz⟩
  have hlen:c.length=pre.length+(post.length+1):=by rw [hx];simp
  have hm:m∈c:=by rw [hx];simp
  have hd:(c.map (·.1)).getD pre.length (bs [])=m.1:=by rw [hx,List.map_append,List.map_cons];exact aT (by simp)
  have hg:az .str zM (bZ c) m.1=m:=eo hs hm
  have i1:bT (pre.length:Int) ((c.length:Nat):Int)=true:=aP (by omega) (by omega)
  have r1:dc .i64 ((pre.length:Int)+1)=true:=aD (by omega) (by omega)
  have d1:decide (pre.length<(c.map (·.1)).length)=true:=decide_eq_true (by omega)
  have hpl:((pre++[m]).length:Int)=(pre.length:Int)+1:=by simp
  left
  by_cases hk:m.2.1=1
  ·have him : oy c m.1 = true := bF.2 (List.mem_map.2 ⟨m, hm, rfl⟩)
   have hkm:(msg c m.1).2.1=1:=by rw [eo hs hm];exact hk
   have hvl:(ir c m.1).length<=c.length:=gG hs (lC hs him hkm) (bF.1 him) .zero
   refine ⟨nj (fA c a) can (ir c m.1),?_,⟨nk.1,?_⟩,?_⟩
   ·simp only [gH67_0i_0, aj, aJ, aS, aI, aA, bn, aa, Int.toNat_natCast, Nat.zero_add, hd, hg, i1, d1, af, aK, aZ]
    rw [if_pos (by omega),if_pos hk,ag (R3 hs (by omega) (lC hs him hkm) (bF.1 him))]
    rw [ag (kB67 (vs:=ir c m.1) (by omega) (fun z hz=>by have:=hbz z hz;omega) (fun v hv=>hB m.1 v him hkm hv))]
    simp only [r1,af]
    rfl
   ·have := qi (f := (fA c a)) (vs := ir c m.1) hbz fun v hv => hB m.1 v him hkm hv
    intro z hz
    have:=this z hz
    omega
   ·rw [List.filter_cons_of_pos (by simpa using hk)]
    rfl
  ·refine ⟨can, ?_, ⟨vW, fun z hz => by have := hbz z hz; omega⟩, ?_⟩
   ·simp only [gH67_0i_0, aj, aJ, aS, aI, aA, bn, aa, Int.toNat_natCast, Nat.zero_add, hd, hg, i1, d1, r1, af, aK, aZ]
    rw [if_pos (by omega),if_neg hk]
    rfl
   ·rw [List.filter_cons_of_neg (by simpa using hk)]
 ·rintro can _
  simp only [gH67_0i_0,aj,aa,aK]
  rw [if_neg (by omega)]
  rfl
theorem kH67 {a:ByteArray} (hs:SI c) (hl:c.length<=60) (hB:SS c (fA c a)):ai (FH67 a (bZ c) (bU c) (cM c) (dz c))=some ((iE c (fA c a)).length,iE c (fA c a),bZ c,bU c,cM c,dz c,a,()):=by
 have vW:CZ (iD c (fA c a) (qo c) cC):=tE cQ.1
 have hbz:BZ 1000000 (iD c (fA c a) (qo c) cC):=by
  have key:∀(ts:List ByteArray) (can:Zs) (B:Int),(∀t∈ts,oy c t=true/\(msg c t).2.1=1)->BZ B can->BZ (B+1000 * ts.length) (iD c (fA c a) ts can):=by
   intro ts
   induction ts with
   |nil=>intro can B _ h;simpa [iD] using h
   |cons t ts ih =>
    intro can B ht h
    have h1:=ht t (List.mem_cons_self ..)
    have:=ih (nj (fA c a) can (ir c t)) (B+1000) (fun t h=>ht t (List.mem_cons_of_mem _ h)) (qi h fun v hv=>hB t v h1.1 h1.2 hv)
    intro z hz
    have:=this z hz
    simp only [List.length_cons]
    omega
  have h1:=key (qo c) cC 0 (fun t ht=>by
   obtain ⟨m,hm,rfl⟩:=List.mem_map.1 ht
   obtain ⟨h1,h2⟩:=List.mem_filter.1 hm
   exact ⟨bF.2 (List.mem_map.2 ⟨m,h1,rfl⟩),by rw [eo hs h1];simpa using h2⟩) (fun z hz=>by rw [(cQ.2 z).1 hz];simp)
  have hle:(qo c).length<=c.length:=by unfold qo;rw [List.length_map];exact List.length_filter_le ..
  intro z hz
  have:=h1 z hz
  omega
 have hlen:=IG (B:=1000000) vW (by simpa using hbz)
 unfold FH67 gH67_0
 simp only [aA,KO,aF,FH79,FH95,aa,bn]
 rw [ag (WJ hs (by omega))]
 refine bind_eq (bind_eq (kC67 hs hl hB) rfl) ?_
 simp only [aF,FH101,FH120,aA,aa]
 rw [ag (YY vW (by omega))]
 unfold iE
 rw [List.length_map]
theorem WU {nv:Nat} {w1 w2 n:Int} {qn jA:List ByteArray} {can nx:Zs} (hx:CZ nx) (hb:BZ 1000000 can) (hn : -1000<=n/\n<=1000):ai (gH67_v1_0b_2 (nv,w1,w2,n,qn,bZ c,bU c,cM c,dz c,jA,can,nx,()))=some (nv,w1,w2,qn,bZ c,bU c,cM c,dz c,jA,can,nh can n nx,()):=by
 unfold gH67_v1_0b_2
 simp only [aA]
 refine bind_eq (Eq.trans Hw (gV (b:=(nv,w1,w2,can,bZ c,bU c,cM c,dz c,n,qn,jA,nh can n nx,())) fun l hp=>?_)) rfl
 have key:∀(l:Zs) (nx:Zs),(∀e∈l,e∈can)->AV (fun e a=>run (fun _=>none) (gH67_v1_0b_2i_0 e a)) l (nv,w1,w2,can,bZ c,bU c,cM c,dz c,n,qn,jA,nx,())=some (nv,w1,w2,can,bZ c,bU c,cM c,dz c,n,qn,jA,nh l n nx,()):=by
  intro l
  induction l with
  |nil=>intro nx _;rfl
  |cons e l ih =>
   intro nx hm
   have hz:=hb e.1 (hm e (List.mem_cons_self ..))
   have hs:run (fun _=>none) (gH67_v1_0b_2i_0 e (nv,w1,w2,can,bZ c,bU c,cM c,dz c,n,qn,jA,nx,()))=some (nv,w1,w2,can,bZ c,bU c,cM c,dz c,n,qn,jA,bq (.int .i64) nx (e.1+n) (),()):=by
    simp only [gH67_v1_0b_2i_0,aI,aA,aS,aa,KO,aF,dQ,af]
    rw [iU (aD (by omega) (by omega))]
   simp only [AV,hs]
   exact ih _ fun e he=>hm e (List.mem_cons_of_mem _ he)
 rw [key l nx fun e he=>hp.mem_iff.1 he,Bw hx hp]
theorem WV {jA:List ByteArray} {can:Zs} {vs:List ByteArray} (hvl:vs.length<1000000) (hb:BZ 1000000 can) (hf:∀v∈vs,-1000<=fT c v/\fT c v<=1000) :
  iter (fun x=>ai (gH67_v1_0b_1 x)) (vs.length,((vs.length:Nat):Int),(0:Int),vs,bZ c,bU c,cM c,dz c,jA,can,[],())=some (bZ c,bU c,cM c,dz c,jA,vs,can,nj (fT c) can vs,()):=by
 refine aQ vs (fun k (nx:Zs)=>(vs.length,((vs.length:Nat):Int),(k:Int),vs,bZ c,bU c,cM c,dz c,jA,can,nx,())) (fun nx r=>(bZ c,bU c,cM c,dz c,jA,vs,can,r.foldl (fun nx v=>nh can (fT c v) nx) nx,())) (fun _ nx=>CZ nx) ?_ ?_ (s:=[]) .nil
 ·intro pre v post nx hx Gl
  have hlen:vs.length=pre.length+(post.length+1):=by rw [hx];simp
  have hd:vs.getD pre.length (bs [])=v:=by rw [hx];exact aT rfl
  have i1:bT (pre.length:Int) ((vs.length:Nat):Int)=true:=aP (by omega) (by omega)
  have r1:dc .i64 ((pre.length:Int)+1)=true:=aD (by omega) (by omega)
  have d1:decide (pre.length<vs.length)=true:=decide_eq_true (by omega)
  left
  refine ⟨nh can (fT c v) nx,?_,(lZ Gl).1,rfl⟩
  simp only [gH67_v1_0b_1,aj,aJ,aS,aI,aA,aa,Int.toNat_natCast,Nat.zero_add,hd,i1,d1,af,aK,FH101,FH120,aF]
  rw [if_pos (by omega)]
  rw [ag (show ai (F78 ((az .str zM (bZ c) v).1,(az .str zM (bZ c) v).2.1,(az .str zM (bZ c) v).2.2.1,(az .str zM (bZ c) v).2.2.2.1,(az .str zM (bZ c) v).2.2.2.2))=some (fT c v,()) from k78 _)]
  rw [ag (WU Gl hb (hf v (by rw [hx];simp)))]
  simp only [r1,af]
  rfl
 ·intro nx _
  simp only [gH67_v1_0b_1,aj,aa,aK]
  rw [if_neg (by omega)]
  rfl
theorem WW (hs:SI c) (hl:c.length<=60) (hB:SS c (fT c)):iter (fun x=>ai (gH67_v1_0i_0 x)) (c.length,((c.length:Nat):Int),(0:Int),c.map (·.1),bZ c,bU c,cM c,dz c,cC,()) =
  some (bZ c,bU c,cM c,dz c,iD c (fT c) (qo c) cC,()):=by
 have zO:(c.map (·.1)).length=c.length:=List.length_map ..
 refine aQ c (fun k (can:Zs)=>(c.length,((c.length:Nat):Int),(k:Int),c.map (·.1),bZ c,bU c,cM c,dz c,can,())) (fun can r=>(bZ c,bU c,cM c,dz c,iD c (fT c) ((r.filter fun m=>decide (m.2.1=1)).map (·.1)) can,())) (fun pre can=>CZ can/\BZ (1000 * (pre.length:Int)) can) ?_ ?_ (s:=cC) ⟨cQ.1,fun z hz=>by rw [(cQ.2 z).1 hz];simp⟩
 ·rintro pre m post can hx ⟨vW, hbz⟩
  have hlen:c.length=pre.length+(post.length+1):=by rw [hx];simp
  have hm:m∈c:=by rw [hx];simp
  have hd:(c.map (·.1)).getD pre.length (bs [])=m.1:=by rw [hx,List.map_append,List.map_cons];exact aT (by simp)
  have hg:az .str zM (bZ c) m.1=m:=eo hs hm
  have i1:bT (pre.length:Int) ((c.length:Nat):Int)=true:=aP (by omega) (by omega)
  have r1:dc .i64 ((pre.length:Int)+1)=true:=aD (by omega) (by omega)
  have d1:decide (pre.length<(c.map (·.1)).length)=true:=decide_eq_true (by omega)
  have hpl:((pre++[m]).length:Int)=(pre.length:Int)+1:=by simp
  left
  by_cases hk:m.2.1=1
  ·have him : oy c m.1 = true := bF.2 (List.mem_map.2 ⟨m, hm, rfl⟩)
   have hkm:(msg c m.1).2.1=1:=by rw [eo hs hm];exact hk
   have hvl:(ir c m.1).length<=c.length:=gG hs (lC hs him hkm) (bF.1 him) .zero
   refine ⟨nj (fT c) can (ir c m.1),?_,⟨nk.1,?_⟩,?_⟩
   ·simp only [gH67_v1_0i_0, aj, aJ, aS, aI, aA, bn, aa, Int.toNat_natCast, Nat.zero_add, hd, hg, i1, d1, af, aK, aZ]
    rw [if_pos (by omega),if_pos hk,ag (R3 hs (by omega) (lC hs him hkm) (bF.1 him))]
    rw [ag (WV (vs:=ir c m.1) (by omega) (fun z hz=>by have:=hbz z hz;omega) (fun v hv=>hB m.1 v him hkm hv))]
    simp only [r1,af]
    rfl
   ·have := qi (f := (fT c)) (vs := ir c m.1) hbz fun v hv => hB m.1 v him hkm hv
    intro z hz
    have:=this z hz
    omega
   ·rw [List.filter_cons_of_pos (by simpa using hk)]
    rfl
  ·refine ⟨can, ?_, ⟨vW, fun z hz => by have := hbz z hz; omega⟩, ?_⟩
   ·simp only [gH67_v1_0i_0, aj, aJ, aS, aI, aA, bn, aa, Int.toNat_natCast, Nat.zero_add, hd, hg, i1, d1, r1, af, aK, aZ]
    rw [if_pos (by omega),if_neg hk]
    rfl
   ·rw [List.filter_cons_of_neg (by simpa using hk)]
 ·rintro can _
  simp only [gH67_v1_0i_0,aj,aa,aK]
  rw [if_neg (by omega)]
  rfl
theorem WX (hs:SI c) (hl:c.length<=60) (hB:SS c (fT c)):ai (FH67_v1 (bZ c) (bU c) (cM c) (dz c))=some ((iE c (fT c)).length,iE c (fT c),bZ c,bU c,cM c,dz c,()):=by
 have vW:CZ (iD c (fT c) (qo c) cC):=tE cQ.1
 have hbz:BZ 1000000 (iD c (fT c) (qo c) cC):=by
  have key:∀(ts:List ByteArray) (can:Zs) (B:Int),(∀t∈ts,oy c t=true/\(msg c t).2.1=1)->BZ B can->BZ (B+1000 * ts.length) (iD c (fT c) ts can):=by
   intro ts
   induction ts with
   |nil=>intro can B _ h;simpa [iD] using h
   |cons t ts ih =>
    intro can B ht h
    have h1:=ht t (List.mem_cons_self ..)
    have:=ih (nj (fT c) can (ir c t)) (B+1000) (fun t h=>ht t (List.mem_cons_of_mem _ h)) (qi h fun v hv=>hB t v h1.1 h1.2 hv)
    intro z hz
    have:=this z hz
    simp only [List.length_cons]
    omega
  have h1:=key (qo c) cC 0 (fun t ht=>by
   obtain ⟨m,hm,rfl⟩:=List.mem_map.1 ht
   obtain ⟨h1,h2⟩:=List.mem_filter.1 hm
   exact ⟨bF.2 (List.mem_map.2 ⟨m,h1,rfl⟩),by rw [eo hs h1];simpa using h2⟩) (fun z hz=>by rw [(cQ.2 z).1 hz];simp)
  have hle:(qo c).length<=c.length:=by unfold qo;rw [List.length_map];exact List.length_filter_le ..
  intro z hz
  have:=h1 z hz
  omega
 have hlen:=IG (B:=1000000) vW (by simpa using hbz)
 unfold FH67_v1 gH67_v1_0
 simp only [aA,KO,aF,FH79,FH95,aa,bn]
 rw [ag (WJ hs (by omega))]
 refine bind_eq (bind_eq (WW hs hl hB) rfl) ?_
 simp only [aF,FH101,FH120,aA,aa]
 rw [ag (YY vW (by omega))]
 unfold iE
 rw [List.length_map]
def vX (c:List Mg) (a:ByteArray):List Int×Int:=if jG a=true then (iE c (fA c a),0) else ([],8)
theorem qj {L:List Mg} (h:lG L):∀m∈cnt L,zx m=0:=fun m hm=>h.zx m (C8 hm)
theorem acw {L:List Mg} (h:lG L) {a:ByteArray} (ha:Sh a):ai (FH23 a (bk L))=some ((vX (cnt L) a).1.length,(vX (cnt L) a).2,(vX (cnt L) a).1,bk L,()):=by
 unfold FH23
 simp only [aA,IB,aF,aj,aO,k65 a ha,bx]
 rw [jR]
 unfold vX
 split
 ·rw [ag (R2 h)]
  simp only
  rw [ag (kH67 (fe L) (gd h) (acv (fe L) (qj h) a))]
  rfl
 ·rfl
end
end Go.Proofs.Tryz
end
section
namespace Go.Proofs.Tryz
open Go.AM
set_option maxRecDepth 100000
def KP (l:List Int):Int×Int:=(l.getD 0 0,l.getD (l.length - 1) 0)
theorem k72 {l:List Int} (h0:0<l.length) (hl:l.length<1000000000):ai (F72 l)=some (KP l,()):=by
 unfold F72
 simp only [aJ,aI,aa]
 rw [aP (by omega) (by omega),af,iU (aD (by omega) (by omega)),aP (by omega) (by omega),af]
 rw [show ((l.length:Int) - 1).toNat=l.length - 1 by omega]
 rfl
section
variable {c:List Mg}
theorem R6 {f:ByteArray->Int} {can:Zs} {vs:List ByteArray} (hc:∃z,tN can z) (hv:vs≠[]):∃z,tN (nj f can vs) z:=by
 obtain ⟨z,hz⟩:=hc
 cases vs with
 |nil=>exact absurd rfl hv
 |cons v vs=>exact ⟨z+f v,(nk.2 _).2 ⟨v,List.mem_cons_self ..,z,hz,rfl⟩⟩
def KQ (c:List Mg) (a:ByteArray):(Int×Int)×Int:=if (vX c a).2=0 then (KP (vX c a).1,0) else ((0,0),(vX c a).2)
def WY (c:List Mg):Int×Int:=KP (iE c (fT c))
abbrev Ss:=List (ByteArray×Unit)
def An (c:List Mg) (vs:List ByteArray) (m:Ss):Ss:=vs.foldl (fun m v=>bq .str m (msg c v).2.2.2.1 ()) m
def vY (c:List Mg) (ts:List ByteArray) (m:Ss):Ss:=ts.foldl (fun m t=>An c (ir c t) m) m
def tF (c:List Mg):List ByteArray:=(vY c (qo c) []).map (·.1)
theorem FZ {vs:List ByteArray}:∀{m:Ss},iq .str m->iq .str (An c vs m):=by
 induction vs with
 |nil=>exact fun h=>h
 |cons v vs ih=>exact fun h=>ih (h.iG kS)
theorem Ga {ts:List ByteArray}:∀{m:Ss},iq .str m->iq .str (vY c ts m):=by
 induction ts with
 |nil=>exact fun h=>h
 |cons t ts ih=>exact fun h=>ih (FZ h)
theorem Gb : ∀ {m : Ss} {k : ByteArray}, (qt .str m k ()).length = m.length + 1
 |[],_=>rfl
 |e::m,k=>by
  unfold qt
  split
  ·simp
  ·rw [List.length_cons,Gb];rfl
theorem R7 {m:Ss} {k:ByteArray}:(bq .str m k ()).length<=m.length+1:=by
 unfold bq
 split
 ·rw [List.length_map];omega
 ·rw [Gb];exact Nat.le_refl _
theorem WZ {Z:Ss} (h:iq .str Z) (hl:Z.length<1000000000):ai (FH81_v1 Z)=some (Z.length,Z.map (·.1),Z,()):=by
 unfold FH81_v1
 refine Eq.trans CC (gV fun l hp=>?_)
 have zO:l.length=Z.length:=hp.length_eq
 simp only [aA,CD]
 refine bind_eq (tw (m:=Z) (l:=l) (by rw [zO];exact hl) fun e n b hn=>?_) ?_
 ·simp only [gH81_v1f107f126_0i_0, aS, aa, dQ, af]
  rw [cm (show _<bp by rw [cO];simp;omega)]
  rfl
 ·simp only [FH105, yE]
  have hpk:(Z.map (·.1)).Perm (l.map (·.1)):=(hp.map (·.1)).symm
  have:=pM kS hpk (iq.keys kS h) (by rw [List.length_map];omega)
  rw [List.length_map] at this
  rw [ag this,zO]
  rfl
theorem kB45 {m1:List (Mg×Bool)} {jA vs:List ByteArray} (hvl:vs.length<1000000) {m:Ss} :
  iter (fun x=>ai (gH45_0b_1 x)) (vs.length,((vs.length:Nat):Int),(0:Int),vs,bZ c,bU c,cM c,dz c,m1,jA,m,())=some (m1,bZ c,bU c,cM c,dz c,jA,vs,An c vs m,()):=by
 refine aQ vs (fun k (m:Ss)=>(vs.length,((vs.length:Nat):Int),(k:Int),vs,bZ c,bU c,cM c,dz c,m1,jA,m,())) (fun m r=>(m1,bZ c,bU c,cM c,dz c,jA,vs,An c r m,())) (fun _ _=>True) ?_ ?_ (s:=m) trivial
 ·intro pre v post nx hx _
  have hlen:vs.length=pre.length+(post.length+1):=by rw [hx];simp
  have hd:vs.getD pre.length (bs [])=v:=by rw [hx];exact aT rfl
  have i1:bT (pre.length:Int) ((vs.length:Nat):Int)=true:=aP (by omega) (by omega)
  have r1:dc .i64 ((pre.length:Int)+1)=true:=aD (by omega) (by omega)
  have d1:decide (pre.length<vs.length)=true:=decide_eq_true (by omega)
  left
  refine ⟨bq .str nx (msg c v).2.2.2.1 (),?_,trivial,rfl⟩
  simp only [gH45_0b_1,aj,aJ,aS,aI,aA,aa,Int.toNat_natCast,Nat.zero_add,hd,i1,d1,r1,af,aK,FH80,aF]
  rw [if_pos (by omega)]
  rfl
 ·intro nx _
  simp only [gH45_0b_1,aj,aa,aK]
  rw [if_neg (by omega)]
  rfl
theorem kC45 {m1:List (Mg×Bool)} (hs:SI c) (hl:c.length<=60):iter (fun x=>ai (gH45_0i_0 x)) (c.length,((c.length:Nat):Int),(0:Int),c.map (·.1),bZ c,bU c,cM c,dz c,m1,[],()) =
  some (m1,bZ c,bU c,cM c,dz c,vY c (qo c) [],()):=by
 have zO:(c.map (·.1)).length=c.length:=List.length_map ..
 refine aQ c (fun k (m:Ss)=>(c.length,((c.length:Nat):Int),(k:Int),c.map (·.1),bZ c,bU c,cM c,dz c,m1,m,())) (fun m r=>(m1,bZ c,bU c,cM c,dz c,vY c ((r.filter fun m=>decide (m.2.1=1)).map (·.1)) m,())) (fun _ _=>True) ?_ ?_ (s:=[]) trivial
 ·rintro pre m post can hx _
  have hlen:c.length=pre.length+(post.length+1):=by rw [hx];simp
  have hm:m∈c:=by rw [hx];simp
  have hd:(c.map (·.1)).getD pre.length (bs [])=m.1:=by rw [hx,List.map_append,List.map_cons];exact aT (by simp)
  have hg:az .str zM (bZ c) m.1=m:=eo hs hm
  have i1:bT (pre.length:Int) ((c.length:Nat):Int)=true:=aP (by omega) (by omega)
  have r1:dc .i64 ((pre.length:Int)+1)=true:=aD (by omega) (by omega)
  have d1:decide (pre.length<(c.map (·.1)).length)=true:=decide_eq_true (by omega)
  left
  by_cases hk:m.2.1=1
  ·have him : oy c m.1 = true := bF.2 (List.mem_map.2 ⟨m, hm, rfl⟩)
   have hkm:(msg c m.1).2.1=1:=by rw [eo hs hm];exact hk
   have hvl:(ir c m.1).length<=c.length:=gG hs (lC hs him hkm) (bF.1 him) .zero
   refine ⟨An c (ir c m.1) can,?_,trivial,?_⟩
   ·simp only [gH45_0i_0, aj, aJ, aS, aI, aA, bn, aa, Int.toNat_natCast, Nat.zero_add, hd, hg, i1, d1, af, aK, aZ]
    rw [if_pos (by omega),if_pos hk,ag (R3 hs (by omega) (lC hs him hkm) (bF.1 him))]
    rw [ag (kB45 (vs:=ir c m.1) (by omega))]
    simp only [r1,af]
    rfl
   ·rw [List.filter_cons_of_pos (by simpa using hk)]
    rfl
  ·refine ⟨can, ?_, trivial, ?_⟩
   ·simp only [gH45_0i_0, aj, aJ, aS, aI, aA, bn, aa, Int.toNat_natCast, Nat.zero_add, hd, hg, i1, d1, r1, af, aK, aZ]
    rw [if_pos (by omega),if_neg hk]
    rfl
   ·rw [List.filter_cons_of_neg (by simpa using hk)]
 ·rintro can _
  simp only [gH45_0i_0,aj,aa,aK]
  rw [if_neg (by omega)]
  rfl
theorem R8 {vs:List ByteArray}:∀{m:Ss},(An c vs m).length<=m.length+vs.length:=by
 induction vs with
 |nil=>exact Nat.le_refl _
 |cons v vs ih =>
  intro m
  have h1:=ih (m:=bq .str m (msg c v).2.2.2.1 ())
  have h2:=R7 (m:=m) (k:=(msg c v).2.2.2.1)
  simp only [List.length_cons]
  exact Nat.le_trans h1 (by omega)
theorem De (hs:SI c) {t:ByteArray} (ht:t∈qo c):oy c t=true/\(msg c t).2.1=1:=by
 obtain ⟨m,hm,rfl⟩:=List.mem_map.1 ht
 obtain ⟨h1,h2⟩:=List.mem_filter.1 hm
 exact ⟨bF.2 (List.mem_map.2 ⟨m,h1,rfl⟩),by rw [eo hs h1];simpa using h2⟩
theorem Df:(qo c).length<=c.length:=by unfold qo;rw [List.length_map];exact List.length_filter_le ..
theorem KR (hs:SI c) {t:ByteArray} (ht:oy c t=true) (hk:(msg c t).2.1=1):(ir c t).length<=c.length:=gG hs (lC hs ht hk) (bF.1 ht) .zero
theorem zI (hs : SI c) : ∀ {ts : List ByteArray} {m : Ss}, (∀ t ∈ ts, oy c t = true ∧ (msg c t).2.1 = 1) → (vY c ts m).length ≤ m.length + ts.length * c.length
 |[],m,_=>by simp [vY]
 |t::ts,m,h=>by
  have h1:=zI hs (ts:=ts) (m:=An c (ir c t) m) fun t h'=>h t (List.mem_cons_of_mem _ h')
  have h2:=R8 (c:=c) (vs:=ir c t) (m:=m)
  have h3:=KR hs (h t (List.mem_cons_self ..)).1 (h t (List.mem_cons_self ..)).2
  have h4:(ts.length+1) * c.length=ts.length * c.length+c.length:=Nat.succ_mul ..
  simp only [List.length_cons,h4]
  exact Nat.le_trans h1 (by omega)
theorem kH45 {L:List Mg} (h:lG L):ai (FH45 (bk L))=some ((tF (cnt L)).length,tF (cnt L),bk L,()):=by
 have hs:=fe L
 have hc:=gd h
 have hz:=zI hs (ts:=qo (cnt L)) (m:=[]) fun t ht=>De hs ht
 have hq:(qo (cnt L)).length * (cnt L).length<=60 * 60:=Nat.mul_le_mul (Nat.le_trans Df hc) hc
 have hzl:(vY (cnt L) (qo (cnt L)) []).length<1000000000:=by simp only [List.length_nil] at hz;omega
 unfold FH45 gH45_0
 simp only [aA,IB,aF,aj,aO]
 rw [ag (R2 h)]
 simp only [FH79,FH95,aa,aF,bn]
 rw [ag (WJ hs (by omega))]
 refine bind_eq (bind_eq (kC45 hs hc) rfl) ?_
 simp only [FH82,FH108,aA,aa,aF]
 rw [ag (WZ (Ga .nil) hzl)]
 unfold tF
 rw [List.length_map]
theorem acy {Z:Zs} (h:∃z,tN Z z):0<Z.length:=by
 obtain ⟨z,hz⟩:=h
 exact List.length_pos_of_mem hz
theorem KT (hs : SI c) {t : ByteArray} (ht : WN c t) (Dv : t ∈ ids c) : ∀ {n d : Nat} {x : ByteArray}, jU c t d x → d + n = c.length → cB c (n + 1) x ≠ []
 |0,d,x,hp,hd=>by have:=hp.short hs ht Dv;omega
 |n+1,d,x,hp,hd=>by
  unfold cB
  split
  ·simp
  ·rename_i k l hl
   intro h
   have h1:=(dS (t:=.str) ((k::l).flatMap (cB c (n+1)))).length_eq
   rw [show o9 .str ((k::l).flatMap (cB c (n+1)))=[] from h] at h1
   have h2:=KT hs ht Dv (n:=n) (hp.step (wP (by rw [hl];exact List.mem_cons_self ..))) (by omega)
   have h3:0<(cB c (n+1) k).length:=List.length_pos_iff.2 h2
   rw [List.flatMap_cons,List.length_append] at h1
   simp only [List.length_nil] at h1
   omega
theorem acz (hs:SI c) {t:ByteArray} (ht:oy c t=true/\(msg c t).2.1=1):ir c t≠[]:=KT hs (lC hs ht.1 ht.2) (bF.1 ht.1) .zero (by omega)
theorem KU (hs : SI c) {f : ByteArray → Int} : ∀ {ts : List ByteArray} {can : Zs}, (∀ t ∈ ts, oy c t = true ∧ (msg c t).2.1 = 1) → (∃ z, tN can z) → ∃ z, tN (iD c f ts can) z
 |[],_,_,h=>h
 |t::ts,can,ht,h=>KU hs (ts:=ts) (fun t h=>ht t (List.mem_cons_of_mem _ h)) (R6 h (acz hs (ht t (List.mem_cons_self ..))))
theorem Dg (hs:SI c) {f:ByteArray->Int}:0<(iE c f).length:=by
 unfold iE
 rw [List.length_map]
 exact acy (KU hs (fun t ht=>De hs ht) ⟨0,(cQ.2 0).2 rfl⟩)
theorem KV (hs:SI c) (hl:c.length<=60) {f:ByteArray->Int} (hB:SS c f):BZ 60000 (iD c f (qo c) cC):=by
 have key:∀(ts:List ByteArray) (can:Zs) (B:Int),(∀t∈ts,oy c t=true/\(msg c t).2.1=1)->BZ B can->BZ (B+1000 * ts.length) (iD c f ts can):=by
  intro ts
  induction ts with
  |nil=>intro can B _ h;simpa [iD] using h
  |cons t ts ih =>
   intro can B ht h
   have h1:=ht t (List.mem_cons_self ..)
   have:=ih (nj f can (ir c t)) (B+1000) (fun t h=>ht t (List.mem_cons_of_mem _ h)) (qi h fun v hv=>hB t v h1.1 h1.2 hv)
   intro z hz
   have:=this z hz
   simp only [List.length_cons]
   omega
 have h1:=key (qo c) cC 0 (fun t ht=>De hs ht) (fun z hz=>by rw [(cQ.2 z).1 hz];simp)
 have hle:=Df (c:=c)
 intro z hz
 have:=h1 z hz
 omega
theorem zJ (hs:SI c) (hl:c.length<=60) {f:ByteArray->Int} (hB:SS c f):(iE c f).length<1000000:=by
 have:=IG (B:=60000) (tE cQ.1) (by simpa using KV hs hl hB)
 unfold iE
 rw [List.length_map]
 omega
theorem kH37 {L:List Mg} (h:lG L):ai (FH37 (bk L))=some (WY (cnt L),0,bk L,()):=by
 have hs:=fe L
 have hc:=gd h
 have hB:=WT hs (qj h)
 unfold FH37
 simp only [aA,IB,aF,aj,aO]
 rw [ag (R2 h)]
 simp only
 rw [ag (WX hs hc hB)]
 simp only [List.drop_zero,List.take_length]
 rw [ag (k72 (Dg hs) (by have:=zJ hs hc hB;omega))]
 rfl
theorem kH25 {L:List Mg} (h:lG L) {a:ByteArray} (ha:Sh a):ai (FH25 a (bk L))=some ((KQ (cnt L) a).1,(KQ (cnt L) a).2,bk L,()):=by
 have hs:=fe L
 have hc:=gd h
 have hB:=acv hs (qj h) a
 unfold FH25
 simp only [aA]
 rw [ag (acw h ha)]
 simp only [aj,bx,aZ,aa,List.drop_zero,List.take_length]
 unfold KQ
 by_cases h0:(vX (cnt L) a).2=0
 ·rw [if_pos h0, if_pos h0]
  have h1:(vX (cnt L) a).1=iE (cnt L) (fA (cnt L) a):=by
   revert h0
   unfold vX
   split
   ·intro _;rfl
   ·intro h;cases h
  rw [h1,aA,ag (k72 (Dg hs) (by have:=zJ hs hc hB;omega))]
  rfl
 ·rw [if_neg h0,if_neg h0]
theorem k36 {l l':List ByteArray} (hl:l.length<1000000000):ai (F36 l l')=some (decide (l=l'),()):=by
 by_cases hn:l.length=l'.length
 ·have hi:iter (fun a=>run (fun _=>none) (g36_0 a)) (l,l',(0:Int),())=some (if l=l'.drop 0 then Sum.inr () else Sum.inl ()):=by
   refine aQ l (fun k (_:Nat)=>(l,l',(k:Int),())) (fun k r=>if r=l'.drop k then Sum.inr () else Sum.inl ()) (fun pre k=>k=pre.length) ?_ ?_ (s:=0) rfl
   ·rintro pre x post k hx rfl
    have hlen:l.length=pre.length+(post.length+1):=by rw [hx];simp
    have hlt:pre.length<l'.length:=by omega
    have hd:l.getD pre.length (bs [])=x:=by rw [hx];exact aT rfl
    have hd':l'.getD pre.length (bs [])=l'[pre.length]:=by rw [List.getD_eq_getElem?_getD,List.getElem?_eq_getElem hlt];rfl
    have i1:bT (pre.length:Int) ((l.length:Nat):Int)=true:=aP (by omega) (by omega)
    have i2:bT (pre.length:Int) ((l'.length:Nat):Int)=true:=aP (by omega) (by omega)
    have r1:dc .i64 ((pre.length:Int)+1)=true:=aD (by omega) (by omega)
    simp only [g36_0,aj,aJ,aI,aa,Int.toNat_natCast,hd,hd',i1,i2,r1,af,aK,seq_eq,bx]
    rw [if_pos (by omega),List.drop_eq_getElem_cons hlt]
    by_cases h:x=l'[pre.length]
    ·left
     refine ⟨pre.length+1,?_,by simp,?_⟩
     ·rw [if_pos h];rfl
     ·rw [h];simp only [List.cons.injEq,true_and]
    ·right
     rw [if_neg h,if_neg (fun e=>h (List.cons.inj e).1)]
   ·rintro k rfl
    simp only [g36_0,aj,aK,aa]
    rw [if_neg (by omega),if_pos (by rw [hn,List.drop_length])]
  unfold F36
  simp only [aj,aA,bn,bx,aZ]
  rw [if_pos (by omega),ag hi,List.drop_zero]
  by_cases h:l=l'
  ·rw [if_pos h];simp only [iW,aa,h,decide_true]
  ·rw [if_neg h];simp only [mg,aa,h,decide_false]
 ·unfold F36
  simp only [aj,bx,aZ,aa]
  rw [if_neg (by omega),decide_eq_false fun e=>hn (by rw [e])]
theorem k27 {l l':List Int} (hl:l.length<1000000000):ai (F27 l l')=some (decide (l=l'),()):=by
 by_cases hn:l.length=l'.length
 ·have hi:iter (fun a=>run (fun _=>none) (g27_0 a)) (l,l',(0:Int),())=some (if l=l'.drop 0 then Sum.inr () else Sum.inl ()):=by
   refine aQ l (fun k (_:Nat)=>(l,l',(k:Int),())) (fun k r=>if r=l'.drop k then Sum.inr () else Sum.inl ()) (fun pre k=>k=pre.length) ?_ ?_ (s:=0) rfl
   ·rintro pre x post k hx rfl
    have hlen:l.length=pre.length+(post.length+1):=by rw [hx];simp
    have hlt:pre.length<l'.length:=by omega
    have hd:l.getD pre.length (0:Int)=x:=by rw [hx];exact aT rfl
    have hd':l'.getD pre.length (0:Int)=l'[pre.length]:=by rw [List.getD_eq_getElem?_getD,List.getElem?_eq_getElem hlt];rfl
    have i1:bT (pre.length:Int) ((l.length:Nat):Int)=true:=aP (by omega) (by omega)
    have i2:bT (pre.length:Int) ((l'.length:Nat):Int)=true:=aP (by omega) (by omega)
    have r1:dc .i64 ((pre.length:Int)+1)=true:=aD (by omega) (by omega)
    simp only [g27_0,aj,aJ,aI,aa,Int.toNat_natCast,hd,hd',i1,i2,r1,af,aK,bx,aZ]
    rw [if_pos (by omega),List.drop_eq_getElem_cons hlt]
    by_cases h:x=l'[pre.length]
    ·left
     refine ⟨pre.length+1,?_,by simp,?_⟩
     ·rw [if_pos h];rfl
     ·rw [h];simp only [List.cons.injEq,true_and]
    ·right
     rw [if_neg h,if_neg (fun e=>h (List.cons.inj e).1)]
   ·rintro k rfl
    simp only [g27_0,aj,aK,aa]
    rw [if_neg (by omega),if_pos (by rw [hn,List.drop_length])]
  unfold F27
  simp only [aj,aA,bn,bx,aZ]
  rw [if_pos (by omega),ag hi,List.drop_zero]
  by_cases h:l=l'
  ·rw [if_pos h];simp only [iW,aa,h,decide_true]
  ·rw [if_neg h];simp only [mg,aa,h,decide_false]
 ·unfold F27
  simp only [aj,bx,aZ,aa]
  rw [if_neg (by omega),decide_eq_false fun e=>hn (by rw [e])]
end
end Go.Proofs.Tryz
end
section
namespace Go.Proofs.Tryz
open Go.AM
set_option maxRecDepth 100000
def XL:List Mg:=[(bs [116,49],1,bs [],bs [97,110,97],40),(bs [116,50],1,bs [],bs [98,101,110],25),(bs [99,49],2,bs [116,49],bs [97,110,97],42),(bs [99,50],2,bs [116,49],bs [99,121],40),(bs [99,51],2,bs [99,49],bs [97,110,97],41),(bs [119,49],2,bs [120,57],bs [98,101,110],5),(bs [114,49],3,bs [99,49],bs [],0),(bs [114,50],3,bs [99,50],bs [],0)]
theorem k46:ai F46=some (XL,()):=by
 unfold F46
 simp only [aA,F50,F42,F39,aa,aF]
 rfl
def L6:List Mg:=zz ((XL.drop (Int.toNat 0)).take (Int.toNat 6 - Int.toNat 0))
def L7:List Mg:=zz ((XL.drop (Int.toNat 0)).take (Int.toNat 7 - Int.toNat 0))
def L8:List Mg:=zz XL
theorem x1:nc (cnt L6) (bs [116,49])=([bs [99,50],bs [99,51]],0):=by kernel_rfl
theorem x2:vX (cnt L6) (bs [97,110,97])=([0,41],0):=by kernel_rfl
theorem x3:vX (cnt L7) (bs [97,110,97])=([41],0):=by kernel_rfl
theorem x4:WY (cnt L6)=(65,66):=by kernel_rfl
theorem x5:KQ (cnt L8) (bs [99,121])=((0,40),0):=by kernel_rfl
theorem x6:tF (cnt L6)=[bs [97,110,97],bs [98,101,110],bs [99,121]]:=by kernel_rfl
theorem x7:dU (cnt L6) (bs [116,49])=(3,0):=by kernel_rfl
theorem x8:dU (cnt L6) (bs [116,50])=(4,0):=by kernel_rfl
theorem x9:dU (cnt L6) (bs [99,51])=(5,0):=by kernel_rfl
theorem x10:dU (cnt L6) (bs [119,49])=(1,0):=by kernel_rfl
theorem x11:dU (cnt L7) (bs [99,50])=(2,0):=by kernel_rfl
theorem x12:dU (cnt L7) (bs [99,51])=(4,0):=by kernel_rfl
theorem x13:dU (cnt L8) (bs [99,50])=(5,0):=by kernel_rfl
theorem x14:L8.length=8:=by kernel_rfl
instance (m:Mg):Decidable (SR m):=by unfold SR Sh;infer_instance
theorem aim:ai (FH29 ((XL.drop (Int.toNat 0)).take (Int.toNat 6 - Int.toNat 0)))=some (bk L6,()):=aco (by decide) (by decide +kernel)
theorem ain:ai (FH29 ((XL.drop (Int.toNat 0)).take (Int.toNat 7 - Int.toNat 0)))=some (bk L7,()):=aco (by decide) (by decide +kernel)
theorem aio:ai (FH29 XL)=some (bk L8,()):=aco (by decide) (by decide +kernel)
theorem o6:lG L6:=lG.told _
theorem o7:lG L7:=lG.told _
theorem o8:lG L8:=lG.told _
theorem xl:XL.length=8:=rfl
theorem R9:Sh (bs [97,110,97]):=by unfold Sh;decide +kernel
theorem aip:Sh (bs [99,121]):=by unfold Sh;decide +kernel
theorem e1:ai (FH33 (bs [116,49]) (bk L6))=some (2,0,[bs [99,50],bs [99,51]],bk L6,()):=by rw [kH33 o6,x1];rfl
theorem e2:ai (FH23 (bs [97,110,97]) (bk L6))=some (2,0,[0,41],bk L6,()):=by rw [acw o6 R9,x2];rfl
theorem e3:ai (FH23 (bs [97,110,97]) (bk L7))=some (1,0,[41],bk L7,()):=by rw [acw o7 R9,x3];rfl
theorem e4:ai (FH37 (bk L6))=some ((65,66),0,bk L6,()):=by rw [kH37 o6,x4]
theorem e5:ai (FH25 (bs [99,121]) (bk L8))=some ((0,40),0,bk L8,()):=by rw [kH25 o8 aip,x5]
theorem e6:ai (FH45 (bk L6))=some (3,[bs [97,110,97],bs [98,101,110],bs [99,121]],bk L6,()):=by rw [kH45 o6,x6];rfl
theorem e7:ai (F36 (([bs [99,50],bs [99,51]].drop 0).take 2) (([bs [99,50],bs [99,51]].drop 0).take 2))=some (true,()):=by rw [k36 (by decide)];rfl
theorem e8:ai (F27 ((([0,41]:List Int).drop 0).take 2) ((([0,41]:List Int).drop 0).take 2))=some (true,()):=by rw [k27 (by decide)];rfl
theorem e9:ai (F27 ((([41]:List Int).drop 0).take 1) ((([41]:List Int).drop 0).take 1))=some (true,()):=by rw [k27 (by decide)];rfl
theorem e10:ai (F36 (([bs [97,110,97],bs [98,101,110],bs [99,121]].drop 0).take 3) (([bs [97,110,97],bs [98,101,110],bs [99,121]].drop 0).take 3))=some (true,()):=by rw [k36 (by decide)];rfl
theorem e11:ai (FH40 (bs [116,49]) 3 (bk L6))=some (true,bk L6,()):=by rw [IF o6,x7];rfl
theorem e12:ai (FH40 (bs [116,50]) 4 (bk L6))=some (true,bk L6,()):=by rw [IF o6,x8];rfl
theorem e13:ai (FH40 (bs [99,51]) 5 (bk L6))=some (true,bk L6,()):=by rw [IF o6,x9];rfl
theorem e14:ai (FH40 (bs [119,49]) 1 (bk L6))=some (true,bk L6,()):=by rw [IF o6,x10];rfl
theorem e15:ai (FH40 (bs [99,50]) 2 (bk L7))=some (true,bk L7,()):=by rw [IF o7,x11];rfl
theorem e16:ai (FH40 (bs [99,51]) 4 (bk L7))=some (true,bk L7,()):=by rw [IF o7,x12];rfl
theorem e17:ai (FH40 (bs [99,50]) 5 (bk L8))=some (true,bk L8,()):=by rw [IF o8,x13];rfl
theorem e18:ai (FH47 (bk L8))=some (8,L8,bk L8,()):=by rw [acp o8.s (by rw [x14];decide),x14]
theorem k17:ai F17=some (true,()):=by
 unfold F17
 simp only [aA,aS,aj,aa,k46,aF,aim,ain,aio,xl,e1,e2,e3,e4,e5,e6,e11,e12,e13,e14,e15,e16,e17,e18,aZ]
 rw [cm (by decide),cm (by decide),cm (by decide),cm (by decide)]
 rw [if_pos trivial,if_pos trivial,if_pos trivial,if_pos trivial,if_pos trivial,ag e7]
 simp only [bO]
 rw [ag e8]
 simp only [bO]
 rw [ag e9]
 simp only [bO]
 rw [show (((65,66):Int×Int).1==65&&(((65,66):Int×Int).2==66&&true))=true from by decide,show (((0,40):Int×Int).1==0&&(((0,40):Int×Int).2==40&&true))=true from by decide]
 simp only [bO]
 rw [ag e10]
 simp only [bO]
 refine (cm (by decide)).trans ?_
 refine (cm (by decide)).trans ?_
 rfl
def mC:Mg:=(bs [99,49],2,bs [116,49],bs [97,110,97],43)
def L9:List Mg:=(iA L8 mC).2
theorem y1:(iA L8 mC).1=0:=by kernel_rfl
theorem y2:dU (cnt L9) (bs [114,49])=(0,18):=by kernel_rfl
theorem y3:nc (cnt L9) (bs [99,49])=([],18):=by kernel_rfl
theorem y4:dU (cnt L9) (bs [122,122])=(0,5):=by kernel_rfl
theorem y5:L9.length=9:=by kernel_rfl
theorem y6:dU (cnt L9) (bs [99,49])=(3,0):=by kernel_rfl
end Go.Proofs.Tryz
end
section
namespace Go.Proofs.Tryz
open Go.AM
set_option maxRecDepth 100000
end Go.Proofs.Tryz
end
section
namespace Go.Proofs.Tryz
open Go.AM
set_option maxRecDepth 100000
theorem W0 {L:List Mg} {m:Mg} (hc:zx m=0) (hl:L.length+1<=60):iA L m=(0,mj L m):=by
 unfold iA
 have:=RW (L:=L) (m:=m)
 rw [if_pos hc,if_neg (by omega)]
theorem kT {L:List Mg} (h:lG L) {m:Mg} (hm:SR m) (hc:zx m=0) (hl:L.length+1<=60):ai (FH20 (m.1,m.2.1,m.2.2.1,m.2.2.2.1,m.2.2.2.2) (bk L))=some (0,bk (mj L m),()):=by
 have:=acn h.s h.len hm
 rw [W0 hc hl] at this
 exact this
end Go.Proofs.Tryz
end
section
namespace Go.Proofs.Tryz
open Go.AM
set_option maxRecDepth 100000
def acc3:List ByteArray:=[bs [120],bs [121],bs [122]]
def id8:List ByteArray:=[bs [97],bs [98],bs [99],bs [100],bs [101],bs [102],bs [103],bs [104]]
abbrev B2:=List (Mg×Bool)×List (Mg×Bool)×Unit
theorem Np {L:List Mg} (h:lG L) (x:ByteArray):(nc (cnt L) x).1.length<1000000000:=by
 have hs:=fe L
 have hc:=gd h
 unfold nc
 split
 ·rename_i h1
  split
  ·rename_i h2
   have:=KR hs h1 h2
   simp only;omega
  ·simp
 ·simp
theorem Sa {L:List Mg} (h:lG L):(tF (cnt L)).length<1000000000:=by
 have hs:=fe L
 have hc:=gd h
 have hz:=zI hs (ts:=qo (cnt L)) (m:=[]) fun t ht=>De hs ht
 have hq:(qo (cnt L)).length * (cnt L).length<=60 * 60:=Nat.mul_le_mul (Nat.le_trans Df hc) hc
 unfold tF
 rw [List.length_map]
 simp only [List.length_nil] at hz;omega
end Go.Proofs.Tryz
end
section
namespace Go.Proofs.Tryz
open Go.AM
set_option maxRecDepth 100000
end Go.Proofs.Tryz
end
section
namespace Go.Proofs.Tryz
open Go.AM
set_option maxRecDepth 100000
end Go.Proofs.Tryz
end
section
namespace Go.Proofs.Tryz
open Go.AM
set_option maxRecDepth 100000
def sev (m:Mg):Mg:=if m.2.1=3 then m else (m.1,m.2.1,m.2.2.1,m.2.2.2.1,7)
structure KS where
 met:List (ByteArray×Bool)
 out:List Mg
 s:Int
def Pr (z:KS) (m:Mg):KS:=if az .str false z.met m.1=true then z else ⟨bq .str z.met m.1 true,z.out++[sev m],if m.2.1=1 then z.s+7 else z.s⟩
def only (Z:Zs) (y:Int):Prop:=CZ Z/\∀z,tN Z z↔z=y
end Go.Proofs.Tryz
end
section
namespace Go.Proofs.Tryz
open Go.AM
set_option maxRecDepth 100000
section
variable {c:List Mg}
def NJ (c:List Mg) (x:ByteArray):Bool:=c.any fun m=>decide (m.1=x/\m.2.1≠3)
def rF (c:List Mg) (x:Mg):Bool:=NJ c x.2.2.1 && !fD c x.1&&decide ((c.filter fun m=>decide (m.2.1=2/\m.2.2.1=x.2.2.1/\m.1≠x.1/\fD c m.1=true)).length=1)
theorem W1 (hs:SI c) {x:ByteArray}:NJ c x=true↔oy c x=true/\(msg c x).2.1≠3:=by
 unfold NJ
 rw [List.any_eq_true]
 constructor
 ·rintro ⟨m, hm, h⟩
  obtain ⟨rfl,h3⟩:=of_decide_eq_true h
  exact ⟨bF.2 (List.mem_map.2 ⟨m,hm,rfl⟩),by rw [eo hs hm];exact h3⟩
 ·rintro ⟨h1, h3⟩
  obtain ⟨h4,h5⟩:=Dd hs h1
  exact ⟨msg c x,h4,decide_eq_true ⟨h5,h3⟩⟩
theorem W2 (hs:SI c) (x:ByteArray):WM c x=NJ c x:=by
 rw [Bool.eq_iff_iff,W1 hs]
 unfold WM
 rw [Bool.and_eq_true,Bool.not_eq_true',beq_eq_false_iff_ne]
 exact Iff.rfl
theorem uO {m:Mg} (hm:m∈c) (h:m.2.1=2):m.1∈kids c m.2.2.1:=lB.2 ⟨m,hm,rfl,h,rfl⟩
theorem Gc (hs:SI c) {x:Mg} (hx:x∈c) (hk:x.2.1=2):rF c x=true↔x.1∈dir c (x.2.2.1,kids c x.2.2.1):=by
 have hxk:=uO hx hk
 have hlen:fD c x.1=false->(c.filter fun m=>decide (m.2.1=2/\m.2.2.1=x.2.2.1/\m.1≠x.1/\fD c m.1=true)).map (·.1)=(kids c x.2.2.1).filter (fD c):=by
  intro hr
  unfold kids
  rw [List.filter_map,List.filter_filter]
  refine congrArg (List.map _) (List.filter_congr fun m hm=>?_)
  rw [Bool.eq_iff_iff]
  simp only [Function.comp_apply,Bool.and_eq_true,decide_eq_true_eq]
  constructor
  ·rintro ⟨h1,h2,_,h4⟩;exact ⟨h4,h1,h2⟩
  ·rintro ⟨h4, h1, h2⟩
   exact ⟨h1,h2,(fun e=>by rw [e,hr] at h4;cases h4),h4⟩
 unfold rF dir
 rw [<-W2 hs]
 simp only [Bool.and_eq_true,Bool.not_eq_true',decide_eq_true_eq]
 constructor
 ·rintro ⟨⟨h1, h2⟩, h3⟩
  rw [if_pos h1]
  have h4:=hlen h2
  have h5:((kids c x.2.2.1).filter (fD c)).length=1:=by rw [<-h4,List.length_map];exact h3
  obtain ⟨o,ho⟩:=List.length_eq_one_iff.1 h5
  rw [ho]
  refine List.mem_filter.2 ⟨hxk,?_⟩
  have h6:fD c o=true:=(List.mem_filter.1 (show o∈(kids c x.2.2.1).filter (fD c) by rw [ho];exact List.mem_singleton.2 rfl)).2
  simp only [Bool.not_eq_true',decide_eq_false_iff_not]
  intro e;rw [e,h6] at h2;cases h2
 ·intro h
  split at h
  ·rename_i h1
   split at h
   ·rename_i o ho
    obtain ⟨_,h2⟩:=List.mem_filter.1 h
    simp only [Bool.not_eq_true',decide_eq_false_iff_not] at h2
    have hr:fD c x.1=false:=by
     cases hr:fD c x.1 with
     |false=>rfl
     |true =>
      have:x.1∈(kids c x.2.2.1).filter (fD c):=List.mem_filter.2 ⟨hxk,hr⟩
      rw [ho,List.mem_singleton] at this
      exact absurd this h2
    have h4:=congrArg List.length (hlen hr)
    rw [List.length_map,ho] at h4
    exact ⟨⟨h1,hr⟩,h4⟩
   ·cases h
  ·cases h
def par (c:List Mg) (m:Mg):Option Mg:=c.find? fun x=>decide (x.1=m.2.2.1/\x.2.1≠3)
def way (c : List Mg) : Nat → Mg → List Mg
 |0,_=>[]
 |n+1,m=>m::(if m.2.1=1 then [] else match par c m with|some x=>way c n x|none=>[])
end
end Go.Proofs.Tryz
end
section
namespace Go.Proofs.Tryz
open Go.AM
set_option maxRecDepth 100000
set_option maxHeartbeats 1000000
end Go.Proofs.Tryz
end
section
namespace Go.Proofs.Tryz
open Go.AM
set_option maxRecDepth 100000
section
variable {c:List Mg}
def wQ (c:List Mg):Prop:=∀m∈c,m.2.1=1\/m.2.1=2\/m.2.1=3
def Tk (c:List Mg) (t:ByteArray):Prop:=∃m∈c,m.1=t/\m.2.1=1
def NR (c:List Mg) (t:ByteArray):Prop:=∃m∈c,m.1=t/\m.2.1≠3
theorem KW (hs:SI c) {m:Mg} (hm:m∈c) {y:ByteArray} (h:m.1∈kids c y):m.2.1=2/\m.2.2.1=y:=by
  obtain ⟨m',hm',e,h2,h3⟩:=lB.1 h
  rw [hs.inj hm' hm e] at h2 h3;exact ⟨h2,h3⟩
theorem Tk.top (hs:SI c) {t:ByteArray} (h:Tk c t):WN c t:=by
  obtain ⟨m,hm,rfl,h1⟩:=h
  intro x hx
  have:=(KW hs hm hx).1
  omega
theorem Tk.ids {t:ByteArray} (h:Tk c t):t∈ids c:=by obtain ⟨m,hm,rfl,_⟩:=h;exact List.mem_map.2 ⟨m,hm,rfl⟩
theorem Tk.nr {t:ByteArray} (h:Tk c t):NR c t:=by obtain ⟨m,hm,rfl,h1⟩:=h;exact ⟨m,hm,rfl,by omega⟩
theorem KX {x y:ByteArray} (h:y∈kids c x):NR c y:=by
  obtain ⟨m,hm,rfl,h2,_⟩:=lB.1 h;exact ⟨m,hm,rfl,by omega⟩
theorem eS {x z:ByteArray} {n:Nat} (h:jU c x n z):(n=0/\z=x)\/∃k y,n=k+1/\jU c x k y/\z∈kids c y:=by
  cases h with
  |zero=>exact .inl ⟨rfl,rfl⟩
  |step h hz=>exact .inr ⟨_,_,rfl,h,hz⟩
theorem wR {n:Nat} {x y:ByteArray} (h:jU c x n y) (hx:x∈ids c):y∈ids c:=by
  rcases eS h with ⟨_,rfl⟩|⟨_,_,_,_,hz⟩
  · exact hx
  · exact iC hz
theorem Dh {n:Nat} {x y:ByteArray} (h:jU c x n y) (hx:NR c x):NR c y:=by
  rcases eS h with ⟨_,rfl⟩|⟨_,_,_,_,hz⟩
  · exact hx
  · exact KX hz
theorem wS {x : ByteArray} : ∀ {b a : Nat} {z : ByteArray}, jU c x (a + b) z → ∃ y, jU c x a y ∧ jU c y b z
  |0,_,z,h=>⟨z,h,.zero⟩
  |b+1,a,z,h=>by
    rcases eS h with ⟨h0,_⟩|⟨k,y,hk,h1,hz⟩
    · omega
    · obtain rfl : k = a + b := by omega
      obtain ⟨w,h2,h3⟩:=wS h1
      exact ⟨w,h2,.step h3 hz⟩
theorem Nq {y x:ByteArray} (hy:y∈ids c) (d:Nat):jU c y d x->∃d',d'<c.length/\jU c y d' x:=by
  induction d using Nat.strongRecOn with
  |_ d ih =>
    intro h
    by_cases hd:d<c.length
    · exact ⟨d,hd,h⟩
    · have hex : ∀ i, i ≤ d → ∃ z, jU c y (d - i) z ∧ jU c z i x := fun i hi => wS (b := i) (a := d - i) (by rw [Nat.sub_add_cancel hi]; exact h)
      have hex2:∀i,∃z,i<=d->jU c y (d - i) z/\jU c z i x:=fun i=>by
        by_cases hi:i<=d
        · obtain ⟨z,hz⟩:=hex i hi;exact ⟨z,fun _=>hz⟩
        · exact ⟨y,fun h=>absurd h hi⟩
      obtain ⟨f,hf⟩:=Classical.axiomOfChoice hex2
      by_cases kL:∃i j,i<j/\j<=d/\f i=f j
      · obtain ⟨i, j, hij, hj, e⟩ := kL
        have h1:=(hf j hj).1
        have h2:=(hf i (by omega)).2
        rw [e] at h2
        exact ih (d - j+i) (by omega) (h1.add h2)
      · have hnd:((List.range (d+1)).map f).Nodup:=by
          unfold List.Nodup
          rw [List.pairwise_map]
          refine List.Pairwise.imp_of_mem ?_ List.pairwise_lt_range
          intro a b ha hb hab e
          exact kL ⟨a,b,hab,by have:=List.mem_range.1 hb;omega,e⟩
        have := List.Nodup.length_le_of_subset hnd (l₂ := ids c) (by
          intro z hz
          obtain ⟨i,hi,rfl⟩:=List.mem_map.1 hz
          exact wR (hf i (by have:=List.mem_range.1 hi;omega)).1 hy)
        have hl:(ids c).length=c.length:=by simp [ids]
        simp at this
        omega
theorem Di {t:ByteArray} (ht:WN c t):dg c t=false:=by
  cases h:dg c t with
  |false=>rfl
  |true =>
    obtain ⟨p,y,hy,hd⟩:=zH.1 h
    obtain ⟨n,hp⟩:=hd.pth
    rcases eS hp with ⟨_,e⟩|⟨_,_,_,_,hz⟩
    · rw [<-e] at hy;exact absurd (qh hy) (ht _)
    · exact absurd hz (ht _)
theorem Sb {x z:ByteArray} (h:dg c z=false) (hz:z∈kids c x):dg c x=false:=by
  cases h':dg c x with
  |false=>rfl
  |true=>rw [Da h' hz] at h;cases h
theorem KY {n:Nat} {x z:ByteArray} (hp:jU c x n z) (h:dg c z=false):dg c x=false:=by
  induction hp with
  |zero=>exact h
  |step _ hz ih=>exact ih (Sb h hz)
theorem KZ (hs : SI c) (hk : wQ c) : ∀ {n : Nat} {x t : ByteArray}, Am c n x = some t ↔ Tk c t ∧ dg c x = false ∧ ∃ d, d < n ∧ jU c t d x
  |0,x,t=>by simp [Am]
  |n+1,x,t=>by
    unfold Am
    by_cases hm:oy c x=true
    · rw [if_pos hm]
      obtain ⟨gz,hm2⟩:=Dd hs hm
      by_cases h3:(msg c x).2.1=3
      · rw [if_pos h3]
        simp only [reduceCtorEq,false_iff]
        rintro ⟨ht,_,d,_,hp⟩
        obtain ⟨m,hm',e,h3'⟩:=Dh hp ht.nr
        have:=hs.inj hm' gz (by rw [e,hm2])
        rw [this] at h3'
        exact h3' h3
      · rw [if_neg h3]
        by_cases hst:dg c x=true
        · rw [if_pos hst]
          simp only [reduceCtorEq,false_iff]
          rintro ⟨_,h,_⟩
          rw [h] at hst;cases hst
        · rw [if_neg hst]
          have hst:dg c x=false:=by simpa using hst
          by_cases h1:(msg c x).2.1=1
          · rw [if_pos h1]
            have ht:Tk c x:=⟨_,gz,hm2,h1⟩
            constructor
            · intro e
              obtain rfl:=Option.some.inj e
              exact ⟨ht,hst,0,by omega,.zero⟩
            · rintro ⟨_, _, d, _, hp⟩
              rcases eS hp with ⟨_,e⟩|⟨_,_,_,_,hz⟩
              · rw [e]
              · exact absurd hz (ht.top hs _)
          · rw [if_neg h1, KZ hs hk]
            have h2:(msg c x).2.1=2:=by rcases hk _ gz with h|h|h<;>omega
            have qp:x∈kids c (msg c x).2.2.1:=by have:=uO gz h2;rwa [hm2] at this
            constructor
            · rintro ⟨ht, _, d, hd, hp⟩
              exact ⟨ht,hst,d+1,by omega,.step hp qp⟩
            · rintro ⟨ht, _, d, hd, hp⟩
              rcases eS hp with ⟨_,e⟩|⟨k,z,hk',h4,hz⟩
              · exact absurd (by rw [<-e];exact qp) (ht.top hs _)
              · rw [KM hs hz qp] at h4
                exact ⟨ht,Sb hst qp,k,by omega,h4⟩
    · rw [if_neg hm]
      simp only [reduceCtorEq,false_iff]
      rintro ⟨ht,_,d,_,hp⟩
      exact hm (bF.2 (wR hp ht.ids))
theorem dn (hs:SI c) (hk:wQ c) {x t:ByteArray}:mZ c x=some t↔Tk c t/\dg c x=false/\∃d,jU c t d x:=by
  rw [KZ hs hk]
  exact and_congr_right fun ht=>and_congr_right fun _=>⟨fun ⟨d,_,h⟩=>⟨d,h⟩,fun ⟨d,h⟩=>⟨d,h.short hs (ht.top hs) ht.ids,h⟩⟩
def fQ (c:List Mg) (x:ByteArray):Option ByteArray:=if eF c x=[] then mZ c x else none
theorem eX {x t:ByteArray}:fQ c x=some t↔eF c x=[]/\mZ c x=some t:=by
  unfold fQ;split<;>simp [*]
theorem tH {x y:ByteArray}:y∈eF c x↔y∈kids c x/\dg c y=false:=by
  unfold eF;rw [List.mem_filter];simp
theorem Dj (hs:SI c) (hk:wQ c) {x y t:ByteArray} (hx:mZ c x=some t) (hy:y∈kids c x):(mZ c y).isSome = !dg c y:=by
  rw [Bool.eq_iff_iff,Option.isSome_iff_exists,Bool.not_eq_true']
  simp only [dn hs hk]
  obtain ⟨h1,_,d,h2⟩:=(dn hs hk).1 hx
  exact ⟨fun ⟨_,_,h,_⟩=>h,fun h=>⟨t,h1,h,d+1,.step h2 hy⟩⟩
theorem zK {y : ByteArray} : ∀ {n : Nat} {x : ByteArray}, dg c x = false → (y ∈ cB c n x ↔ eF c y = [] ∧ dg c y = false ∧ ∃ d, d < n ∧ jU c x d y)
  |0,x,_=>by simp [cB]
  |n+1,x,hx=>by
    unfold cB
    split
    · rename_i hl
      rw [List.mem_singleton]
      constructor
      · rintro rfl;exact ⟨hl,hx,0,by omega,.zero⟩
      · rintro ⟨_, h2, d, _, hp⟩
        cases d with
        | zero => rcases eS hp with ⟨_, e⟩ | ⟨_, _, h, _, _⟩
                  · exact e
                  · omega
        |succ d =>
          rw [Nat.add_comm] at hp
          obtain ⟨z,hz1,hz2⟩:=wS hp
          rcases eS hz1 with ⟨h,_⟩|⟨k,w,hk,hw,hzk⟩
          · omega
          · obtain rfl : k = 0 := by omega
            rcases eS hw with ⟨_,rfl⟩|⟨_,_,h,_,_⟩
            · have := tH.2 ⟨hzk, KY hz2 h2⟩
              rw [hl] at this;cases this
            · omega
    · rename_i k l hl
      rw [(dS (t:=.str) _).mem_iff,List.mem_flatMap,<-hl]
      constructor
      · rintro ⟨z, hz, h⟩
        obtain ⟨h1,h2⟩:=tH.1 hz
        obtain ⟨h3,h4,d,hd,hp⟩:=(zK h2).1 h
        exact ⟨h3,h4,1+d,by omega,jU.add (.step .zero h1) hp⟩
      · rintro ⟨h3, h4, d, hd, hp⟩
        cases d with
        |zero =>
          rcases eS hp with ⟨_,e⟩|⟨_,_,h,_,_⟩
          · subst e;rw [hl] at h3;cases h3
          · omega
        |succ d =>
          rw [Nat.add_comm] at hp
          obtain ⟨z,hz1,hz2⟩:=wS hp
          rcases eS hz1 with ⟨h,_⟩|⟨k,w,hk,hw,hzk⟩
          · omega
          · obtain rfl : k = 0 := by omega
            rcases eS hw with ⟨_,rfl⟩|⟨_,_,h,_,_⟩
            · have hsz := KY hz2 h4
              exact ⟨z,tH.2 ⟨hzk,hsz⟩,(zK hsz).2 ⟨h3,h4,d,by omega,hz2⟩⟩
            · omega
theorem jf (hs:SI c) (hk:wQ c) {t y:ByteArray} (ht:Tk c t):y∈ir c t↔fQ c y=some t:=by
  unfold ir
  rw [zK (Di (ht.top hs)),eX,dn hs hk]
  refine and_congr_right fun _=>?_
  constructor
  · rintro ⟨h,d,_,hp⟩;exact ⟨ht,h,d,hp⟩
  · rintro ⟨_,h,d,hp⟩;exact ⟨h,d,by have:=hp.short hs (ht.top hs) ht.ids;omega,hp⟩
theorem n9 (x:ByteArray):slt x x=false:=fq (t:=.str) kS x
theorem Dk {x y:ByteArray} (h:slt x y=true) (h':slt y x=true):False:=di (t:=.str) kS h h'
theorem K0 {l l':List ByteArray} (h:l.Pairwise fun a b=>slt a b=true) (h':l'.Pairwise fun a b=>slt a b=true) (hm:∀x,x∈l↔x∈l'):l=l' :=
  ja (r:=fun a b=>slt a b=true) (fun a h=>by rw [n9] at h;cases h) (fun a b h1 h2=>Dk h1 h2) h h' hm
theorem II {l:List ByteArray} (h:Bf .str l) (hn:l.Nodup):l.Pairwise fun a b=>slt a b=true:=by
  refine List.Pairwise.imp₂ (fun a b h1 h2=>?_) h hn
  cases hlt:slt a b with
  |true=>rfl
  |false=>exact absurd (gb (t:=.str) kS hlt h1) h2
theorem Sc : ∀ {n : Nat} {x : ByteArray}, Bf .str (cB c n x)
  |0,_=>.nil
  |n+1,x=>by
    unfold cB
    split
    · exact List.pairwise_singleton _ _
    · exact qe (t:=.str) kS _
theorem acA (hs:SI c) (hk:wQ c) {t:ByteArray} (ht:Tk c t):ir c t=(c.filter fun m=>decide (fQ c m.1=some t)).map (·.1):=by
  refine K0 (II Sc (Dc hs (ht.top hs) .zero)) ?_ fun y=>?_
  · rw [List.pairwise_map];exact List.Pairwise.filter _ hs
  · rw [jf hs hk ht, List.mem_map]
    constructor
    · intro h
      obtain ⟨_,_,d,hp⟩:=(dn hs hk).1 (eX.1 h).2
      obtain ⟨m,hm,rfl⟩:=List.mem_map.1 (wR hp ht.ids)
      exact ⟨m,List.mem_filter.2 ⟨hm,by simpa using h⟩,rfl⟩
    · rintro ⟨m, hm, rfl⟩
      simpa using (List.mem_filter.1 hm).2
end
end Go.Proofs.Tryz
end
section
namespace Go.Proofs.Tryz
open Go.AM
set_option maxRecDepth 100000
set_option maxHeartbeats 1000000
theorem Sd {m:Mg} (h:zx m=0):m.2.1=1\/m.2.1=2\/m.2.1=3:=by
 unfold zx at h
 split at h
 ·cases h
 ·omega
theorem acB {c c':List Mg} (h:SI c) (h':SI c') (hm:∀m,m∈c↔m∈c'):c=c' :=
 ja (r:=fun a b:Mg=>slt a.1 b.1=true) (fun a h=>by rw [n9] at h;cases h) (fun a b h1 h2=>Dk h1 h2) h h' hm
theorem K1 {l:List ByteArray} {k:Nat} (h:k<l.length):l.getD k (bs [])∈l:=by
 rw [List.getD_eq_getElem?_getD,List.getElem?_eq_getElem h];exact List.getElem_mem h
end Go.Proofs.Tryz
end
section
namespace Go.Proofs.Tryz
open Go.AM
set_option maxRecDepth 100000
set_option maxHeartbeats 2000000
section
variable {c:List Mg}
end
end Go.Proofs.Tryz
end
section
namespace Go.Proofs.Tryz
open Go.AM
set_option maxRecDepth 100000
set_option maxHeartbeats 2000000
section
variable {c:List Mg}
theorem Nr (hs:SI c) (hk:wQ c) {m:Mg} (hm:m∈c) (h:(fQ c m.1).isSome=true):m.2.1≠3:=by
 obtain ⟨t,ht⟩:=Option.isSome_iff_exists.1 h
 obtain ⟨h1,_,d,h2⟩:=(dn hs hk).1 (eX.1 ht).2
 obtain ⟨m',hm',e,h3⟩:=Dh h2 h1.nr
 rw [hs.inj hm' hm e] at h3
 exact h3
theorem Se {f:ByteArray->Int}:(iE c f).Pairwise (· < ·):=by
 unfold iE
 rw [List.pairwise_map]
 refine List.Pairwise.imp (fun {a b} h=>?_) (tE (c:=c) (f:=f) (ts:=qo c) cQ.1)
 exact of_decide_eq_true h
end
end Go.Proofs.Tryz
end
section
namespace Go.Proofs.Tryz
open Go.AM
set_option maxRecDepth 100000
set_option maxHeartbeats 2000000
section
variable {c:List Mg}
theorem W3 {l l':List Int} (h:l.Pairwise (· < ·)) (h':l'.Pairwise (· < ·)) (hm:∀x,x∈l↔x∈l'):l=l' :=
 ja (r:=fun a b:Int=>a<b) (fun a h=>by omega) (fun a b h1 h2=>by omega) h h' hm
end
end Go.Proofs.Tryz
end
section
namespace Go.Proofs.Tryz
open Go.AM
set_option maxRecDepth 100000
section
variable {c c':List Mg} {n:Mg}
abbrev D (c:List Mg) (p:ByteArray):List ByteArray:=dir c (p,kids c p)
theorem Ns {t:ByteArray} {ts:List ByteArray} {m:Ss}:vY c (t::ts) m=vY c ts (An c (ir c t) m):=by
 unfold vY;rw [List.foldl_cons]
theorem tJ (hs:SI c) (hk:wQ c) {t v:ByteArray} (ht:Tk c t) (hv:v∈ir c t):oy c v=true:=by
 obtain ⟨_,_,d,hp⟩:=(dn hs hk).1 (eX.1 ((jf hs hk ht).1 hv)).2
 exact bF.2 (wR hp ht.ids)
end
end Go.Proofs.Tryz
end
section
namespace Go.Proofs.Tryz
open Go.AM
set_option maxRecDepth 100000
set_option maxHeartbeats 2000000
section
variable {c:List Mg} {n m:Mg} {t:ByteArray}
end
end Go.Proofs.Tryz
end
