/- Maps that are kept in order: what stands in them. Plain Lean. Messages: names, what is wrong with them. Books: telling, all messages in order. DeleteFunc, Clone, the keys of maps. The messages that count, and what they say of each other. Striking: what is struck, and what corrects it. A book's desk. The versions of a ticket. The versions of a ticket: walked. States and versions. Sums. Spans, sums, accounts. The examples: what works() and Known come to. Messages by numbers. Books that were told good messages. Joins; books that answer the same. TicketOrder. TicketOrder: the row. TicketKept. Ways up to a ticket. Struck, the chain, versions: walked. Ways up: what they say. The messages that count: the first of each id. TicketStates. -/
import Derived.Test.YthemjfloiapaaaaGreatW51
set_option linter.unusedSectionVars false
set_option linter.unusedVariables false
set_option linter.unusedSimpArgs false
section
namespace Go.AM
theorem sorted_ext {α : Type} {r : α → α → Prop} (irr : ∀ a, ¬ r a a) (asy : ∀ a b, r a b → ¬ r b a) : ∀ {l l' : List α}, l.Pairwise r → l'.Pairwise r → (∀ x, x ∈ l ↔ x ∈ l') → l = l'
 |[],[],_,_,_=>rfl
 |[],b::s,_,_,h=>by have:=(h b).2 (List.mem_cons_self ..);cases this
 |a::r',[],_,_,h=>by have:=(h a).1 (List.mem_cons_self ..);cases this
 |a::l,b::s,h1,h2,h=>by
  rw [List.pairwise_cons] at h1 h2
  have e:a=b:=by
   rcases List.mem_cons.1 ((h a).1 (List.mem_cons_self ..)) with e|ha
   ·exact e
   rcases List.mem_cons.1 ((h b).2 (List.mem_cons_self ..)) with e|hb
   ·exact e.symm
   ·exact absurd (h2.1 a ha) (asy _ _ (h1.1 b hb))
  subst e
  rw [sorted_ext irr asy h1.2 h2.2 fun x=>?_]
  constructor
  ·intro hx
   rcases List.mem_cons.1 ((h x).1 (List.mem_cons_of_mem _ hx)) with e|hx'
   ·subst e;exact absurd (h1.1 x hx) (irr x)
   ·exact hx'
  ·intro hx
   rcases List.mem_cons.1 ((h x).2 (List.mem_cons_of_mem _ hx)) with e|hx'
   ·subst e;exact absurd (h2.1 x hx) (irr x)
   ·exact hx'
section
variable {t:Ty} {ks:List Kd} {β:Type}
theorem deq_rfl (hk:keyKs t=some ks) {x:t.den}:deq t x x=true:=deq_refl x hk
theorem deq_iff (hk:keyKs t=some ks) {x y:t.den}:deq t x y=true↔x=y:=⟨deq_eq,fun h=>by subst h;exact deq_rfl hk⟩
theorem dlt_irf (hk:keyKs t=some ks) (x:t.den):dlt t x x=false:=by
 cases h:dlt t x x with
 |false=>rfl
 |true=>exact (dlt_asym hk h h).elim
theorem deq_dlt (hk:keyKs t=some ks) {x y:t.den} (h:dlt t x y=true):deq t x y=false:=by
 cases h':deq t x y with
 |false=>rfl
 |true=>rw [deq_eq h',dlt_irf hk] at h;cases h
def Cam (t:Ty) (es:List (t.den×β)):Prop:=es.Pairwise fun a b=>dlt t a.1 b.1=true
theorem Cam.kd (hk:keyKs t=some ks) {es:List (t.den×β)} (h:Cam t es):KD t es:=List.Pairwise.imp (fun h=>deq_dlt hk h) h
theorem mins_mem {es:List (t.den×β)} {x:t.den} {v:β} {e:t.den×β}:e∈minsL t es x v↔e=(x,v)∨e∈es:=by
 rw [mins_perm.mem_iff];simp
theorem Cam.mins (hk : keyKs t = some ks) {x : t.den} {v : β} : ∀ {es : List (t.den × β)}, Cam t es → mhasL t es x = false → Cam t (minsL t es x v)
 |[],_,_=>by unfold Cam;simp [minsL]
 |e::r,h,hn=>by
  unfold Cam at h
  rw [List.pairwise_cons] at h
  have hne:=mhas_none hn (List.mem_cons_self ..)
  have hnr:mhasL t r x=false:=by simpa [mhasL,hne] using hn
  unfold minsL
  split
  ·rename_i hlt
   unfold Cam
   rw [List.pairwise_cons]
   refine ⟨fun b hb=>?_,List.pairwise_cons.2 h⟩
   rcases List.mem_cons.1 hb with rfl|hb
   ·exact hlt
   ·exact dlt_trans hk hlt (h.1 b hb)
  ·rename_i hlt
   unfold Cam
   rw [List.pairwise_cons]
   refine ⟨fun b hb=>?_,Cam.mins hk h.2 hnr⟩
   rcases mins_mem.1 hb with rfl|hb
   ·cases hlt':dlt t e.1 x with
    |true=>rfl
    |false =>
     have:=dlt_total hk (by simpa using hlt) hlt'
     rw [this,deq_rfl hk] at hne;cases hne
   ·exact h.1 b hb
theorem Cam.mset (hk:keyKs t=some ks) {x:t.den} {v:β} {es:List (t.den×β)} (h:Cam t es):Cam t (msetL t es x v):=by
 unfold msetL
 split
 ·unfold Cam
  rw [List.pairwise_map]
  refine List.Pairwise.imp ?_ h
  intro a b hab
  split<;>split
  ·rename_i h1 h2
   rw [←deq_eq h1,←deq_eq h2,dlt_irf hk] at hab;cases hab
  ·rename_i h1 h2
   rw [←deq_eq h1] at hab;exact hab
  ·rename_i h1 h2
   rw [←deq_eq h2] at hab;exact hab
  ·exact hab
 ·rename_i hn
  exact h.mins hk (by simpa using hn)
theorem mhas_iff (hk:keyKs t=some ks) {es:List (t.den×β)} {x:t.den}:mhasL t es x=true↔∃v,(x,v)∈es:=by
 unfold mhasL
 rw [List.any_eq_true]
 constructor
 ·rintro ⟨e,he,hx⟩;rw [deq_eq hx];exact ⟨e.2,he⟩
 ·rintro ⟨v,hv⟩;exact ⟨_,hv,deq_rfl hk⟩
theorem mget_mem (hk:keyKs t=some ks) {es:List (t.den×β)} {x:t.den} {v d:β} (h:Cam t es) (hm:(x,v)∈es):mgetL t d es x=v:=mget_of (h.kd hk) hm (deq_rfl hk)
theorem mset_mem (hk:keyKs t=some ks) {es:List (t.den×β)} {x:t.den} {v:β} (h:Cam t es) {e:t.den×β}:e∈msetL t es x v↔e=(x,v)∨(e∈es∧e.1≠x):=by
 unfold msetL
 split
 ·rename_i hh
  obtain ⟨u,hu⟩:=(mhas_iff hk).1 hh
  rw [List.mem_map]
  constructor
  ·rintro ⟨e', he', rfl⟩
   split
   ·exact .inl rfl
   ·rename_i hne;exact .inr ⟨he',fun e=>hne (by rw [e];exact deq_rfl hk)⟩
  ·rintro (rfl | ⟨he, hne⟩)
   ·exact ⟨(x,u),hu,by simp [deq_rfl hk]⟩
   ·exact ⟨e,he,by rw [if_neg];intro h;exact hne (deq_eq h).symm⟩
 ·rename_i hh
  rw [mins_mem]
  constructor
  ·rintro (h | h)
   ·exact .inl h
   ·refine .inr ⟨h, fun e' => hh ?_⟩
    rw [←e'];exact (mhas_iff hk).2 ⟨_,h⟩
  ·rintro (h | h)
   ·exact .inl h
   ·exact .inr h.1
theorem mget_mset (hk:keyKs t=some ks) {es:List (t.den×β)} {x y:t.den} {v d:β} (h:Cam t es):mgetL t d (msetL t es x v) y=if deq t y x=true then v else mgetL t d es y:=by
 have hc:=h.mset (x:=x) (v:=v) hk
 split
 ·rename_i e; have e := deq_eq e; subst e
  exact mget_mem hk hc ((mset_mem hk h).2 (.inl rfl))
 ·rename_i e0
  have e:y≠x:=fun h=>e0 ((deq_iff hk).2 h)
  cases hm:mhasL t es y with
  |true =>
   obtain ⟨u,hu⟩:=(mhas_iff hk).1 hm
   rw [mget_mem hk h hu]
   exact mget_mem hk hc ((mset_mem hk h).2 (.inr ⟨hu,e⟩))
  |false =>
   rw [mget_none hm,mget_none]
   cases hm':mhasL t (msetL t es x v) y with
   |false=>rfl
   |true =>
    obtain ⟨u,hu⟩:=(mhas_iff hk).1 hm'
    rcases (mset_mem hk h).1 hu with e'|⟨h',_⟩
    ·cases e';exact absurd rfl e
    ·rw [(mhas_iff hk).2 ⟨u,h'⟩] at hm;cases hm
theorem mhas_mset (hk:keyKs t=some ks) {es:List (t.den×β)} {x y:t.den} {v:β} (h:Cam t es):mhasL t (msetL t es x v) y=(deq t y x||mhasL t es y):=by
 rw [Bool.eq_iff_iff,mhas_iff hk,Bool.or_eq_true,deq_iff hk,mhas_iff hk]
 constructor
 ·rintro ⟨u, hu⟩
  rcases (mset_mem hk h).1 hu with e|⟨h',_⟩
  ·cases e;exact .inl rfl
  ·exact .inr ⟨u,h'⟩
 ·by_cases e : y = x
  ·subst e;exact fun _=>⟨v,(mset_mem hk h).2 (.inl rfl)⟩
  ·rintro (h' | ⟨u, hu⟩)
   ·exact absurd h' e
   ·exact ⟨u,(mset_mem hk h).2 (.inr ⟨hu,e⟩)⟩
theorem can_ext (hk:keyKs t=some ks) {es es':List (t.den×β)} (h:Cam t es) (h':Cam t es') (hm:∀e,e∈es↔e∈es'):es=es' :=
 sorted_ext (r:=fun a b:t.den×β=>dlt t a.1 b.1=true) (fun a h=>by rw [dlt_irf hk] at h;cases h) (fun a b h1 h2=>dlt_asym hk h1 h2) h h' hm
theorem Cam.keys (hk:keyKs t=some ks) {es:List (t.den×β)} (h:Cam t es):Srt t (es.map (·.1)):=by
 unfold Srt
 rw [List.pairwise_map]
 refine List.Pairwise.imp (fun {a b} hab=>?_) h
 cases hba:dlt t b.1 a.1 with
 |false=>rfl
 |true=>exact (dlt_asym hk hab hba).elim
theorem Cam.nil:Cam (β:=β) t []:=List.Pairwise.nil
theorem msetT {es:List (t.den×Bool)} (hk:keyKs t=some ks) (h:Cam t es) (ht:∀e∈es,e.2=true) {x:t.den}:∀e∈msetL t es x true,e.2=true:=fun e he=>by
 rcases (mset_mem hk h).1 he with rfl|⟨h',_⟩
 ·rfl
 ·exact ht e h'
theorem mgetT {es:List (t.den×Bool)} (hk:keyKs t=some ks) (h:Cam t es) (ht:∀e∈es,e.2=true) {x:t.den}:mgetL t false es x=mhasL t es x:=by
 cases hm:mhasL t es x with
 |false=>exact mget_none hm
 |true =>
  obtain ⟨u,hu⟩:=(mhas_iff hk).1 hm
  rw [mget_mem hk h hu];exact ht _ hu
theorem can_extT (hk:keyKs t=some ks) {es es':List (t.den×Bool)} (h:Cam t es) (h':Cam t es') (ht:∀e∈es,e.2=true) (ht':∀e∈es',e.2=true) (hm:∀x,mhasL t es x=mhasL t es' x):es=es':=by
 refine can_ext hk h h' fun e=>?_
 have key:∀{es es':List (t.den×Bool)},(∀e∈es,e.2=true)→(∀e∈es',e.2=true)→(∀x,mhasL t es x=mhasL t es' x)→e∈es→e∈es':=fun {es es'} ht ht' hm he=>by
  have h1:mhasL t es' e.1=true:=by rw [←hm];exact (mhas_iff hk).2 ⟨e.2,he⟩
  obtain ⟨u,hu⟩:=(mhas_iff hk).1 h1
  have e1:=ht e he
  have e2:=ht' _ hu
  obtain ⟨a,b⟩:=e
  simp only at e1 e2;subst e1;subst e2;exact hu
 exact ⟨key ht ht' hm,key ht' ht fun x=>(hm x).symm⟩
end
end Go.AM
end
section
namespace Go.Proofs.Tryz
open Go.AM
set_option maxRecDepth 100000
abbrev Mg:=ByteArray×Int×ByteArray×ByteArray×Int
abbrev tM:Ty:=.prod .str (.prod (.int .i64) (.prod .str (.prod .str (.int .i64))))
abbrev kM:keyKs tM=some [.s,.i,.s,.s,.i]:=rfl
abbrev kS:keyKs .str=some [.s]:=rfl
theorem seq_eq (a b:ByteArray):seq a b=decide (a=b):=by
 unfold seq
 rw [Go.ByteArray.toList_eq,Go.ByteArray.toList_eq]
 by_cases h:a=b
 ·subst h;simp
 ·rw [decide_eq_false h, beq_eq_false_iff_ne]
  intro e;apply h
  obtain ⟨x⟩:=a;obtain ⟨y⟩:=b
  simp at e;rw [e]
theorem deq_str (a b:ByteArray):deq .str a b=decide (a=b):=by
 rw [←seq_eq];simp only [deq,seq,Go.ByteArray.toList_eq]
def byteOk (i:Nat) (b:Int):Bool:=decide (97≤b∧b≤122)||decide (i≠0∧48≤b∧b≤57)
def okL : Nat → List Int → Bool
 |_,[]=>true
 |i,b::r=>byteOk i b&&okL (i+1) r
def nameOk (s:ByteArray):Bool:=okL 0 (bysL s)&&decide (0<s.size∧s.size≤10)
theorem k65 (s:ByteArray) (hs:s.size<1000000000):run0 (F65 s)=some (nameOk s,()):=by
 have hl:(bysL s).length=s.size:=bysL_length s
 unfold F65
 simp only [run_bd,run_it]
 refine bind_eq (iter_list (bysL s) (fun k (_:Nat)=>(s,bysL s,((bysL s).length:Int),(k:Int),())) (fun i r=>if okL i r=true then .inr (s,()) else .inl ()) (fun pre i=>i=pre.length) ?_ ?_ (s:=0) rfl) ?_
 ·intro pre x post i hx hi
  subst hi
  have hlen:(bysL s).length=pre.length+(post.length+1):=by rw [hx];simp
  have hd:(bysL s).getD pre.length 0=x:=by rw [hx];exact getD_mid rfl
  have key:run (fun _=>none) (g65_0 (s,bysL s,((bysL s).length:Int),(pre.length:Int),()))=if byteOk pre.length x=true then some (.inl (s,bysL s,((bysL s).length:Int),((pre.length+1:Nat):Int),())) else some (.inr (.inl ())):=by
   simp only [g65_0,run_br,run_nb,run_ni,run_nd,run_ret,Int.toNat_natCast,hd,br_d,br_eq]
   rw [if_pos (by omega),need_inb (by omega) (by omega)]
   unfold byteOk;simp only [Bool.or_eq_true,decide_eq_true_eq]
   by_cases h1:x<97
   ·rw [if_pos h1]
    by_cases h2:(pre.length:Int)=0
    ·rw [if_pos h2,if_neg (by omega)]
    ·rw [if_neg h2]
     by_cases h3:x<48
     ·rw [if_pos h3,if_neg (by omega)]
     ·rw [if_neg h3]
      by_cases h4:57<x
      ·rw [if_pos h4,if_neg (by omega)]
      ·rw [if_neg h4, if_pos, need_i64 (by omega) (by omega)]; · rfl
       omega
   ·rw [if_neg h1]
    by_cases h5:122<x
    ·rw [if_pos h5]
     by_cases h2:(pre.length:Int)=0
     ·rw [if_pos h2,if_neg (by omega)]
     ·rw [if_neg h2]
      by_cases h3:x<48
      ·omega
      ·rw [if_neg h3,if_pos (by omega),if_neg (by omega)]
    ·rw [if_neg h5, if_pos, need_i64 (by omega) (by omega)]; · rfl
     omega
  rw [key]
  by_cases hb:byteOk pre.length x=true
  ·left
   exact ⟨pre.length+1,by rw [if_pos hb],by simp,by simp [okL,hb]⟩
  ·right
   rw [if_neg hb]
   have:okL pre.length (x::post)=false:=by simp [okL,hb]
   simp [this]
 ·intro i _
  simp only [g65_0,run_br,br_d]
  rw [if_neg (by omega)]
  simp [okL,run_ret]
 ·unfold nameOk
  by_cases h:okL 0 (bysL s)=true
  ·rw [if_pos h, h]
   simp only [run_sr,run_br,run_ret,br_d]
   by_cases h0:(0:Int)<((s.size:Nat):Int)
   ·rw [if_pos h0, Bool.true_and]
    congr 2
    exact decide_eq_decide.2 (by omega)
   ·rw [if_neg h0]
    simp;omega
  ·rw [if_neg h]
   simp [h,run_sl,run_ret]
def fst0 (l:List Int):Int:=(l.find? (· != 0)).getD 0
theorem k86 (l:List Int) (hl:l.length<1000000000):run0 (F86 l)=some (fst0 l,()):=by
 unfold F86
 simp only [run_bd,run_it]
 refine bind_eq (iter_list l (fun k (_:Nat)=>((0:Int),l,((l.length:Nat):Int),(k:Int),())) (fun i r=>if (r.find? (· != 0)).isSome then .inl (fst0 r,()) else .inr (0,())) (fun pre i=>i=pre.length) ?_ ?_ (s:=0) rfl) ?_
 ·intro pre x post i hx hi
  subst hi
  have hlen:l.length=pre.length+(post.length+1):=by rw [hx];simp
  have hd:l.getD pre.length 0=x:=by rw [hx];exact getD_mid rfl
  have hin:inb (pre.length:Int) (l.length:Int)=true:=inb_t (by omega) (by omega)
  have hni:rng .i64 ((pre.length:Int)+1)=true:=rng_i64 (by omega) (by omega)
  by_cases h:x=0
  ·left
   refine ⟨pre.length+1,?_,by simp,by simp [h,fst0]⟩
   simp only [g86_0,run_br,run_nb,run_ni,run_ret,Int.toNat_natCast,hd,br_d,br_eq,br_not,hin,hni,need_true]
   rw [if_pos (by omega),if_pos h];rfl
  ·right
   simp only [g86_0,run_br,run_nb,run_ni,run_ret,Int.toNat_natCast,hd,br_d,br_eq,br_not,hin,hni,need_true]
   rw [if_pos (by omega),if_neg h]
   simp [h,fst0]
 ·intro i _
  simp only [g86_0,run_br,br_d]
  rw [if_neg (by omega)]
  simp [run_ret]
 ·cases h:(l.find? (· != 0)).isSome with
  |true=>rw [if_pos rfl];simp only [run_sl,run_ret]
  |false =>
   rw [if_neg (by simp)]
   have:fst0 l=0:=by
    unfold fst0
    cases h':l.find? (· != 0) with
    |none=>rfl
    |some _=>rw [h'] at h;cases h
   rw [this];simp only [run_sr,run_ret]
def chkOf (m:Mg):Int:=if m.2.1=1 then (if m.2.2.1=bs [] then 0 else 22) else if nameOk m.2.2.1=true then (if m.2.2.1=m.1 then 22 else 0) else 8
def chkEn (m:Mg):Int:=if m.2.1=3 then (if m.2.2.2.1=bs []∧m.2.2.2.2=0 then 0 else 22) else if nameOk m.2.2.2.1=true then (if -1000≤m.2.2.2.2∧m.2.2.2.2≤1000 then 0 else 2) else 8
def chk (m:Mg):Int:=if m.2.1<1∨3<m.2.1 then 18 else if nameOk m.1=true then fst0 [chkOf m,chkEn m] else 8
def Sh (s:ByteArray):Prop:=s.size<1000000000
def ShM (m:Mg):Prop:=Sh m.1∧Sh m.2.2.1∧Sh m.2.2.2.1
theorem k87 (m:Mg) (h:ShM m):run0 (F87 m)=some (chkOf m,()):=by
 unfold F87 chkOf
 simp only [run_br,run_bd,run_ret,br_eq,k65 _ h.2.1,bindO_s,br_not,seq_eq,br_d]
 split
 ·split<;>rfl
 ·rw [br_if]
  split
  ·split<;>rfl
  ·rfl
theorem k88 (m:Mg) (h:ShM m):run0 (F88 m)=some (chkEn m,()):=by
 unfold F88 chkEn
 simp only [run_br,run_bd,run_ret,br_eq,k65 _ h.2.2,bindO_s,br_not,seq_eq,br_d]
 split
 ·by_cases h1 : m.2.2.2.1 = bs []
  ·by_cases h2:m.2.2.2.2=0<;>simp [h1,h2]
  ·simp [h1]
 ·rw [br_if]
  split
  ·by_cases h1 : m.2.2.2.2 < -1000
   ·rw [if_pos h1,if_neg (by omega)]
   ·rw [if_neg h1]
    by_cases h2:1000<m.2.2.2.2
    ·rw [if_pos h2,if_neg (by omega)]
    ·rw [if_neg h2,if_pos (by omega)]
  ·rfl
theorem k55 (m:Mg) (h:ShM m):run0 (F55 m)=some (chk m,()):=by
 have h86:=k86 [chkOf m,chkEn m] (by simp)
 unfold F55 chk
 simp only [run_br,run_bd,run_ret,br_d,k65 _ h.1,bindO_s,br_not,k87 m h,k88 m h]
 have hl:((chkOf m::chkEn m::[]).drop 0).take 2=[chkOf m,chkEn m]:=rfl
 simp only [hl,h86,bindO_s]
 by_cases h1:m.2.1<1
 ·rw [if_pos h1,if_pos (.inl h1)]
 ·rw [if_neg h1]
  by_cases h2:3<m.2.1
  ·rw [if_pos h2,if_pos (.inr h2)]
  ·rw [if_neg h2, if_neg (by omega), br_if]
   split<;>rfl
end Go.Proofs.Tryz
end
section
namespace Go.Proofs.Tryz
open Go.AM
set_option maxRecDepth 100000
def bk (L:List Mg):List (Mg×Bool):=L.map fun m=>(m,true)
def SL (L:List Mg):Prop:=L.Pairwise fun a b=>dlt tM a b=true
theorem SL.can {L:List Mg} (h:SL L):Cam tM (bk L):=by
 unfold Cam bk;rw [List.pairwise_map];exact h
theorem bk_t {L:List Mg}:∀e∈bk L,e.2=true:=fun e he=>by
 obtain ⟨m,_,rfl⟩:=List.mem_map.1 he;rfl
theorem bk_mem {L:List Mg} {m:Mg} {b:Bool}:(m,b)∈bk L↔m∈L∧b=true:=by
 unfold bk;rw [List.mem_map]
 constructor
 ·rintro ⟨x,hx,h⟩;cases h;exact ⟨hx,rfl⟩
 ·rintro ⟨h,rfl⟩;exact ⟨m,h,rfl⟩
theorem bk_keys {L:List Mg}:(bk L).map (·.1)=L:=by simp [bk,List.map_map,Function.comp_def]
theorem bk_len {L:List Mg}:(bk L).length=L.length:=by simp [bk]
theorem bk_of {es:List (Mg×Bool)} (h:∀e∈es,e.2=true):bk (es.map (·.1))=es:=by
 unfold bk;rw [List.map_map]
 conv=>rhs;rw [←List.map_id es]
 refine List.map_congr_left fun e he=>?_
 obtain ⟨a,b⟩:=e
 have:=h _ he
 simp only at this;subst this;rfl
def insM (L:List Mg) (m:Mg):List Mg:=(msetL tM (bk L) m true).map (·.1)
theorem bk_ins {L:List Mg} (h:SL L) {m:Mg}:bk (insM L m)=msetL tM (bk L) m true:=bk_of (msetT kM h.can bk_t)
theorem insM_mem {L:List Mg} (h:SL L) {m x:Mg}:x∈insM L m↔x=m∨x∈L:=by
 have:x∈insM L m↔(x,true)∈bk (insM L m):=by rw [bk_mem];simp
 rw [this,bk_ins h,mset_mem kM h.can]
 constructor
 ·rintro (e | ⟨h1, h2⟩)
  ·cases e;exact .inl rfl
  ·exact .inr (bk_mem.1 h1).1
 ·by_cases e : x = m
  ·subst e;exact fun _=>.inl rfl
  ·rintro (e' | h')
   ·exact absurd e' e
   ·exact .inr ⟨bk_mem.2 ⟨h',rfl⟩,e⟩
theorem SL.ins {L:List Mg} (h:SL L) {m:Mg}:SL (insM L m):=by
 have:=h.can.mset (x:=m) (v:=true) kM
 rw [←bk_ins h] at this
 unfold Cam bk at this;rw [List.pairwise_map] at this;exact this
theorem SL.ext {L L':List Mg} (h:SL L) (h':SL L') (hm:∀x,x∈L↔x∈L'):L=L' :=
 sorted_ext (fun a h=>by rw [dlt_irf kM] at h;cases h) (fun a b h1 h2=>dlt_asym kM h1 h2) h h' hm
theorem insM_len {L:List Mg} {m:Mg}:(insM L m).length≤L.length+1:=by
 unfold insM msetL
 rw [List.length_map]
 split
 ·simp [bk]
 ·rw [mins_perm.length_eq];simp [bk]
theorem kH54 (m:List (Mg×Bool)):run0 (FH54 m)=some (false,m,()):=rfl
def tellB (L:List Mg) (m:Mg):Int×List Mg:=if chk m=0 then (if 60<(insM L m).length then (15,L) else (0,insM L m)) else (chk m,L)
theorem g56 {mm m1:List (Mg×Bool)} {b3:List Mg} {n:Nat} {k:Nat} (hn:n=b3.length) (hb:n<1000000000) (hk:k<n) :
  run0 (gH56_0 (n,((n:Nat):Int),(k:Int),mm,b3,m1,()))=some (.inl (n,((n:Nat):Int),((k+1:Nat):Int),msetL tM mm (b3.getD k (bs [],(0:Int),bs [],bs [],(0:Int))) true,b3,m1,())):=by
 have hin:inb (k:Int) (n:Int)=true:=inb_t (by omega) (by omega)
 have hni:rng .i64 ((k:Int)+1)=true:=rng_i64 (by omega) (by omega)
 simp only [gH56_0,run_br,run_nb,run_nd,run_ni,run_ret,Int.toNat_natCast,Nat.zero_add,br_d,hin,hni,need_true]
 rw [if_pos (by omega),need_d (by omega)]
 rfl
theorem g56e {mm m1:List (Mg×Bool)} {b3:List Mg} {n:Nat}:run0 (gH56_0 (n,((n:Nat):Int),(n:Int),mm,b3,m1,()))=some (.inr (mm,m1,())):=by
 simp only [gH56_0,run_br,run_ret,br_d]
 rw [if_neg (by omega)]
theorem kH56 {L:List Mg} (h:SL L) (hl:L.length≤60) (m:Mg):run0 (FH56 m.1 m.2.1 m.2.2.1 m.2.2.2.1 m.2.2.2.2 (bk L))=some (if 60<(insM L m).length then (15,bk L,()) else (0,bk (insM L m),())):=by
 have hit:iter (fun x=>run0 (gH56_0 x)) ((1:Nat),((1:Nat):Int),(0:Int),bk L,[m],bk L,())=some (bk (insM L m),bk L,()):=by
  rw [bk_ins h]
  exact iter_inl (g56 (b3:=[m]) (n:=1) (k:=0) rfl (by omega) (by omega)) (iter_inr g56e)
 unfold FH56
 simp only [run_bd,FH89,FH193,run_ret,bindO_s,run_it]
 refine bind_eq hit ?_
 simp only [run_br,run_ret,br_d,bk_len]
 by_cases hc:60<(insM L m).length
 ·rw [if_pos (by omega),if_pos hc]
 ·rw [if_neg (by omega),if_neg hc]
theorem kH20 {L:List Mg} (h:SL L) (hl:L.length≤60) {m:Mg} (hm:ShM m):run0 (FH20 m (bk L))=some ((tellB L m).1,bk (tellB L m).2,()):=by
 have h55:=k55 m hm
 unfold FH20
 simp only [run_bd,kH54,bindO_s,run_br,brO_false]
 rw [bind_of (show run0 (F55 (m.1,m.2.1,m.2.2.1,m.2.2.2.1,m.2.2.2.2))=_ from h55)]
 simp only [br_not,br_eq]
 unfold tellB
 by_cases hc:chk m=0
 ·rw [if_pos hc, if_pos hc]
  rw [bind_of (kH56 h hl m)]
  split<;>rfl
 ·rw [if_neg hc,if_neg hc];rfl
structure OKB (L:List Mg):Prop where
 s:SL L
 len:L.length≤60
 chk:∀m∈L,chk m=0
theorem OKB.nil:OKB []:=⟨.nil,by simp,fun m h=>by cases h⟩
theorem OKB.tell {L:List Mg} (h:OKB L) (m:Mg):OKB (tellB L m).2:=by
 unfold tellB
 split
 ·rename_i hc
  split
  ·exact h
  ·rename_i h60
   refine ⟨h.s.ins,by simp only;omega,fun x hx=>?_⟩
   rcases (insM_mem h.s).1 hx with rfl|hx
   ·exact hc
   ·exact h.chk x hx
 ·exact h
def toldL (l:List Mg):List Mg:=l.foldl (fun L m=>(tellB L m).2) []
theorem OKB.fold {L : List Mg} (h : OKB L) : ∀ l : List Mg, OKB (l.foldl (fun L m => (tellB L m).2) L)
 |[]=>h
 |m::l=>OKB.fold (h.tell m) l
theorem OKB.told (l:List Mg):OKB (toldL l):=OKB.nil.fold l
theorem kH29 {l:List Mg} (hl:l.length<1000000000) (hs:∀m∈l,ShM m):run0 (FH29 l)=some (bk (toldL l),()):=by
 unfold FH29
 simp only [run_bd,FH18,run_ret,bindO_s,run_it]
 refine bind_eq (iter_list l (fun k (L:List Mg)=>(l,(k:Int),bk L,())) (fun L r=>(bk (r.foldl (fun L m=>(tellB L m).2) L),())) (fun _ L=>OKB L) ?_ ?_ (s:=[]) OKB.nil) rfl
 ·intro pre x post L hx hL
  have hlen:l.length=pre.length+(post.length+1):=by rw [hx];simp
  have hd:l.getD pre.length (bs [],(0:Int),bs [],bs [],(0:Int))=x:=by rw [hx];exact getD_mid rfl
  have hin:inb (pre.length:Int) (l.length:Int)=true:=inb_t (by omega) (by omega)
  have hni:rng .i64 ((pre.length:Int)+1)=true:=rng_i64 (by omega) (by omega)
  left
  refine ⟨(tellB L x).2,?_,hL.tell x,rfl⟩
  simp only [gH29_0,run_br,run_nb,run_ni,run_ret,run_bd,Int.toNat_natCast,br_d,hin,hni,need_true]
  rw [if_pos (by omega)]
  have hk:=kH20 hL.s hL.len (hs x (by rw [hx];simp))
  rw [hd]
  rw [bind_of (show run0 (FH20 (x.1,x.2.1,x.2.2.1,x.2.2.2.1,x.2.2.2.2) (bk L))=_ from hk)]
  rfl
 ·intro L _
  simp only [gH29_0,run_br,run_ret,br_d]
  rw [if_neg (by omega)]
  rfl
theorem goM_fold {E A : Type} {step : E → A → Option A} (f : A → E → A) (I : A → Prop) : ∀ (l : List E) (x : A), I x → (∀ e ∈ l, ∀ x, I x → step e x = some (f x e) ∧ I (f x e)) → goM step l x = some (l.foldl f x) ∧ I (l.foldl f x)
 |[],x,hx,_=>⟨rfl,hx⟩
 |e::l,x,hx,h=>by
  obtain ⟨h1,h2⟩:=h e (List.mem_cons_self ..) x hx
  obtain ⟨h3,h4⟩:=goM_fold f I l (f x e) h2 fun e he=>h e (List.mem_cons_of_mem _ he)
  exact ⟨by simp only [goM,h1];exact h3,h4⟩
theorem goM_keys {K V M : Type} {step : K × V → M × Nat × List K × Unit → Option (M × Nat × List K × Unit)} {m : M} {l : List (K × V)} (hl : l.length < 1000000000)
  (h:∀e n b,n<1000000000→step e (m,n,b,())=some (m,n+1,(b.drop 0).take n++[e.1],())):goM step l (m,0,[],())=some (m,l.length,l.map (·.1),()):=by
 have key:∀(l:List (K×V)) (b:List K),b.length+l.length<1000000000→goM step l (m,b.length,b,())=some (m,b.length+l.length,b++l.map (·.1),()):=by
  intro l
  induction l with
  |nil=>intro b _;simp [goM]
  |cons e l ih =>
   intro b hb
   simp only [List.length_cons] at hb
   simp only [goM,h e b.length b (by omega)]
   have:=ih (b++[e.1]) (by simp;omega)
   simp only [List.drop_zero,List.take_length]
   rw [List.length_append,List.length_singleton] at this
   rw [this]
   simp only [List.length_cons,List.map_cons,List.append_assoc,List.singleton_append]
   congr 3
   omega
 have:=key l [] (by simpa using hl)
 simpa using this
theorem srtN_all {t:Ty} {ks:List Kd} (hk:keyKs t=some ks) {l s:List t.den} (hp:s.Perm l) (hs:Srt t s) (hl:l.length<1000000000):srtN t l l.length=some (s,()):=by
 unfold srtN
 rw [if_pos ⟨Nat.le_refl _,by rw [bigL_eq];omega⟩,List.take_length,List.drop_length,List.append_nil,sortK_of hk hp hs]
theorem SL.srt {L:List Mg} (h:SL L):Srt tM L:=by
 have:=h.can.keys kM
 rwa [bk_keys] at this
theorem kH83 {L:List Mg} (h:SL L) (hl:L.length<1000000000):run0 (FH83 (bk L))=some (L.length,L,bk L,()):=by
 unfold FH83
 refine Eq.trans run_an (anyOrd_of fun l hp=>?_)
 have hll:l.length=L.length:=by rw [hp.length_eq,bk_len]
 simp only [run_bd,run_fm]
 refine bind_eq (goM_keys (m:=bk L) (l:=l) (by rw [hll];exact hl) fun e n b hn=>?_) ?_
 ·simp only [gH83f109f128_0i_0, run_nd, run_ret, sameD_self, need_true]
  rw [need_d (show _<bigL by rw [bigL_eq];simp;omega)]
  rfl
 ·simp only [FH110, run_of]
  have hpk:L.Perm (l.map (·.1)):=by
   have:=(hp.map (·.1)).symm
   rwa [bk_keys] at this
  have:=srtN_all kM hpk h.srt (by rw [List.length_map];omega)
  rw [List.length_map] at this
  rw [bind_of this,hll]
  rfl
theorem kH47 {L:List Mg} (h:SL L) (hl:L.length<1000000000):run0 (FH47 (bk L))=some (L.length,L,bk L,()):=by
 unfold FH47
 simp only [run_bd,kH54,bindO_s,run_br,brO_false,FH84,run_ret]
 rw [bind_of (kH83 h hl)]
end Go.Proofs.Tryz
end
section
namespace Go.Proofs.Tryz
open Go.AM
set_option maxRecDepth 100000
abbrev Dk1:=List (ByteArray×Mg)
abbrev Dk2:=List (ByteArray×List ByteArray)
abbrev Dk3:=List (ByteArray×Bool)
theorem kH98 {l:List ByteArray} (hl:l.length<1000000000):run0 (FH98 l)=some (l.length,l,()):=by
 simp only [FH98,run_br,run_am,run_nd,run_ret,br_eq]
 rw [need_lenbig (by omega)]
 split
 ·have : l = [] := List.length_eq_zero_iff.1 (by omega)
  subst this
  simp only [List.length_nil,List.drop_nil,List.take_nil,List.append_nil,Nat.add_zero]
  exact ambO_same
 ·simp
def firstD (del : ByteArray → Bool) : Nat → List ByteArray → Option Nat
 |_,[]=>none
 |k,x::r=>if del x=true then some k else firstD del (k+1) r
theorem firstD_spec (del : ByteArray → Bool) : ∀ (l : List ByteArray) (k : Nat), (∃ p x q, l = p ++ x :: q ∧ (∀ c ∈ p, del c = false) ∧ del x = true ∧ firstD del k l = some (k + p.length)) ∨ ((∀ c ∈ l, del c = false) ∧ firstD del k l = none)
 |[],k=>.inr ⟨by simp,rfl⟩
 |y::l,k=>by
  by_cases h:del y=true
  ·left
   exact ⟨[],y,l,rfl,by simp,h,by simp [firstD,h]⟩
  ·rcases firstD_spec del l (k + 1) with ⟨p, x, q, h1, h2, h3, h4⟩ | ⟨h1, h2⟩
   ·left
    refine ⟨y::p,x,q,by rw [h1];rfl,fun c hc=>?_,h3,?_⟩
    ·rcases List.mem_cons.1 hc with rfl | hc
     ·simpa using h
     ·exact h2 c hc
    ·unfold firstD;rw [if_neg h,h4,List.length_cons,show k+1+p.length=k+(p.length+1) by omega]
   ·right
    refine ⟨fun c hc=>?_,by unfold firstD;rw [if_neg h,h2]⟩
    rcases List.mem_cons.1 hc with rfl|hc
    ·simpa using h
    ·exact h1 c hc
theorem keep_all {del:ByteArray→Bool} {l:List ByteArray} (h:∀c∈l,del c=false):l.filter (fun c => !del c)=l:=List.filter_eq_self.2 fun c hc=>by rw [h c hc];rfl
section
variable {m3:Dk1} {m4:Dk2} {m5 m6:Dk3}
theorem kH99 (v:ByteArray):run0 (FH99 v m3 m4 m5 m6)=some (!(mgetL .str false m5 v),m3,m4,m5,m6,()):=rfl
theorem kH119 {l:List ByteArray} (hl:l.length<1000000000):run0 (FH119 l.length l m3 m4 m5 m6)=some ((match firstD (fun v => !(mgetL .str false m5 v)) 0 l with|some k=>((k:Nat):Int)|none => -1),m3,m4,m5,m6,l,()):=by
 have hi := iter_list (f := fun a => run (fun _ => none) (gH119_0 a)) l (fun k (_ : Nat) => (l.length, ((l.length : Nat) : Int), (k : Int), l, m3, m4, m5, m6, ())) (fun k r => match firstD (fun v => !(mgetL .str false m5 v)) k r with | some k => .inl (((k : Nat) : Int), m3, m4, m5, m6, l, ()) | none => .inr (m3, m4, m5, m6, l, ())) (fun pre k => k = pre.length) (by
  rintro pre x post k hx rfl
  have hlen:l.length=pre.length+(post.length+1):=by rw [hx];simp
  have hd:l.getD pre.length (bs [])=x:=by rw [hx];exact getD_mid rfl
  have i1:inb (pre.length:Int) ((l.length:Nat):Int)=true:=inb_t (by omega) (by omega)
  have r1:rng .i64 ((pre.length:Int)+1)=true:=rng_i64 (by omega) (by omega)
  have d1:decide (pre.length<l.length)=true:=decide_eq_true (by omega)
  simp only [gH119_0,run_br,run_bd,run_nb,run_nd,run_ni,run_ret,Int.toNat_natCast,Nat.zero_add,hd,kH99,bindO_s,i1,r1,d1,need_true,br_d]
  rw [if_pos (by omega)]
  by_cases h:(!(mgetL .str false m5 x))=true
  ·right;rw [h,brO_true];simp only [firstD,h,if_true]
  ·left
   refine ⟨pre.length+1,?_⟩
   rw [br_f (by simpa using h)]
   refine ⟨rfl,by simp,?_⟩
   simp only [firstD,h,if_false];rfl) (by
  rintro k _
  simp only [gH119_0,run_br,br_d,run_ret]
  rw [if_neg (by omega)];rfl) (s:=0) rfl
 simp only [FH119,run_bd,run_it]
 refine bind_eq hi ?_
 split<;>rfl
theorem kH97 {l:List ByteArray} (hl:l.length<1000000000):∃b,b.length=l.length∧b.take (l.filter fun v => !(!(mgetL .str false m5 v))).length=l.filter (fun v => !(!(mgetL .str false m5 v)))∧run0 (FH97 l.length l m3 m4 m5 m6)=some (0,(l.filter fun v => !(!(mgetL .str false m5 v))).length,b,m3,m4,m5,m6,()):=by
 have h119:=kH119 (m3:=m3) (m4:=m4) (m5:=m5) (m6:=m6) hl
 simp only [FH97,run_bd,run_it,run_br,run_ret,run_ni,run_nd,br_eq]
 rw [bind_of h119]
 rcases firstD_spec (fun v => !(mgetL .str false m5 v)) l 0 with ⟨p,x,q,h1,h2,h3,h4⟩|⟨h1,h2⟩
 case inr =>
  rw [h2]
  simp only [if_true]
  rw [keep_all h1]
  exact ⟨l,rfl,List.take_length ..,rfl⟩
 rw [h4]
 simp only [Nat.zero_add]
 have hlen:l.length=p.length+(q.length+1):=by rw [h1];simp
 rw [if_neg (by omega),need_i64 (by omega) (by omega)]
 have hk:l.filter (fun v => !(!(mgetL .str false m5 v)))=p++q.filter fun v => !(!(mgetL .str false m5 v)):=by
  have e1:=keep_all h2
  have e2:(x::q).filter (fun v => !(!(mgetL .str false m5 v)))=q.filter fun v => !(!(mgetL .str false m5 v)):=by rw [List.filter_cons_of_neg];simpa using h3
  rw [h1,List.filter_append,e2]
  rw [show p.filter (fun v => !(!(mgetL .str false m5 v)))=p from e1]
 obtain ⟨res, hres, m, b, rfl, hb, hm, ht⟩ := iter_ex (step := fun a => run (fun _ => none) (gH97_0 a)) q.length
  (fun k x=>∃(i:Nat) (b:List ByteArray),x=(l.length,(i:Int),((p.length+1+k:Nat):Int),b,m3,m4,m5,m6,())∧b.length=l.length∧i≤p.length+k∧b.take i=p++(q.take k).filter (fun v => !(!(mgetL .str false m5 v)))∧b.drop (p.length+1+k)=q.drop k)
  (fun r => ∃ (m : Nat) (b : List ByteArray), r = (l.length, (m : Int), b, m3, m4, m5, m6, ()) ∧ b.length = l.length ∧ m ≤ l.length ∧ b.take m = p ++ q.filter fun v => !(!(mgetL .str false m5 v))) (by
   rintro k _ hk ⟨i,b,rfl,hb,hi,ht,hd⟩
   have hx:b.getD (p.length+1+k) (bs [])=q.getD k (bs []):=by
    have:=congrArg (fun l=>l.getD 0 (bs [])) hd
    simpa [List.getD_eq_getElem?_getD] using this
   have hqk:q.take (k+1)=q.take k++[q.getD k (bs [])]:=by
    rw [List.take_succ_eq_append_getElem hk];simp [List.getD_eq_getElem?_getD,List.getElem?_eq_getElem hk]
   generalize q.getD k (bs [])=y at hx hqk
   have i1:inb ((p.length+1+k:Nat):Int) ((l.length:Nat):Int)=true:=inb_t (by omega) (by omega)
   have i2:inb (i:Int) ((l.length:Nat):Int)=true:=inb_t (by omega) (by omega)
   have d1:decide (p.length+1+k<b.length)=true:=decide_eq_true (by omega)
   have d2:decide (i<b.length)=true:=decide_eq_true (by omega)
   have r1:rng .i64 ((i:Int)+1)=true:=rng_i64 (by omega) (by omega)
   have r2:rng .i64 (((p.length+1+k:Nat):Int)+1)=true:=rng_i64 (by omega) (by omega)
   simp only [gH97_0,run_br,run_bd,run_nb,run_nd,run_ni,run_ret,Int.toNat_natCast,Nat.zero_add,hx,kH99,bindO_s,i1,i2,d1,d2,r1,r2,need_true,br_d]
   rw [if_pos (by omega)]
   by_cases hy:(!(mgetL .str false m5 y))=true
   ·refine ⟨_, by rw [br_f (by rw [hy]; rfl)], i, b, by rw [show ((p.length + 1 + (k + 1) : Nat) : Int) = ((p.length + 1 + k : Nat) : Int) + 1 by omega], hb, by omega, ?_, ?_⟩
    ·rw [ht,hqk,List.filter_append,List.filter_cons_of_neg (by rw [hy];simp)];simp
    ·have := congrArg (List.drop 1) hd
     simpa [List.drop_drop,Nat.add_assoc] using this
   ·refine ⟨_, by rw [br_t (by rw [Bool.eq_false_iff.2 hy]; rfl)], i + 1, b.set i y, by rw [show ((p.length + 1 + (k + 1) : Nat) : Int) = ((p.length + 1 + k : Nat) : Int) + 1 by omega, show ((i + 1 : Nat) : Int) = (i : Int) + 1 by omega], by simp [hb], by omega, ?_, ?_⟩
    ·have e:(b.set i y).take (i+1)=b.take i++[y]:=by
      rw [List.take_succ_eq_append_getElem (by simp;omega)]
      simp [List.take_set_of_le]
     rw [e,ht,hqk,List.filter_append,List.filter_cons_of_pos (by simpa using hy)];simp
    ·have := congrArg (List.drop 1) hd
     rw [List.drop_set_of_lt (by omega)]
     simpa [List.drop_drop,Nat.add_assoc] using this) (by
   rintro _ ⟨i,b,rfl,hb,hi,ht,hd⟩
   simp only [gH97_0,run_br,run_ret,br_d]
   rw [if_neg (by omega)]
   exact ⟨_,rfl,i,b,rfl,hb,by omega,by rw [ht,List.take_length]⟩) (x:=(l.length,(p.length:Int),(p.length:Int)+1,l,m3,m4,m5,m6,())) ⟨p.length,l,by simp,rfl,by omega,by rw [h1];simp,by rw [h1];simp⟩
 rw [bind_of hres]
 have hml:m=(l.filter fun v => !(!(mgetL .str false m5 v))).length:=by rw [hk,←ht,List.length_take];omega
 simp only [Int.toNat_natCast,Nat.zero_add,clrL,Int.toNat_zero,Nat.sub_zero]
 rw [need_d (by omega),need_d (by omega),need_d (by omega),need_d (by omega),need_d (by omega),need_d (by omega)]
 refine ⟨b.take m++List.replicate (l.length - m) (bs [])++b.drop (m+(l.length - m)),?_,?_,by rw [←hml]⟩
 ·simp only [List.length_append,List.length_take,List.length_replicate,List.length_drop];omega
 ·rw [←hml,List.take_append_of_le_length (by simp;omega),List.take_append_of_le_length (by simp;omega),List.take_take,Nat.min_self,ht,hk]
theorem kH123 (v:ByteArray):run0 (FH123 v m3 m4 m5 m6)=some (mgetL .str false m6 v,m3,m4,m5,m6,()):=rfl
theorem kH119_v1 {l:List ByteArray} (hl:l.length<1000000000):run0 (FH119_v1 l.length l m3 m4 m5 m6)=some ((match firstD (fun v=>mgetL .str false m6 v) 0 l with|some k=>((k:Nat):Int)|none => -1),m3,m4,m5,m6,l,()):=by
 have hi := iter_list (f := fun a => run (fun _ => none) (gH119_v1_0 a)) l (fun k (_ : Nat) => (l.length, ((l.length : Nat) : Int), (k : Int), l, m3, m4, m5, m6, ())) (fun k r => match firstD (fun v => mgetL .str false m6 v) k r with | some k => .inl (((k : Nat) : Int), m3, m4, m5, m6, l, ()) | none => .inr (m3, m4, m5, m6, l, ())) (fun pre k => k = pre.length) (by
  rintro pre x post k hx rfl
  have hlen:l.length=pre.length+(post.length+1):=by rw [hx];simp
  have hd:l.getD pre.length (bs [])=x:=by rw [hx];exact getD_mid rfl
  have i1:inb (pre.length:Int) ((l.length:Nat):Int)=true:=inb_t (by omega) (by omega)
  have r1:rng .i64 ((pre.length:Int)+1)=true:=rng_i64 (by omega) (by omega)
  have d1:decide (pre.length<l.length)=true:=decide_eq_true (by omega)
  simp only [gH119_v1_0,run_br,run_bd,run_nb,run_nd,run_ni,run_ret,Int.toNat_natCast,Nat.zero_add,hd,kH123,bindO_s,i1,r1,d1,need_true,br_d]
  rw [if_pos (by omega)]
  by_cases h:(mgetL .str false m6 x)=true
  ·right;rw [h,brO_true];simp only [firstD,h,if_true]
  ·left
   refine ⟨pre.length+1,?_⟩
   rw [br_f (by simpa using h)]
   refine ⟨rfl,by simp,?_⟩
   simp only [firstD,h,if_false];rfl) (by
  rintro k _
  simp only [gH119_v1_0,run_br,br_d,run_ret]
  rw [if_neg (by omega)];rfl) (s:=0) rfl
 simp only [FH119_v1,run_bd,run_it]
 refine bind_eq hi ?_
 split<;>rfl
theorem kH97_v1 {l:List ByteArray} (hl:l.length<1000000000):∃b,b.length=l.length∧b.take (l.filter fun v => !(mgetL .str false m6 v)).length=l.filter (fun v => !(mgetL .str false m6 v))∧run0 (FH97_v1 l.length l m3 m4 m5 m6)=some (0,(l.filter fun v => !(mgetL .str false m6 v)).length,b,m3,m4,m5,m6,()):=by
 have h119:=kH119_v1 (m3:=m3) (m4:=m4) (m5:=m5) (m6:=m6) hl
 simp only [FH97_v1,run_bd,run_it,run_br,run_ret,run_ni,run_nd,br_eq]
 rw [bind_of h119]
 rcases firstD_spec (fun v=>mgetL .str false m6 v) l 0 with ⟨p,x,q,h1,h2,h3,h4⟩|⟨h1,h2⟩
 case inr =>
  rw [h2]
  simp only [if_true]
  rw [keep_all h1]
  exact ⟨l,rfl,List.take_length ..,rfl⟩
 rw [h4]
 simp only [Nat.zero_add]
 have hlen:l.length=p.length+(q.length+1):=by rw [h1];simp
 rw [if_neg (by omega),need_i64 (by omega) (by omega)]
 have hk:l.filter (fun v => !(mgetL .str false m6 v))=p++q.filter fun v => !(mgetL .str false m6 v):=by
  have e1:=keep_all h2
  have e2:(x::q).filter (fun v => !(mgetL .str false m6 v))=q.filter fun v => !(mgetL .str false m6 v):=by rw [List.filter_cons_of_neg];simpa using h3
  rw [h1,List.filter_append,e2]
  rw [show p.filter (fun v => !(mgetL .str false m6 v))=p from e1]
 obtain ⟨res, hres, m, b, rfl, hb, hm, ht⟩ := iter_ex (step := fun a => run (fun _ => none) (gH97_v1_0 a)) q.length
  (fun k x=>∃(i:Nat) (b:List ByteArray),x=(l.length,(i:Int),((p.length+1+k:Nat):Int),b,m3,m4,m5,m6,())∧b.length=l.length∧i≤p.length+k∧b.take i=p++(q.take k).filter (fun v => !(mgetL .str false m6 v))∧b.drop (p.length+1+k)=q.drop k)
  (fun r => ∃ (m : Nat) (b : List ByteArray), r = (l.length, (m : Int), b, m3, m4, m5, m6, ()) ∧ b.length = l.length ∧ m ≤ l.length ∧ b.take m = p ++ q.filter fun v => !(mgetL .str false m6 v)) (by
   rintro k _ hk ⟨i,b,rfl,hb,hi,ht,hd⟩
   have hx:b.getD (p.length+1+k) (bs [])=q.getD k (bs []):=by
    have:=congrArg (fun l=>l.getD 0 (bs [])) hd
    simpa [List.getD_eq_getElem?_getD] using this
   have hqk:q.take (k+1)=q.take k++[q.getD k (bs [])]:=by
    rw [List.take_succ_eq_append_getElem hk];simp [List.getD_eq_getElem?_getD,List.getElem?_eq_getElem hk]
   generalize q.getD k (bs [])=y at hx hqk
   have i1:inb ((p.length+1+k:Nat):Int) ((l.length:Nat):Int)=true:=inb_t (by omega) (by omega)
   have i2:inb (i:Int) ((l.length:Nat):Int)=true:=inb_t (by omega) (by omega)
   have d1:decide (p.length+1+k<b.length)=true:=decide_eq_true (by omega)
   have d2:decide (i<b.length)=true:=decide_eq_true (by omega)
   have r1:rng .i64 ((i:Int)+1)=true:=rng_i64 (by omega) (by omega)
   have r2:rng .i64 (((p.length+1+k:Nat):Int)+1)=true:=rng_i64 (by omega) (by omega)
   simp only [gH97_v1_0,run_br,run_bd,run_nb,run_nd,run_ni,run_ret,Int.toNat_natCast,Nat.zero_add,hx,kH123,bindO_s,i1,i2,d1,d2,r1,r2,need_true,br_d]
   rw [if_pos (by omega)]
   by_cases hy:(mgetL .str false m6 y)=true
   ·refine ⟨_, by rw [br_f (by rw [hy]; rfl)], i, b, by rw [show ((p.length + 1 + (k + 1) : Nat) : Int) = ((p.length + 1 + k : Nat) : Int) + 1 by omega], hb, by omega, ?_, ?_⟩
    ·rw [ht,hqk,List.filter_append,List.filter_cons_of_neg (by rw [hy];simp)];simp
    ·have := congrArg (List.drop 1) hd
     simpa [List.drop_drop,Nat.add_assoc] using this
   ·refine ⟨_, by rw [br_t (by rw [Bool.eq_false_iff.2 hy]; rfl)], i + 1, b.set i y, by rw [show ((p.length + 1 + (k + 1) : Nat) : Int) = ((p.length + 1 + k : Nat) : Int) + 1 by omega, show ((i + 1 : Nat) : Int) = (i : Int) + 1 by omega], by simp [hb], by omega, ?_, ?_⟩
    ·have e:(b.set i y).take (i+1)=b.take i++[y]:=by
      rw [List.take_succ_eq_append_getElem (by simp;omega)]
      simp [List.take_set_of_le]
     rw [e,ht,hqk,List.filter_append,List.filter_cons_of_pos (by simpa using hy)];simp
    ·have := congrArg (List.drop 1) hd
     rw [List.drop_set_of_lt (by omega)]
     simpa [List.drop_drop,Nat.add_assoc] using this) (by
   rintro _ ⟨i,b,rfl,hb,hi,ht,hd⟩
   simp only [gH97_v1_0,run_br,run_ret,br_d]
   rw [if_neg (by omega)]
   exact ⟨_,rfl,i,b,rfl,hb,by omega,by rw [ht,List.take_length]⟩) (x:=(l.length,(p.length:Int),(p.length:Int)+1,l,m3,m4,m5,m6,())) ⟨p.length,l,by simp,rfl,by omega,by rw [h1];simp,by rw [h1];simp⟩
 rw [bind_of hres]
 have hml:m=(l.filter fun v => !(mgetL .str false m6 v)).length:=by rw [hk,←ht,List.length_take];omega
 simp only [Int.toNat_natCast,Nat.zero_add,clrL,Int.toNat_zero,Nat.sub_zero]
 rw [need_d (by omega),need_d (by omega),need_d (by omega),need_d (by omega),need_d (by omega),need_d (by omega)]
 refine ⟨b.take m++List.replicate (l.length - m) (bs [])++b.drop (m+(l.length - m)),?_,?_,by rw [←hml]⟩
 ·simp only [List.length_append,List.length_take,List.length_replicate,List.length_drop];omega
 ·rw [←hml,List.take_append_of_le_length (by simp;omega),List.take_append_of_le_length (by simp;omega),List.take_take,Nat.min_self,ht,hk]
end
end Go.Proofs.Tryz
end
section
namespace Go.Proofs.Tryz
open Go.AM
set_option maxRecDepth 100000
abbrev zM:Mg:=(bs [],(0:Int),bs [],bs [],(0:Int))
def byStep (es:Dk1) (m:Mg):Dk1:=if mhasL .str es m.1=true then es else msetL .str es m.1 m
def byIdL (L:List Mg):Dk1:=L.foldl byStep []
def cnt (L:List Mg):List Mg:=(byIdL L).map (·.2)
theorem byStep_cam {es:Dk1} (h:Cam .str es) (m:Mg):Cam .str (byStep es m):=by
 unfold byStep;split
 ·exact h
 ·exact h.mset kS
theorem byFold_cam : ∀ {L : List Mg} {es : Dk1}, Cam .str es → Cam .str (L.foldl byStep es)
 |[],_,h=>h
 |m::L,es,h=>byFold_cam (L:=L) (es:=byStep es m) (byStep_cam h m)
theorem byIdL_cam (L:List Mg):Cam .str (byIdL L):=byFold_cam .nil
theorem byFold_mem : ∀ {L : List Mg} {es : Dk1} {e : ByteArray × Mg}, Cam .str es → (e ∈ L.foldl byStep es ↔ e ∈ es ∨ (mhasL .str es e.1 = false ∧ ∃ pre post, L = pre ++ e.2 :: post ∧ e.2.1 = e.1 ∧ ∀ x ∈ pre, x.1 ≠ e.1))
 |[],es,e,_=>by simp
 |m::L,es,e,h=>by
  rw [List.foldl_cons,byFold_mem (byStep_cam h m)]
  have hs:byStep es m=es∧mhasL .str es m.1=true∨byStep es m=msetL .str es m.1 m∧mhasL .str es m.1=false:=by
   unfold byStep
   cases hm:mhasL .str es m.1
   ·right;simp
   ·left;simp
  rcases hs with ⟨hs,hm⟩|⟨hs,hm⟩
  ·rw [hs]
   refine or_congr_right ?_
   constructor
   ·rintro ⟨h1, pre, post, rfl, h2, h3⟩
    refine ⟨h1,m::pre,post,rfl,h2,fun x hx=>?_⟩
    rcases List.mem_cons.1 hx with rfl|hx
    ·intro e';rw [e'] at hm;rw [hm] at h1;cases h1
    ·exact h3 x hx
   ·rintro ⟨h1, pre, post, h2, h3, h4⟩
    cases pre with
    |nil =>
     simp only [List.nil_append,List.cons.injEq] at h2
     rw [h2.1] at hm;rw [h3] at hm;rw [hm] at h1;cases h1
    |cons p pre =>
     simp only [List.cons_append,List.cons.injEq] at h2
     exact ⟨h1,pre,post,h2.2,h3,fun x hx=>h4 x (List.mem_cons_of_mem _ hx)⟩
  ·rw [hs, mset_mem kS h, mhas_mset kS h]
   have hk:∀{v:Mg},(m.1,v)∉es:=fun {v} hv=>by rw [(mhas_iff kS).2 ⟨v,hv⟩] at hm;cases hm
   constructor
   ·rintro ((h1 | ⟨h1, _⟩) | ⟨h1, pre, post, rfl, h2, h3⟩)
    ·subst h1
     exact .inr ⟨hm,[],L,rfl,rfl,by simp⟩
    ·exact .inl h1
    ·simp only [Bool.or_eq_false_iff] at h1
     have hne:e.1≠m.1:=fun e'=>by have:=h1.1;rw [e',deq_rfl kS] at this;cases this
     refine .inr ⟨h1.2,m::pre,post,rfl,h2,fun x hx=>?_⟩
     rcases List.mem_cons.1 hx with rfl|hx
     ·exact Ne.symm hne
     ·exact h3 x hx
   ·rintro (h1 | ⟨h1, pre, post, h2, h3, h4⟩)
    ·refine .inl (.inr ⟨h1, fun e' => ?_⟩)
     obtain ⟨a,b⟩:=e
     simp only at e';subst e';exact hk h1
    ·cases pre with
     |nil =>
      simp only [List.nil_append,List.cons.injEq] at h2
      obtain ⟨a,b⟩:=e
      simp only at h2 h3
      exact .inl (.inl (by rw [←h3,h2.1]))
     |cons p pre =>
      simp only [List.cons_append,List.cons.injEq] at h2
      have hne:e.1≠m.1:=fun e'=>by
       have:=h4 p (List.mem_cons_self ..)
       rw [←h2.1,e'] at this;exact this rfl
      refine .inr ⟨?_,pre,post,h2.2,h3,fun x hx=>h4 x (List.mem_cons_of_mem _ hx)⟩
      rw [Bool.or_eq_false_iff]
      refine ⟨?_,h1⟩
      cases hd:deq .str e.1 m.1 with
      |false=>rfl
      |true=>exact absurd (deq_eq hd) hne
theorem byIdL_mem {L:List Mg} {e:ByteArray×Mg}:e∈byIdL L↔∃pre post,L=pre++e.2::post∧e.2.1=e.1∧∀x∈pre,x.1≠e.1:=by
 unfold byIdL
 rw [byFold_mem .nil]
 simp [mhasL]
theorem byIdL_id {L:List Mg} {e:ByteArray×Mg} (h:e∈byIdL L):e.2.1=e.1:=by
 obtain ⟨_,_,_,h,_⟩:=byIdL_mem.1 h;exact h
theorem byIdL_eq (L:List Mg):byIdL L=(cnt L).map fun m=>(m.1,m):=by
 unfold cnt
 rw [List.map_map]
 conv=>lhs;rw [←List.map_id (byIdL L)]
 refine List.map_congr_left fun e he=>?_
 have:=byIdL_id he
 obtain ⟨a,b⟩:=e
 simp only at this;subst this;rfl
theorem cnt_mem {L:List Mg} {m:Mg}:m∈cnt L↔(m.1,m)∈byIdL L:=by
 unfold cnt
 rw [List.mem_map]
 constructor
 ·rintro ⟨e, he, rfl⟩
  have:=byIdL_id he
  obtain ⟨a,b⟩:=e
  simp only at this;subst this;exact he
 ·intro h;exact ⟨_,h,rfl⟩
def SI (c:List Mg):Prop:=c.Pairwise fun a b=>slt a.1 b.1=true
theorem cnt_si (L:List Mg):SI (cnt L):=by
 have h:=byIdL_cam L
 rw [byIdL_eq] at h
 unfold Cam at h;rw [List.pairwise_map] at h;exact h
theorem SI.cam {c:List Mg} (h:SI c):Cam .str (c.map fun m=>(m.1,m)):=by
 unfold Cam;rw [List.pairwise_map];exact h
theorem SI.inj {c:List Mg} (h:SI c) {m m':Mg} (hm:m∈c) (hm':m'∈c) (e:m.1=m'.1):m=m':=by
 have h1:=mget_mem (d:=zM) kS h.cam (List.mem_map.2 ⟨m,hm,rfl⟩)
 have h2:=mget_mem (d:=zM) kS h.cam (List.mem_map.2 ⟨m',hm',rfl⟩)
 rw [←h1,←h2,e]
theorem cnt_sub {L:List Mg} {m:Mg} (h:m∈cnt L):m∈L:=by
 obtain ⟨pre,post,h,_⟩:=byIdL_mem.1 (cnt_mem.1 h)
 rw [h];simp
theorem cnt_iff {L:List Mg} (hL:SL L) {m:Mg}:m∈cnt L↔m∈L∧∀x∈L,x.1=m.1→x=m∨dlt tM m x=true:=by
 rw [cnt_mem,byIdL_mem]
 constructor
 ·rintro ⟨pre, post, h, _, h2⟩
  simp only at h h2
  subst h
  refine ⟨by simp,fun x hx e=>?_⟩
  rcases List.mem_append.1 hx with hx|hx
  ·exact absurd e (h2 x hx)
  ·rcases List.mem_cons.1 hx with rfl | hx
   ·exact .inl rfl
   ·unfold SL at hL
    rw [List.pairwise_append,List.pairwise_cons] at hL
    exact .inr (hL.2.1.1 x hx)
 ·rintro ⟨h1, h2⟩
  obtain ⟨pre,post,h⟩:=List.append_of_mem h1
  refine ⟨pre,post,h,rfl,fun x hx e=>?_⟩
  subst h
  unfold SL at hL
  rw [List.pairwise_append] at hL
  have h3:=hL.2.2 x hx m (List.mem_cons_self ..)
  rcases h2 x (by simp [hx]) e with rfl|h4
  ·rw [dlt_irf kM] at h3;cases h3
  ·exact dlt_asym kM h3 h4
theorem k66_0 {L:List Mg} {m1:List (Mg×Bool)} (hl:L.length<1000000000):iter (fun x=>run0 (gH66_0 x)) (L.length,((L.length:Nat):Int),(0:Int),L,m1,[],[],[],[],())=some (m1,byIdL L,[],[],[],()):=by
 refine iter_list L (fun k (es:Dk1)=>(L.length,((L.length:Nat):Int),(k:Int),L,m1,es,[],[],[],())) (fun es r=>(m1,r.foldl byStep es,[],[],[],())) (fun _ _=>True) ?_ ?_ (s:=[]) trivial
 ·intro pre x post es hx _
  have hlen:L.length=pre.length+(post.length+1):=by rw [hx];simp
  have hd:L.getD pre.length zM=x:=by rw [hx];exact getD_mid rfl
  have i1:inb (pre.length:Int) ((L.length:Nat):Int)=true:=inb_t (by omega) (by omega)
  have r1:rng .i64 ((pre.length:Int)+1)=true:=rng_i64 (by omega) (by omega)
  have d1:decide (pre.length<L.length)=true:=decide_eq_true (by omega)
  left
  refine ⟨byStep es x,?_,trivial,rfl⟩
  simp only [gH66_0,run_br,run_nb,run_nd,run_ni,run_ret,Int.toNat_natCast,Nat.zero_add,hd,i1,r1,d1,need_true,br_d]
  rw [if_pos (by omega)]
  unfold byStep
  cases hm:mhasL .str es x.1
  ·rw [br_t (by rfl)];rfl
  ·rw [br_f (by rfl)];rfl
 ·intro es _
  simp only [gH66_0,run_br,run_ret,br_d]
  rw [if_neg (by omega)]
  rfl
theorem kH81 {c:List Mg} (h:SI c) (hl:c.length<1000000000):run0 (FH81 (c.map fun m=>(m.1,m)))=some (c.length,c.map (·.1),c.map (fun m=>(m.1,m)),()):=by
 unfold FH81
 refine Eq.trans run_an (anyOrd_of fun l hp=>?_)
 have hll:l.length=c.length:=by rw [hp.length_eq,List.length_map]
 simp only [run_bd,run_fm]
 refine bind_eq (goM_keys (m:=c.map fun m=>(m.1,m)) (l:=l) (by rw [hll];exact hl) fun e n b hn=>?_) ?_
 ·simp only [gH81f107f126_0i_0, run_nd, run_ret, sameD_self, need_true]
  rw [need_d (show _<bigL by rw [bigL_eq];simp;omega)]
  rfl
 ·simp only [FH105, run_of]
  have hpk:(c.map (·.1)).Perm (l.map (·.1)):=by
   have:=(hp.map (·.1)).symm
   rwa [List.map_map] at this
  have hs:Srt .str (c.map (·.1)):=by
   have:=h.cam.keys kS
   rwa [List.map_map] at this
  have:=srtN_all kS hpk hs (by rw [List.length_map];omega)
  rw [List.length_map] at this
  rw [bind_of this,hll]
  rfl
def kids (c:List Mg) (x:ByteArray):List ByteArray:=(c.filter fun m=>decide (m.2.1=2∧m.2.2.1=x)).map (·.1)
def rulB (c:List Mg) (x:ByteArray):Bool:=c.any fun m=>decide (m.2.1=3∧m.2.2.1=x)
def trStep (t:Dk2) (m:Mg):Dk2:=if m.2.1=2 then msetL .str t m.2.2.1 (mgetL .str [] t m.2.2.1++[m.1]) else t
def ruStep (t:Dk3) (m:Mg):Dk3:=if m.2.1=3 then msetL .str t m.2.2.1 true else t
def trL (c:List Mg):Dk2:=c.foldl trStep []
def ruL (c:List Mg):Dk3:=c.foldl ruStep []
theorem trStep_cam {t:Dk2} (h:Cam .str t) (m:Mg):Cam .str (trStep t m):=by
 unfold trStep;split
 ·exact h.mset kS
 ·exact h
theorem ruStep_cam {t:Dk3} (h:Cam .str t) (m:Mg):Cam .str (ruStep t m):=by
 unfold ruStep;split
 ·exact h.mset kS
 ·exact h
theorem trFold : ∀ {c : List Mg} {t : Dk2}, Cam .str t → Cam .str (c.foldl trStep t) ∧ (∀ x, mgetL .str [] (c.foldl trStep t) x = mgetL .str [] t x ++ kids c x) ∧ ∀ x, mhasL .str (c.foldl trStep t) x = (mhasL .str t x || !(kids c x).isEmpty)
 |[],t,h=>⟨h,fun x=>by simp [kids],fun x=>by simp [kids]⟩
 |m::c,t,h=>by
  obtain ⟨h1,h2,h3⟩:=trFold (c:=c) (trStep_cam h m)
  refine ⟨h1,fun x=>?_,fun x=>?_⟩
  ·rw [List.foldl_cons, h2]
   unfold trStep kids
   by_cases hk:m.2.1=2
   ·rw [if_pos hk, mget_mset kS h]
    by_cases hx:m.2.2.1=x
    ·subst hx
     rw [if_pos (deq_rfl kS),List.filter_cons_of_pos (by simp [hk])]
     simp
    ·rw [if_neg (fun h=>hx (deq_eq h).symm),List.filter_cons_of_neg (by simp [hx])]
   ·rw [if_neg hk,List.filter_cons_of_neg (by simp [hk])]
  ·rw [List.foldl_cons, h3]
   unfold trStep kids
   by_cases hk:m.2.1=2
   ·rw [if_pos hk, mhas_mset kS h]
    by_cases hx:m.2.2.1=x
    ·subst hx
     rw [deq_rfl kS,List.filter_cons_of_pos (by simp [hk])]
     simp
    ·have:deq .str x m.2.2.1=false:=by
      cases hd:deq .str x m.2.2.1 with
      |false=>rfl
      |true=>exact absurd (deq_eq hd).symm hx
     rw [this,List.filter_cons_of_neg (by simp [hx]),Bool.false_or]
   ·rw [if_neg hk,List.filter_cons_of_neg (by simp [hk])]
theorem trL_cam (c:List Mg):Cam .str (trL c):=(trFold .nil).1
theorem trL_get (c:List Mg) (x:ByteArray):mgetL .str [] (trL c) x=kids c x:=by
 exact ((trFold (c:=c) (t:=[]) .nil).2.1 x).trans (by simp [mgetL])
theorem trL_has (c:List Mg) (x:ByteArray):mhasL .str (trL c) x = !(kids c x).isEmpty:=by
 exact ((trFold (c:=c) (t:=[]) .nil).2.2 x).trans (by simp [mhasL])
theorem trL_mem {c:List Mg} {e:ByteArray×List ByteArray}:e∈trL c↔e.2=kids c e.1∧kids c e.1≠[]:=by
 constructor
 ·intro h
  have h1:=mget_mem (d:=[]) kS (trL_cam c) (show (e.1,e.2)∈trL c from h)
  rw [trL_get] at h1
  refine ⟨h1.symm,fun h2=>?_⟩
  have h3:=(mhas_iff kS).2 ⟨e.2,(show (e.1,e.2)∈trL c from h)⟩
  rw [trL_has,h2] at h3;cases h3
 ·rintro ⟨h1, h2⟩
  have h3:mhasL .str (trL c) e.1=true:=by
   rw [trL_has]
   cases hk:kids c e.1 with
   |nil=>exact absurd hk h2
   |cons _ _=>rfl
  obtain ⟨v,hv⟩:=(mhas_iff kS).1 h3
  have h4:=mget_mem (d:=[]) kS (trL_cam c) hv
  rw [trL_get] at h4
  obtain ⟨a,b⟩:=e
  simp only at h1 h4 hv
  rw [h1,h4];exact hv
theorem ruFold : ∀ {c : List Mg} {t : Dk3}, Cam .str t → (∀ e ∈ t, e.2 = true) → Cam .str (c.foldl ruStep t) ∧ (∀ e ∈ c.foldl ruStep t, e.2 = true) ∧ ∀ x, mhasL .str (c.foldl ruStep t) x = (mhasL .str t x || rulB c x)
 |[],t,h,ht=>⟨h,ht,fun x=>by simp [rulB]⟩
 |m::c,t,h,ht=>by
  obtain ⟨h1, h0, h2⟩ := ruFold (c := c) (ruStep_cam h m) (by
   unfold ruStep;split
   ·exact msetT kS h ht
   ·exact ht)
  refine ⟨h1,h0,fun x=>?_⟩
  rw [List.foldl_cons,h2]
  unfold ruStep rulB
  by_cases hk:m.2.1=3
  ·rw [if_pos hk, mhas_mset kS h, List.any_cons]
   have:deq .str x m.2.2.1=decide (m.2.1=3∧m.2.2.1=x):=by
    rw [deq_str];exact decide_eq_decide.2 ⟨fun e=>⟨hk,e.symm⟩,fun e=>e.2.symm⟩
   rw [this,Bool.or_comm (decide _) (mhasL .str t x),Bool.or_assoc]
  ·rw [if_neg hk, List.any_cons]
   simp [hk]
theorem ruL_get (c:List Mg) (x:ByteArray):mgetL .str false (ruL c) x=rulB c x:=by
 have h:=ruFold (c:=c) (t:=[]) .nil (fun e h=>by cases h)
 rw [show ruL c=c.foldl ruStep [] from rfl,mgetT kS h.1 h.2.1,h.2.2]
 simp [mhasL]
theorem kids_len (c:List Mg) (x:ByteArray):(kids c x).length≤c.length:=by
 unfold kids;rw [List.length_map];exact List.length_filter_le ..
theorem k66_1 {c:List Mg} {m1:List (Mg×Bool)} (h:SI c) (hl:c.length<1000000):iter (fun x=>run0 (gH66_1 x)) (c.length,((c.length:Nat):Int),(0:Int),c.map (·.1),m1,c.map (fun m=>(m.1,m)),[],[],[],()) =
  some (m1,c.map (fun m=>(m.1,m)),trL c,ruL c,[],()):=by
 have hll:(c.map (·.1)).length=c.length:=List.length_map ..
 refine iter_list c (fun k (s : Dk2 × Dk3) => (c.length, ((c.length : Nat) : Int), (k : Int), c.map (·.1), m1, c.map (fun m => (m.1, m)), s.1, s.2, [], ())) (fun s r => (m1, c.map (fun m => (m.1, m)), r.foldl trStep s.1, r.foldl ruStep s.2, [], ()))
  (fun pre s=>s.1=pre.foldl trStep []) ?_ ?_ (s:=([],[])) rfl
 ·rintro pre x post ⟨t, r⟩ hx ht
  simp only at ht
  have hlen:c.length=pre.length+(post.length+1):=by rw [hx];simp
  have hd:(c.map (·.1)).getD pre.length (bs [])=x.1:=by rw [hx,List.map_append,List.map_cons];exact getD_mid (by simp)
  have hg:mgetL .str zM (c.map fun m=>(m.1,m)) x.1=x:=mget_mem kS h.cam (List.mem_map.2 ⟨x,by rw [hx];simp,rfl⟩)
  have i1:inb (pre.length:Int) ((c.length:Nat):Int)=true:=inb_t (by omega) (by omega)
  have r1:rng .i64 ((pre.length:Int)+1)=true:=rng_i64 (by omega) (by omega)
  have d1:decide (pre.length<(c.map (·.1)).length)=true:=decide_eq_true (by omega)
  left
  refine ⟨(trStep t x,ruStep r x),?_,by simp only;rw [ht,List.foldl_append];rfl,rfl⟩
  simp only [gH66_1,run_br,run_nb,run_nd,run_ni,run_ret,Int.toNat_natCast,Nat.zero_add,hd,hg,i1,r1,d1,need_true,br_d,br_eq]
  rw [if_pos (by omega)]
  unfold trStep ruStep
  by_cases h3:x.2.1=3
  ·rw [if_pos h3,if_pos h3,if_neg (by omega)];rfl
  ·rw [if_neg h3, if_neg h3]
   by_cases h2:x.2.1=2
   ·rw [if_pos h2, if_pos h2]
    have hlt:(mgetL .str [] t x.2.2.1).length≤c.length:=by
     have:=(trFold (c:=pre) (t:=[]) .nil).2.1 x.2.2.1
     rw [←ht] at this
     rw [this]
     have:=kids_len pre x.2.2.1
     simp only [mgetL,List.nil_append];omega
    rw [need_d (show _<bigL by rw [bigL_eq];omega)]
    rfl
   ·rw [if_neg h2,if_neg h2];rfl
 ·rintro ⟨t, r⟩ _
  simp only [gH66_1,run_br,run_ret,br_d]
  rw [if_neg (by omega)]
  rfl
end Go.Proofs.Tryz
end
section
namespace Go.Proofs.Tryz
open Go.AM
set_option maxRecDepth 100000
theorem fixO_by {A B : Type} {F : (A → Option B) → A → Option B} (R : A → B → Prop) (m : A → Nat)
  (h:∀rec x y,R x y→(∀x' y',R x' y'→m x'<m x→rec x'=some y')→F rec x=some y):∀x y,R x y→fixO F x=some y:=by
 have key:∀n x y,R x y→m x<n→apx F n x=some y:=by
  intro n
  induction n with
  |zero=>intro x y _ hm;omega
  |succ n ih=>intro x y hx hm;exact h _ x y hx fun x' y' hx' hm'=>ih x' y' hx' (by omega)
 intro x y hx
 exact fixO_of (N:=m x+1) fun n hn=>key n x y hx (by omega)
structure OKS (S:Dk3):Prop where
 c:Cam .str S
 t:∀e∈S,e.2=true
theorem OKS.nil:OKS []:=⟨.nil,fun e h=>by cases h⟩
theorem OKS.put {S:Dk3} (h:OKS S) (x:ByteArray):OKS (msetL .str S x true):=⟨h.c.mset kS,msetT kS h.c h.t⟩
abbrev has (S:Dk3) (x:ByteArray):Bool:=mhasL .str S x
def Sub (S S':Dk3):Prop:=∀x,has S x=true→has S' x=true
theorem Sub.rfl {S:Dk3}:Sub S S:=fun _ h=>h
theorem Sub.trans {S S' S'':Dk3} (h:Sub S S') (h':Sub S' S''):Sub S S'':=fun x hx=>h' x (h x hx)
theorem has_put {S:Dk3} (h:OKS S) {x y:ByteArray}:has (msetL .str S x true) y=true↔y=x∨has S y=true:=by
 unfold has
 rw [mhas_mset kS h.c,Bool.or_eq_true,deq_iff kS]
theorem Sub.put {S:Dk3} (h:OKS S) (x:ByteArray):Sub S (msetL .str S x true):=fun y hy=>(has_put h).2 (.inr hy)
theorem OKS.ext {S S':Dk3} (h:OKS S) (h':OKS S') (hx:∀x,has S x=true↔has S' x=true):S=S' :=
 can_extT kS h.c h'.c h.t h'.t fun x=>by rw [Bool.eq_iff_iff];exact hx x
section
variable {c:List Mg}
inductive Desc (c : List Mg) : ByteArray → ByteArray → Prop
 |refl (x):Desc c x x
 |step {x y z} (h:Desc c x y) (hz:z∈kids c y):Desc c x z
theorem Desc.trans {x y z:ByteArray} (h:Desc c x y) (h':Desc c y z):Desc c x z:=by
 induction h' with
 |refl=>exact h
 |step _ hz ih=>exact .step ih hz
theorem Desc.cons {x y z:ByteArray} (hy:y∈kids c x) (h:Desc c y z):Desc c x z:=(Desc.step (.refl x) hy).trans h
def ids (c:List Mg):List ByteArray:=c.map (·.1)
theorem kids_ids {x z:ByteArray} (h:z∈kids c x):z∈ids c:=by
 unfold kids at h
 obtain ⟨m,hm,rfl⟩:=List.mem_map.1 h
 exact List.mem_map.2 ⟨m,(List.mem_filter.1 hm).1,rfl⟩
def lft (c:List Mg) (S:Dk3):Nat:=((ids c).filter fun x => !has S x).length
theorem lft_le (S:Dk3):lft c S≤c.length:=by
 unfold lft ids;exact Nat.le_trans (List.length_filter_le ..) (by simp)
theorem filter_le_of {α : Type} {p q : α → Bool} : ∀ {l : List α}, (∀ x ∈ l, p x = true → q x = true) → (l.filter p).length ≤ (l.filter q).length
 |[],_=>by simp
 |a::l,h=>by
  have ih:=filter_le_of (l:=l) fun x hx=>h x (List.mem_cons_of_mem _ hx)
  by_cases hp:p a=true
  ·rw [List.filter_cons_of_pos hp, List.filter_cons_of_pos (h a (List.mem_cons_self ..) hp)]
   simp only [List.length_cons];omega
  ·rw [List.filter_cons_of_neg hp]
   by_cases hq:q a=true
   ·rw [List.filter_cons_of_pos hq];simp only [List.length_cons];omega
   ·rw [List.filter_cons_of_neg hq];exact ih
theorem filter_lt_of {α : Type} {p q : α → Bool} : ∀ {l : List α}, (∀ x ∈ l, p x = true → q x = true) → ∀ {y : α}, y ∈ l → q y = true → p y = false → (l.filter p).length < (l.filter q).length
 |[],_,y,h,_,_=>by cases h
 |a::l,h,y,hy,hq,hp=>by
  have hl:∀x∈l,p x=true→q x=true:=fun x hx=>h x (List.mem_cons_of_mem _ hx)
  rcases List.mem_cons.1 hy with rfl|hy
  ·rw [List.filter_cons_of_neg (by rw [hp]; simp), List.filter_cons_of_pos hq]
   have:=filter_le_of hl
   simp only [List.length_cons];omega
  ·have ih := filter_lt_of hl hy hq hp
   by_cases hpa:p a=true
   ·rw [List.filter_cons_of_pos hpa, List.filter_cons_of_pos (h a (List.mem_cons_self ..) hpa)]
    simp only [List.length_cons];omega
   ·rw [List.filter_cons_of_neg hpa]
    by_cases hqa:q a=true
    ·rw [List.filter_cons_of_pos hqa];simp only [List.length_cons];omega
    ·rw [List.filter_cons_of_neg hqa];exact ih
theorem lft_mono {S S':Dk3} (h:Sub S S'):lft c S'≤lft c S:=filter_le_of fun x _ hx=>by
 cases hs:has S x with
 |false=>rfl
 |true=>rw [h x hs] at hx;cases hx
theorem lft_lt {S:Dk3} (h:OKS S) {x:ByteArray} (hx:x∈ids c) (hn:has S x=false):lft c (msetL .str S x true)<lft c S:=by
 refine filter_lt_of (fun y _ hy=>?_) hx (by rw [hn];rfl) (by rw [(has_put h).2 (.inl rfl)];rfl)
 cases hs:has S y with
 |false=>rfl
 |true=>rw [(has_put h).2 (.inr hs)] at hy;cases hy
def strk (c : List Mg) : Nat → ByteArray → Dk3 → Dk3
 |0,_,S=>S
 |n+1,x,S=>if has S x=true then S else (kids c x).foldl (fun S k=>strk c n k S) (msetL .str S x true)
theorem strk_ok : ∀ {n : Nat} {x : ByteArray} {S : Dk3}, OKS S → OKS (strk c n x S) ∧ Sub S (strk c n x S)
 |0,_,_,h=>⟨h,.rfl⟩
 |n+1,x,S,h=>by
  unfold strk
  split
  ·exact ⟨h,.rfl⟩
  ·have key:∀(l:List ByteArray) (S:Dk3),OKS S→OKS (l.foldl (fun S k=>strk c n k S) S)∧Sub S (l.foldl (fun S k=>strk c n k S) S):=by
    intro l
    induction l with
    |nil=>intro S h;exact ⟨h,.rfl⟩
    |cons k l ih =>
     intro S h
     obtain ⟨h1,h2⟩:=strk_ok (n:=n) (x:=k) h
     obtain ⟨h3,h4⟩:=ih _ h1
     exact ⟨h3,h2.trans h4⟩
   obtain ⟨h1,h2⟩:=key (kids c x) _ (h.put x)
   exact ⟨h1,(Sub.put h x).trans h2⟩
theorem strkF_ok {n : Nat} : ∀ {l : List ByteArray} {S : Dk3}, OKS S → OKS (l.foldl (fun S k => strk c n k S) S) ∧ Sub S (l.foldl (fun S k => strk c n k S) S)
 |[],_,h=>⟨h,.rfl⟩
 |k::l,S,h=>by
  obtain ⟨h1,h2⟩:=strk_ok (c:=c) (n:=n) (x:=k) h
  obtain ⟨h3,h4⟩:=strkF_ok (l:=l) h1
  exact ⟨h3,h2.trans h4⟩
theorem strk_stable : ∀ {n n' : Nat} {x : ByteArray} {S : Dk3}, OKS S → x ∈ ids c → lft c S < n → lft c S < n' → strk c n x S = strk c n' x S
 |0,_,_,_,_,_,h,_=>by omega
 |_+1,0,_,_,_,_,_,h=>by omega
 |n+1,n'+1,x,S,hS,hx,h,h'=>by
  unfold strk
  split
  ·rfl
  ·rename_i hn
   have hn:has S x=false:=by simpa using hn
   have hlt:=lft_lt hS hx hn
   have key:∀(l:List ByteArray) (S1:Dk3),(∀k∈l,k∈ids c)→OKS S1→lft c S1<n→lft c S1<n'→l.foldl (fun S k=>strk c n k S) S1=l.foldl (fun S k=>strk c n' k S) S1:=by
    intro l
    induction l with
    |nil=>intro _ _ _ _ _;rfl
    |cons k l ih =>
     intro S1 hk h1 h2 h3
     simp only [List.foldl_cons]
     rw [strk_stable (n:=n) (n':=n') h1 (hk k (List.mem_cons_self ..)) h2 h3]
     obtain ⟨h4,h5⟩:=strk_ok (c:=c) (n:=n') (x:=k) h1
     have:=lft_mono (c:=c) h5
     exact ih _ (fun k hk'=>hk k (List.mem_cons_of_mem _ hk')) h4 (by omega) (by omega)
   exact key _ _ (fun k hk=>kids_ids hk) (hS.put x) (by omega) (by omega)
theorem strk_has {n:Nat} {x:ByteArray} {S:Dk3} (h:OKS S) (hn:lft c S<n):has (strk c n x S) x=true:=by
 cases n with
 |zero=>omega
 |succ n =>
  unfold strk
  split
  ·assumption
  ·exact (strkF_ok (h.put x)).2 x ((has_put h).2 (.inl rfl))
theorem strk_desc : ∀ {n : Nat} {x : ByteArray} {S : Dk3}, OKS S → ∀ y, has (strk c n x S) y = true → has S y = true ∨ Desc c x y
 |0,_,_,_,y,hy=>.inl hy
 |n+1,x,S,h,y,hy=>by
  unfold strk at hy
  split at hy
  ·exact .inl hy
  ·have key:∀(l:List ByteArray) (S1:Dk3),(∀k∈l,k∈kids c x)→OKS S1→has (l.foldl (fun S k=>strk c n k S) S1) y=true→has S1 y=true∨Desc c x y:=by
    intro l
    induction l with
    |nil=>intro S1 _ _ h;exact .inl h
    |cons k l ih =>
     intro S1 hk h1 h2
     simp only [List.foldl_cons] at h2
     rcases ih _ (fun k hk'=>hk k (List.mem_cons_of_mem _ hk')) (strk_ok h1).1 h2 with h3|h3
     ·rcases strk_desc h1 y h3 with h4 | h4
      ·exact .inl h4
      ·exact .inr (.cons (hk k (List.mem_cons_self ..)) h4)
     ·exact .inr h3
   rcases key _ _ (fun k hk=>hk) (h.put x) hy with h1|h1
   ·rcases (has_put h).1 h1 with rfl | h2
    ·exact .inr (.refl _)
    ·exact .inl h2
   ·exact .inr h1
theorem strk_kids : ∀ {n : Nat} {x : ByteArray} {S : Dk3}, OKS S → x ∈ ids c → lft c S < n → ∀ y, has (strk c n x S) y = true → has S y = false → ∀ z ∈ kids c y, has (strk c n x S) z = true
 |0,_,_,_,_,h,_,_,_=>by omega
 |n+1,x,S,hS,hx,hlt,y,hy,hyn=>by
  intro z hz
  unfold strk at hy ⊢
  split at hy
  ·rw [hyn] at hy;cases hy
  ·rename_i hn
   rw [if_neg hn]
   have hn:has S x=false:=by simpa using hn
   have hl:=lft_lt hS hx hn
   have key:∀(l:List ByteArray) (S1:Dk3),(∀k∈l,k∈kids c x)→OKS S1→lft c S1<n→(∀k∈l,has (l.foldl (fun S k=>strk c n k S) S1) k=true) ∧
     (has (l.foldl (fun S k=>strk c n k S) S1) y=true→has S1 y=false→has (l.foldl (fun S k=>strk c n k S) S1) z=true):=by
    intro l
    induction l with
    |nil=>intro S1 _ _ _;exact ⟨(fun k hk=>by cases hk),(fun h h'=>by rw [List.foldl_nil,h'] at h;cases h)⟩
    |cons k l ih =>
     intro S1 hk h1 h2
     simp only [List.foldl_cons]
     obtain ⟨h3,h4⟩:=strk_ok (c:=c) (n:=n) (x:=k) h1
     have h5:=lft_mono (c:=c) h4
     obtain ⟨h6,h7⟩:=ih _ (fun k hk'=>hk k (List.mem_cons_of_mem _ hk')) h3 (by omega)
     have h8:=(strkF_ok (c:=c) (n:=n) (l:=l) h3).2
     refine ⟨fun k' hk'=>?_,fun h9 h10=>?_⟩
     ·rcases List.mem_cons.1 hk' with rfl | hk'
      ·exact h8 _ (strk_has h1 (by omega))
      ·exact h6 k' hk'
     ·cases h11:has (strk c n k S1) y with
      |false=>exact h7 h9 h11
      |true=>exact h8 _ (strk_kids h1 (kids_ids (hk k (List.mem_cons_self ..))) h2 y h11 h10 z hz)
   obtain ⟨h1,h2⟩:=key _ _ (fun k hk=>hk) (hS.put x) (by omega)
   by_cases he:y=x
   ·subst he;exact h1 z hz
   ·refine h2 hy ?_
    cases h3:has (msetL .str S x true) y with
    |false=>rfl
    |true =>
     rcases (has_put hS).1 h3 with h4|h4
     ·exact absurd h4 he
     ·rw [hyn] at h4;cases h4
def Clo (c:List Mg) (S:Dk3):Prop:=∀y,has S y=true→∀z∈kids c y,has S z=true
theorem Clo.desc {S:Dk3} (h:Clo c S) {x y:ByteArray} (hx:has S x=true) (hd:Desc c x y):has S y=true:=by
 induction hd with
 |refl=>exact hx
 |step _ hz ih=>exact h _ ih _ hz
theorem strk_clo {n:Nat} {x:ByteArray} {S:Dk3} (hS:OKS S) (hC:Clo c S) (hx:x∈ids c) (hn:lft c S<n):Clo c (strk c n x S)∧∀y,has (strk c n x S) y=true↔has S y=true∨Desc c x y:=by
 have hc:Clo c (strk c n x S):=fun y hy z hz=>by
  cases h:has S y with
  |true=>exact (strk_ok hS).2 z (hC y h z hz)
  |false=>exact strk_kids hS hx hn y hy h z hz
 refine ⟨hc,fun y=>⟨strk_desc hS y,?_⟩⟩
 rintro (h|h)
 ·exact (strk_ok hS).2 y h
 ·exact hc.desc (strk_has hS hn) h
theorem kH96 {m3:Dk1} {m5:Dk3} {x:ByteArray} {S:Dk3} (hc:c.length<1000000) (hS:OKS S) (hx:x∈ids c):run0 (FH96fix x m3 (trL c) m5 S)=some (m3,trL c,m5,strk c (c.length+1) x S,()):=by
 have h0:run0 (FH96fix x m3 (trL c) m5 S)=fixO (A:=pH96.T) (B:=qH96.T) (fun r y=>run r (FH96 y.1 y.2.1 y.2.2.1 y.2.2.2.1 y.2.2.2.2.1)) (x,m3,trL c,m5,S,()):=rfl
 refine h0.trans ?_
 refine fixO_by (A:=pH96.T) (B:=qH96.T) (fun a b=>∃x S,a=(x,m3,trL c,m5,S,())∧OKS S∧x∈ids c∧b=(m3,trL c,m5,strk c (c.length+1) x S,())) (fun a=>lft c a.2.2.2.2.1) ?_ _ _ ⟨x,S,rfl,hS,hx,rfl⟩
 rintro rec _ _ ⟨x,S,rfl,hS,hx,rfl⟩ ih
 have e:(run rec (FH96 x m3 (trL c) m5 S):Option (Dk1×Dk2×Dk3×Dk3×Unit))=brO (mgetL .str false S x) (some (m3,trL c,m5,S,())) (bindO (iter (fun a=>run rec (gH96_0 a)) (mgetL .str [] (trL c) x,(((mgetL .str [] (trL c) x).length:Nat):Int),(0:Int),m3,trL c,m5,msetL .str S x true,())) fun z=>some (z.1,z.2.1,z.2.2.1,z.2.2.2.1,())):=rfl
 refine Eq.trans (α:=Option (Dk1×Dk2×Dk3×Dk3×Unit)) e ?_
 rw [mgetT kS hS.c hS.t,trL_get]
 by_cases hh:has S x=true
 ·rw [br_t hh]
  have:strk c (c.length+1) x S=S:=by unfold strk;rw [if_pos hh]
  rw [this];rfl
 ·rw [br_f (by simpa using hh)]
  have hn:has S x=false:=by simpa using hh
  have hlt:=lft_lt hS hx hn
  have hle:=lft_le (c:=c) S
  have hkl:=kids_len c x
  have he:strk c (c.length+1) x S=(kids c x).foldl (fun S k=>strk c (c.length+1) k S) (msetL .str S x true):=by
   have:strk c (c.length+1) x S=strk c (c.length+2) x S:=strk_stable hS hx (by omega) (by omega)
   rw [this]
   conv=>lhs;unfold strk
   rw [if_neg hh]
  rw [he]
  refine bind_eq (iter_list (kids c x) (fun k (S:Dk3)=>(kids c x,(((kids c x).length:Nat):Int),(k:Int),m3,trL c,m5,S,())) (fun S r=>(m3,trL c,m5,r.foldl (fun S k=>strk c (c.length+1) k S) S,())) (fun _ S1=>OKS S1∧lft c S1<lft c S) ?_ ?_ (s:=msetL .str S x true) ⟨hS.put x,hlt⟩) rfl
  ·rintro pre k post S1 hk ⟨h1, h2⟩
   have hlen:(kids c x).length=pre.length+(post.length+1):=by rw [hk];simp
   have hd:(kids c x).getD pre.length (bs [])=k:=by rw [hk];exact getD_mid rfl
   have i1:inb (pre.length:Int) (((kids c x).length:Nat):Int)=true:=inb_t (by omega) (by omega)
   have r1:rng .i64 ((pre.length:Int)+1)=true:=rng_i64 (by omega) (by omega)
   have hki:k∈ids c:=kids_ids (x:=x) (by rw [hk];simp)
   obtain ⟨h3,h4⟩:=strk_ok (c:=c) (n:=c.length+1) (x:=k) h1
   have h5:=lft_mono (c:=c) h4
   left
   refine ⟨strk c (c.length+1) k S1,?_,⟨h3,by omega⟩,rfl⟩
   simp only [gH96_0,run_br,run_nb,run_ni,run_ret,run_bd,run_rc,Int.toNat_natCast,hd,i1,r1,need_true,br_d]
   rw [if_pos (by omega)]
   have hq:(run rec (Tr.rc (k,m3,trL c,m5,S1,())):Option (Dk1×Dk2×Dk3×Dk3×Unit))=some (m3,trL c,m5,strk c (c.length+1) k S1,()):=ih (k,m3,trL c,m5,S1,()) _ ⟨k,S1,rfl,h1,hki,rfl⟩ h2
   exact bind_eq (A:=Dk1×Dk2×Dk3×Dk3×Unit) hq rfl
  ·rintro S1 _
   simp only [gH96_0,run_br,run_ret,br_d]
   rw [if_neg (by omega)]
   rfl
end
end Go.Proofs.Tryz
end
section
namespace Go.Proofs.Tryz
open Go.AM
set_option maxRecDepth 100000
def thrB (c:List Mg) (x:ByteArray):Bool:=mhasL .str (c.map fun m=>(m.1,m)) x && !((mgetL .str zM (c.map fun m=>(m.1,m)) x).2.1==3)
def dir (c:List Mg) (e:ByteArray×List ByteArray):List ByteArray:=if thrB c e.1=true then (match e.2.filter (rulB c) with|[o]=>e.2.filter (fun k => !decide (k=o))|_=>[]) else []
def stepE (c:List Mg) (S:Dk3) (e:ByteArray×List ByteArray):Dk3:=(dir c e).foldl (fun S k=>strk c (c.length+1) k S) S
def stL (c:List Mg):Dk3:=(trL c).foldl (stepE c) []
abbrev byM (c:List Mg):Dk1:=c.map fun m=>(m.1,m)
section
variable {c:List Mg}
theorem dir_sub {e:ByteArray×List ByteArray} {y:ByteArray} (h:y∈dir c e):y∈e.2:=by
 unfold dir at h
 split at h
 ·split at h
  ·exact (List.mem_filter.1 h).1
  ·cases h
 ·cases h
structure StrOk (c:List Mg) (l:List (ByteArray×List ByteArray)) (S:Dk3):Prop where
 ok:OKS S
 clo:Clo c S
 iff:∀x,has S x=true↔∃e∈l,∃y∈dir c e,Desc c y x
theorem foldK {l:List ByteArray}:∀{S:Dk3},OKS S→Clo c S→(∀k∈l,k∈ids c)→OKS (l.foldl (fun S k=>strk c (c.length+1) k S) S)∧Clo c (l.foldl (fun S k=>strk c (c.length+1) k S) S) ∧
  ∀x,has (l.foldl (fun S k=>strk c (c.length+1) k S) S) x=true↔has S x=true∨∃y∈l,Desc c y x:=by
 induction l with
 |nil=>intro S h1 h2 _;exact ⟨h1,h2,fun x=>by simp⟩
 |cons k l ih =>
  intro S h1 h2 h3
  have hn:lft c S<c.length+1:=by have:=lft_le (c:=c) S;omega
  have hk:=h3 k (List.mem_cons_self ..)
  obtain ⟨h4,h5⟩:=strk_clo h1 h2 hk hn
  obtain ⟨h6,h7,h8⟩:=ih (strk_ok h1).1 h4 fun k hk=>h3 k (List.mem_cons_of_mem _ hk)
  refine ⟨h6,h7,fun x=>?_⟩
  rw [List.foldl_cons,h8,h5]
  simp only [List.mem_cons,exists_eq_or_imp,or_assoc]
theorem StrOk.step {l:List (ByteArray×List ByteArray)} {S:Dk3} (h:StrOk c l S) {e:ByteArray×List ByteArray} (he:∀k∈e.2,k∈ids c):StrOk c (l++[e]) (stepE c S e):=by
 obtain ⟨h1,h2,h3⟩:=foldK (l:=dir c e) h.ok h.clo fun k hk=>he k (dir_sub hk)
 refine ⟨h1,h2,fun x=>?_⟩
 unfold stepE
 rw [h3,h.iff]
 constructor
 ·rintro (⟨e', he', h⟩ | h)
  ·exact ⟨e',by simp [he'],h⟩
  ·exact ⟨e,by simp,h⟩
 ·rintro ⟨e', he', h⟩
  rcases List.mem_append.1 he' with he'|he'
  ·exact .inl ⟨e',he',h⟩
  ·rw [List.mem_singleton] at he';subst he';exact .inr h
theorem StrOk.all : ∀ {r l : List (ByteArray × List ByteArray)} {S : Dk3}, StrOk c l S → (∀ e ∈ r, ∀ k ∈ e.2, k ∈ ids c) → StrOk c (l ++ r) (r.foldl (stepE c) S)
 |[],l,S,h,_=>by simpa using h
 |e::r,l,S,h,hr=>by
  have:=StrOk.all (h.step (hr e (List.mem_cons_self ..))) fun e he=>hr e (List.mem_cons_of_mem _ he)
  simpa using this
theorem StrOk.nil:StrOk c [] []:=⟨.nil,fun y hy=>by simp [has,mhasL] at hy,fun x=>by simp [has,mhasL]⟩
theorem trL_ids:∀e∈trL c,∀k∈e.2,k∈ids c:=fun e he k hk=>by
 rw [(trL_mem.1 he).1] at hk;exact kids_ids hk
theorem str_perm {l:List (ByteArray×List ByteArray)} (hp:l.Perm (trL c)):StrOk c l (l.foldl (stepE c) []):=by
 have:=StrOk.all (c:=c) (r:=l) (l:=[]) .nil fun e he=>trL_ids e (hp.mem_iff.1 he)
 simpa using this
theorem stL_ok (c:List Mg):StrOk c (trL c) (stL c):=str_perm (.refl _)
theorem str_eq {l:List (ByteArray×List ByteArray)} (hp:l.Perm (trL c)):l.foldl (stepE c) []=stL c :=
 (str_perm hp).ok.ext (stL_ok c).ok fun x=>by
  rw [(str_perm hp).iff,(stL_ok c).iff]
  exact ⟨fun ⟨e,he,h⟩=>⟨e,hp.mem_iff.1 he,h⟩,fun ⟨e,he,h⟩=>⟨e,hp.mem_iff.2 he,h⟩⟩
def stkB (c:List Mg) (x:ByteArray):Bool:=has (stL c) x
theorem stL_get (x:ByteArray):mgetL .str false (stL c) x=stkB c x:=mgetT kS (stL_ok c).ok.c (stL_ok c).ok.t
theorem stkB_iff {x:ByteArray}:stkB c x=true↔∃p y,y∈dir c (p,kids c p)∧Desc c y x:=by
 unfold stkB
 rw [(stL_ok c).iff]
 constructor
 ·rintro ⟨⟨p, l⟩, he, y, hy, hd⟩
  have:=(trL_mem.1 he).1
  simp only at this;subst this
  exact ⟨p,y,hy,hd⟩
 ·rintro ⟨p, y, hy, hd⟩
  refine ⟨(p,kids c p),trL_mem.2 ⟨rfl,fun h=>?_⟩,y,hy,hd⟩
  have:=dir_sub hy
  simp only at this h
  rw [h] at this;cases this
theorem stk_clo {x z:ByteArray} (h:stkB c x=true) (hz:z∈kids c x):stkB c z=true:=(stL_ok c).clo x h z hz
theorem k66_2b {m1:List (Mg×Bool)} {m6:Dk1} {v122:Int} {v123:Bool} {l b10:List ByteArray} {o:ByteArray} {m:Mg} {S:Dk3} (hc:c.length<1000000) (hl:l.length≤c.length) (hli:∀k∈l,k∈ids c) (hb:b10.getD 0 (bs [])=o) (hbl:0<b10.length) (hS:OKS S) :
  iter (fun x=>run0 (gH66_2b_3 x)) (0,1,v122,v123,l,((l.length:Nat):Int),(0:Int),b10,trL c,m.1,m.2.1,m.2.2.1,m.2.2.2.1,m.2.2.2.2,m6,ruL c,S,m1,()) =
   some (v122,v123,trL c,m.1,m.2.1,m.2.2.1,m.2.2.2.1,m.2.2.2.2,m6,ruL c,(l.filter fun k => !decide (k=o)).foldl (fun S k=>strk c (c.length+1) k S) S,m1,()):=by
 refine iter_list l (fun k (S : Dk3) => (0, 1, v122, v123, l, ((l.length : Nat) : Int), (k : Int), b10, trL c, m.1, m.2.1, m.2.2.1, m.2.2.2.1, m.2.2.2.2, m6, ruL c, S, m1, ()))
  (fun S r=>(v122,v123,trL c,m.1,m.2.1,m.2.2.1,m.2.2.2.1,m.2.2.2.2,m6,ruL c,(r.filter fun k => !decide (k=o)).foldl (fun S k=>strk c (c.length+1) k S) S,m1,())) (fun _ S=>OKS S) ?_ ?_ (s:=S) hS
 ·intro pre x post S hx hS
  have hlen:l.length=pre.length+(post.length+1):=by rw [hx];simp
  have hd:l.getD pre.length (bs [])=x:=by rw [hx];exact getD_mid rfl
  have i1:inb (pre.length:Int) ((l.length:Nat):Int)=true:=inb_t (by omega) (by omega)
  have i2:inb (0:Int) ((1:Nat):Int)=true:=inb_t (by omega) (by omega)
  have r1:rng .i64 ((pre.length:Int)+1)=true:=rng_i64 (by omega) (by omega)
  have d1:decide (0<b10.length)=true:=decide_eq_true hbl
  left
  by_cases hxo:x=o
  ·refine ⟨S, ?_, hS, by rw [List.filter_cons_of_neg (by simp [hxo])]⟩
   simp only [gH66_2b_3,run_br,run_nb,run_nd,run_ni,run_ret,run_bd,Int.toNat_natCast,Int.toNat_zero,Nat.zero_add,Nat.add_zero,hd,hb,i1,i2,r1,d1,need_true,br_d,seq_eq,hxo]
   rw [if_pos (by omega),br_f (by simp)]
   rfl
  ·refine ⟨strk c (c.length + 1) x S, ?_, (strk_ok hS).1, by rw [List.filter_cons_of_pos (by simp [hxo])]; rfl⟩
   simp only [gH66_2b_3,run_br,run_nb,run_nd,run_ni,run_ret,run_bd,Int.toNat_natCast,Int.toNat_zero,Nat.zero_add,Nat.add_zero,hd,hb,i1,i2,r1,d1,need_true,br_d,seq_eq]
   rw [if_pos (by omega),br_t (by simp [hxo])]
   rw [bind_of (kH96 hc hS (hli x (by rw [hx];simp)))]
   rfl
 ·intro S _
  simp only [gH66_2b_3,run_br,run_ret,br_d]
  rw [if_neg (by omega)]
  rfl
theorem k66_2 {m1:List (Mg×Bool)} {e:ByteArray×List ByteArray} {S:Dk3} (hc:c.length<1000000) (he:e∈trL c) (hS:OKS S):run0 (gH66_2 e (trL c,m1,byM c,ruL c,S,()))=some (trL c,m1,byM c,ruL c,stepE c S e,()):=by
 have hek:=(trL_mem.1 he).1
 have hl:e.2.length≤c.length:=by rw [hek];exact kids_len c e.1
 simp only [gH66_2,run_br,run_nd,run_ret,run_bd,run_it,sameD_self,need_true,br_not]
 unfold stepE dir thrB
 cases hh:mhasL .str (byM c) e.1 with
 |false=>rw [brO_false];simp
 |true =>
  rw [brO_true]
  by_cases h3:(mgetL .str zM (byM c) e.1).2.1=3
  ·rw [br_eq, if_pos h3, if_neg (by simp [h3])]
   rfl
  ·rw [br_eq, if_neg h3, if_pos (by simp [h3])]
   rw [bind_of (kH98 (by omega))]
   obtain ⟨b,hb1,hb2,hb3⟩:=kH97 (m3:=byM c) (m4:=trL c) (m5:=ruL c) (m6:=S) (l:=e.2) (by omega)
   rw [bind_of hb3]
   have hf:(e.2.filter fun v => !(!mgetL .str false (ruL c) v))=e.2.filter (rulB c):=List.filter_congr fun v _=>by rw [ruL_get];simp
   rw [hf] at hb2 ⊢
   simp only [sameD_self,need_true,br_eq]
   by_cases h1:(e.2.filter (rulB c)).length=1
   ·rw [if_pos (by omega)]
    obtain ⟨o,ho⟩:=List.length_eq_one_iff.1 h1
    rw [ho] at hb2 h1 ⊢
    simp only [List.length_singleton] at hb2 ⊢
    have hbl:0<b.length:=by
     cases b with
     |nil=>simp at hb2
     |cons _ _=>simp
    have hbo:b.getD 0 (bs [])=o:=by
     cases b with
     |nil=>simp at hb2
     |cons x r=>simp at hb2;simp [hb2]
    rw [bind_of (k66_2b (m:=mgetL .str zM (byM c) e.1) (o:=o) hc hl (trL_ids e he) hbo hbl hS)]
    simp only [sameD_self,need_true]
   ·rw [if_neg (by omega)]
    have:(match e.2.filter (rulB c) with|[o]=>e.2.filter (fun k => !decide (k=o))|_=>[])=([]:List ByteArray):=by
     split
     ·rename_i o ho;rw [ho] at h1;simp at h1
     ·rfl
    rw [this]
    rfl
theorem kH66 {L:List Mg} (h:OKB L):run0 (FH66 (bk L))=some (bk L,byM (cnt L),trL (cnt L),ruL (cnt L),stL (cnt L),()):=by
 have hl:=h.len
 have hcl:(cnt L).length≤60:=by
  have:(cnt L).length≤L.length:=by
   have hn:(cnt L).Nodup:=List.Pairwise.imp (fun {a b} h e=>by subst e;rw [show slt a.1 a.1=false from dlt_irf (t:=.str) kS a.1] at h;cases h) (cnt_si L)
   exact List.Nodup.length_le_of_subset hn fun m hm=>cnt_sub hm
  omega
 have hby:byIdL L=byM (cnt L):=byIdL_eq L
 unfold FH66
 simp only [run_bd,run_it,run_nd]
 rw [bind_of (kH47 h.s (by omega))]
 simp only
 rw [bind_of (k66_0 (by omega))]
 simp only [FH95,run_ret,bindO_s]
 rw [hby,bind_of (kH81 (cnt_si L) (by omega))]
 simp only [List.isEmpty_nil,need_true]
 rw [bind_of (k66_1 (cnt_si L) (by omega))]
 simp only
 have hmq:run (fun _=>none) (.mq gH66_2 (trL (cnt L)) (trL (cnt L),bk L,byM (cnt L),ruL (cnt L),[],()))=some (trL (cnt L),bk L,byM (cnt L),ruL (cnt L),stL (cnt L),()):=by
  refine Eq.trans run_mq (anyOrd_of fun l hp=>?_)
  have := (goM_fold (step := fun e a => run (fun _ => none) (gH66_2 e a)) (fun (a : Dk2 × List (Mg × Bool) × Dk1 × Dk3 × Dk3 × Unit) e => (trL (cnt L), bk L, byM (cnt L), ruL (cnt L), stepE (cnt L) a.2.2.2.2.1 e, ())) (fun a => ∃ S, a = (trL (cnt L), bk L, byM (cnt L), ruL (cnt L), S, ()) ∧ OKS S) l (trL (cnt L), bk L, byM (cnt L), ruL (cnt L), [], ()) ⟨[], rfl, .nil⟩ (by
   rintro e he _ ⟨S,rfl,hS⟩
   refine ⟨k66_2 (by omega) (hp.mem_iff.1 he) hS,_,rfl,?_⟩
   exact (strkF_ok hS).1)).1
  rw [this]
  have key:∀(l:List (ByteArray×List ByteArray)) (S:Dk3),l.foldl (fun (a:Dk2×List (Mg×Bool)×Dk1×Dk3×Dk3×Unit) e=>(trL (cnt L),bk L,byM (cnt L),ruL (cnt L),stepE (cnt L) a.2.2.2.2.1 e,())) (trL (cnt L),bk L,byM (cnt L),ruL (cnt L),S,())=(trL (cnt L),bk L,byM (cnt L),ruL (cnt L),l.foldl (stepE (cnt L)) S,()):=by
   intro l
   induction l with
   |nil=>intro S;rfl
   |cons e l ih=>intro S;exact ih _
  rw [key,str_eq hp]
 rw [bind_of hmq]
end
end Go.Proofs.Tryz
end
section
namespace Go.Proofs.Tryz
open Go.AM
set_option maxRecDepth 100000
theorem fixO_rk {A B : Type} {F : (A → Option B) → A → Option B} (R : Nat → A → B → Prop)
  (h:∀rec n x y,R n x y→(∀n' x' y',n'<n→R n' x' y'→rec x'=some y')→F rec x=some y):∀n x y,R n x y→fixO F x=some y:=by
 have key:∀k n x y,R n x y→n<k→apx F k x=some y:=by
  intro k
  induction k with
  |zero=>intro n x y _ hm;omega
  |succ k ih=>intro n x y hx hm;exact h _ n x y hx fun n' x' y' hn' hx'=>ih n' x' y' hx' (by omega)
 intro n x y hx
 exact fixO_of (N:=n+1) fun k hk=>key k n x y hx (by omega)
section
variable {c:List Mg}
theorem kids_iff {x y:ByteArray}:y∈kids c x↔∃m∈c,m.1=y∧m.2.1=2∧m.2.2.1=x:=by
 unfold kids
 rw [List.mem_map]
 constructor
 ·rintro ⟨m, hm, rfl⟩
  obtain ⟨h1,h2⟩:=List.mem_filter.1 hm
  simp only [decide_eq_true_eq] at h2
  exact ⟨m,h1,rfl,h2⟩
 ·rintro ⟨m, hm, rfl, h⟩
  exact ⟨m,List.mem_filter.2 ⟨hm,by simpa using h⟩,rfl⟩
theorem par_one (hs:SI c) {x x' y:ByteArray} (h:y∈kids c x) (h':y∈kids c x'):x=x':=by
 obtain ⟨m,h1,h2,_,h3⟩:=kids_iff.1 h
 obtain ⟨m',h1',h2',_,h3'⟩:=kids_iff.1 h'
 have:=hs.inj h1 h1' (h2.trans h2'.symm)
 subst this
 exact h3.symm.trans h3'
inductive Pth (c : List Mg) (x : ByteArray) : Nat → ByteArray → Prop
 |zero:Pth c x 0 x
 |step {n y z} (h:Pth c x n y) (hz:z∈kids c y):Pth c x (n+1) z
theorem Pth.add {n m:Nat} {x y z:ByteArray} (h:Pth c x n y) (h':Pth c y m z):Pth c x (n+m) z:=by
 induction h' with
 |zero=>exact h
 |step _ hz ih=>exact .step ih hz
theorem Pth.up (hs:SI c) {n:Nat} {x y:ByteArray} (h:Pth c x n y):∀{m:Nat} {x':ByteArray},Pth c x' m y→n≤m→Pth c x' (m - n) x:=by
 induction h with
 |zero=>intro m x' h' _;exact h'
 |step h hz ih =>
  intro m x' h' hle
  cases h' with
  |zero=>omega
  |step h2 hz' =>
   have e:=par_one hs hz hz'
   subst e
   have:=ih h2 (by omega)
   rwa [Nat.add_sub_add_right]
theorem Pth.desc {n:Nat} {x y:ByteArray} (h:Pth c x n y):Desc c x y:=by
 induction h with
 |zero=>exact .refl _
 |step _ hz ih=>exact .step ih hz
theorem Desc.pth {x y:ByteArray} (h:Desc c x y):∃n,Pth c x n y:=by
 induction h with
 |refl=>exact ⟨0,.zero⟩
 |step _ hz ih=>obtain ⟨n,h⟩:=ih;exact ⟨n+1,.step h hz⟩
def Top (c:List Mg) (t:ByteArray):Prop:=∀x,t∉kids c x
theorem Pth.deep (hs:SI c) {t:ByteArray} (ht:Top c t) {n m:Nat} {y:ByteArray} (h:Pth c t n y) (h':Pth c t m y):n=m:=by
 have key:∀{n m:Nat},Pth c t n y→Pth c t m y→n≤m→n=m:=fun {n m} h h' hle=>by
  have:=h.up hs h' hle
  generalize hk:m - n=k at this
  cases this with
  |zero=>omega
  |step _ hz=>exact absurd hz (ht _)
 rcases Nat.le_total n m with hle|hle
 ·exact key h h' hle
 ·exact (key h' h hle).symm
theorem Pth.short (hs:SI c) {t:ByteArray} (ht:Top c t) (hti:t∈ids c) {n:Nat} {y:ByteArray} (h:Pth c t n y):n<c.length:=by
 have key:∃l:List ByteArray,l.length=n+1∧l.Nodup∧∀a∈l,a∈ids c∧∃i,i≤n∧Pth c t i a:=by
  induction h with
  |zero=>exact ⟨[t],rfl,by simp,fun a ha=>by rw [List.mem_singleton] at ha;subst ha;exact ⟨hti,0,Nat.le_refl _,.zero⟩⟩
  |step h hz ih =>
   rename_i n' y' z
   obtain ⟨l,h1,h2,h3⟩:=ih
   have hp:Pth c t (n'+1) z:=.step h hz
   refine ⟨z::l,by simp [h1],List.nodup_cons.2 ⟨fun hzl=>?_,h2⟩,fun a ha=>?_⟩
   ·obtain ⟨_, i, hi, hpi⟩ := h3 z hzl
    have:=hpi.deep hs ht hp
    omega
   ·rcases List.mem_cons.1 ha with rfl | ha
    ·exact ⟨kids_ids hz,n'+1,Nat.le_refl _,hp⟩
    ·obtain ⟨q1, i, hi, hpi⟩ := h3 a ha
     exact ⟨q1,i,by omega,hpi⟩
 obtain ⟨l,h1,h2,h3⟩:=key
 have:=List.Nodup.length_le_of_subset h2 (fun a ha=>(h3 a ha).1)
 have hl:(ids c).length=c.length:=by simp [ids]
 omega
def liv (c:List Mg) (x:ByteArray):List ByteArray:=(kids c x).filter fun k => !stkB c k
theorem liv_sub {x y:ByteArray} (h:y∈liv c x):y∈kids c x:=(List.mem_filter.1 h).1
theorem liv_len (x:ByteArray):(liv c x).length≤c.length:=Nat.le_trans (List.length_filter_le ..) (kids_len c x)
def verF (c : List Mg) : Nat → ByteArray → List ByteArray
 |0,_=>[]
 |n+1,x=>match liv c x with
  |[]=>[x]
  |k::l=>sortK .str ((k::l).flatMap (verF c n))
def ver (c:List Mg) (t:ByteArray):List ByteArray:=verF c (c.length+1) t
theorem kids_nd (hs:SI c) (x:ByteArray):(kids c x).Nodup:=by
 unfold kids List.Nodup
 rw [List.pairwise_map]
 refine List.Pairwise.imp (fun {a b} h e=>?_) (List.Pairwise.filter _ hs)
 rw [e,show slt b.1 b.1=false from dlt_irf (t:=.str) kS b.1] at h;cases h
theorem verF_desc : ∀ {n : Nat} {x y : ByteArray}, y ∈ verF c n x → Desc c x y
 |0,_,_,h=>by cases h
 |n+1,x,y,h=>by
  unfold verF at h
  split at h
  ·rw [List.mem_singleton] at h;subst h;exact .refl _
  ·rename_i k l hl
   rw [(sortK_perm (t:=.str) _).mem_iff,List.mem_flatMap] at h
   obtain ⟨a,ha,h⟩:=h
   exact .cons (liv_sub (by rw [hl];exact ha)) (verF_desc h)
theorem verF_nd (hs : SI c) {t : ByteArray} (ht : Top c t) : ∀ {n d : Nat} {x : ByteArray}, Pth c t d x → (verF c n x).Nodup
 |0,_,_,_=>.nil
 |n+1,d,x,hp=>by
  unfold verF
  split
  ·simp
  ·rename_i k l hl
   refine (sortK_perm (t:=.str) _).nodup_iff.2 ?_
   have hn:(k::l).Nodup:=by rw [←hl];exact List.Pairwise.filter _ (kids_nd hs x)
   have hk:∀a∈k::l,a∈kids c x:=fun a ha=>liv_sub (by rw [hl];exact ha)
   refine List.pairwise_flatMap.2 ⟨fun a ha=>verF_nd hs ht (hp.step (hk a ha)),List.Pairwise.imp_of_mem (fun {a b} ha hb hab=>?_) hn⟩
   intro y hya y' hyb e
   subst e
   obtain ⟨i,hi⟩:=(verF_desc hya).pth
   obtain ⟨j,hj⟩:=(verF_desc hyb).pth
   have h1:=(hp.step (hk a ha)).add hi
   have h2:=(hp.step (hk b hb)).add hj
   have:=h1.deep hs ht h2
   have he:i=j:=by omega
   subst he
   have:=hi.up hs hj (Nat.le_refl _)
   rw [Nat.sub_self] at this
   cases this
   exact hab rfl
theorem verF_len (hs:SI c) {t:ByteArray} (ht:Top c t) (hti:t∈ids c) {n d:Nat} {x:ByteArray} (hp:Pth c t d x):(verF c n x).length≤c.length:=by
 have h:=List.Nodup.length_le_of_subset (verF_nd hs ht (n:=n) hp) (l₂:=ids c) fun y hy=>by
  have hd:Desc c t y:=hp.desc.trans (verF_desc hy)
  cases hd with
  |refl=>exact hti
  |step _ hz=>exact kids_ids hz
 have hl:(ids c).length=c.length:=by simp [ids]
 omega
end
end Go.Proofs.Tryz
end
section
namespace Go.Proofs.Tryz
open Go.AM
set_option maxRecDepth 100000
section
variable {c:List Mg}
theorem kH104 (hc:c.length<1000000) (x:ByteArray):∃b,b.take (liv c x).length=liv c x∧(liv c x).length≤b.length∧run0 (FH104 x (byM c) (trL c) (ruL c) (stL c))=some (0,(liv c x).length,b,byM c,trL c,ruL c,stL c,()):=by
 have hk:=kids_len c x
 obtain ⟨b,h1,h2,h3⟩:=kH97_v1 (m3:=byM c) (m4:=trL c) (m5:=ruL c) (m6:=stL c) (l:=kids c x) (by omega)
 have hf:(kids c x).filter (fun v => !(mgetL .str false (stL c) v))=liv c x:=List.filter_congr fun v _=>by rw [stL_get]
 rw [hf] at h2 h3
 refine ⟨b,h2,by rw [h1];exact List.length_filter_le ..,?_⟩
 unfold FH104
 simp only [run_bd,trL_get]
 rw [bind_of (kH98 (by omega))]
 simp only
 rw [bind_of h3]
 rfl
abbrev D76:=Nat×List ByteArray×Dk1×Dk2×Dk3×Dk3×Unit
theorem kH76 (hs:SI c) (hc:c.length<1000000) {t:ByteArray} (ht:Top c t) (hti:t∈ids c):run0 (FH76fix t (byM c) (trL c) (ruL c) (stL c))=some ((ver c t).length,ver c t,byM c,trL c,ruL c,stL c,()):=by
 have h0:run0 (FH76fix t (byM c) (trL c) (ruL c) (stL c))=fixO (A:=pH76.T) (B:=qH76.T) (fun r y=>run r (FH76 y.1 y.2.1 y.2.2.1 y.2.2.2.1 y.2.2.2.2.1)) (t,byM c,trL c,ruL c,stL c,()):=rfl
 refine h0.trans ?_
 refine fixO_rk (A:=pH76.T) (B:=qH76.T) (fun n a b=>∃z d,a=(z,byM c,trL c,ruL c,stL c,())∧Pth c t d z∧d+n=c.length∧b=((verF c (n+1) z).length,verF c (n+1) z,byM c,trL c,ruL c,stL c,())) ?_ c.length _ _ ⟨t,0,rfl,.zero,by omega,rfl⟩
 rintro rec n _ _ ⟨z,d,rfl,hp,hn,rfl⟩ ih
 have hshort:=hp.short hs ht hti
 obtain ⟨b,hb1,hb2,hb3⟩:=kH104 hc z
 have hll:=liv_len (c:=c) z
 have hvl:=verF_len hs ht hti (n:=n+1) hp
 have e : (run rec (FH76 z (byM c) (trL c) (ruL c) (stL c)) : Option D76) = bindO (run0 (FH104 z (byM c) (trL c) (ruL c) (stL c))) fun y0 => brO (((y0.2.1 : Nat) : Int) == 0) (some (1, [z], y0.2.2.2.1, y0.2.2.2.2.1, y0.2.2.2.2.2.1, y0.2.2.2.2.2.2.1, ()))
   (bindO (iter (fun a=>run rec (gH76_0 a)) (0,y0.1,y0.2.1,((y0.2.1:Nat):Int),(0:Int),[],y0.2.2.1,y0.2.2.2.1,y0.2.2.2.2.1,y0.2.2.2.2.2.1,y0.2.2.2.2.2.2.1,())) fun z2=>bindO (run0 (FH105 z2.1 z2.2.1)) fun y3=>some (z2.1,y3.1,z2.2.2.1,z2.2.2.2.1,z2.2.2.2.2.1,z2.2.2.2.2.2.1,())):=rfl
 refine Eq.trans (α:=Option D76) e ?_
 rw [bind_of hb3]
 simp only [br_eq]
 cases hl:liv c z with
 |nil =>
  have hv:verF c (n+1) z=[z]:=by unfold verF;rw [hl]
  rw [hv];rfl
 |cons k0 l0 =>
  have hlen:(liv c z).length=l0.length+1:=by rw [hl];rfl
  rw [←hl,if_neg (by omega)]
  have hv:verF c (n+1) z=sortK .str ((liv c z).flatMap (verF c n)):=by
   conv=>lhs;unfold verF
   rw [hl]
  have hfl:((liv c z).flatMap (verF c n)).length≤c.length:=by
   have:=(sortK_perm (t:=.str) ((liv c z).flatMap (verF c n))).length_eq
   rw [←hv] at this
   omega
  have hit : iter (fun a => run rec (gH76_0 a)) (0, 0, (liv c z).length, (((liv c z).length : Nat) : Int), (0 : Int), [], b, byM c, trL c, ruL c, stL c, ()) = some (((liv c z).flatMap (verF c n)).length, (liv c z).flatMap (verF c n), byM c, trL c, ruL c, stL c, ()) := (iter_list (liv c z) (fun k (o : List ByteArray) => (o.length, 0, (liv c z).length, (((liv c z).length : Nat) : Int), (k : Int), o, b, byM c, trL c, ruL c, stL c, ())) (fun o r => ((o ++ r.flatMap (verF c n)).length, o ++ r.flatMap (verF c n), byM c, trL c, ruL c, stL c, ()))
   (fun pre o => o = pre.flatMap (verF c n)) (by
    rintro pre k post _ hx rfl
    have hlen:(liv c z).length=pre.length+(post.length+1):=by rw [hx];simp
    have hd:b.getD pre.length (bs [])=k:=by
     have:(b.take (liv c z).length).getD pre.length (bs [])=k:=by rw [hb1,hx];exact getD_mid rfl
     rw [getD_take (by omega)] at this;exact this
    have hkk:k∈kids c z:=liv_sub (by rw [hx];simp)
    have i1:inb (pre.length:Int) (((liv c z).length:Nat):Int)=true:=inb_t (by omega) (by omega)
    have r1:rng .i64 ((pre.length:Int)+1)=true:=rng_i64 (by omega) (by omega)
    have d1:decide (pre.length<b.length)=true:=decide_eq_true (by omega)
    have hp':=hp.step hkk
    have hsh:=hp'.short hs ht hti
    left
    refine ⟨pre.flatMap (verF c n)++verF c n k,?_,by simp,by simp [List.flatMap_cons]⟩
    have e2 : (run rec (gH76_0 ((pre.flatMap (verF c n)).length, 0, (liv c z).length, (((liv c z).length : Nat) : Int), (pre.length : Int), pre.flatMap (verF c n), b, byM c, trL c, ruL c, stL c, ()))) = brO (decide ((pre.length : Int) < (((liv c z).length : Nat) : Int))) (need (inb (pre.length : Int) (((liv c z).length : Nat) : Int)) (need (decide (0 + Int.toNat (pre.length : Int) < b.length))
      (bindO (rec (b.getD (0 + Int.toNat (pre.length : Int)) (bs []), byM c, trL c, ruL c, stL c, ()) : Option D76) fun y1 => need (decide ((pre.flatMap (verF c n)).length + ((y1.2.1.drop 0).take y1.1).length < bigL)) (need (rng .i64 ((pre.length : Int) + 1))
       (some (.inl ((pre.flatMap (verF c n)).length+((y1.2.1.drop 0).take y1.1).length,0,(liv c z).length,(((liv c z).length:Nat):Int),(pre.length:Int)+1,(((pre.flatMap (verF c n)).drop 0).take (pre.flatMap (verF c n)).length)++((y1.2.1.drop 0).take y1.1),b,y1.2.2.1,y1.2.2.2.1,y1.2.2.2.2.1,y1.2.2.2.2.2.1,())))))))
      (some (.inr ((pre.flatMap (verF c n)).length,pre.flatMap (verF c n),byM c,trL c,ruL c,stL c,()))):=rfl
    rw [e2,Int.toNat_natCast,Nat.zero_add,hd,i1,need_true,d1,need_true,br_d,if_pos (by omega)]
    obtain ⟨n',rfl⟩:∃n',n=n'+1:=⟨n - 1,by omega⟩
    have hq:(rec (k,byM c,trL c,ruL c,stL c,()):Option D76)=some ((verF c (n'+1) k).length,verF c (n'+1) k,byM c,trL c,ruL c,stL c,()):=ih n' (k,byM c,trL c,ruL c,stL c,()) _ (by omega) ⟨k,d+1,rfl,hp',by omega,rfl⟩
    refine bind_eq (A:=D76) hq ?_
    simp only [List.drop_zero,List.take_length,r1,need_true]
    have hle:(pre.flatMap (verF c (n'+1))).length+(verF c (n'+1) k).length≤c.length:=by
     have:((liv c z).flatMap (verF c (n'+1))).length=(pre.flatMap (verF c (n'+1))).length+((verF c (n'+1) k).length+(post.flatMap (verF c (n'+1))).length):=by rw [hx];simp
     omega
    rw [need_d (show _<bigL by rw [bigL_eq];omega)]
    simp only [List.length_append]
    rfl) (by
    rintro o _
    have e2 : (run rec (gH76_0 (o.length, 0, (liv c z).length, (((liv c z).length : Nat) : Int), (((liv c z).length : Nat) : Int), o, b, byM c, trL c, ruL c, stL c, ()))) = brO (decide ((((liv c z).length : Nat) : Int) < (((liv c z).length : Nat) : Int))) (need (inb (((liv c z).length : Nat) : Int) (((liv c z).length : Nat) : Int)) (need (decide (0 + Int.toNat (((liv c z).length : Nat) : Int) < b.length))
      (bindO (rec (b.getD (0 + Int.toNat (((liv c z).length : Nat) : Int)) (bs []), byM c, trL c, ruL c, stL c, ()) : Option D76) fun y1 => need (decide (o.length + ((y1.2.1.drop 0).take y1.1).length < bigL)) (need (rng .i64 ((((liv c z).length : Nat) : Int) + 1))
       (some (.inl (o.length+((y1.2.1.drop 0).take y1.1).length,0,(liv c z).length,(((liv c z).length:Nat):Int),(((liv c z).length:Nat):Int)+1,((o.drop 0).take o.length)++((y1.2.1.drop 0).take y1.1),b,y1.2.2.1,y1.2.2.2.1,y1.2.2.2.2.1,y1.2.2.2.2.2.1,())))))))
      (some (.inr (o.length,o,byM c,trL c,ruL c,stL c,()))):=rfl
    rw [e2,br_d,if_neg (by omega)]
    simp) (s:=[]) rfl)
  refine bind_eq (A:=Nat×List ByteArray×Dk1×Dk2×Dk3×Dk3×Unit) hit ?_
  simp only [FH105,run_of]
  have hsrt:srtN .str ((liv c z).flatMap (verF c n)) ((liv c z).flatMap (verF c n)).length=some (sortK .str ((liv c z).flatMap (verF c n)),()):=srtN_all kS (sortK_perm _) (sortK_srt kS _) (by omega)
  refine bind_eq hsrt ?_
  rw [hv]
  have hpl:=(sortK_perm (t:=.str) ((liv c z).flatMap (verF c n))).length_eq
  rw [hpl]
  rfl
end
end Go.Proofs.Tryz
end
section
namespace Go.Proofs.Tryz
open Go.AM
set_option maxRecDepth 100000
def msg (c:List Mg) (x:ByteArray):Mg:=mgetL .str zM (byM c) x
def isM (c:List Mg) (x:ByteArray):Bool:=mhasL .str (byM c) x
section
variable {c:List Mg}
theorem isM_iff {x:ByteArray}:isM c x=true↔x∈ids c:=by
 unfold isM ids
 rw [mhas_iff kS]
 constructor
 ·rintro ⟨v, hv⟩
  obtain ⟨m,hm,h⟩:=List.mem_map.1 hv
  exact List.mem_map.2 ⟨m,hm,congrArg Prod.fst h⟩
 ·intro h
  obtain ⟨m,hm,rfl⟩:=List.mem_map.1 h
  exact ⟨m,List.mem_map.2 ⟨m,hm,rfl⟩⟩
theorem msg_of (hs:SI c) {m:Mg} (hm:m∈c):msg c m.1=m:=mget_mem kS hs.cam (List.mem_map.2 ⟨m,hm,rfl⟩)
theorem msg_mem (hs:SI c) {x:ByteArray} (h:isM c x=true):msg c x∈c∧(msg c x).1=x:=by
 obtain ⟨m,hm,rfl⟩:=List.mem_map.1 (isM_iff.1 h)
 rw [msg_of hs hm];exact ⟨hm,rfl⟩
theorem top_of (hs:SI c) {x:ByteArray} (h:isM c x=true) (hk:(msg c x).2.1=1):Top c x:=by
 intro y hy
 obtain ⟨m,hm,h1,h2,_⟩:=kids_iff.1 hy
 subst h1
 rw [msg_of hs hm] at hk
 omega
def stdF (c : List Mg) : Nat → ByteArray → Option ByteArray
 |0,_=>none
 |n+1,x=>if isM c x=true then (if (msg c x).2.1=3 then none else if stkB c x=true then none else if (msg c x).2.1=1 then some x else stdF c n (msg c x).2.2.1) else none
theorem stdF_top (hs : SI c) : ∀ {n : Nat} {x t : ByteArray}, stdF c n x = some t → isM c t = true ∧ (msg c t).2.1 = 1 ∧ stkB c t = false
 |0,_,_,h=>by cases h
 |n+1,x,t,h=>by
  unfold stdF at h
  split at h<;>try (cases h;done)
  rename_i h1
  split at h<;>try (cases h;done)
  split at h<;>try (cases h;done)
  rename_i h3
  split at h
  ·rename_i h4;cases h;exact ⟨h1,h4,by simpa using h3⟩
  ·exact stdF_top hs h
abbrev std' (c:List Mg) (x:ByteArray):Option ByteArray:=stdF c c.length x
theorem kH74 (hs:SI c) (hc:c.length<1000000) (x:ByteArray):run0 (FH74 x (byM c) (trL c) (ruL c) (stL c)) =
  some (match std' c x with|some t=>((ver c t).length,true,ver c t,byM c,trL c,ruL c,stL c,())|none=>(0,false,[],byM c,trL c,ruL c,stL c,())):=by
 have key:∀(l:List (ByteArray×Mg)) (x:ByteArray),∃x',goL (fun e a=>run (fun _=>none) (gH74_0 e a)) l (x,byM c,trL c,ruL c,stL c,()) =
   some (match stdF c l.length x with|some t=>.inr ((ver c t).length,true,ver c t,byM c,trL c,ruL c,stL c,())|none=>x') ∧
   (stdF c l.length x=none→x' = .inr (0,false,[],byM c,trL c,ruL c,stL c,())∨∃y,x' = .inl (y,byM c,trL c,ruL c,stL c,())):=by
  intro l
  induction l with
  |nil=>intro x;exact ⟨.inl (x,byM c,trL c,ruL c,stL c,()),rfl,fun _=>.inr ⟨x,rfl⟩⟩
  |cons e l ih =>
   intro x
   have hg:run (fun _=>none) (gH74_0 e (x,byM c,trL c,ruL c,stL c,()))=if isM c x=true then (if (msg c x).2.1=3 then some (.inr (0,false,[],byM c,trL c,ruL c,stL c,())) else if stkB c x=true then some (.inr (0,false,[],byM c,trL c,ruL c,stL c,())) else if (msg c x).2.1=1 then some (.inr ((ver c x).length,true,ver c x,byM c,trL c,ruL c,stL c,())) else some (.inl ((msg c x).2.2.1,byM c,trL c,ruL c,stL c,()))) else some (.inr (0,false,[],byM c,trL c,ruL c,stL c,())):=by
    simp only [gH74_0,run_br,run_bd,run_nd,run_ret,sameD_self,need_true,br_not,br_eq,stL_get]
    rw [show mhasL .str (byM c) x=isM c x from rfl,show mgetL .str zM (byM c) x=msg c x from rfl,br_if]
    split
    ·rename_i h1
     split
     ·rfl
     ·rw [br_if]
      split
      ·rfl
      ·split
       ·rename_i h4
        rw [bind_of (kH76 hs hc (top_of hs h1 h4) (isM_iff.1 h1))]
       ·rfl
    ·rfl
   simp only [goL,hg,List.length_cons,stdF]
   by_cases h1:isM c x=true
   ·rw [if_pos h1, if_pos h1]
    by_cases h2:(msg c x).2.1=3
    ·rw [if_pos h2,if_pos h2];exact ⟨_,rfl,fun _=>.inl rfl⟩
    ·rw [if_neg h2, if_neg h2]
     by_cases h3:stkB c x=true
     ·rw [if_pos h3,if_pos h3];exact ⟨_,rfl,fun _=>.inl rfl⟩
     ·rw [if_neg h3, if_neg h3]
      by_cases h4:(msg c x).2.1=1
      ·rw [if_pos h4,if_pos h4];exact ⟨.inr (0,false,[],byM c,trL c,ruL c,stL c,()),rfl,fun h=>by cases h⟩
      ·rw [if_neg h4,if_neg h4];exact ih _
   ·rw [if_neg h1,if_neg h1];exact ⟨_,rfl,fun _=>.inl rfl⟩
 unfold FH74
 simp only [run_bd]
 have hmp:∃x',run (fun _=>none) (.mp gH74_0 (byM c) (x,byM c,trL c,ruL c,stL c,()))=some (match std' c x with|some t=>.inr ((ver c t).length,true,ver c t,byM c,trL c,ruL c,stL c,())|none=>x') ∧
   (std' c x=none→x' = .inr (0,false,[],byM c,trL c,ruL c,stL c,())∨∃y,x' = .inl (y,byM c,trL c,ruL c,stL c,())):=by
  obtain ⟨x',h1,h2⟩:=key (byM c) x
  have hlen:(byM c).length=c.length:=List.length_map ..
  rw [hlen] at h1 h2
  refine ⟨x',Eq.trans run_mp (anyOrd_of fun l hp=>?_),h2⟩
  have hll:l.length=(byM c).length:=hp.length_eq
  have hany:∀(l l':List (ByteArray×Mg)) (a:ByteArray×Dk1×Dk2×Dk3×Dk3×Unit),l.length=l'.length→goL (fun e a=>run (fun _=>none) (gH74_0 e a)) l a=goL (fun e a=>run (fun _=>none) (gH74_0 e a)) l' a:=by
   intro l
   induction l with
   |nil =>
    intro l' a h
    cases l' with
    |nil=>rfl
    |cons _ _=>simp at h
   |cons e l ih =>
    intro l' a h
    cases l' with
    |nil=>simp at h
    |cons e' l' =>
     have hs:run (fun _=>none) (gH74_0 e a)=run (fun _=>none) (gH74_0 e' a):=rfl
     simp only [goL,hs]
     split
     ·rfl
     ·exact ih l' _ (by simpa using h)
     ·rfl
  rw [hany l (byM c) _ hll]
  exact h1
 obtain ⟨x',h1,h2⟩:=hmp
 rw [bind_of h1]
 cases hst:std' c x with
 |some t=>simp only [run_sr,run_ret]
 |none =>
  rcases h2 hst with rfl|⟨y,rfl⟩
  ·simp only [run_sr,run_ret]
  ·simp only [run_sl,run_ret]
def memB (x:ByteArray) (l:List ByteArray):Bool:=l.any fun y=>decide (y=x)
theorem memB_iff {x:ByteArray} {l:List ByteArray}:memB x l=true↔x∈l:=by
 unfold memB;rw [List.any_eq_true]
 constructor
 ·rintro ⟨y,hy,h⟩;have:=of_decide_eq_true h;subst this;exact hy
 ·intro h;exact ⟨x,h,decide_eq_true rfl⟩
theorem k75 {l:List ByteArray} (hl:l.length<1000000000) (x:ByteArray):run0 (F75 l x)=some (memB x l,()):=by
 have hi:iter (fun a=>run (fun _=>none) (g103_0 a)) (l,x,((l.length:Nat):Int),(0:Int),())=some (match firstD (fun y=>decide (y=x)) 0 l with|some k=>Sum.inl (((k:Nat):Int),())|none=>Sum.inr ()):=by
  refine iter_list l (fun k (_:Nat)=>(l,x,((l.length:Nat):Int),(k:Int),())) (fun k r=>match firstD (fun y=>decide (y=x)) k r with|some k=>Sum.inl (((k:Nat):Int),())|none=>Sum.inr ()) (fun pre k=>k=pre.length) ?_ ?_ (s:=0) rfl
  ·rintro pre y post k hx rfl
   have hlen:l.length=pre.length+(post.length+1):=by rw [hx];simp
   have hd:l.getD pre.length (bs [])=y:=by rw [hx];exact getD_mid rfl
   have i1:inb (pre.length:Int) ((l.length:Nat):Int)=true:=inb_t (by omega) (by omega)
   have r1:rng .i64 ((pre.length:Int)+1)=true:=rng_i64 (by omega) (by omega)
   simp only [g103_0,run_br,run_nb,run_ni,run_ret,Int.toNat_natCast,hd,i1,r1,need_true,br_d,seq_eq]
   rw [if_pos (by omega)]
   by_cases h:y=x
   ·right
    rw [if_pos h.symm]
    simp [firstD,h]
   ·left
    refine ⟨pre.length+1,?_,by simp,?_⟩
    ·rw [if_neg (fun e=>h e.symm)];rfl
    ·simp [firstD,h]
  ·rintro k _
   simp only [g103_0,run_br,br_d,run_ret]
   rw [if_neg (by omega)];rfl
 unfold F75 F103
 simp only [run_bd,run_it]
 rcases firstD_spec (fun y=>decide (y=x)) l 0 with ⟨p,y,q,h1,h2,h3,h4⟩|⟨h1,h2⟩
 ·rw [h4] at hi
  rw [bind_of hi]
  have hy:y=x:=by simpa using h3
  simp only [run_sl,run_ret,bindO_s]
  congr 2
  rw [Bool.eq_iff_iff,decide_eq_true_eq,memB_iff]
  exact ⟨fun _=>by rw [h1,hy];simp,fun _=>by omega⟩
 ·rw [h2] at hi
  rw [bind_of hi]
  simp only [run_sr,run_ret,bindO_s]
  congr 2
  rw [Bool.eq_iff_iff,decide_eq_true_eq,memB_iff]
  refine ⟨fun h=>by omega,fun h=>?_⟩
  have:=h1 x h
  simp at this
def stateL (c:List Mg) (x:ByteArray):Int×Int :=
 if isM c x=true then (if (msg c x).2.1=3 then (0,18) else if stkB c x=true then (2,0) else match std' c x with
  |none=>(1,0)
  |some t=>if memB x (ver c t)=true then (if 1<(ver c t).length then (5,0) else (4,0)) else (3,0)) else (0,5)
def versL (c:List Mg) (x:ByteArray):List ByteArray×Int:=if isM c x=true then (if (msg c x).2.1=1 then (ver c x,0) else ([],18)) else ([],5)
theorem cnt_len {L:List Mg} (h:OKB L):(cnt L).length≤60:=by
 have hn:(cnt L).Nodup:=List.Pairwise.imp (fun {a b} h e=>by subst e;rw [show slt a.1 a.1=false from dlt_irf (t:=.str) kS a.1] at h;cases h) (cnt_si L)
 have:=List.Nodup.length_le_of_subset hn (fun m hm=>cnt_sub hm)
 have:=h.len
 omega
theorem kH32 {L:List Mg} (h:OKB L) (x:ByteArray):run0 (FH32 x (bk L))=some ((stateL (cnt L) x).1,(stateL (cnt L) x).2,bk L,()):=by
 have hs:=cnt_si L
 have hc:=cnt_len h
 unfold FH32
 simp only [run_bd,kH54,bindO_s,run_br,brO_false]
 rw [bind_of (kH66 h)]
 simp only [run_ret,br_not,br_eq,stL_get]
 rw [show mhasL .str (byM (cnt L)) x=isM (cnt L) x from rfl,show mgetL .str zM (byM (cnt L)) x=msg (cnt L) x from rfl,br_if]
 unfold stateL
 by_cases h1:isM (cnt L) x=true
 ·rw [if_pos h1, if_pos h1, if_pos trivial]
  by_cases h2:(msg (cnt L) x).2.1=3
  ·rw [if_pos h2,if_pos h2]
  ·rw [if_neg h2, if_neg h2, br_if]
   by_cases h3:stkB (cnt L) x=true
   ·rw [if_pos h3,if_pos h3]
   ·rw [if_neg h3, if_neg h3]
    rw [bind_of (kH74 hs (by omega) x)]
    cases hst:std' (cnt L) x with
    |none=>simp
    |some t =>
     obtain ⟨ht1,ht2,_⟩:=stdF_top hs hst
     have hvl:(ver (cnt L) t).length≤(cnt L).length:=verF_len hs (top_of hs ht1 ht2) (isM_iff.1 ht1) .zero
     simp only [brO_true,List.drop_zero,List.take_length]
     rw [bind_of (k75 (by omega) x)]
     rw [br_if]
     simp only [br_d]
     by_cases h4:memB x (ver (cnt L) t)=true
     ·rw [if_pos h4, if_pos h4]
      by_cases h5:1<(ver (cnt L) t).length
      ·rw [if_pos (by omega),if_pos h5]
      ·rw [if_neg (by omega),if_neg h5]
     ·rw [if_neg h4,if_neg h4]
 ·rw [if_neg h1,if_neg h1,if_neg (by omega)]
theorem kH33 {L:List Mg} (h:OKB L) (x:ByteArray):run0 (FH33 x (bk L))=some ((versL (cnt L) x).1.length,(versL (cnt L) x).2,(versL (cnt L) x).1,bk L,()):=by
 have hs:=cnt_si L
 have hc:=cnt_len h
 unfold FH33
 simp only [run_bd,kH54,bindO_s,run_br,brO_false]
 rw [bind_of (kH66 h)]
 simp only [run_ret,br_not,br_eq]
 rw [show mhasL .str (byM (cnt L)) x=isM (cnt L) x from rfl,show mgetL .str zM (byM (cnt L)) x=msg (cnt L) x from rfl,br_if]
 unfold versL
 by_cases h1:isM (cnt L) x=true
 ·rw [if_pos h1, if_pos h1, if_pos trivial]
  by_cases h2:(msg (cnt L) x).2.1=1
  ·rw [if_pos h2,if_pos h2,bind_of (kH76 hs (by omega) (top_of hs h1 h2) (isM_iff.1 h1))]
  ·rw [if_neg h2,if_neg h2];rfl
 ·rw [if_neg h1,if_neg h1,if_neg (by omega)];rfl
theorem kH40 {L:List Mg} (h:OKB L) (x:ByteArray) (n:Int):run0 (FH40 x n (bk L))=some (decide (stateL (cnt L) x=(n,0)),bk L,()):=by
 unfold FH40
 simp only [run_bd]
 rw [bind_of (kH32 h x)]
 simp only [run_br,run_ret,br_eq]
 by_cases h1:(stateL (cnt L) x).2=0
 ·rw [if_pos h1]
  congr 2
  rw [Bool.eq_iff_iff,beq_iff_eq,decide_eq_true_eq]
  exact ⟨fun h=>Prod.ext h h1,fun h=>by rw [h]⟩
 ·rw [if_neg h1]
  congr 2
  exact (decide_eq_false fun h=>h1 (by rw [h])).symm
end
end Go.Proofs.Tryz
end
section
namespace Go.Proofs.Tryz
open Go.AM
set_option maxRecDepth 100000
abbrev Zs:=List (Int×Unit)
abbrev kI:keyKs (.int .i64)=some [.i]:=rfl
def addS (l:Zs) (n:Int) (nx:Zs):Zs:=l.foldl (fun nx e=>msetL (.int .i64) nx (e.1+n) ()) nx
def CZ (z:Zs):Prop:=Cam (.int .i64) z
def inZ (Z:Zs) (z:Int):Prop:=(z,())∈Z
theorem CZ.put {Z:Zs} (h:CZ Z) (z:Int):CZ (msetL (.int .i64) Z z ()):=Cam.mset kI h
theorem inZ_put {Z:Zs} (h:CZ Z) {z y:Int}:inZ (msetL (.int .i64) Z z ()) y↔y=z∨inZ Z y:=by
 unfold inZ
 rw [mset_mem kI h]
 constructor
 ·rintro (e | ⟨h, _⟩)
  ·cases e;exact .inl rfl
  ·exact .inr h
 ·by_cases e : y = z
  ·subst e;exact fun _=>.inl rfl
  ·rintro (e' | h)
   ·exact absurd e' e
   ·exact .inr ⟨h,e⟩
theorem addS_ok {n : Int} : ∀ {l nx : Zs}, CZ nx → CZ (addS l n nx) ∧ ∀ z, inZ (addS l n nx) z ↔ inZ nx z ∨ ∃ x, inZ l x ∧ z = x + n
 |[],nx,h=>⟨h,fun z=>by simp [addS,inZ]⟩
 |e::l,nx,h=>by
  obtain ⟨h1,h2⟩:=addS_ok (n:=n) (l:=l) (h.put (e.1+n))
  refine ⟨h1,fun z=>?_⟩
  have h3:addS (e::l) n nx=addS l n (msetL (.int .i64) nx (e.1+n) ()):=rfl
  rw [h3,h2,inZ_put h]
  constructor
  ·rintro ((h | h) | ⟨x, hx, h⟩)
   ·exact .inr ⟨e.1,List.mem_cons_self ..,h⟩
   ·exact .inl h
   ·exact .inr ⟨x,List.mem_cons_of_mem _ hx,h⟩
  ·rintro (h | ⟨x, hx, h⟩)
   ·exact .inl (.inr h)
   ·rcases List.mem_cons.1 hx with e' | hx
    ·exact .inl (.inl (by rw [h,←e']))
    ·exact .inr ⟨x,hx,h⟩
theorem CZ.ext {Z Z':Zs} (h:CZ Z) (h':CZ Z') (hz:∀z,inZ Z z↔inZ Z' z):Z=Z':=can_ext kI h h' fun e=>hz e.1
theorem addS_perm {l l' nx:Zs} {n:Int} (h:CZ nx) (hp:l.Perm l'):addS l n nx=addS l' n nx :=
 (addS_ok h).1.ext (addS_ok h).1 fun z=>by
  rw [(addS_ok h).2,(addS_ok h).2]
  exact or_congr_right ⟨fun ⟨x,hx,e⟩=>⟨x,hp.mem_iff.1 hx,e⟩,fun ⟨x,hx,e⟩=>⟨x,hp.mem_iff.2 hx,e⟩⟩
def nextS (f:ByteArray→Int) (can:Zs) (vs:List ByteArray):Zs:=vs.foldl (fun nx v=>addS can (f v) nx) []
theorem nextF_ok {f : ByteArray → Int} {can : Zs} : ∀ {vs : List ByteArray} {nx : Zs}, CZ nx → CZ (vs.foldl (fun nx v => addS can (f v) nx) nx) ∧ ∀ z, inZ (vs.foldl (fun nx v => addS can (f v) nx) nx) z ↔ inZ nx z ∨ ∃ v ∈ vs, ∃ x, inZ can x ∧ z = x + f v
 |[],nx,h=>⟨h,fun z=>by simp⟩
 |v::vs,nx,h=>by
  obtain ⟨h1,h2⟩:=addS_ok (n:=f v) (l:=can) h
  obtain ⟨h3,h4⟩:=nextF_ok (f:=f) (can:=can) (vs:=vs) h1
  refine ⟨h3,fun z=>?_⟩
  rw [List.foldl_cons,h4,h2]
  simp only [List.mem_cons,exists_eq_or_imp,or_assoc]
theorem nextS_ok {f:ByteArray→Int} {can:Zs} {vs:List ByteArray}:CZ (nextS f can vs)∧∀z,inZ (nextS f can vs) z↔∃v∈vs,∃x,inZ can x∧z=x+f v:=by
 obtain ⟨h1,h2⟩:=nextF_ok (f:=f) (can:=can) (vs:=vs) (nx:=[]) .nil
 exact ⟨h1,fun z=>(h2 z).trans (by simp [inZ])⟩
def tks (c:List Mg):List ByteArray:=(c.filter fun m=>decide (m.2.1=1)).map (·.1)
def sumZ (c:List Mg) (f:ByteArray→Int) (ts:List ByteArray) (can:Zs):Zs:=ts.foldl (fun can t=>nextS f can (ver c t)) can
def zero1Z:Zs:=msetL (.int .i64) [] 0 ()
def sumsL (c:List Mg) (f:ByteArray→Int):List Int:=(sumZ c f (tks c) zero1Z).map (·.1)
theorem zero1Z_ok:CZ zero1Z∧∀z,inZ zero1Z z↔z=0:=⟨CZ.put .nil 0,fun z=>(inZ_put .nil).trans (by simp [inZ])⟩
theorem sumZ_cz {c : List Mg} {f : ByteArray → Int} : ∀ {ts : List ByteArray} {can : Zs}, CZ can → CZ (sumZ c f ts can)
 |[],_,h=>h
 |t::ts,can,_=>sumZ_cz (ts:=ts) nextS_ok.1
def BZ (B:Int) (Z:Zs):Prop:=∀z,inZ Z z → -B≤z∧z≤B
theorem nextS_b {f:ByteArray→Int} {can:Zs} {vs:List ByteArray} {B:Int} (h:BZ B can) (hf:∀v∈vs,-1000≤f v∧f v≤1000):BZ (B+1000) (nextS f can vs):=fun z hz=>by
 obtain ⟨v,hv,x,hx,rfl⟩:=(nextS_ok.2 z).1 hz
 have:=h x hx;have:=hf v hv;omega
section
variable {c:List Mg}
theorem ver_msg (hs:SI c) {t v:ByteArray} (ht:isM c t=true) (hk:(msg c t).2.1=1) (hv:v∈ver c t):isM c v=true∧((msg c v).2.1=1∨(msg c v).2.1=2):=by
 have hd:=verF_desc hv
 cases hd with
 |refl=>exact ⟨ht,.inl hk⟩
 |step _ hz =>
  obtain ⟨m,hm,h1,h2,_⟩:=kids_iff.1 hz
  subst h1
  exact ⟨isM_iff.2 (List.mem_map.2 ⟨m,hm,rfl⟩),.inr (by rw [msg_of hs hm];exact h2)⟩
theorem chk_amt {m:Mg} (h:chk m=0) (hk:m.2.1=1∨m.2.1=2) : -1000≤m.2.2.2.2∧m.2.2.2.2≤1000:=by
 unfold chk at h
 split at h
 ·cases h
 split at h
 ·unfold fst0 at h
  have h3:chkEn m=0:=by
   by_cases h1:chkOf m=0
   ·by_cases h2 : chkEn m = 0
    ·exact h2
    ·simp [h1,h2] at h
   ·simp [h1] at h
  unfold chkEn at h3
  rw [if_neg (by omega)] at h3
  split at h3
  ·split at h3
   ·assumption
   ·cases h3
  ·cases h3
 ·cases h
def fA (c:List Mg) (a v:ByteArray):Int:=if (msg c v).2.2.2.1=a then (msg c v).2.2.2.2 else 0
def fT (c:List Mg) (v:ByteArray):Int:=(msg c v).2.2.2.2
def Bnd (c:List Mg) (f:ByteArray→Int):Prop:=∀t v,isM c t=true→(msg c t).2.1=1→v∈ver c t → -1000≤f v∧f v≤1000
theorem bndT (hs:SI c) (hc:∀m∈c,chk m=0):Bnd c (fT c):=fun t v h1 h2 h3=>by
 obtain ⟨h4,h5⟩:=ver_msg hs h1 h2 h3
 exact chk_amt (hc _ (msg_mem hs h4).1) h5
theorem bndA (hs:SI c) (hc:∀m∈c,chk m=0) (a:ByteArray):Bnd c (fA c a):=fun t v h1 h2 h3=>by
 have:=bndT hs hc t v h1 h2 h3
 unfold fA;unfold fT at this
 split<;>omega
theorem k68 (m:Mg) (a:ByteArray):run0 (F68 m a)=some (if m.2.2.2.1=a then m.2.2.2.2 else 0,()):=by
 simp only [F68,run_br,run_ret,br_not,seq_eq,br_d]
 split<;>rfl
theorem k78 (m:Mg):run0 (F78 m)=some (m.2.2.2.2,()):=rfl
theorem kH100 (z:Int) (m:Zs):run0 (FH100 z m)=some (msetL (.int .i64) m z (),()):=rfl
theorem kH102 {Z:Zs} (h:CZ Z) (hl:Z.length<1000000000):run0 (FH102 Z)=some (Z.length,Z.map (·.1),Z,()):=by
 unfold FH102
 refine Eq.trans run_an (anyOrd_of fun l hp=>?_)
 have hll:l.length=Z.length:=hp.length_eq
 simp only [run_bd,run_fm]
 refine bind_eq (goM_keys (m:=Z) (l:=l) (by rw [hll];exact hl) fun e n b hn=>?_) ?_
 ·simp only [gH102f121f133_0i_0, run_nd, run_ret, sameD_self, need_true]
  rw [need_d (show _<bigL by rw [bigL_eq];simp;omega)]
  rfl
 ·simp only [FH122, run_of]
  have hpk:(Z.map (·.1)).Perm (l.map (·.1)):=(hp.map (·.1)).symm
  have:=srtN_all kI hpk (Cam.keys kI h) (by rw [List.length_map];omega)
  rw [List.length_map] at this
  rw [bind_of this,hll]
  rfl
theorem cz_len {Z:Zs} {B:Nat} (h:CZ Z) (hb:BZ (B:Int) Z):Z.length≤2 * B+1:=by
 have hn:(Z.map (·.1)).Nodup:=by
  unfold List.Nodup
  rw [List.pairwise_map]
  exact List.Pairwise.imp (fun {a b} h e=>by rw [e,dlt_irf kI] at h;cases h) h
 have h2:((Z.map (·.1)).map fun z:Int=>(z+(B:Int)).toNat).Nodup:=by
  unfold List.Nodup
  rw [List.pairwise_map]
  refine List.Pairwise.imp_of_mem (fun {a b} ha hb' hab e=>hab ?_) hn
  obtain ⟨p,hp,rfl⟩:=List.mem_map.1 ha
  obtain ⟨q,hq,rfl⟩:=List.mem_map.1 hb'
  have h3:=hb p.1 hp
  have h4:=hb q.1 hq
  omega
 have:=List.Nodup.length_le_of_subset h2 (l₂:=List.range (2 * B+1)) fun z hz=>by
  obtain ⟨y,hy,rfl⟩:=List.mem_map.1 hz
  obtain ⟨p,hp,rfl⟩:=List.mem_map.1 hy
  have h3:=hb p.1 hp
  rw [List.mem_range];omega
 simpa using this
theorem kA67 {a:ByteArray} {nv:Nat} {w1 w2 n:Int} {b20 b13:List ByteArray} {can nx:Zs} (hx:CZ nx) (hb:BZ 1000000 can) (hn : -1000≤n∧n≤1000):run0 (gH67_0b_2 (nv,w1,w2,n,b20,byM c,trL c,ruL c,stL c,a,b13,can,nx,()))=some (nv,w1,w2,b20,byM c,trL c,ruL c,stL c,a,b13,can,addS can n nx,()):=by
 unfold gH67_0b_2
 simp only [run_bd]
 refine bind_eq (Eq.trans run_mq (anyOrd_of (b:=(nv,w1,w2,can,byM c,trL c,ruL c,stL c,a,n,b20,b13,addS can n nx,())) fun l hp=>?_)) rfl
 have key:∀(l:Zs) (nx:Zs),(∀e∈l,e∈can)→goM (fun e a=>run (fun _=>none) (gH67_0b_2i_0 e a)) l (nv,w1,w2,can,byM c,trL c,ruL c,stL c,a,n,b20,b13,nx,())=some (nv,w1,w2,can,byM c,trL c,ruL c,stL c,a,n,b20,b13,addS l n nx,()):=by
  intro l
  induction l with
  |nil=>intro nx _;rfl
  |cons e l ih =>
   intro nx hm
   have hz:=hb e.1 (hm e (List.mem_cons_self ..))
   have hs:run (fun _=>none) (gH67_0b_2i_0 e (nv,w1,w2,can,byM c,trL c,ruL c,stL c,a,n,b20,b13,nx,()))=some (nv,w1,w2,can,byM c,trL c,ruL c,stL c,a,n,b20,b13,msetL (.int .i64) nx (e.1+n) (),()):=by
    simp only [gH67_0b_2i_0,run_ni,run_bd,run_nd,run_ret,kH100,bindO_s,sameD_self,need_true]
    rw [need_t (rng_i64 (by omega) (by omega))]
   simp only [goM,hs]
   exact ih _ fun e he=>hm e (List.mem_cons_of_mem _ he)
 rw [key l nx fun e he=>hp.mem_iff.1 he,addS_perm hx hp]
theorem kB67 {a:ByteArray} {b13:List ByteArray} {can:Zs} {vs:List ByteArray} (hvl:vs.length<1000000) (hb:BZ 1000000 can) (hf:∀v∈vs,-1000≤fA c a v∧fA c a v≤1000) :
  iter (fun x=>run0 (gH67_0b_1 x)) (vs.length,((vs.length:Nat):Int),(0:Int),vs,byM c,trL c,ruL c,stL c,a,b13,can,[],())=some (byM c,trL c,ruL c,stL c,a,b13,vs,can,nextS (fA c a) can vs,()):=by
 refine iter_list vs (fun k (nx:Zs)=>(vs.length,((vs.length:Nat):Int),(k:Int),vs,byM c,trL c,ruL c,stL c,a,b13,can,nx,())) (fun nx r=>(byM c,trL c,ruL c,stL c,a,b13,vs,can,r.foldl (fun nx v=>addS can (fA c a v) nx) nx,())) (fun _ nx=>CZ nx) ?_ ?_ (s:=[]) .nil
 ·intro pre v post nx hx hnx
  have hlen:vs.length=pre.length+(post.length+1):=by rw [hx];simp
  have hd:vs.getD pre.length (bs [])=v:=by rw [hx];exact getD_mid rfl
  have i1:inb (pre.length:Int) ((vs.length:Nat):Int)=true:=inb_t (by omega) (by omega)
  have r1:rng .i64 ((pre.length:Int)+1)=true:=rng_i64 (by omega) (by omega)
  have d1:decide (pre.length<vs.length)=true:=decide_eq_true (by omega)
  left
  refine ⟨addS can (fA c a v) nx,?_,(addS_ok hnx).1,rfl⟩
  simp only [gH67_0b_1,run_br,run_nb,run_nd,run_ni,run_bd,run_ret,Int.toNat_natCast,Nat.zero_add,hd,i1,d1,need_true,br_d,FH101,FH120,bindO_s]
  rw [if_pos (by omega)]
  rw [bind_of (show run0 (F68 ((mgetL .str zM (byM c) v).1,(mgetL .str zM (byM c) v).2.1,(mgetL .str zM (byM c) v).2.2.1,(mgetL .str zM (byM c) v).2.2.2.1,(mgetL .str zM (byM c) v).2.2.2.2) a)=some (fA c a v,()) from k68 _ _)]
  rw [bind_of (kA67 hnx hb (hf v (by rw [hx];simp)))]
  simp only [r1,need_true]
  rfl
 ·intro nx _
  simp only [gH67_0b_1,run_br,run_ret,br_d]
  rw [if_neg (by omega)]
  rfl
theorem kC67 {a:ByteArray} (hs:SI c) (hl:c.length≤60) (hB:Bnd c (fA c a)):iter (fun x=>run0 (gH67_0i_0 x)) (c.length,((c.length:Nat):Int),(0:Int),c.map (·.1),byM c,trL c,ruL c,stL c,a,zero1Z,()) =
  some (byM c,trL c,ruL c,stL c,a,sumZ c (fA c a) (tks c) zero1Z,()):=by
 have hll:(c.map (·.1)).length=c.length:=List.length_map ..
 refine iter_list c (fun k (can:Zs)=>(c.length,((c.length:Nat):Int),(k:Int),c.map (·.1),byM c,trL c,ruL c,stL c,a,can,())) (fun can r=>(byM c,trL c,ruL c,stL c,a,sumZ c (fA c a) ((r.filter fun m=>decide (m.2.1=1)).map (·.1)) can,())) (fun pre can=>CZ can∧BZ (1000 * (pre.length:Int)) can) ?_ ?_ (s:=zero1Z) ⟨zero1Z_ok.1,fun z hz=>by rw [(zero1Z_ok.2 z).1 hz];simp⟩
 ·rintro pre m post can hx ⟨hcz, hbz⟩
  have hlen:c.length=pre.length+(post.length+1):=by rw [hx];simp
  have hm:m∈c:=by rw [hx];simp
  have hd:(c.map (·.1)).getD pre.length (bs [])=m.1:=by rw [hx,List.map_append,List.map_cons];exact getD_mid (by simp)
  have hg:mgetL .str zM (byM c) m.1=m:=msg_of hs hm
  have i1:inb (pre.length:Int) ((c.length:Nat):Int)=true:=inb_t (by omega) (by omega)
  have r1:rng .i64 ((pre.length:Int)+1)=true:=rng_i64 (by omega) (by omega)
  have d1:decide (pre.length<(c.map (·.1)).length)=true:=decide_eq_true (by omega)
  have hpl:((pre++[m]).length:Int)=(pre.length:Int)+1:=by simp
  left
  by_cases hk:m.2.1=1
  ·have him : isM c m.1 = true := isM_iff.2 (List.mem_map.2 ⟨m, hm, rfl⟩)
   have hkm:(msg c m.1).2.1=1:=by rw [msg_of hs hm];exact hk
   have hvl:(ver c m.1).length≤c.length:=verF_len hs (top_of hs him hkm) (isM_iff.1 him) .zero
   refine ⟨nextS (fA c a) can (ver c m.1),?_,⟨nextS_ok.1,?_⟩,?_⟩
   ·simp only [gH67_0i_0, run_br, run_nb, run_nd, run_ni, run_bd, run_it, run_ret, Int.toNat_natCast, Nat.zero_add, hd, hg, i1, d1, need_true, br_d, br_eq]
    rw [if_pos (by omega),if_pos hk,bind_of (kH76 hs (by omega) (top_of hs him hkm) (isM_iff.1 him))]
    rw [bind_of (kB67 (vs:=ver c m.1) (by omega) (fun z hz=>by have:=hbz z hz;omega) (fun v hv=>hB m.1 v him hkm hv))]
    simp only [r1,need_true]
    rfl
   ·have := nextS_b (f := (fA c a)) (vs := ver c m.1) hbz fun v hv => hB m.1 v him hkm hv
    intro z hz
    have:=this z hz
    omega
   ·rw [List.filter_cons_of_pos (by simpa using hk)]
    rfl
  ·refine ⟨can, ?_, ⟨hcz, fun z hz => by have := hbz z hz; omega⟩, ?_⟩
   ·simp only [gH67_0i_0, run_br, run_nb, run_nd, run_ni, run_bd, run_it, run_ret, Int.toNat_natCast, Nat.zero_add, hd, hg, i1, d1, r1, need_true, br_d, br_eq]
    rw [if_pos (by omega),if_neg hk]
    rfl
   ·rw [List.filter_cons_of_neg (by simpa using hk)]
 ·rintro can _
  simp only [gH67_0i_0,run_br,run_ret,br_d]
  rw [if_neg (by omega)]
  rfl
theorem kH67 {a:ByteArray} (hs:SI c) (hl:c.length≤60) (hB:Bnd c (fA c a)):run0 (FH67 a (byM c) (trL c) (ruL c) (stL c))=some ((sumsL c (fA c a)).length,sumsL c (fA c a),byM c,trL c,ruL c,stL c,a,()):=by
 have hcz:CZ (sumZ c (fA c a) (tks c) zero1Z):=sumZ_cz zero1Z_ok.1
 have hbz:BZ 1000000 (sumZ c (fA c a) (tks c) zero1Z):=by
  have key:∀(ts:List ByteArray) (can:Zs) (B:Int),(∀t∈ts,isM c t=true∧(msg c t).2.1=1)→BZ B can→BZ (B+1000 * ts.length) (sumZ c (fA c a) ts can):=by
   intro ts
   induction ts with
   |nil=>intro can B _ h;simpa [sumZ] using h
   |cons t ts ih =>
    intro can B ht h
    have h1:=ht t (List.mem_cons_self ..)
    have:=ih (nextS (fA c a) can (ver c t)) (B+1000) (fun t h=>ht t (List.mem_cons_of_mem _ h)) (nextS_b h fun v hv=>hB t v h1.1 h1.2 hv)
    intro z hz
    have:=this z hz
    simp only [List.length_cons]
    omega
  have h1:=key (tks c) zero1Z 0 (fun t ht=>by
   obtain ⟨m,hm,rfl⟩:=List.mem_map.1 ht
   obtain ⟨h1,h2⟩:=List.mem_filter.1 hm
   exact ⟨isM_iff.2 (List.mem_map.2 ⟨m,h1,rfl⟩),by rw [msg_of hs h1];simpa using h2⟩) (fun z hz=>by rw [(zero1Z_ok.2 z).1 hz];simp)
  have hle:(tks c).length≤c.length:=by unfold tks;rw [List.length_map];exact List.length_filter_le ..
  intro z hz
  have:=h1 z hz
  omega
 have hlen:=cz_len (B:=1000000) hcz (by simpa using hbz)
 unfold FH67 gH67_0
 simp only [run_bd,kH100,bindO_s,FH79,FH95,run_ret,run_it]
 rw [bind_of (kH81 hs (by omega))]
 refine bind_eq (bind_eq (kC67 hs hl hB) rfl) ?_
 simp only [bindO_s,FH101,FH120,run_bd,run_ret]
 rw [bind_of (kH102 hcz (by omega))]
 unfold sumsL
 rw [List.length_map]
theorem kA67_v1 {nv:Nat} {w1 w2 n:Int} {b20 b13:List ByteArray} {can nx:Zs} (hx:CZ nx) (hb:BZ 1000000 can) (hn : -1000≤n∧n≤1000):run0 (gH67_v1_0b_2 (nv,w1,w2,n,b20,byM c,trL c,ruL c,stL c,b13,can,nx,()))=some (nv,w1,w2,b20,byM c,trL c,ruL c,stL c,b13,can,addS can n nx,()):=by
 unfold gH67_v1_0b_2
 simp only [run_bd]
 refine bind_eq (Eq.trans run_mq (anyOrd_of (b:=(nv,w1,w2,can,byM c,trL c,ruL c,stL c,n,b20,b13,addS can n nx,())) fun l hp=>?_)) rfl
 have key:∀(l:Zs) (nx:Zs),(∀e∈l,e∈can)→goM (fun e a=>run (fun _=>none) (gH67_v1_0b_2i_0 e a)) l (nv,w1,w2,can,byM c,trL c,ruL c,stL c,n,b20,b13,nx,())=some (nv,w1,w2,can,byM c,trL c,ruL c,stL c,n,b20,b13,addS l n nx,()):=by
  intro l
  induction l with
  |nil=>intro nx _;rfl
  |cons e l ih =>
   intro nx hm
   have hz:=hb e.1 (hm e (List.mem_cons_self ..))
   have hs:run (fun _=>none) (gH67_v1_0b_2i_0 e (nv,w1,w2,can,byM c,trL c,ruL c,stL c,n,b20,b13,nx,()))=some (nv,w1,w2,can,byM c,trL c,ruL c,stL c,n,b20,b13,msetL (.int .i64) nx (e.1+n) (),()):=by
    simp only [gH67_v1_0b_2i_0,run_ni,run_bd,run_nd,run_ret,kH100,bindO_s,sameD_self,need_true]
    rw [need_t (rng_i64 (by omega) (by omega))]
   simp only [goM,hs]
   exact ih _ fun e he=>hm e (List.mem_cons_of_mem _ he)
 rw [key l nx fun e he=>hp.mem_iff.1 he,addS_perm hx hp]
theorem kB67_v1 {b13:List ByteArray} {can:Zs} {vs:List ByteArray} (hvl:vs.length<1000000) (hb:BZ 1000000 can) (hf:∀v∈vs,-1000≤fT c v∧fT c v≤1000) :
  iter (fun x=>run0 (gH67_v1_0b_1 x)) (vs.length,((vs.length:Nat):Int),(0:Int),vs,byM c,trL c,ruL c,stL c,b13,can,[],())=some (byM c,trL c,ruL c,stL c,b13,vs,can,nextS (fT c) can vs,()):=by
 refine iter_list vs (fun k (nx:Zs)=>(vs.length,((vs.length:Nat):Int),(k:Int),vs,byM c,trL c,ruL c,stL c,b13,can,nx,())) (fun nx r=>(byM c,trL c,ruL c,stL c,b13,vs,can,r.foldl (fun nx v=>addS can (fT c v) nx) nx,())) (fun _ nx=>CZ nx) ?_ ?_ (s:=[]) .nil
 ·intro pre v post nx hx hnx
  have hlen:vs.length=pre.length+(post.length+1):=by rw [hx];simp
  have hd:vs.getD pre.length (bs [])=v:=by rw [hx];exact getD_mid rfl
  have i1:inb (pre.length:Int) ((vs.length:Nat):Int)=true:=inb_t (by omega) (by omega)
  have r1:rng .i64 ((pre.length:Int)+1)=true:=rng_i64 (by omega) (by omega)
  have d1:decide (pre.length<vs.length)=true:=decide_eq_true (by omega)
  left
  refine ⟨addS can (fT c v) nx,?_,(addS_ok hnx).1,rfl⟩
  simp only [gH67_v1_0b_1,run_br,run_nb,run_nd,run_ni,run_bd,run_ret,Int.toNat_natCast,Nat.zero_add,hd,i1,d1,need_true,br_d,FH101,FH120,bindO_s]
  rw [if_pos (by omega)]
  rw [bind_of (show run0 (F78 ((mgetL .str zM (byM c) v).1,(mgetL .str zM (byM c) v).2.1,(mgetL .str zM (byM c) v).2.2.1,(mgetL .str zM (byM c) v).2.2.2.1,(mgetL .str zM (byM c) v).2.2.2.2))=some (fT c v,()) from k78 _)]
  rw [bind_of (kA67_v1 hnx hb (hf v (by rw [hx];simp)))]
  simp only [r1,need_true]
  rfl
 ·intro nx _
  simp only [gH67_v1_0b_1,run_br,run_ret,br_d]
  rw [if_neg (by omega)]
  rfl
theorem kC67_v1 (hs:SI c) (hl:c.length≤60) (hB:Bnd c (fT c)):iter (fun x=>run0 (gH67_v1_0i_0 x)) (c.length,((c.length:Nat):Int),(0:Int),c.map (·.1),byM c,trL c,ruL c,stL c,zero1Z,()) =
  some (byM c,trL c,ruL c,stL c,sumZ c (fT c) (tks c) zero1Z,()):=by
 have hll:(c.map (·.1)).length=c.length:=List.length_map ..
 refine iter_list c (fun k (can:Zs)=>(c.length,((c.length:Nat):Int),(k:Int),c.map (·.1),byM c,trL c,ruL c,stL c,can,())) (fun can r=>(byM c,trL c,ruL c,stL c,sumZ c (fT c) ((r.filter fun m=>decide (m.2.1=1)).map (·.1)) can,())) (fun pre can=>CZ can∧BZ (1000 * (pre.length:Int)) can) ?_ ?_ (s:=zero1Z) ⟨zero1Z_ok.1,fun z hz=>by rw [(zero1Z_ok.2 z).1 hz];simp⟩
 ·rintro pre m post can hx ⟨hcz, hbz⟩
  have hlen:c.length=pre.length+(post.length+1):=by rw [hx];simp
  have hm:m∈c:=by rw [hx];simp
  have hd:(c.map (·.1)).getD pre.length (bs [])=m.1:=by rw [hx,List.map_append,List.map_cons];exact getD_mid (by simp)
  have hg:mgetL .str zM (byM c) m.1=m:=msg_of hs hm
  have i1:inb (pre.length:Int) ((c.length:Nat):Int)=true:=inb_t (by omega) (by omega)
  have r1:rng .i64 ((pre.length:Int)+1)=true:=rng_i64 (by omega) (by omega)
  have d1:decide (pre.length<(c.map (·.1)).length)=true:=decide_eq_true (by omega)
  have hpl:((pre++[m]).length:Int)=(pre.length:Int)+1:=by simp
  left
  by_cases hk:m.2.1=1
  ·have him : isM c m.1 = true := isM_iff.2 (List.mem_map.2 ⟨m, hm, rfl⟩)
   have hkm:(msg c m.1).2.1=1:=by rw [msg_of hs hm];exact hk
   have hvl:(ver c m.1).length≤c.length:=verF_len hs (top_of hs him hkm) (isM_iff.1 him) .zero
   refine ⟨nextS (fT c) can (ver c m.1),?_,⟨nextS_ok.1,?_⟩,?_⟩
   ·simp only [gH67_v1_0i_0, run_br, run_nb, run_nd, run_ni, run_bd, run_it, run_ret, Int.toNat_natCast, Nat.zero_add, hd, hg, i1, d1, need_true, br_d, br_eq]
    rw [if_pos (by omega),if_pos hk,bind_of (kH76 hs (by omega) (top_of hs him hkm) (isM_iff.1 him))]
    rw [bind_of (kB67_v1 (vs:=ver c m.1) (by omega) (fun z hz=>by have:=hbz z hz;omega) (fun v hv=>hB m.1 v him hkm hv))]
    simp only [r1,need_true]
    rfl
   ·have := nextS_b (f := (fT c)) (vs := ver c m.1) hbz fun v hv => hB m.1 v him hkm hv
    intro z hz
    have:=this z hz
    omega
   ·rw [List.filter_cons_of_pos (by simpa using hk)]
    rfl
  ·refine ⟨can, ?_, ⟨hcz, fun z hz => by have := hbz z hz; omega⟩, ?_⟩
   ·simp only [gH67_v1_0i_0, run_br, run_nb, run_nd, run_ni, run_bd, run_it, run_ret, Int.toNat_natCast, Nat.zero_add, hd, hg, i1, d1, r1, need_true, br_d, br_eq]
    rw [if_pos (by omega),if_neg hk]
    rfl
   ·rw [List.filter_cons_of_neg (by simpa using hk)]
 ·rintro can _
  simp only [gH67_v1_0i_0,run_br,run_ret,br_d]
  rw [if_neg (by omega)]
  rfl
theorem kH67_v1 (hs:SI c) (hl:c.length≤60) (hB:Bnd c (fT c)):run0 (FH67_v1 (byM c) (trL c) (ruL c) (stL c))=some ((sumsL c (fT c)).length,sumsL c (fT c),byM c,trL c,ruL c,stL c,()):=by
 have hcz:CZ (sumZ c (fT c) (tks c) zero1Z):=sumZ_cz zero1Z_ok.1
 have hbz:BZ 1000000 (sumZ c (fT c) (tks c) zero1Z):=by
  have key:∀(ts:List ByteArray) (can:Zs) (B:Int),(∀t∈ts,isM c t=true∧(msg c t).2.1=1)→BZ B can→BZ (B+1000 * ts.length) (sumZ c (fT c) ts can):=by
   intro ts
   induction ts with
   |nil=>intro can B _ h;simpa [sumZ] using h
   |cons t ts ih =>
    intro can B ht h
    have h1:=ht t (List.mem_cons_self ..)
    have:=ih (nextS (fT c) can (ver c t)) (B+1000) (fun t h=>ht t (List.mem_cons_of_mem _ h)) (nextS_b h fun v hv=>hB t v h1.1 h1.2 hv)
    intro z hz
    have:=this z hz
    simp only [List.length_cons]
    omega
  have h1:=key (tks c) zero1Z 0 (fun t ht=>by
   obtain ⟨m,hm,rfl⟩:=List.mem_map.1 ht
   obtain ⟨h1,h2⟩:=List.mem_filter.1 hm
   exact ⟨isM_iff.2 (List.mem_map.2 ⟨m,h1,rfl⟩),by rw [msg_of hs h1];simpa using h2⟩) (fun z hz=>by rw [(zero1Z_ok.2 z).1 hz];simp)
  have hle:(tks c).length≤c.length:=by unfold tks;rw [List.length_map];exact List.length_filter_le ..
  intro z hz
  have:=h1 z hz
  omega
 have hlen:=cz_len (B:=1000000) hcz (by simpa using hbz)
 unfold FH67_v1 gH67_v1_0
 simp only [run_bd,kH100,bindO_s,FH79,FH95,run_ret,run_it]
 rw [bind_of (kH81 hs (by omega))]
 refine bind_eq (bind_eq (kC67_v1 hs hl hB) rfl) ?_
 simp only [bindO_s,FH101,FH120,run_bd,run_ret]
 rw [bind_of (kH102 hcz (by omega))]
 unfold sumsL
 rw [List.length_map]
def totL (c:List Mg) (a:ByteArray):List Int×Int:=if nameOk a=true then (sumsL c (fA c a),0) else ([],8)
theorem cnt_chk {L:List Mg} (h:OKB L):∀m∈cnt L,chk m=0:=fun m hm=>h.chk m (cnt_sub hm)
theorem kH23 {L:List Mg} (h:OKB L) {a:ByteArray} (ha:Sh a):run0 (FH23 a (bk L))=some ((totL (cnt L) a).1.length,(totL (cnt L) a).2,(totL (cnt L) a).1,bk L,()):=by
 unfold FH23
 simp only [run_bd,kH54,bindO_s,run_br,brO_false,k65 a ha,br_not]
 rw [br_if]
 unfold totL
 split
 ·rw [bind_of (kH66 h)]
  simp only
  rw [bind_of (kH67 (cnt_si L) (cnt_len h) (bndA (cnt_si L) (cnt_chk h) a))]
  rfl
 ·rfl
end
end Go.Proofs.Tryz
end
section
namespace Go.Proofs.Tryz
open Go.AM
set_option maxRecDepth 100000
def endsL (l:List Int):Int×Int:=(l.getD 0 0,l.getD (l.length - 1) 0)
theorem k72 {l:List Int} (h0:0<l.length) (hl:l.length<1000000000):run0 (F72 l)=some (endsL l,()):=by
 unfold F72
 simp only [run_nb,run_ni,run_ret]
 rw [inb_t (by omega) (by omega),need_true,need_t (rng_i64 (by omega) (by omega)),inb_t (by omega) (by omega),need_true]
 rw [show ((l.length:Int) - 1).toNat=l.length - 1 by omega]
 rfl
section
variable {c:List Mg}
theorem nextS_ne {f:ByteArray→Int} {can:Zs} {vs:List ByteArray} (hc:∃z,inZ can z) (hv:vs≠[]):∃z,inZ (nextS f can vs) z:=by
 obtain ⟨z,hz⟩:=hc
 cases vs with
 |nil=>exact absurd rfl hv
 |cons v vs=>exact ⟨z+f v,(nextS_ok.2 _).2 ⟨v,List.mem_cons_self ..,z,hz,rfl⟩⟩
def spanL (c:List Mg) (a:ByteArray):(Int×Int)×Int:=if (totL c a).2=0 then (endsL (totL c a).1,0) else ((0,0),(totL c a).2)
def sumL (c:List Mg):Int×Int:=endsL (sumsL c (fT c))
abbrev Ss:=List (ByteArray×Unit)
def accS (c:List Mg) (vs:List ByteArray) (m:Ss):Ss:=vs.foldl (fun m v=>msetL .str m (msg c v).2.2.2.1 ()) m
def accZ (c:List Mg) (ts:List ByteArray) (m:Ss):Ss:=ts.foldl (fun m t=>accS c (ver c t) m) m
def accL (c:List Mg):List ByteArray:=(accZ c (tks c) []).map (·.1)
theorem accS_cam {vs:List ByteArray}:∀{m:Ss},Cam .str m→Cam .str (accS c vs m):=by
 induction vs with
 |nil=>exact fun h=>h
 |cons v vs ih=>exact fun h=>ih (h.mset kS)
theorem accZ_cam {ts:List ByteArray}:∀{m:Ss},Cam .str m→Cam .str (accZ c ts m):=by
 induction ts with
 |nil=>exact fun h=>h
 |cons t ts ih=>exact fun h=>ih (accS_cam h)
theorem mins_len : ∀ {m : Ss} {k : ByteArray}, (minsL .str m k ()).length = m.length + 1
 |[],_=>rfl
 |e::m,k=>by
  unfold minsL
  split
  ·simp
  ·rw [List.length_cons,mins_len];rfl
theorem mset_len {m:Ss} {k:ByteArray}:(msetL .str m k ()).length≤m.length+1:=by
 unfold msetL
 split
 ·rw [List.length_map];omega
 ·rw [mins_len];exact Nat.le_refl _
theorem kH81_v1 {Z:Ss} (h:Cam .str Z) (hl:Z.length<1000000000):run0 (FH81_v1 Z)=some (Z.length,Z.map (·.1),Z,()):=by
 unfold FH81_v1
 refine Eq.trans run_an (anyOrd_of fun l hp=>?_)
 have hll:l.length=Z.length:=hp.length_eq
 simp only [run_bd,run_fm]
 refine bind_eq (goM_keys (m:=Z) (l:=l) (by rw [hll];exact hl) fun e n b hn=>?_) ?_
 ·simp only [gH81_v1f107f126_0i_0, run_nd, run_ret, sameD_self, need_true]
  rw [need_d (show _<bigL by rw [bigL_eq];simp;omega)]
  rfl
 ·simp only [FH105, run_of]
  have hpk:(Z.map (·.1)).Perm (l.map (·.1)):=(hp.map (·.1)).symm
  have:=srtN_all kS hpk (Cam.keys kS h) (by rw [List.length_map];omega)
  rw [List.length_map] at this
  rw [bind_of this,hll]
  rfl
theorem kB45 {m1:List (Mg×Bool)} {b13 vs:List ByteArray} (hvl:vs.length<1000000) {m:Ss} :
  iter (fun x=>run0 (gH45_0b_1 x)) (vs.length,((vs.length:Nat):Int),(0:Int),vs,byM c,trL c,ruL c,stL c,m1,b13,m,())=some (m1,byM c,trL c,ruL c,stL c,b13,vs,accS c vs m,()):=by
 refine iter_list vs (fun k (m:Ss)=>(vs.length,((vs.length:Nat):Int),(k:Int),vs,byM c,trL c,ruL c,stL c,m1,b13,m,())) (fun m r=>(m1,byM c,trL c,ruL c,stL c,b13,vs,accS c r m,())) (fun _ _=>True) ?_ ?_ (s:=m) trivial
 ·intro pre v post nx hx _
  have hlen:vs.length=pre.length+(post.length+1):=by rw [hx];simp
  have hd:vs.getD pre.length (bs [])=v:=by rw [hx];exact getD_mid rfl
  have i1:inb (pre.length:Int) ((vs.length:Nat):Int)=true:=inb_t (by omega) (by omega)
  have r1:rng .i64 ((pre.length:Int)+1)=true:=rng_i64 (by omega) (by omega)
  have d1:decide (pre.length<vs.length)=true:=decide_eq_true (by omega)
  left
  refine ⟨msetL .str nx (msg c v).2.2.2.1 (),?_,trivial,rfl⟩
  simp only [gH45_0b_1,run_br,run_nb,run_nd,run_ni,run_bd,run_ret,Int.toNat_natCast,Nat.zero_add,hd,i1,d1,r1,need_true,br_d,FH80,bindO_s]
  rw [if_pos (by omega)]
  rfl
 ·intro nx _
  simp only [gH45_0b_1,run_br,run_ret,br_d]
  rw [if_neg (by omega)]
  rfl
theorem kC45 {m1:List (Mg×Bool)} (hs:SI c) (hl:c.length≤60):iter (fun x=>run0 (gH45_0i_0 x)) (c.length,((c.length:Nat):Int),(0:Int),c.map (·.1),byM c,trL c,ruL c,stL c,m1,[],()) =
  some (m1,byM c,trL c,ruL c,stL c,accZ c (tks c) [],()):=by
 have hll:(c.map (·.1)).length=c.length:=List.length_map ..
 refine iter_list c (fun k (m:Ss)=>(c.length,((c.length:Nat):Int),(k:Int),c.map (·.1),byM c,trL c,ruL c,stL c,m1,m,())) (fun m r=>(m1,byM c,trL c,ruL c,stL c,accZ c ((r.filter fun m=>decide (m.2.1=1)).map (·.1)) m,())) (fun _ _=>True) ?_ ?_ (s:=[]) trivial
 ·rintro pre m post can hx _
  have hlen:c.length=pre.length+(post.length+1):=by rw [hx];simp
  have hm:m∈c:=by rw [hx];simp
  have hd:(c.map (·.1)).getD pre.length (bs [])=m.1:=by rw [hx,List.map_append,List.map_cons];exact getD_mid (by simp)
  have hg:mgetL .str zM (byM c) m.1=m:=msg_of hs hm
  have i1:inb (pre.length:Int) ((c.length:Nat):Int)=true:=inb_t (by omega) (by omega)
  have r1:rng .i64 ((pre.length:Int)+1)=true:=rng_i64 (by omega) (by omega)
  have d1:decide (pre.length<(c.map (·.1)).length)=true:=decide_eq_true (by omega)
  left
  by_cases hk:m.2.1=1
  ·have him : isM c m.1 = true := isM_iff.2 (List.mem_map.2 ⟨m, hm, rfl⟩)
   have hkm:(msg c m.1).2.1=1:=by rw [msg_of hs hm];exact hk
   have hvl:(ver c m.1).length≤c.length:=verF_len hs (top_of hs him hkm) (isM_iff.1 him) .zero
   refine ⟨accS c (ver c m.1) can,?_,trivial,?_⟩
   ·simp only [gH45_0i_0, run_br, run_nb, run_nd, run_ni, run_bd, run_it, run_ret, Int.toNat_natCast, Nat.zero_add, hd, hg, i1, d1, need_true, br_d, br_eq]
    rw [if_pos (by omega),if_pos hk,bind_of (kH76 hs (by omega) (top_of hs him hkm) (isM_iff.1 him))]
    rw [bind_of (kB45 (vs:=ver c m.1) (by omega))]
    simp only [r1,need_true]
    rfl
   ·rw [List.filter_cons_of_pos (by simpa using hk)]
    rfl
  ·refine ⟨can, ?_, trivial, ?_⟩
   ·simp only [gH45_0i_0, run_br, run_nb, run_nd, run_ni, run_bd, run_it, run_ret, Int.toNat_natCast, Nat.zero_add, hd, hg, i1, d1, r1, need_true, br_d, br_eq]
    rw [if_pos (by omega),if_neg hk]
    rfl
   ·rw [List.filter_cons_of_neg (by simpa using hk)]
 ·rintro can _
  simp only [gH45_0i_0,run_br,run_ret,br_d]
  rw [if_neg (by omega)]
  rfl
theorem accS_len {vs:List ByteArray}:∀{m:Ss},(accS c vs m).length≤m.length+vs.length:=by
 induction vs with
 |nil=>exact Nat.le_refl _
 |cons v vs ih =>
  intro m
  have h1:=ih (m:=msetL .str m (msg c v).2.2.2.1 ())
  have h2:=mset_len (m:=m) (k:=(msg c v).2.2.2.1)
  simp only [List.length_cons]
  exact Nat.le_trans h1 (by omega)
theorem tks_of (hs:SI c) {t:ByteArray} (ht:t∈tks c):isM c t=true∧(msg c t).2.1=1:=by
 obtain ⟨m,hm,rfl⟩:=List.mem_map.1 ht
 obtain ⟨h1,h2⟩:=List.mem_filter.1 hm
 exact ⟨isM_iff.2 (List.mem_map.2 ⟨m,h1,rfl⟩),by rw [msg_of hs h1];simpa using h2⟩
theorem tks_len:(tks c).length≤c.length:=by unfold tks;rw [List.length_map];exact List.length_filter_le ..
theorem ver_len (hs:SI c) {t:ByteArray} (ht:isM c t=true) (hk:(msg c t).2.1=1):(ver c t).length≤c.length:=verF_len hs (top_of hs ht hk) (isM_iff.1 ht) .zero
theorem accZ_len (hs : SI c) : ∀ {ts : List ByteArray} {m : Ss}, (∀ t ∈ ts, isM c t = true ∧ (msg c t).2.1 = 1) → (accZ c ts m).length ≤ m.length + ts.length * c.length
 |[],m,_=>by simp [accZ]
 |t::ts,m,h=>by
  have h1:=accZ_len hs (ts:=ts) (m:=accS c (ver c t) m) fun t h'=>h t (List.mem_cons_of_mem _ h')
  have h2:=accS_len (c:=c) (vs:=ver c t) (m:=m)
  have h3:=ver_len hs (h t (List.mem_cons_self ..)).1 (h t (List.mem_cons_self ..)).2
  have h4:(ts.length+1) * c.length=ts.length * c.length+c.length:=Nat.succ_mul ..
  simp only [List.length_cons,h4]
  exact Nat.le_trans h1 (by omega)
theorem kH45 {L:List Mg} (h:OKB L):run0 (FH45 (bk L))=some ((accL (cnt L)).length,accL (cnt L),bk L,()):=by
 have hs:=cnt_si L
 have hc:=cnt_len h
 have hz:=accZ_len hs (ts:=tks (cnt L)) (m:=[]) fun t ht=>tks_of hs ht
 have hq:(tks (cnt L)).length * (cnt L).length≤60 * 60:=Nat.mul_le_mul (Nat.le_trans tks_len hc) hc
 have hzl:(accZ (cnt L) (tks (cnt L)) []).length<1000000000:=by simp only [List.length_nil] at hz;omega
 unfold FH45 gH45_0
 simp only [run_bd,kH54,bindO_s,run_br,brO_false]
 rw [bind_of (kH66 h)]
 simp only [FH79,FH95,run_ret,bindO_s,run_it]
 rw [bind_of (kH81 hs (by omega))]
 refine bind_eq (bind_eq (kC45 hs hc) rfl) ?_
 simp only [FH82,FH108,run_bd,run_ret,bindO_s]
 rw [bind_of (kH81_v1 (accZ_cam .nil) hzl)]
 unfold accL
 rw [List.length_map]
theorem inZ_ne {Z:Zs} (h:∃z,inZ Z z):0<Z.length:=by
 obtain ⟨z,hz⟩:=h
 exact List.length_pos_of_mem hz
theorem verF_ne (hs : SI c) {t : ByteArray} (ht : Top c t) (hti : t ∈ ids c) : ∀ {n d : Nat} {x : ByteArray}, Pth c t d x → d + n = c.length → verF c (n + 1) x ≠ []
 |0,d,x,hp,hd=>by have:=hp.short hs ht hti;omega
 |n+1,d,x,hp,hd=>by
  unfold verF
  split
  ·simp
  ·rename_i k l hl
   intro h
   have h1:=(sortK_perm (t:=.str) ((k::l).flatMap (verF c (n+1)))).length_eq
   rw [show sortK .str ((k::l).flatMap (verF c (n+1)))=[] from h] at h1
   have h2:=verF_ne hs ht hti (n:=n) (hp.step (liv_sub (by rw [hl];exact List.mem_cons_self ..))) (by omega)
   have h3:0<(verF c (n+1) k).length:=List.length_pos_iff.2 h2
   rw [List.flatMap_cons,List.length_append] at h1
   simp only [List.length_nil] at h1
   omega
theorem ver_ne (hs:SI c) {t:ByteArray} (ht:isM c t=true∧(msg c t).2.1=1):ver c t≠[]:=verF_ne hs (top_of hs ht.1 ht.2) (isM_iff.1 ht.1) .zero (by omega)
theorem sumZ_ne (hs : SI c) {f : ByteArray → Int} : ∀ {ts : List ByteArray} {can : Zs}, (∀ t ∈ ts, isM c t = true ∧ (msg c t).2.1 = 1) → (∃ z, inZ can z) → ∃ z, inZ (sumZ c f ts can) z
 |[],_,_,h=>h
 |t::ts,can,ht,h=>sumZ_ne hs (ts:=ts) (fun t h=>ht t (List.mem_cons_of_mem _ h)) (nextS_ne h (ver_ne hs (ht t (List.mem_cons_self ..))))
theorem sums_ne (hs:SI c) {f:ByteArray→Int}:0<(sumsL c f).length:=by
 unfold sumsL
 rw [List.length_map]
 exact inZ_ne (sumZ_ne hs (fun t ht=>tks_of hs ht) ⟨0,(zero1Z_ok.2 0).2 rfl⟩)
theorem sumZ_bz (hs:SI c) (hl:c.length≤60) {f:ByteArray→Int} (hB:Bnd c f):BZ 60000 (sumZ c f (tks c) zero1Z):=by
 have key:∀(ts:List ByteArray) (can:Zs) (B:Int),(∀t∈ts,isM c t=true∧(msg c t).2.1=1)→BZ B can→BZ (B+1000 * ts.length) (sumZ c f ts can):=by
  intro ts
  induction ts with
  |nil=>intro can B _ h;simpa [sumZ] using h
  |cons t ts ih =>
   intro can B ht h
   have h1:=ht t (List.mem_cons_self ..)
   have:=ih (nextS f can (ver c t)) (B+1000) (fun t h=>ht t (List.mem_cons_of_mem _ h)) (nextS_b h fun v hv=>hB t v h1.1 h1.2 hv)
   intro z hz
   have:=this z hz
   simp only [List.length_cons]
   omega
 have h1:=key (tks c) zero1Z 0 (fun t ht=>tks_of hs ht) (fun z hz=>by rw [(zero1Z_ok.2 z).1 hz];simp)
 have hle:=tks_len (c:=c)
 intro z hz
 have:=h1 z hz
 omega
theorem sums_len (hs:SI c) (hl:c.length≤60) {f:ByteArray→Int} (hB:Bnd c f):(sumsL c f).length<1000000:=by
 have:=cz_len (B:=60000) (sumZ_cz zero1Z_ok.1) (by simpa using sumZ_bz hs hl hB)
 unfold sumsL
 rw [List.length_map]
 omega
theorem kH37 {L:List Mg} (h:OKB L):run0 (FH37 (bk L))=some (sumL (cnt L),0,bk L,()):=by
 have hs:=cnt_si L
 have hc:=cnt_len h
 have hB:=bndT hs (cnt_chk h)
 unfold FH37
 simp only [run_bd,kH54,bindO_s,run_br,brO_false]
 rw [bind_of (kH66 h)]
 simp only
 rw [bind_of (kH67_v1 hs hc hB)]
 simp only [List.drop_zero,List.take_length]
 rw [bind_of (k72 (sums_ne hs) (by have:=sums_len hs hc hB;omega))]
 rfl
theorem kH25 {L:List Mg} (h:OKB L) {a:ByteArray} (ha:Sh a):run0 (FH25 a (bk L))=some ((spanL (cnt L) a).1,(spanL (cnt L) a).2,bk L,()):=by
 have hs:=cnt_si L
 have hc:=cnt_len h
 have hB:=bndA hs (cnt_chk h) a
 unfold FH25
 simp only [run_bd]
 rw [bind_of (kH23 h ha)]
 simp only [run_br,br_not,br_eq,run_ret,List.drop_zero,List.take_length]
 unfold spanL
 by_cases h0:(totL (cnt L) a).2=0
 ·rw [if_pos h0, if_pos h0]
  have h1:(totL (cnt L) a).1=sumsL (cnt L) (fA (cnt L) a):=by
   revert h0
   unfold totL
   split
   ·intro _;rfl
   ·intro h;cases h
  rw [h1,run_bd,bind_of (k72 (sums_ne hs) (by have:=sums_len hs hc hB;omega))]
  rfl
 ·rw [if_neg h0,if_neg h0]
theorem k36 {l l':List ByteArray} (hl:l.length<1000000000):run0 (F36 l l')=some (decide (l=l'),()):=by
 by_cases hn:l.length=l'.length
 ·have hi:iter (fun a=>run (fun _=>none) (g36_0 a)) (l,l',(0:Int),())=some (if l=l'.drop 0 then Sum.inr () else Sum.inl ()):=by
   refine iter_list l (fun k (_:Nat)=>(l,l',(k:Int),())) (fun k r=>if r=l'.drop k then Sum.inr () else Sum.inl ()) (fun pre k=>k=pre.length) ?_ ?_ (s:=0) rfl
   ·rintro pre x post k hx rfl
    have hlen:l.length=pre.length+(post.length+1):=by rw [hx];simp
    have hlt:pre.length<l'.length:=by omega
    have hd:l.getD pre.length (bs [])=x:=by rw [hx];exact getD_mid rfl
    have hd':l'.getD pre.length (bs [])=l'[pre.length]:=by rw [List.getD_eq_getElem?_getD,List.getElem?_eq_getElem hlt];rfl
    have i1:inb (pre.length:Int) ((l.length:Nat):Int)=true:=inb_t (by omega) (by omega)
    have i2:inb (pre.length:Int) ((l'.length:Nat):Int)=true:=inb_t (by omega) (by omega)
    have r1:rng .i64 ((pre.length:Int)+1)=true:=rng_i64 (by omega) (by omega)
    simp only [g36_0,run_br,run_nb,run_ni,run_ret,Int.toNat_natCast,hd,hd',i1,i2,r1,need_true,br_d,seq_eq,br_not]
    rw [if_pos (by omega),List.drop_eq_getElem_cons hlt]
    by_cases h:x=l'[pre.length]
    ·left
     refine ⟨pre.length+1,?_,by simp,?_⟩
     ·rw [if_pos h];rfl
     ·rw [h];simp only [List.cons.injEq,true_and]
    ·right
     rw [if_neg h,if_neg (fun e=>h (List.cons.inj e).1)]
   ·rintro k rfl
    simp only [g36_0,run_br,br_d,run_ret]
    rw [if_neg (by omega),if_pos (by rw [hn,List.drop_length])]
  unfold F36
  simp only [run_br,run_bd,run_it,br_not,br_eq]
  rw [if_pos (by omega),bind_of hi,List.drop_zero]
  by_cases h:l=l'
  ·rw [if_pos h];simp only [run_sr,run_ret,h,decide_true]
  ·rw [if_neg h];simp only [run_sl,run_ret,h,decide_false]
 ·unfold F36
  simp only [run_br,br_not,br_eq,run_ret]
  rw [if_neg (by omega),decide_eq_false fun e=>hn (by rw [e])]
theorem k27 {l l':List Int} (hl:l.length<1000000000):run0 (F27 l l')=some (decide (l=l'),()):=by
 by_cases hn:l.length=l'.length
 ·have hi:iter (fun a=>run (fun _=>none) (g27_0 a)) (l,l',(0:Int),())=some (if l=l'.drop 0 then Sum.inr () else Sum.inl ()):=by
   refine iter_list l (fun k (_:Nat)=>(l,l',(k:Int),())) (fun k r=>if r=l'.drop k then Sum.inr () else Sum.inl ()) (fun pre k=>k=pre.length) ?_ ?_ (s:=0) rfl
   ·rintro pre x post k hx rfl
    have hlen:l.length=pre.length+(post.length+1):=by rw [hx];simp
    have hlt:pre.length<l'.length:=by omega
    have hd:l.getD pre.length (0:Int)=x:=by rw [hx];exact getD_mid rfl
    have hd':l'.getD pre.length (0:Int)=l'[pre.length]:=by rw [List.getD_eq_getElem?_getD,List.getElem?_eq_getElem hlt];rfl
    have i1:inb (pre.length:Int) ((l.length:Nat):Int)=true:=inb_t (by omega) (by omega)
    have i2:inb (pre.length:Int) ((l'.length:Nat):Int)=true:=inb_t (by omega) (by omega)
    have r1:rng .i64 ((pre.length:Int)+1)=true:=rng_i64 (by omega) (by omega)
    simp only [g27_0,run_br,run_nb,run_ni,run_ret,Int.toNat_natCast,hd,hd',i1,i2,r1,need_true,br_d,br_not,br_eq]
    rw [if_pos (by omega),List.drop_eq_getElem_cons hlt]
    by_cases h:x=l'[pre.length]
    ·left
     refine ⟨pre.length+1,?_,by simp,?_⟩
     ·rw [if_pos h];rfl
     ·rw [h];simp only [List.cons.injEq,true_and]
    ·right
     rw [if_neg h,if_neg (fun e=>h (List.cons.inj e).1)]
   ·rintro k rfl
    simp only [g27_0,run_br,br_d,run_ret]
    rw [if_neg (by omega),if_pos (by rw [hn,List.drop_length])]
  unfold F27
  simp only [run_br,run_bd,run_it,br_not,br_eq]
  rw [if_pos (by omega),bind_of hi,List.drop_zero]
  by_cases h:l=l'
  ·rw [if_pos h];simp only [run_sr,run_ret,h,decide_true]
  ·rw [if_neg h];simp only [run_sl,run_ret,h,decide_false]
 ·unfold F27
  simp only [run_br,br_not,br_eq,run_ret]
  rw [if_neg (by omega),decide_eq_false fun e=>hn (by rw [e])]
end
end Go.Proofs.Tryz
end
section
namespace Go.Proofs.Tryz
open Go.AM
set_option maxRecDepth 100000
def XL:List Mg:=[(bs [116,49],1,bs [],bs [97,110,97],40),(bs [116,50],1,bs [],bs [98,101,110],25),(bs [99,49],2,bs [116,49],bs [97,110,97],42),(bs [99,50],2,bs [116,49],bs [99,121],40),(bs [99,51],2,bs [99,49],bs [97,110,97],41),(bs [119,49],2,bs [120,57],bs [98,101,110],5),(bs [114,49],3,bs [99,49],bs [],0),(bs [114,50],3,bs [99,50],bs [],0)]
theorem k46:run0 F46=some (XL,()):=by
 unfold F46
 simp only [run_bd,F50,F42,F39,run_ret,bindO_s]
 rfl
def L6:List Mg:=toldL ((XL.drop (Int.toNat 0)).take (Int.toNat 6 - Int.toNat 0))
def L7:List Mg:=toldL ((XL.drop (Int.toNat 0)).take (Int.toNat 7 - Int.toNat 0))
def L8:List Mg:=toldL XL
theorem x1:versL (cnt L6) (bs [116,49])=([bs [99,50],bs [99,51]],0):=by kernel_rfl
theorem x2:totL (cnt L6) (bs [97,110,97])=([0,41],0):=by kernel_rfl
theorem x3:totL (cnt L7) (bs [97,110,97])=([41],0):=by kernel_rfl
theorem x4:sumL (cnt L6)=(65,66):=by kernel_rfl
theorem x5:spanL (cnt L8) (bs [99,121])=((0,40),0):=by kernel_rfl
theorem x6:accL (cnt L6)=[bs [97,110,97],bs [98,101,110],bs [99,121]]:=by kernel_rfl
theorem x7:stateL (cnt L6) (bs [116,49])=(3,0):=by kernel_rfl
theorem x8:stateL (cnt L6) (bs [116,50])=(4,0):=by kernel_rfl
theorem x9:stateL (cnt L6) (bs [99,51])=(5,0):=by kernel_rfl
theorem x10:stateL (cnt L6) (bs [119,49])=(1,0):=by kernel_rfl
theorem x11:stateL (cnt L7) (bs [99,50])=(2,0):=by kernel_rfl
theorem x12:stateL (cnt L7) (bs [99,51])=(4,0):=by kernel_rfl
theorem x13:stateL (cnt L8) (bs [99,50])=(5,0):=by kernel_rfl
theorem x14:L8.length=8:=by kernel_rfl
instance (m:Mg):Decidable (ShM m):=by unfold ShM Sh;infer_instance
theorem k29_6:run0 (FH29 ((XL.drop (Int.toNat 0)).take (Int.toNat 6 - Int.toNat 0)))=some (bk L6,()):=kH29 (by decide) (by decide +kernel)
theorem k29_7:run0 (FH29 ((XL.drop (Int.toNat 0)).take (Int.toNat 7 - Int.toNat 0)))=some (bk L7,()):=kH29 (by decide) (by decide +kernel)
theorem k29_8:run0 (FH29 XL)=some (bk L8,()):=kH29 (by decide) (by decide +kernel)
theorem o6:OKB L6:=OKB.told _
theorem o7:OKB L7:=OKB.told _
theorem o8:OKB L8:=OKB.told _
theorem xl:XL.length=8:=rfl
theorem sh_ana:Sh (bs [97,110,97]):=by unfold Sh;decide +kernel
theorem sh_cy:Sh (bs [99,121]):=by unfold Sh;decide +kernel
theorem e1:run0 (FH33 (bs [116,49]) (bk L6))=some (2,0,[bs [99,50],bs [99,51]],bk L6,()):=by rw [kH33 o6,x1];rfl
theorem e2:run0 (FH23 (bs [97,110,97]) (bk L6))=some (2,0,[0,41],bk L6,()):=by rw [kH23 o6 sh_ana,x2];rfl
theorem e3:run0 (FH23 (bs [97,110,97]) (bk L7))=some (1,0,[41],bk L7,()):=by rw [kH23 o7 sh_ana,x3];rfl
theorem e4:run0 (FH37 (bk L6))=some ((65,66),0,bk L6,()):=by rw [kH37 o6,x4]
theorem e5:run0 (FH25 (bs [99,121]) (bk L8))=some ((0,40),0,bk L8,()):=by rw [kH25 o8 sh_cy,x5]
theorem e6:run0 (FH45 (bk L6))=some (3,[bs [97,110,97],bs [98,101,110],bs [99,121]],bk L6,()):=by rw [kH45 o6,x6];rfl
theorem e7:run0 (F36 (([bs [99,50],bs [99,51]].drop 0).take 2) (([bs [99,50],bs [99,51]].drop 0).take 2))=some (true,()):=by rw [k36 (by decide)];rfl
theorem e8:run0 (F27 ((([0,41]:List Int).drop 0).take 2) ((([0,41]:List Int).drop 0).take 2))=some (true,()):=by rw [k27 (by decide)];rfl
theorem e9:run0 (F27 ((([41]:List Int).drop 0).take 1) ((([41]:List Int).drop 0).take 1))=some (true,()):=by rw [k27 (by decide)];rfl
theorem e10:run0 (F36 (([bs [97,110,97],bs [98,101,110],bs [99,121]].drop 0).take 3) (([bs [97,110,97],bs [98,101,110],bs [99,121]].drop 0).take 3))=some (true,()):=by rw [k36 (by decide)];rfl
theorem e11:run0 (FH40 (bs [116,49]) 3 (bk L6))=some (true,bk L6,()):=by rw [kH40 o6,x7];rfl
theorem e12:run0 (FH40 (bs [116,50]) 4 (bk L6))=some (true,bk L6,()):=by rw [kH40 o6,x8];rfl
theorem e13:run0 (FH40 (bs [99,51]) 5 (bk L6))=some (true,bk L6,()):=by rw [kH40 o6,x9];rfl
theorem e14:run0 (FH40 (bs [119,49]) 1 (bk L6))=some (true,bk L6,()):=by rw [kH40 o6,x10];rfl
theorem e15:run0 (FH40 (bs [99,50]) 2 (bk L7))=some (true,bk L7,()):=by rw [kH40 o7,x11];rfl
theorem e16:run0 (FH40 (bs [99,51]) 4 (bk L7))=some (true,bk L7,()):=by rw [kH40 o7,x12];rfl
theorem e17:run0 (FH40 (bs [99,50]) 5 (bk L8))=some (true,bk L8,()):=by rw [kH40 o8,x13];rfl
theorem e18:run0 (FH47 (bk L8))=some (8,L8,bk L8,()):=by rw [kH47 o8.s (by rw [x14];decide),x14]
theorem k17:run0 F17=some (true,()):=by
 unfold F17
 simp only [run_bd,run_nd,run_br,run_ret,k46,bindO_s,k29_6,k29_7,k29_8,xl,e1,e2,e3,e4,e5,e6,e11,e12,e13,e14,e15,e16,e17,e18,br_eq]
 rw [need_d (by decide),need_d (by decide),need_d (by decide),need_d (by decide)]
 rw [if_pos trivial,if_pos trivial,if_pos trivial,if_pos trivial,if_pos trivial,bind_of e7]
 simp only [brO_true]
 rw [bind_of e8]
 simp only [brO_true]
 rw [bind_of e9]
 simp only [brO_true]
 rw [show (((65,66):Int×Int).1==65&&(((65,66):Int×Int).2==66&&true))=true from by decide,show (((0,40):Int×Int).1==0&&(((0,40):Int×Int).2==40&&true))=true from by decide]
 simp only [brO_true]
 rw [bind_of e10]
 simp only [brO_true]
 refine (need_d (by decide)).trans ?_
 refine (need_d (by decide)).trans ?_
 rfl
def mC:Mg:=(bs [99,49],2,bs [116,49],bs [97,110,97],43)
def L9:List Mg:=(tellB L8 mC).2
theorem y1:(tellB L8 mC).1=0:=by kernel_rfl
theorem y2:stateL (cnt L9) (bs [114,49])=(0,18):=by kernel_rfl
theorem y3:versL (cnt L9) (bs [99,49])=([],18):=by kernel_rfl
theorem y4:stateL (cnt L9) (bs [122,122])=(0,5):=by kernel_rfl
theorem y5:L9.length=9:=by kernel_rfl
theorem y6:stateL (cnt L9) (bs [99,49])=(3,0):=by kernel_rfl
end Go.Proofs.Tryz
end
section
namespace Go.Proofs.Tryz
open Go.AM
set_option maxRecDepth 100000
abbrev Nu:=Int×Int×Int×Int
def U8 (z:Int):Prop:=0≤z∧z≤255
def U8s (x:Nu):Prop:=U8 x.1∧U8 x.2.1∧U8 x.2.2.1∧U8 x.2.2.2
theorem rng_u8 {z:Int} (h1:0≤z) (h2:z≤255):rng .u8 z=true:=by
 have e1:IntKind.u8.min=0:=by decide
 have e2:IntKind.u8.max=255:=by decide
 unfold rng
 rw [e1,e2]
 simp [h1,h2]
def lt1 (f n:Int):ByteArray:=txtL [f+n]
theorem k43 {f n:Int} (h1:0≤f) (h2:0≤n) (h3:f+n≤255):run0 (F43 f n)=some (lt1 f n,()):=by
 unfold F43
 simp only [run_nd,run_ret]
 rw [need_t (rng_u8 h2 (by omega)),need_t (rng_u8 (by omega) h3)]
 rfl
def ofN (x:Nu):Int:=if Int.tmod x.1 8=Int.tmod x.2.1 8 then Int.tmod (Int.tmod x.2.1 8+1) 8 else Int.tmod x.2.1 8
def mkM (x:Nu):Mg :=
 let i:=lt1 97 (Int.tmod x.1 8)
 let a:=lt1 120 (Int.tmod x.2.2.1 3)
 let n:=Int.tmod (Int.tdiv x.2.2.1 3) 12 - 3
 let k:=Int.tmod x.2.2.2 8
 if k=0∨k=1∨k=2 then (i,1,bs [],a,n) else if k=3 then (i,3,lt1 97 (ofN x),bs [],0) else (i,2,lt1 97 (ofN x),a,n)
theorem tm8 {a:Int} (h:0≤a) (n:Int) (hn:0<n):0≤Int.tmod a n∧Int.tmod a n<n:=⟨Int.tmod_nonneg _ h,Int.tmod_lt_of_pos _ hn⟩
theorem td_b {a:Int} (h:0≤a) (h2:a≤255):0≤Int.tdiv a 3∧Int.tdiv a 3≤255:=by
 rw [Int.tdiv_eq_ediv_of_nonneg h];omega
theorem n83:(!((8:Int)==0))=true∧(!((3:Int)==0))=true∧(!((12:Int)==0))=true:=by decide
theorem ln4 {a b c d:Int}:decide (0<[a,b,c,d].length)=true∧decide (1<[a,b,c,d].length)=true∧decide (2<[a,b,c,d].length)=true∧decide (3<[a,b,c,d].length)=true:=⟨rfl,rfl,rfl,rfl⟩
theorem gd4 {a b c d:Int}:[a,b,c,d].getD 0 0=a∧[a,b,c,d].getD 1 0=b∧[a,b,c,d].getD 2 0=c∧[a,b,c,d].getD 3 0=d:=⟨rfl,rfl,rfl,rfl⟩
theorem k44 {x:Nu} (h:U8s x):run0 (F44 x)=some (mkM x,()):=by
 obtain ⟨a,b,c,d⟩:=x
 obtain ⟨⟨a1,a2⟩,⟨b1,b2⟩,⟨c1,c2⟩,d1,d2⟩:=h
 simp only at a1 a2 b1 b2 c1 c2 d1 d2
 have ta:=tm8 a1 8 (by omega)
 have tb:=tm8 b1 8 (by omega)
 have tc:=tm8 c1 3 (by omega)
 have td:=tm8 d1 8 (by omega)
 have te:=td_b c1 c2
 have tf:=tm8 te.1 12 (by omega)
 have tg:=tm8 (show 0≤Int.tmod b 8+1 by omega) 8 (by omega)
 have ra:=rng_i64 (z:=a) (by omega) (by omega)
 have rb:=rng_i64 (z:=b) (by omega) (by omega)
 have rc:=rng_i64 (z:=c) (by omega) (by omega)
 have rd:=rng_i64 (z:=d) (by omega) (by omega)
 have re:=rng_i64 (z:=Int.tdiv c 3) (by omega) (by omega)
 have rf:=rng_i64 (z:=Int.tmod (Int.tdiv c 3) 12 - 3) (by omega) (by omega)
 have rg:=rng_i64 (z:=Int.tmod b 8+1) (by omega) (by omega)
 unfold F44 mkM ofN
 simp only [run_nd,run_ni,run_br,run_bd,run_ret,ln4.1,ln4.2.1,ln4.2.2.1,ln4.2.2.2,gd4.1,gd4.2.1,gd4.2.2.1,gd4.2.2.2,n83.1,n83.2.1,n83.2.2,need_true,ra,rb,rc,rd,re,rf,rg,br_eq]
 have q1:=k43 (f:=97) (n:=Int.tmod a 8) (by omega) (by omega) (by omega)
 have q2:=k43 (f:=97) (n:=Int.tmod b 8) (by omega) (by omega) (by omega)
 have q3:=k43 (f:=97) (n:=Int.tmod (Int.tmod b 8+1) 8) (by omega) (by omega) (by omega)
 have q4:=k43 (f:=120) (n:=Int.tmod c 3) (by omega) (by omega) (by omega)
 simp only [q1,q2,q3,q4,bindO_s]
 by_cases e:Int.tmod a 8=Int.tmod b 8
 ·simp only [if_pos e]
  by_cases e0:Int.tmod d 8=0
  ·simp only [e0,if_true,true_or]
  ·by_cases e1 : Int.tmod d 8 = 1
   ·simp [e1]
   ·by_cases e2 : Int.tmod d 8 = 2
    ·simp [e2]
    ·by_cases e3 : Int.tmod d 8 = 3
     ·simp [e3]
     ·simp [e0,e1,e2,e3]
 ·simp only [if_neg e]
  by_cases e0:Int.tmod d 8=0
  ·simp only [e0,if_true,true_or]
  ·by_cases e1 : Int.tmod d 8 = 1
   ·simp [e1]
   ·by_cases e2 : Int.tmod d 8 = 2
    ·simp [e2]
    ·by_cases e3 : Int.tmod d 8 = 3
     ·simp [e3]
     ·simp [e0,e1,e2,e3]
def madeL (p:List Nu):List Mg:=(p.take 10).map mkM
theorem madeL_len (p:List Nu):(madeL p).length≤10:=by unfold madeL;rw [List.length_map,List.length_take];omega
theorem k28 {p:List Nu} (h:∀x∈p,U8s x):run0 (F28 p)=some (madeL p,()):=by
 have hi:iter (fun a=>run (fun _=>none) (g28_0 a)) (p,0,(0:Int),[],())=some ((madeL p).length,madeL p,()):=by
  have:=iter_list (p.take 10) (fun k (o:List Mg)=>(p,o.length,(k:Int),o,())) (fun o r=>((o++r.map mkM).length,o++r.map mkM,())) (fun pre o=>o=pre.map mkM) (f:=fun a=>run (fun _=>none) (g28_0 a)) (s:=[]) ?_ ?_ rfl
  ·simpa [madeL] using this
  ·rintro pre x post _ hx rfl
   have hlen:(p.take 10).length=pre.length+(post.length+1):=by rw [hx];simp
   rw [List.length_take] at hlen
   have hd:p.getD pre.length ((0:Int),(0:Int),(0:Int),(0:Int))=x:=by
    have:(p.take 10).getD pre.length ((0:Int),(0:Int),(0:Int),(0:Int))=x:=by rw [hx];exact getD_mid rfl
    rw [getD_take (by omega)] at this;exact this
   have hxm:x∈p:=List.mem_of_mem_take (i:=10) (by rw [hx];simp)
   have i1:inb (pre.length:Int) ((p.length:Nat):Int)=true:=inb_t (by omega) (by omega)
   have r1:rng .i64 ((pre.length:Int)+1)=true:=rng_i64 (by omega) (by omega)
   left
   refine ⟨(pre++[x]).map mkM,?_,rfl,?_⟩
   ·simp only [g28_0, run_br, run_nb, run_bd, run_nd, run_ni, run_ret, Int.toNat_natCast, hd, i1, r1, need_true, br_d]
    rw [if_pos (by omega),if_pos (by omega),bind_of (k44 (x:=(x.1,x.2.1,x.2.2.1,x.2.2.2)) (h x hxm))]
    rw [need_d (show _<bigL by rw [bigL_eq];simp;omega)]
    simp
    exact List.take_of_length_le (by simp)
   ·simp
  ·rintro _ rfl
   simp only [g28_0,run_br,run_ret,br_d]
   have:(p.take 10).length=min 10 p.length:=List.length_take
   by_cases h1:(((p.take 10).length:Nat):Int)<((p.length:Nat):Int)
   ·rw [if_pos h1,if_neg (by omega)];simp
   ·rw [if_neg h1];simp
 unfold F28
 simp only [run_bd,run_it]
 rw [bind_of hi]
 simp only [run_ret,List.drop_zero,List.take_length]
theorem lt_size (f n:Int):(lt1 f n).size=1:=rfl
theorem lt_sh (f n:Int):Sh (lt1 f n):=by unfold Sh;rw [lt_size];omega
theorem sh_nil:Sh (bs []):=by unfold Sh;decide
theorem mk_sh (x:Nu):ShM (mkM x):=by
 unfold mkM
 simp only
 split
 ·exact ⟨lt_sh _ _,sh_nil,lt_sh _ _⟩
 ·split
  ·exact ⟨lt_sh _ _,lt_sh _ _,sh_nil⟩
  ·exact ⟨lt_sh _ _,lt_sh _ _,lt_sh _ _⟩
end Go.Proofs.Tryz
end
section
namespace Go.Proofs.Tryz
open Go.AM
set_option maxRecDepth 100000
theorem bysL_txt {l:List Int} (h:∀z∈l,0≤z∧z≤255):bysL (txtL l)=l:=by
 unfold bysL txtL
 rw [List.map_map]
 conv=>rhs;rw [←List.map_id l]
 refine List.map_congr_left fun z hz=>?_
 have:=h z hz
 simp only [Function.comp_apply,id]
 rw [UInt8.toNat_ofNat']
 omega
theorem lt_bys {f n:Int} (h1:0≤f+n) (h2:f+n≤255):bysL (lt1 f n)=[f+n]:=bysL_txt fun z hz=>by
 rw [List.mem_singleton] at hz;subst hz;exact ⟨h1,h2⟩
theorem lt_inj {f n m:Int} (h1:0≤f+n) (h2:f+n≤255) (h3:0≤f+m) (h4:f+m≤255) (e:lt1 f n=lt1 f m):n=m:=by
 have:=congrArg bysL e
 rw [lt_bys h1 h2,lt_bys h3 h4] at this
 have:=(List.cons.inj this).1
 omega
theorem lt_name {f n:Int} (h1:97≤f+n) (h2:f+n≤122):nameOk (lt1 f n)=true:=by
 unfold nameOk
 rw [lt_bys (by omega) (by omega),lt_size]
 simp [okL,byteOk,h1,h2]
theorem fst00:fst0 [0,0]=0:=by decide
theorem ofN_b {x:Nu} (h:U8s x):0≤ofN x∧ofN x<8∧Int.tmod x.1 8≠ofN x:=by
 obtain ⟨⟨a1,a2⟩,⟨b1,b2⟩,_⟩:=h
 have ta:=tm8 a1 8 (by omega)
 have tb:=tm8 b1 8 (by omega)
 have tg:=tm8 (show 0≤Int.tmod x.2.1 8+1 by omega) 8 (by omega)
 unfold ofN
 split
 ·rename_i e
  refine ⟨tg.1,tg.2,?_⟩
  rw [e,Int.tmod_eq_emod_of_nonneg (by omega:0≤Int.tmod x.2.1 8+1)]
  omega
 ·rename_i e
  exact ⟨tb.1,tb.2,e⟩
theorem chk_mk {x:Nu} (h:U8s x):chk (mkM x)=0:=by
 have ho:=ofN_b h
 obtain ⟨⟨a1,a2⟩,⟨b1,b2⟩,⟨c1,c2⟩,d1,d2⟩:=h
 have ta:=tm8 a1 8 (by omega)
 have tc:=tm8 c1 3 (by omega)
 have te:=td_b c1 c2
 have tf:=tm8 te.1 12 (by omega)
 have n1:nameOk (lt1 97 (Int.tmod x.1 8))=true:=lt_name (by omega) (by omega)
 have n2:nameOk (lt1 97 (ofN x))=true:=lt_name (by omega) (by omega)
 have n3:nameOk (lt1 120 (Int.tmod x.2.2.1 3))=true:=lt_name (by omega) (by omega)
 have n4:lt1 97 (ofN x)≠lt1 97 (Int.tmod x.1 8):=fun e=>ho.2.2 (lt_inj (by omega) (by omega) (by omega) (by omega) e).symm
 have n5 : -1000≤Int.tmod (Int.tdiv x.2.2.1 3) 12 - 3∧Int.tmod (Int.tdiv x.2.2.1 3) 12 - 3≤1000:=by omega
 unfold mkM
 simp only
 split
 ·simp [chk,chkOf,chkEn,n1,n3,n5,fst00]
 ·split
  ·simp [chk,chkOf,chkEn,n1,n2,n4,fst00]
  ·simp [chk,chkOf,chkEn,n1,n2,n3,n4,n5,fst00]
theorem tell_ok {L:List Mg} {m:Mg} (hc:chk m=0) (hl:L.length+1≤60):tellB L m=(0,insM L m):=by
 unfold tellB
 have:=insM_len (L:=L) (m:=m)
 rw [if_pos hc,if_neg (by omega)]
def Gd (l:List Mg):Prop:=∀m∈l,chk m=0
theorem fold_mem : ∀ {l L : List Mg}, OKB L → Gd l → L.length + l.length ≤ 60 → ∀ x, x ∈ l.foldl (fun L m => (tellB L m).2) L ↔ x ∈ L ∨ x ∈ l
 |[],L,_,_,_,x=>by simp
 |m::l,L,h,hg,hl,x=>by
  rw [List.length_cons] at hl
  have hc:=hg m (List.mem_cons_self ..)
  have ht:=tell_ok (L:=L) hc (by omega)
  have h2:=h.tell m
  rw [ht] at h2
  have:=insM_len (L:=L) (m:=m)
  rw [List.foldl_cons,ht,fold_mem h2 (fun z hz=>hg z (List.mem_cons_of_mem _ hz)) (by simp only;omega)]
  simp only [insM_mem h.s,List.mem_cons]
  constructor
  ·rintro ((h | h) | h)
   ·exact .inr (.inl h)
   ·exact .inl h
   ·exact .inr (.inr h)
  ·rintro (h | h | h)
   ·exact .inl (.inr h)
   ·exact .inl (.inl h)
   ·exact .inr h
theorem told_mem {l:List Mg} (hg:Gd l) (hl:l.length≤60) (x:Mg):x∈toldL l↔x∈l:=by
 have:=fold_mem OKB.nil hg (by simpa using hl) x
 simpa [toldL] using this
theorem made_gd {p:List Nu} (h:∀x∈p,U8s x):Gd (madeL p):=fun m hm=>by
 obtain ⟨x,hx,rfl⟩:=List.mem_map.1 hm
 exact chk_mk (h x (List.mem_of_mem_take hx))
theorem made_sh (p:List Nu):∀m∈madeL p,ShM m:=fun m hm=>by
 obtain ⟨x,hx,rfl⟩:=List.mem_map.1 hm
 exact mk_sh x
theorem kT {L:List Mg} (h:OKB L) {m:Mg} (hm:ShM m) (hc:chk m=0) (hl:L.length+1≤60):run0 (FH20 (m.1,m.2.1,m.2.2.1,m.2.2.2.1,m.2.2.2.2) (bk L))=some (0,bk (insM L m),()):=by
 have:=kH20 h.s h.len hm
 rw [tell_ok hc hl] at this
 exact this
end Go.Proofs.Tryz
end
section
namespace Go.Proofs.Tryz
open Go.AM
set_option maxRecDepth 100000
theorem SL.nd {L:List Mg} (h:SL L):L.Nodup:=List.Pairwise.imp (fun {a b} h e=>by subst e;rw [dlt_irf kM] at h;cases h) h
def acc3:List ByteArray:=[bs [120],bs [121],bs [122]]
def id8:List ByteArray:=[bs [97],bs [98],bs [99],bs [100],bs [101],bs [102],bs [103],bs [104]]
abbrev B2:=List (Mg×Bool)×List (Mg×Bool)×Unit
end Go.Proofs.Tryz
end
section
namespace Go.Proofs.Tryz
open Go.AM
set_option maxRecDepth 100000
end Go.Proofs.Tryz
end
section
namespace Go.Proofs.Tryz
open Go.AM
set_option maxRecDepth 100000
abbrev u8T:Ty:=.int .u8
abbrev nuT:Ty:=.prod u8T (.prod u8T (.prod u8T u8T))
theorem u8_of {z:Int} (h:Wf u8T z):U8 z:=by
 have e1:IntKind.u8.min=0:=by decide
 have e2:IntKind.u8.max=255:=by decide
 simp only [Wf,e1,e2] at h
 exact h
theorem nu_of {x:Nu} (h:Wf nuT x):U8s x:=⟨u8_of h.1,u8_of h.2.1,u8_of h.2.2.1,u8_of h.2.2.2⟩
end Go.Proofs.Tryz
end
section
namespace Go.Proofs.Tryz
open Go.AM
set_option maxRecDepth 100000
def sev (m:Mg):Mg:=if m.2.1=3 then m else (m.1,m.2.1,m.2.2.1,m.2.2.2.1,7)
structure KS where
 met:List (ByteArray×Bool)
 out:List Mg
 s:Int
def kStep (z:KS) (m:Mg):KS:=if mgetL .str false z.met m.1=true then z else ⟨msetL .str z.met m.1 true,z.out++[sev m],if m.2.1=1 then z.s+7 else z.s⟩
structure KI (z:KS):Prop where
 cam:Cam .str z.met
 met:∀x,mgetL .str false z.met x=true↔x∈z.out.map (·.1)
 nd:(z.out.map (·.1)).Nodup
 gd:Gd z.out
 sh:∀m∈z.out,ShM m
 am:∀m∈z.out,m.2.1≠3→m.2.2.2.2=7
 s:z.s=7 * ((z.out.filter fun m=>decide (m.2.1=1)).length:Int)
theorem sev_k (m:Mg):(sev m).1=m.1∧(sev m).2.1=m.2.1:=by unfold sev;split<;>exact ⟨rfl,rfl⟩
theorem sev_chk {m:Mg} (h:chk m=0):chk (sev m)=0:=by
 unfold sev
 split
 ·exact h
 ·rename_i h3
  unfold chk at h ⊢
  simp only at h ⊢
  split at h
  ·cases h
  rename_i hk
  rw [if_neg hk]
  split at h
  ·rename_i hn
   rw [if_pos hn]
   have e1:chkOf (m.1,m.2.1,m.2.2.1,m.2.2.2.1,(7:Int))=chkOf m:=rfl
   rw [e1]
   unfold fst0 at h ⊢
   have h1:chkOf m=0:=by
    by_cases h1:chkOf m=0
    ·exact h1
    ·simp [h1] at h
   have h2:chkEn m=0:=by
    by_cases h2:chkEn m=0
    ·exact h2
    ·simp [h1,h2] at h
   have h4:chkEn (m.1,m.2.1,m.2.2.1,m.2.2.2.1,(7:Int))=0:=by
    unfold chkEn at h2 ⊢
    rw [if_neg h3] at h2
    simp only
    rw [if_neg h3]
    split at h2
    ·rename_i hn;rw [if_pos hn,if_pos (by omega)]
    ·cases h2
   simp [h1,h4]
  ·cases h
theorem kStep_ok {z:KS} {m:Mg} (h:KI z) (hc:chk m=0) (hs:ShM m):KI (kStep z m):=by
 unfold kStep
 split
 ·exact h
 ·rename_i hm
  have hk:=sev_k m
  have hni:m.1∉z.out.map (·.1):=fun hi=>hm ((h.met m.1).2 hi)
  refine ⟨h.cam.mset kS,fun x=>?_,?_,?_,?_,?_,?_⟩
  ·simp only
   rw [mget_mset kS h.cam,List.map_append,List.mem_append,List.map_cons,List.map_nil,List.mem_singleton,hk.1]
   simp only [deq_str,decide_eq_true_eq]
   by_cases e:x=m.1
   ·subst e;simp
   ·rw [if_neg e,h.met x];simp [e]
  ·rw [List.map_append, List.nodup_append]
   refine ⟨h.nd,by simp,fun a ha b hb=>?_⟩
   simp only [List.map_cons,List.map_nil,List.mem_singleton] at hb
   rintro rfl
   rw [hb,hk.1] at ha
   exact hni ha
  ·intro x hx
   rcases List.mem_append.1 hx with hx|hx
   ·exact h.gd x hx
   ·rw [List.mem_singleton] at hx;subst hx;exact sev_chk hc
  ·intro x hx
   rcases List.mem_append.1 hx with hx|hx
   ·exact h.sh x hx
   ·rw [List.mem_singleton] at hx; subst hx
    unfold sev;split
    ·exact hs
    ·exact hs
  ·intro x hx
   rcases List.mem_append.1 hx with hx|hx
   ·exact h.am x hx
   ·rw [List.mem_singleton] at hx; subst hx
    intro h3
    rw [hk.2] at h3
    unfold sev;rw [if_neg h3]
  ·simp only [List.filter_append, List.length_append]
   by_cases h1:m.2.1=1
   ·have e : [sev m].filter (fun m => decide (m.2.1 = 1)) = [sev m] := by rw [List.filter_cons_of_pos (by rw [hk.2]; simpa using h1)]; rfl
    rw [if_pos h1,h.s,e];simp;omega
   ·have e : [sev m].filter (fun m => decide (m.2.1 = 1)) = [] := by rw [List.filter_cons_of_neg (by rw [hk.2]; simpa using h1)]; rfl
    rw [if_neg h1,h.s,e];simp
theorem nd_inj : ∀ {l : List Mg}, (l.map (·.1)).Nodup → ∀ {a b : Mg}, a ∈ l → b ∈ l → a.1 = b.1 → a = b
 |[],_,_,_,h,_,_=>by cases h
 |m::l,hn,a,b,ha,hb,e=>by
  rw [List.map_cons,List.nodup_cons] at hn
  rcases List.mem_cons.1 ha with h1|h1<;>rcases List.mem_cons.1 hb with h2|h2
  ·rw [h1,h2]
  ·exact (hn.1 (List.mem_map.2 ⟨b,h2,by rw [←e,h1]⟩)).elim
  ·exact (hn.1 (List.mem_map.2 ⟨a,h1,by rw [e,h2]⟩)).elim
  ·exact nd_inj hn.2 h1 h2 e
theorem cnt_all {l:List Mg} (hg:Gd l) (hl:l.length≤60) (hn:(l.map (·.1)).Nodup) (x:Mg):x∈cnt (toldL l)↔x∈l:=by
 rw [cnt_iff (OKB.told l).s,told_mem hg hl]
 refine ⟨fun h=>h.1,fun h=>⟨h,fun y hy e=>.inl ?_⟩⟩
 exact nd_inj hn ((told_mem hg hl y).1 hy) h e
def only (Z:Zs) (y:Int):Prop:=CZ Z∧∀z,inZ Z z↔z=y
theorem only_list {Z:Zs} {y:Int} (h:only Z y):Z=[(y,())]:=by
 have h1:CZ (msetL (.int .i64) ([]:Zs) y ()):=CZ.put .nil y
 exact h.1.ext h1 fun z=>by rw [h.2];exact ⟨fun e=>(inZ_put .nil).2 (.inl e),fun h=>((inZ_put .nil).1 h).elim id fun h=>by cases h⟩
theorem only_next {f:ByteArray→Int} {can:Zs} {vs:List ByteArray} {y n:Int} (h:only can y) (hv:vs≠[]) (hf:∀v∈vs,f v=n):only (nextS f can vs) (y+n):=by
 refine ⟨nextS_ok.1,fun z=>?_⟩
 rw [nextS_ok.2]
 constructor
 ·rintro ⟨v, hv, x, hx, rfl⟩
  rw [(h.2 x).1 hx,hf v hv]
 ·rintro rfl
  obtain ⟨v,hv⟩:=List.exists_mem_of_ne_nil _ hv
  exact ⟨v,hv,y,(h.2 y).2 rfl,by rw [hf v hv]⟩
theorem only_sum {c : List Mg} {f : ByteArray → Int} {n : Int} : ∀ {ts : List ByteArray} {can : Zs} {y : Int}, only can y → (∀ t ∈ ts, ver c t ≠ [] ∧ ∀ v ∈ ver c t, f v = n) → only (sumZ c f ts can) (y + n * ts.length)
 |[],_,y,h,_=>by simpa [sumZ] using h
 |t::ts,can,y,h,ht=>by
  have h1:=ht t (List.mem_cons_self ..)
  have:=only_sum (ts:=ts) (only_next h h1.1 h1.2) fun t h=>ht t (List.mem_cons_of_mem _ h)
  have e:y+n+n * (ts.length:Int)=y+n * ((ts.length+1:Nat):Int):=by
   rw [Int.natCast_add,Int.mul_add];omega
  rw [e] at this
  exact this
theorem sum7 {c:List Mg} (hs:SI c) (hc:∀m∈c,chk m=0) (h7:∀m∈c,m.2.1≠3→m.2.2.2.2=7):sumL c=(7 * ((tks c).length:Int),7 * ((tks c).length:Int)):=by
 have h:=only_sum (c:=c) (f:=fT c) (n:=7) (ts:=tks c) (can:=zero1Z) (y:=0) zero1Z_ok fun t ht=>by
  have h1:=tks_of hs ht
  refine ⟨ver_ne hs h1,fun v hv=>?_⟩
  obtain ⟨h2,h3⟩:=ver_msg hs h1.1 h1.2 hv
  exact h7 _ (msg_mem hs h2).1 (by omega)
 unfold sumL sumsL
 rw [only_list h]
 simp [endsL]
theorem tks_cnt {l:List Mg} (hg:Gd l) (hl:l.length≤60) (hn:(l.map (·.1)).Nodup):(tks (cnt (toldL l))).length=(l.filter fun m=>decide (m.2.1=1)).length:=by
 have h1:(cnt (toldL l)).Nodup:=List.Pairwise.imp (fun {a b} h e=>by subst e;rw [show slt a.1 a.1=false from dlt_irf (t:=.str) kS a.1] at h;cases h) (cnt_si (toldL l))
 have h2:l.Nodup:=(List.pairwise_map.1 hn).imp fun h e=>h (by rw [e])
 have hp:(cnt (toldL l)).Perm l:=(List.perm_ext_iff_of_nodup h1 h2).2 fun x=>cnt_all hg hl hn x
 unfold tks
 rw [List.length_map]
 exact (hp.filter _).length_eq
theorem kH29_v1 {l:List Mg} (hl:l.length<1000000000) (hs:∀m∈l,ShM m):run0 (FH29_v1 l.length l)=some (l,bk (toldL l),()):=by
 unfold FH29_v1
 simp only [run_bd,FH18,run_ret,bindO_s,run_it]
 refine bind_eq (iter_list l (fun k (L:List Mg)=>(l.length,(k:Int),l,bk L,())) (fun L r=>(l,bk (r.foldl (fun L m=>(tellB L m).2) L),())) (fun _ L=>OKB L) ?_ ?_ (s:=[]) OKB.nil) rfl
 ·intro pre x post L hx hL
  have hlen:l.length=pre.length+(post.length+1):=by rw [hx];simp
  have hd:l.getD pre.length (bs [],(0:Int),bs [],bs [],(0:Int))=x:=by rw [hx];exact getD_mid rfl
  have hin:inb (pre.length:Int) (l.length:Int)=true:=inb_t (by omega) (by omega)
  have hni:rng .i64 ((pre.length:Int)+1)=true:=rng_i64 (by omega) (by omega)
  have d1:decide (pre.length<l.length)=true:=decide_eq_true (by omega)
  left
  refine ⟨(tellB L x).2,?_,hL.tell x,rfl⟩
  simp only [gH29_v1_0,run_br,run_nb,run_nd,run_ni,run_ret,run_bd,Int.toNat_natCast,Nat.zero_add,br_d,hin,hni,d1,need_true]
  rw [if_pos (by omega)]
  have hk:=kH20 hL.s hL.len (hs x (by rw [hx];simp))
  rw [hd]
  rw [bind_of (show run0 (FH20 (x.1,x.2.1,x.2.2.1,x.2.2.2.1,x.2.2.2.2) (bk L))=_ from hk)]
  rfl
 ·intro L _
  simp only [gH29_v1_0,run_br,run_ret,br_d]
  rw [if_neg (by omega)]
  rfl
theorem kLoop7 {l:List Mg} (hl:l.length≤10) (hg:Gd l) (hS:∀m∈l,ShM m):∃z:KS,KI z∧z.out.length≤10∧iter (fun x=>run0 (g7_0 x)) ((0:Int),(0:Nat),l,((l.length:Nat):Int),(0:Int),[],[],())=some (z.s,z.out.length,z.out,()):=by
 have h0:KI ⟨[],[],0⟩:=⟨.nil,fun x=>by simp [mgetL],.nil,fun m h=>(by cases h),fun m h=>(by cases h),fun m h=>(by cases h),rfl⟩
 have hfold:∀(r:List Mg) (z:KS),KI z→(∀m∈r,m∈l)→KI (r.foldl kStep z)∧(r.foldl kStep z).out.length≤z.out.length+r.length:=by
  intro r
  induction r with
  |nil=>intro z h _;exact ⟨h,by simp⟩
  |cons m r ih =>
   intro z h hm
   obtain ⟨h1,h2⟩:=ih (kStep z m) (kStep_ok h (hg m (hm m (List.mem_cons_self ..))) (hS m (hm m (List.mem_cons_self ..)))) fun x hx=>hm x (List.mem_cons_of_mem _ hx)
   refine ⟨h1,Nat.le_trans h2 ?_⟩
   have:(kStep z m).out.length≤z.out.length+1:=by unfold kStep;split<;>simp
   simp only [List.length_cons];omega
 obtain ⟨q1,q2⟩:=hfold l _ h0 fun m h=>h
 refine ⟨l.foldl kStep ⟨[],[],0⟩,q1,by simpa using Nat.le_trans q2 (by simpa using hl),?_⟩
 refine iter_list l (fun k (z:KS)=>(z.s,z.out.length,l,((l.length:Nat):Int),(k:Int),z.met,z.out,())) (fun z r=>((r.foldl kStep z).s,(r.foldl kStep z).out.length,(r.foldl kStep z).out,())) (fun pre z=>KI z∧z.out.length≤pre.length ∧ -100≤z.s∧z.s≤7 * pre.length) ?_ ?_ (s:=⟨[],[],0⟩) ⟨h0,by simp,by simp,by simp⟩
 ·rintro pre m post z hx ⟨hz, hzl, hs1, hs2⟩
  have hlen:l.length=pre.length+(post.length+1):=by rw [hx];simp
  have hd:l.getD pre.length (bs [],(0:Int),bs [],bs [],(0:Int))=m:=by rw [hx];exact getD_mid rfl
  have i1:inb (pre.length:Int) ((l.length:Nat):Int)=true:=inb_t (by omega) (by omega)
  have r1:rng .i64 ((pre.length:Int)+1)=true:=rng_i64 (by omega) (by omega)
  have r2:rng .i64 (z.s+7)=true:=rng_i64 (by omega) (by omega)
  have d1:decide (z.out.length+1<bigL)=true:=decide_eq_true (by rw [bigL_eq];omega)
  have hml:m∈l:=by rw [hx];simp
  have hto:z.out.take z.out.length=z.out:=List.take_length
  left
  refine ⟨kStep z m,?_,⟨kStep_ok hz (hg m hml) (hS m hml),?_,?_,?_⟩,rfl⟩
  ·unfold g7_0 kStep
   simp only [run_br,run_nb,run_nd,run_ni,run_jx,run_bd,run_ret,Int.toNat_natCast,hd,i1,r1,need_true,br_d,br_not,br_eq]
   rw [if_pos (by omega),br_if]
   by_cases hm:mgetL .str false z.met m.1=true
   ·rw [if_pos hm,if_pos hm];rfl
   ·rw [if_neg hm, if_neg hm]
    unfold sev
    by_cases h3:m.2.1=3
    ·have h1 : m.2.1 ≠ 1 := by omega
     simp only [if_pos h3,if_neg h1,bindO_s,onS,List.drop_zero,List.take_succ_cons,List.take_zero,List.length_cons,List.length_nil,Nat.zero_add,d1,r1,need_true,hto,List.length_append]
     rfl
    ·by_cases h1 : m.2.1 = 1
     ·simp only [if_neg h3, if_pos h1, bindO_s, onS, List.drop_zero, List.take_succ_cons, List.take_zero, List.length_cons, List.length_nil, Nat.zero_add, d1, r1, r2, need_true, hto, List.length_append]
      rfl
     ·simp only [if_neg h3, if_neg h1, bindO_s, onS, List.drop_zero, List.take_succ_cons, List.take_zero, List.length_cons, List.length_nil, Nat.zero_add, d1, r1, need_true, hto, List.length_append]
      rfl
  ·unfold kStep;split<;>simp<;>omega
  ·unfold kStep; split
   ·exact hs1
   ·simp only;split<;>omega
  ·have : ((pre ++ [m]).length : Int) = pre.length + 1 := by simp
   unfold kStep;split
   ·omega
   ·simp only;split<;>omega
 ·rintro z _
  unfold g7_0
  simp only [run_br,run_ret,br_d]
  rw [if_neg (by omega)]
  rfl
theorem k7 {p:List Nu} (hp:∀x∈p,U8s x):run0 (F7 p)=some (true,()):=by
 have hml:=madeL_len p
 obtain ⟨z,hz,hzl,hi⟩:=kLoop7 hml (made_gd hp) (made_sh p)
 have ho:=OKB.told z.out
 have hsum:=sum7 (cnt_si (toldL z.out)) (cnt_chk ho) fun m hm h3=>hz.am m ((cnt_all hz.gd (by omega) hz.nd m).1 hm) h3
 rw [tks_cnt hz.gd (by omega) hz.nd,←hz.s] at hsum
 unfold F7
 simp only [run_bd]
 rw [bind_of (k28 hp)]
 simp only [run_it]
 rw [bind_of hi]
 simp only
 rw [bind_of (kH29_v1 (by omega) hz.sh)]
 simp only
 rw [bind_of (kH37 ho),hsum]
 simp only [run_br,beq_self_eq_true,Bool.and_self,brO_true,run_bd]
 rw [bind_of k17]
 rfl
end Go.Proofs.Tryz
end
section
namespace Go.Proofs.Tryz
open Go.AM
set_option maxRecDepth 100000
section
variable {c:List Mg}
def thr (c:List Mg) (x:ByteArray):Bool:=c.any fun m=>decide (m.1=x∧m.2.1≠3)
def strB (c:List Mg) (x:Mg):Bool:=thr c x.2.2.1 && !rulB c x.1&&decide ((c.filter fun m=>decide (m.2.1=2∧m.2.2.1=x.2.2.1∧m.1≠x.1∧rulB c m.1=true)).length=1)
theorem thr_iff (hs:SI c) {x:ByteArray}:thr c x=true↔isM c x=true∧(msg c x).2.1≠3:=by
 unfold thr
 rw [List.any_eq_true]
 constructor
 ·rintro ⟨m, hm, h⟩
  obtain ⟨rfl,h3⟩:=of_decide_eq_true h
  exact ⟨isM_iff.2 (List.mem_map.2 ⟨m,hm,rfl⟩),by rw [msg_of hs hm];exact h3⟩
 ·rintro ⟨h1, h3⟩
  obtain ⟨h4,h5⟩:=msg_mem hs h1
  exact ⟨msg c x,h4,decide_eq_true ⟨h5,h3⟩⟩
theorem thrB_eq (hs:SI c) (x:ByteArray):thrB c x=thr c x:=by
 rw [Bool.eq_iff_iff,thr_iff hs]
 unfold thrB
 rw [Bool.and_eq_true,Bool.not_eq_true',beq_eq_false_iff_ne]
 exact Iff.rfl
theorem kid_of {m:Mg} (hm:m∈c) (h:m.2.1=2):m.1∈kids c m.2.2.1:=kids_iff.2 ⟨m,hm,rfl,h,rfl⟩
theorem strB_iff (hs:SI c) {x:Mg} (hx:x∈c) (hk:x.2.1=2):strB c x=true↔x.1∈dir c (x.2.2.1,kids c x.2.2.1):=by
 have hxk:=kid_of hx hk
 have hlen:rulB c x.1=false→(c.filter fun m=>decide (m.2.1=2∧m.2.2.1=x.2.2.1∧m.1≠x.1∧rulB c m.1=true)).map (·.1)=(kids c x.2.2.1).filter (rulB c):=by
  intro hr
  unfold kids
  rw [List.filter_map,List.filter_filter]
  refine congrArg (List.map _) (List.filter_congr fun m hm=>?_)
  rw [Bool.eq_iff_iff]
  simp only [Function.comp_apply,Bool.and_eq_true,decide_eq_true_eq]
  constructor
  ·rintro ⟨h1,h2,_,h4⟩;exact ⟨h4,h1,h2⟩
  ·rintro ⟨h4, h1, h2⟩
   exact ⟨h1,h2,(fun e=>by rw [e,hr] at h4;cases h4),h4⟩
 unfold strB dir
 rw [←thrB_eq hs]
 simp only [Bool.and_eq_true,Bool.not_eq_true',decide_eq_true_eq]
 constructor
 ·rintro ⟨⟨h1, h2⟩, h3⟩
  rw [if_pos h1]
  have h4:=hlen h2
  have h5:((kids c x.2.2.1).filter (rulB c)).length=1:=by rw [←h4,List.length_map];exact h3
  obtain ⟨o,ho⟩:=List.length_eq_one_iff.1 h5
  rw [ho]
  refine List.mem_filter.2 ⟨hxk,?_⟩
  have h6:rulB c o=true:=(List.mem_filter.1 (show o∈(kids c x.2.2.1).filter (rulB c) by rw [ho];exact List.mem_singleton.2 rfl)).2
  simp only [Bool.not_eq_true',decide_eq_false_iff_not]
  intro e;rw [e,h6] at h2;cases h2
 ·intro h
  split at h
  ·rename_i h1
   split at h
   ·rename_i o ho
    obtain ⟨_,h2⟩:=List.mem_filter.1 h
    simp only [Bool.not_eq_true',decide_eq_false_iff_not] at h2
    have hr:rulB c x.1=false:=by
     cases hr:rulB c x.1 with
     |false=>rfl
     |true =>
      have:x.1∈(kids c x.2.2.1).filter (rulB c):=List.mem_filter.2 ⟨hxk,hr⟩
      rw [ho,List.mem_singleton] at this
      exact absurd this h2
    have h4:=congrArg List.length (hlen hr)
    rw [List.length_map,ho] at h4
    exact ⟨⟨h1,hr⟩,h4⟩
   ·cases h
  ·cases h
def par (c:List Mg) (m:Mg):Option Mg:=c.find? fun x=>decide (x.1=m.2.2.1∧x.2.1≠3)
def way (c : List Mg) : Nat → Mg → List Mg
 |0,_=>[]
 |n+1,m=>m::(if m.2.1=1 then [] else match par c m with|some x=>way c n x|none=>[])
theorem par_mem {m x:Mg} (h:par c m=some x):x∈c∧x.1=m.2.2.1∧x.2.1≠3:=by
 have h1:=List.find?_some h
 have h2:=List.mem_of_find?_eq_some h
 exact ⟨h2,(of_decide_eq_true h1).1,(of_decide_eq_true h1).2⟩
theorem par_of (hs:SI c) {m x:Mg} (hx:x∈c) (h1:x.1=m.2.2.1) (h3:x.2.1≠3):par c m=some x:=by
 cases h:par c m with
 |none =>
  have:=List.find?_eq_none.1 h x hx
  exact absurd (decide_eq_true ⟨h1,h3⟩) this
 |some y =>
  obtain ⟨h4,h5,_⟩:=par_mem h
  rw [hs.inj h4 hx (by rw [h5,h1])]
end
end Go.Proofs.Tryz
end
section
namespace Go.Proofs.Tryz
open Go.AM
set_option maxRecDepth 100000
set_option maxHeartbeats 1000000
theorem k77_1 {c v13:List Mg} {v5 v6:Bool} {v7 v14 v15:Int} {v50 v52 v57 v59:ByteArray} {v53 v60:Bool} (hc:c.length<1000000000) (y x:Mg) :
  iter (fun a=>run0 (g77_1 a)) (c,v5,v6,v7,false,v13,v14,v15,v50,v52,v53,v57,v59,v60,c,((c.length:Nat):Int),(0:Int),y.1,y.2.1,y.2.2.1,y.2.2.2.1,y.2.2.2.2,x.1,x.2.1,x.2.2.1,x.2.2.2.1,x.2.2.2.2,()) =
   some (c,v5,v6,v7,rulB c x.1,v13,v14,v15,v50,v52,v53,v57,v59,v60,y.1,y.2.1,y.2.2.1,y.2.2.2.1,y.2.2.2.2,()):=by
 refine iter_list c (fun k (b : Bool) => (c, v5, v6, v7, b, v13, v14, v15, v50, v52, v53, v57, v59, v60, c, ((c.length : Nat) : Int), (k : Int), y.1, y.2.1, y.2.2.1, y.2.2.2.1, y.2.2.2.2, x.1, x.2.1, x.2.2.1, x.2.2.2.1, x.2.2.2.2, ()))
  (fun b r=>(c,v5,v6,v7,b||rulB r x.1,v13,v14,v15,v50,v52,v53,v57,v59,v60,y.1,y.2.1,y.2.2.1,y.2.2.2.1,y.2.2.2.2,())) (fun _ _=>True) ?_ ?_ (s:=false) trivial
 ·intro pre z post b hz _
  have hlen:c.length=pre.length+(post.length+1):=by rw [hz];simp
  have hd:c.getD pre.length (bs [],(0:Int),bs [],bs [],(0:Int))=z:=by rw [hz];exact getD_mid rfl
  have i1:inb (pre.length:Int) ((c.length:Nat):Int)=true:=inb_t (by omega) (by omega)
  have r1:rng .i64 ((pre.length:Int)+1)=true:=rng_i64 (by omega) (by omega)
  left
  refine ⟨b||decide (z.2.1=3∧z.2.2.1=x.1),?_,trivial,by simp only [rulB,List.any_cons,Bool.or_assoc]⟩
  simp only [g77_1,run_br,run_nb,run_ni,run_ret,Int.toNat_natCast,hd,i1,r1,need_true,br_d,br_eq,seq_eq]
  rw [if_pos (by omega)]
  cases b
  ·rw [brO_false]
   by_cases h3:z.2.1=3
   ·rw [if_pos h3];simp [h3]
   ·rw [if_neg h3];simp [h3]
  ·rw [brO_true];simp
 ·intro b _
  simp only [g77_1,run_br,run_ret,br_d]
  rw [if_neg (by omega)]
  simp [rulB]
def st77 (c:List Mg) (y:Mg) (s:Bool×Bool×Nat) (z:Mg):Bool×Bool×Nat :=
 (s.1||decide (z.1=y.2.2.1∧z.2.1≠3),s.2.1||decide (z.2.1=3∧z.2.2.1=y.1),if z.2.1=2∧z.2.2.1=y.2.2.1∧z.1≠y.1∧rulB c z.1=true then s.2.2+1 else s.2.2)
theorem st77_all (c : List Mg) (y : Mg) : ∀ (l : List Mg) (s : Bool × Bool × Nat), l.foldl (st77 c y) s = (s.1 || thr l y.2.2.1, s.2.1 || rulB l y.1, s.2.2 + (l.filter fun m => decide (m.2.1 = 2 ∧ m.2.2.1 = y.2.2.1 ∧ m.1 ≠ y.1 ∧ rulB c m.1 = true)).length)
 |[],s=>by simp [thr,rulB]
 |z::l,s=>by
  rw [List.foldl_cons,st77_all c y l]
  unfold st77 thr rulB
  simp only [List.any_cons,Bool.or_assoc,List.filter_cons,decide_eq_true_eq]
  congr 2
  split<;>simp<;>omega
theorem k77 {c:List Mg} (hc:c.length<1000000000) (y:Mg):run0 (F77 c y)=some (strB c y,()):=by
 have hit:iter (fun a=>run0 (g77_0 a)) (c,false,false,(0:Int),c,((c.length:Nat):Int),(0:Int),y.1,y.2.1,y.2.2.1,y.2.2.2.1,y.2.2.2.2,()) =
   some ((c.foldl (st77 c y) (false,false,0)).1,(c.foldl (st77 c y) (false,false,0)).2.1,(((c.foldl (st77 c y) (false,false,0)).2.2:Nat):Int),()):=by
  refine iter_list c (fun k (s : Bool × Bool × Nat) => (c, s.1, s.2.1, ((s.2.2 : Nat) : Int), c, ((c.length : Nat) : Int), (k : Int), y.1, y.2.1, y.2.2.1, y.2.2.2.1, y.2.2.2.2, ()))
   (fun s r=>((r.foldl (st77 c y) s).1,(r.foldl (st77 c y) s).2.1,(((r.foldl (st77 c y) s).2.2:Nat):Int),())) (fun pre s=>s.2.2≤pre.length) ?_ ?_ (s:=(false,false,0)) (Nat.le_refl _)
  ·rintro pre z post ⟨a, b, n⟩ hz hn
   have hlen:c.length=pre.length+(post.length+1):=by rw [hz];simp
   have hd:c.getD pre.length (bs [],(0:Int),bs [],bs [],(0:Int))=z:=by rw [hz];exact getD_mid rfl
   have i1:inb (pre.length:Int) ((c.length:Nat):Int)=true:=inb_t (by omega) (by omega)
   have r1:rng .i64 ((pre.length:Int)+1)=true:=rng_i64 (by omega) (by omega)
   simp only at hn
   have r2:rng .i64 ((n:Int)+1)=true:=rng_i64 (by omega) (by omega)
   left
   refine ⟨st77 c y (a,b,n) z,?_,?_,rfl⟩
   ·unfold st77
    simp only [g77_0,run_br,run_nb,run_ni,run_ret,run_bd,run_it,Int.toNat_natCast,hd,i1,r1,need_true,br_not,seq_eq,k77_1 hc,bindO_s,br_if]
    rw [if_pos (show decide ((pre.length:Int)<((c.length:Nat):Int))=true from decide_eq_true (by omega))]
    generalize hk:z.2.1=k
    generalize hi:z.1=i
    generalize ho:z.2.2.1=o
    have hr0:rulB c z.1=rulB c i:=by rw [hi]
    by_cases h3:k=3
    ·have h2 : k ≠ 2 := by omega
     rcases Classical.propComplete (i=y.2.2.1) with h1|h1<;>cases a<;>cases b<;>simp [h3,h1]
    ·by_cases h2 : k = 2
     ·rcases Classical.propComplete (i=y.2.2.1) with h1|h1<;>rcases Classical.propComplete (o=y.2.2.1) with h4|h4<;>rcases Classical.propComplete (i=y.1) with h5|h5<;>cases hr:rulB c i<;>cases a<;>cases b<;>simp [h2,h1,h4,h5,r2]
     ·rcases Classical.propComplete (i=y.2.2.1) with h1|h1<;>cases a<;>cases b<;>simp [h2,h3,h1]
   ·have : (pre ++ [z]).length = pre.length + 1 := by simp
    rw [this]
    unfold st77
    simp only
    split<;>omega
  ·rintro s _
   simp only [g77_0,run_br,run_ret,br_d]
   rw [if_neg (by omega)]
   rfl
 unfold F77
 simp only [run_bd,run_it]
 rw [bind_of hit,st77_all]
 simp only [run_br,run_ret,br_not,br_if,Bool.false_or,Nat.zero_add]
 have hN:∀n:Nat,(((n:Nat):Int)==1)=decide (n=1):=fun n=>by
  rw [Bool.eq_iff_iff,beq_iff_eq,decide_eq_true_eq];omega
 unfold strB
 rw [hN]
 cases thr c y.2.2.1<;>cases rulB c y.1<;>simp
theorem k34_1 {c b1:List Mg} {nv4:Nat} {v6:Bool} {v7:Int} (hc:c.length<1000000000) (y:Mg) :
  iter (fun a=>run0 (g34_1 a)) (c,nv4,v6,v7,c,((c.length:Nat):Int),(0:Int),y.1,y.2.1,y.2.2.1,y.2.2.2.1,y.2.2.2.2,b1,()) =
   some (match par c y with|some x=>(c,nv4,v6,v7,true,x.1,x.2.1,x.2.2.1,x.2.2.2.1,x.2.2.2.2,b1,())|none=>(c,nv4,v6,v7,false,y.1,y.2.1,y.2.2.1,y.2.2.2.1,y.2.2.2.2,b1,())):=by
 refine iter_list c (fun k (_ : Unit) => (c, nv4, v6, v7, c, ((c.length : Nat) : Int), (k : Int), y.1, y.2.1, y.2.2.1, y.2.2.2.1, y.2.2.2.2, b1, ()))
  (fun _ r=>match par r y with|some x=>(c,nv4,v6,v7,true,x.1,x.2.1,x.2.2.1,x.2.2.2.1,x.2.2.2.2,b1,())|none=>(c,nv4,v6,v7,false,y.1,y.2.1,y.2.2.1,y.2.2.2.1,y.2.2.2.2,b1,())) (fun _ _=>True) ?_ ?_ (s:=()) trivial
 ·intro pre z post _ hz _
  have hlen:c.length=pre.length+(post.length+1):=by rw [hz];simp
  have hd:c.getD pre.length (bs [],(0:Int),bs [],bs [],(0:Int))=z:=by rw [hz];exact getD_mid rfl
  have i1:inb (pre.length:Int) ((c.length:Nat):Int)=true:=inb_t (by omega) (by omega)
  have r1:rng .i64 ((pre.length:Int)+1)=true:=rng_i64 (by omega) (by omega)
  by_cases h:z.1=y.2.2.1∧z.2.1≠3
  ·right
   have hp:par (z::post) y=some z:=by unfold par;rw [List.find?_cons_of_pos];simpa using h
   rw [hp]
   simp only [g34_1,run_br,run_nb,run_ni,run_ret,Int.toNat_natCast,hd,i1,r1,need_true,br_d,br_eq,br_not,seq_eq]
   rw [if_pos (by omega),if_pos h.1,if_neg h.2]
  ·left
   have hp:par (z::post) y=par post y:=by unfold par;rw [List.find?_cons_of_neg];simpa using h
   refine ⟨(),?_,trivial,by rw [hp]⟩
   simp only [g34_1,run_br,run_nb,run_ni,run_ret,Int.toNat_natCast,hd,i1,r1,need_true,br_d,br_eq,br_not,seq_eq]
   rw [if_pos (by omega)]
   by_cases h1:z.1=y.2.2.1
   ·rw [if_pos h1,if_pos (Classical.byContradiction fun h3=>h ⟨h1,h3⟩)];rfl
   ·rw [if_neg h1];rfl
 ·intro _ _
  simp only [g34_1,run_br,run_ret,br_d]
  rw [if_neg (by omega)]
  rfl
def chn (c : List Mg) : Nat → Mg → Bool → List Mg × Bool × Bool
 |0,_,o=>([],false,o)
 |n+1,m,o=>if m.2.1=1 then ([m],!o,o) else match par c m with
  |some x=>(m::(chn c n x (o||strB c m)).1,(chn c n x (o||strB c m)).2)
  |none=>([m],false,o||strB c m)
theorem k34_0 {c:List Mg} (hc:c.length<1000000):∀(n k:Nat) (m:Mg) (pre:List Mg) (o:Bool),k+n=9→pre.length≤k →
  (iter (fun a=>run0 (g34_0 a)) (c,pre.length,o,(k:Int),m.1,m.2.1,m.2.2.1,m.2.2.2.1,m.2.2.2.2,pre,())=some (.inl ((pre++(chn c n m o).1).length,(chn c n m o).2.1,(chn c n m o).2.2,pre++(chn c n m o).1,()))) ∨
  (iter (fun a=>run0 (g34_0 a)) (c,pre.length,o,(k:Int),m.1,m.2.1,m.2.2.1,m.2.2.2.1,m.2.2.2.2,pre,())=some (.inr ((pre++(chn c n m o).1).length,(chn c n m o).2.2,pre++(chn c n m o).1,()))∧(chn c n m o).2.1=false)
 |0,k,m,pre,o,hk,hp=>by
  right
  refine ⟨iter_inr ?_,rfl⟩
  simp only [g34_0,run_br,run_ret,br_d]
  rw [if_neg (by omega)]
  simp [chn]
 |n+1,k,m,pre,o,hk,hp=>by
  have e1:((([(m.1,m.2.1,m.2.2.1,m.2.2.2.1,m.2.2.2.2)]:List Mg).drop 0).take 1)=[m]:=rfl
  have e2:(pre.drop 0).take pre.length=pre:=by simp
  have d1:decide (pre.length+1<bigL)=true:=decide_eq_true (by rw [bigL_eq];omega)
  have r1:rng .i64 ((k:Int)+1)=true:=rng_i64 (by omega) (by omega)
  have hpl:pre.length+1=(pre++[m]).length:=by simp
  have h77:=k77 (show c.length<1000000000 by omega) m
  have h341:=fun o=>k34_1 (c:=c) (b1:=pre++[m]) (nv4:=pre.length+1) (v6:=o) (v7:=(k:Int)) (by omega) m
  by_cases h1:m.2.1=1
  ·left
   have hc':chn c (n+1) m o=([m],!o,o):=by unfold chn;rw [if_pos h1]
   rw [hc']
   refine iter_inr ?_
   simp only [g34_0,run_br,run_nd,run_ret,br_d,br_eq,e1,e2,List.length_singleton,d1,need_true]
   rw [if_pos (by omega),if_pos h1,hpl]
  ·have hs:∀o',o'=(o||strB c m)→run0 (g34_0 (c,pre.length,o,(k:Int),m.1,m.2.1,m.2.2.1,m.2.2.2.1,m.2.2.2.2,pre,()))=(match par c m with
     |some x=>some (.inl (c,pre.length+1,o',((k+1:Nat):Int),x.1,x.2.1,x.2.2.1,x.2.2.2.1,x.2.2.2.2,pre++[m],()))
     |none=>some (.inr (.inl (pre.length+1,false,o',pre++[m],())))):=by
    rintro o' rfl
    simp only [g34_0,run_br,run_nd,run_ret,run_bd,run_it,run_ni,br_d,br_eq,e1,e2,List.length_singleton,d1,need_true]
    rw [if_pos (by omega),if_neg h1]
    cases o
    ·rw [brO_false, bind_of (show run0 (F77 c (m.1, m.2.1, m.2.2.1, m.2.2.2.1, m.2.2.2.2)) = _ from h77)]
     simp only
     rw [bind_of (h341 (strB c m))]
     simp only [Bool.false_or]
     cases hp:par c m with
     |none=>simp only [Bool.not_false,brO_true]
     |some x=>simp only [Bool.not_true,brO_false,r1,need_true];rfl
    ·rw [brO_true, bind_of (h341 true)]
     simp only [Bool.true_or]
     cases hp:par c m with
     |none=>simp only [Bool.not_false,brO_true]
     |some x=>simp only [Bool.not_true,brO_false,r1,need_true];rfl
   have hs:=hs _ rfl
   cases hp':par c m with
   |none =>
    rw [hp'] at hs
    left
    have hc':chn c (n+1) m o=([m],false,o||strB c m):=by conv=>lhs;unfold chn;rw [if_neg h1,hp']
    rw [hc']
    refine iter_inr ?_
    rw [←hpl];exact hs
   |some x =>
    rw [hp'] at hs
    have hc':chn c (n+1) m o=(m::(chn c n x (o||strB c m)).1,(chn c n x (o||strB c m)).2):=by conv=>lhs;unfold chn;rw [if_neg h1,hp']
    rw [hc']
    have ih:=k34_0 hc n (k+1) x (pre++[m]) (o||strB c m) (by omega) (by simp;omega)
    rw [←hpl] at ih
    simp only [List.append_assoc,List.singleton_append] at ih
    rcases ih with ih|⟨ih,h⟩
    ·left;exact iter_inl hs ih
    ·right;exact ⟨iter_inl hs ih,h⟩
theorem k34 {c:List Mg} (hc:c.length<1000000) (m:Mg):run0 (F34 c m)=some ((chn c 9 m false).1,(chn c 9 m false).2.1,(chn c 9 m false).2.2,()):=by
 unfold F34
 simp only [run_bd,run_it]
 rcases k34_0 hc 9 0 m [] false rfl (Nat.le_refl _) with h|⟨h,hf⟩
 ·refine Eq.trans (bind_of h) ?_
  simp only [run_sl,run_ret,List.nil_append,List.drop_zero,List.take_length]
 ·refine Eq.trans (bind_of h) ?_
  rw [hf]
  simp only [run_sr,run_ret,List.nil_append,List.drop_zero,List.take_length]
def kidS (c:List Mg) (m:Mg):Bool:=c.any fun x=>decide (x.2.1=2∧x.2.2.1=m.1∧(chn c 9 x false).2.1=true)
theorem k35_0 {c w:List Mg} {s:Bool} (hc:c.length<1000000) (m:Mg) :
  iter (fun a=>run0 (g35_0 a)) (c,w,s,c,((c.length:Nat):Int),(0:Int),m.1,m.2.1,m.2.2.1,m.2.2.2.1,m.2.2.2.2,())=some (if kidS c m=true then Sum.inl (bs [],()) else Sum.inr (w,s,())):=by
 refine iter_list c (fun k (_ : Unit) => (c, w, s, c, ((c.length : Nat) : Int), (k : Int), m.1, m.2.1, m.2.2.1, m.2.2.2.1, m.2.2.2.2, ()))
  (fun _ r=>if (r.any fun x=>decide (x.2.1=2∧x.2.2.1=m.1∧(chn c 9 x false).2.1=true))=true then Sum.inl (bs [],()) else Sum.inr (w,s,())) (fun _ _=>True) ?_ ?_ (s:=()) trivial
 ·intro pre z post _ hz _
  have hlen:c.length=pre.length+(post.length+1):=by rw [hz];simp
  have hd:c.getD pre.length (bs [],(0:Int),bs [],bs [],(0:Int))=z:=by rw [hz];exact getD_mid rfl
  have i1:inb (pre.length:Int) ((c.length:Nat):Int)=true:=inb_t (by omega) (by omega)
  have r1:rng .i64 ((pre.length:Int)+1)=true:=rng_i64 (by omega) (by omega)
  have h34:run0 (F34 c (z.1,z.2.1,z.2.2.1,z.2.2.2.1,z.2.2.2.2))=_:=k34 hc z
  by_cases h:z.2.1=2∧z.2.2.1=m.1∧(chn c 9 z false).2.1=true
  ·right
   rw [if_pos (by rw [List.any_cons,decide_eq_true h];rfl)]
   simp only [g35_0,run_br,run_nb,run_ni,run_ret,run_bd,Int.toNat_natCast,hd,i1,r1,need_true,br_d,br_eq,seq_eq]
   rw [if_pos (by omega),if_pos h.1,if_pos h.2.1,bind_of h34]
   simp only [h.2.2,brO_true]
  ·left
   refine ⟨(),?_,trivial,by rw [List.any_cons,decide_eq_false h,Bool.false_or]⟩
   simp only [g35_0,run_br,run_nb,run_ni,run_ret,run_bd,Int.toNat_natCast,hd,i1,r1,need_true,br_d,br_eq,seq_eq]
   rw [if_pos (by omega)]
   by_cases h2:z.2.1=2
   ·rw [if_pos h2]
    by_cases h4:z.2.2.1=m.1
    ·rw [if_pos h4, bind_of h34]
     have:(chn c 9 z false).2.1=false:=by
      cases hh:(chn c 9 z false).2.1 with
      |false=>rfl
      |true=>exact absurd ⟨h2,h4,hh⟩ h
     simp only [this,brO_false]
     rfl
    ·rw [if_neg h4];rfl
   ·rw [if_neg h2];rfl
 ·intro _ _
  simp only [g35_0,run_br,run_ret,br_d]
  rw [if_neg (by omega)]
  simp
theorem chn_ne {c:List Mg} {n:Nat} {m:Mg} {o:Bool}:(chn c (n+1) m o).1≠[]:=by
 unfold chn
 split
 ·simp
 ·split<;>simp
theorem k35 {c:List Mg} (hc:c.length<1000000) (m:Mg):run0 (F35 c m)=some (if m.2.1=3 then (bs [],false,()) else if kidS c m=true then (bs [],false,()) else (((chn c 9 m false).1.getD ((chn c 9 m false).1.length - 1) zM).1,(chn c 9 m false).2.1,())):=by
 have h34:run0 (F34 c (m.1,m.2.1,m.2.2.1,m.2.2.2.1,m.2.2.2.2))=_:=k34 hc m
 have hne:0<(chn c 9 m false).1.length:=List.length_pos_iff.2 chn_ne
 have hle:∀(n:Nat) (m:Mg) (o:Bool),(chn c n m o).1.length≤n:=by
  intro n
  induction n with
  |zero=>intro m o;simp [chn]
  |succ n ih =>
   intro m o
   unfold chn
   split
   ·simp
   ·split
    ·simp only [List.length_cons];have:=ih ‹_› (o||strB c m);omega
    ·simp
 have hle:=hle 9 m false
 unfold F35
 simp only [run_br,run_ret,run_bd,run_it,br_eq]
 by_cases h3:m.2.1=3
 ·rw [if_pos h3,if_pos h3]
 ·rw [if_neg h3, if_neg h3, bind_of h34]
  simp only
  rw [bind_of (k35_0 hc m)]
  cases kidS c m with
  |true=>simp only [if_true,run_sl,run_ret]
  |false =>
   simp only [Bool.false_eq_true,if_false,run_sr,run_ni,run_nb,run_ret]
   rw [need_i64 (by omega) (by omega),inb_t (by omega) (by omega),need_true,show Int.toNat (((chn c 9 m false).1.length:Int) - 1)=(chn c 9 m false).1.length - 1 by omega]
end Go.Proofs.Tryz
end
section
namespace Go.Proofs.Tryz
open Go.AM
set_option maxRecDepth 100000
section
variable {c:List Mg}
def Kd3 (c:List Mg):Prop:=∀m∈c,m.2.1=1∨m.2.1=2∨m.2.1=3
def Tk (c:List Mg) (t:ByteArray):Prop:=∃m∈c,m.1=t∧m.2.1=1
def NR (c:List Mg) (t:ByteArray):Prop:=∃m∈c,m.1=t∧m.2.1≠3
theorem kid_par (hs:SI c) {m:Mg} (hm:m∈c) {y:ByteArray} (h:m.1∈kids c y):m.2.1=2∧m.2.2.1=y:=by
  obtain ⟨m',hm',e,h2,h3⟩:=kids_iff.1 h
  rw [hs.inj hm' hm e] at h2 h3;exact ⟨h2,h3⟩
theorem Tk.top (hs:SI c) {t:ByteArray} (h:Tk c t):Top c t:=by
  obtain ⟨m,hm,rfl,h1⟩:=h
  intro x hx
  have:=(kid_par hs hm hx).1
  omega
theorem Tk.ids {t:ByteArray} (h:Tk c t):t∈ids c:=by obtain ⟨m,hm,rfl,_⟩:=h;exact List.mem_map.2 ⟨m,hm,rfl⟩
theorem Tk.nr {t:ByteArray} (h:Tk c t):NR c t:=by obtain ⟨m,hm,rfl,h1⟩:=h;exact ⟨m,hm,rfl,by omega⟩
theorem kids_nr {x y:ByteArray} (h:y∈kids c x):NR c y:=by
  obtain ⟨m,hm,rfl,h2,_⟩:=kids_iff.1 h;exact ⟨m,hm,rfl,by omega⟩
theorem pth_inv {x z:ByteArray} {n:Nat} (h:Pth c x n z):(n=0∧z=x)∨∃k y,n=k+1∧Pth c x k y∧z∈kids c y:=by
  cases h with
  |zero=>exact .inl ⟨rfl,rfl⟩
  |step h hz=>exact .inr ⟨_,_,rfl,h,hz⟩
theorem pth_ids {n:Nat} {x y:ByteArray} (h:Pth c x n y) (hx:x∈ids c):y∈ids c:=by
  rcases pth_inv h with ⟨_,rfl⟩|⟨_,_,_,_,hz⟩
  · exact hx
  · exact kids_ids hz
theorem pth_nr {n:Nat} {x y:ByteArray} (h:Pth c x n y) (hx:NR c x):NR c y:=by
  rcases pth_inv h with ⟨_,rfl⟩|⟨_,_,_,_,hz⟩
  · exact hx
  · exact kids_nr hz
theorem pth_mid {x : ByteArray} : ∀ {b a : Nat} {z : ByteArray}, Pth c x (a + b) z → ∃ y, Pth c x a y ∧ Pth c y b z
  |0,_,z,h=>⟨z,h,.zero⟩
  |b+1,a,z,h=>by
    rcases pth_inv h with ⟨h0,_⟩|⟨k,y,hk,h1,hz⟩
    · omega
    · obtain rfl : k = a + b := by omega
      obtain ⟨w,h2,h3⟩:=pth_mid h1
      exact ⟨w,h2,.step h3 hz⟩
theorem pth_short {y x:ByteArray} (hy:y∈ids c) (d:Nat):Pth c y d x→∃d',d'<c.length∧Pth c y d' x:=by
  induction d using Nat.strongRecOn with
  |_ d ih =>
    intro h
    by_cases hd:d<c.length
    · exact ⟨d,hd,h⟩
    · have hex : ∀ i, i ≤ d → ∃ z, Pth c y (d - i) z ∧ Pth c z i x := fun i hi => pth_mid (b := i) (a := d - i) (by rw [Nat.sub_add_cancel hi]; exact h)
      have hex2:∀i,∃z,i≤d→Pth c y (d - i) z∧Pth c z i x:=fun i=>by
        by_cases hi:i≤d
        · obtain ⟨z,hz⟩:=hex i hi;exact ⟨z,fun _=>hz⟩
        · exact ⟨y,fun h=>absurd h hi⟩
      obtain ⟨f,hf⟩:=Classical.axiomOfChoice hex2
      by_cases hrep:∃i j,i<j∧j≤d∧f i=f j
      · obtain ⟨i, j, hij, hj, e⟩ := hrep
        have h1:=(hf j hj).1
        have h2:=(hf i (by omega)).2
        rw [e] at h2
        exact ih (d - j+i) (by omega) (h1.add h2)
      · have hnd:((List.range (d+1)).map f).Nodup:=by
          unfold List.Nodup
          rw [List.pairwise_map]
          refine List.Pairwise.imp_of_mem ?_ List.pairwise_lt_range
          intro a b ha hb hab e
          exact hrep ⟨a,b,hab,by have:=List.mem_range.1 hb;omega,e⟩
        have := List.Nodup.length_le_of_subset hnd (l₂ := ids c) (by
          intro z hz
          obtain ⟨i,hi,rfl⟩:=List.mem_map.1 hz
          exact pth_ids (hf i (by have:=List.mem_range.1 hi;omega)).1 hy)
        have hl:(ids c).length=c.length:=by simp [ids]
        simp at this
        omega
theorem chn_out (hs:SI c) (hk:Kd3 c):∀(n:Nat) {m:Mg} {o:Bool},m∈c→m.2.1≠3 →
    ((chn c n m o).2.2=true↔o=true∨∃d,d<n∧∃p y,y∈dir c (p,kids c p)∧Pth c y d m.1)
  |0,m,o,_,_=>by simp [chn]
  |n+1,m,o,hm,h3=>by
    by_cases h1:m.2.1=1
    · have e : chn c (n + 1) m o = ([m], !o, o) := by unfold chn; rw [if_pos h1]
      rw [e]
      refine ⟨.inl,?_⟩
      rintro (h|⟨d,_,p,y,hy,hp⟩)
      · exact h
      · have ht : Top c m.1 := Tk.top hs ⟨m, hm, rfl, h1⟩
        rcases pth_inv hp with ⟨_,e⟩|⟨_,_,_,_,hz⟩
        · rw [←e] at hy;exact absurd (dir_sub hy) (ht _)
        · exact absurd hz (ht _)
    · have h2 : m.2.1 = 2 := by rcases hk m hm with h | h | h <;> omega
      have hS:=strB_iff hs hm h2
      have hz0:∀p y,y∈dir c (p,kids c p)→m.1=y→strB c m=true:=fun p y hy e=>by
        have h4:=dir_sub hy
        rw [←e] at h4 hy
        rw [hS,(kid_par hs hm h4).2];exact hy
      cases hp:par c m with
      |none =>
        have e:chn c (n+1) m o=([m],false,o||strB c m):=by conv=>lhs;unfold chn;rw [if_neg h1,hp]
        rw [e]
        simp only [Bool.or_eq_true]
        constructor
        · rintro (h | h)
          · exact .inl h
          · exact .inr ⟨0,by omega,_,_,hS.1 h,.zero⟩
        · rintro (h | ⟨d, hd, p, y, hy, hpt⟩)
          · exact .inl h
          · rcases pth_inv hpt with ⟨_, e⟩ | ⟨k, z, _, h4, hz⟩
            · exact .inr (hz0 p y hy e)
            · obtain ⟨x, hx, h5, h6⟩ := pth_nr h4 (kids_nr (dir_sub hy))
              rw [par_of hs hx (by rw [h5];exact (kid_par hs hm hz).2.symm) h6] at hp
              cases hp
      |some x =>
        have e:chn c (n+1) m o=(m::(chn c n x (o||strB c m)).1,(chn c n x (o||strB c m)).2):=by conv=>lhs;unfold chn;rw [if_neg h1,hp]
        rw [e]
        obtain ⟨hx,hx1,hx3⟩:=par_mem hp
        have ih:=chn_out hs hk n (o:=o||strB c m) hx hx3
        rw [ih,Bool.or_eq_true]
        have hkid:m.1∈kids c x.1:=by rw [hx1];exact kid_of hm h2
        constructor
        · rintro ((h | h) | ⟨d, hd, p, y, hy, hpt⟩)
          · exact .inl h
          · exact .inr ⟨0,by omega,_,_,hS.1 h,.zero⟩
          · exact .inr ⟨d+1,by omega,p,y,hy,.step hpt hkid⟩
        · rintro (h | ⟨d, hd, p, y, hy, hpt⟩)
          · exact .inl (.inl h)
          · rcases pth_inv hpt with ⟨_, e⟩ | ⟨k, z, hk', h4, hz⟩
            · exact .inl (.inr (hz0 p y hy e))
            · rw [par_one hs hz hkid] at h4
              exact .inr ⟨k,by omega,p,y,hy,h4⟩
theorem chn_std (hs:SI c) (hk:Kd3 c):∀(n:Nat) {m:Mg} {o:Bool},m∈c→m.2.1≠3 →
    ((chn c n m o).2.1=true↔(chn c n m o).2.2=false∧∃d,d<n∧∃t,Tk c t∧Pth c t d m.1)
  |0,m,o,_,_=>by simp [chn]
  |n+1,m,o,hm,h3=>by
    by_cases h1:m.2.1=1
    · have e : chn c (n + 1) m o = ([m], !o, o) := by unfold chn; rw [if_pos h1]
      rw [e]
      simp only [Bool.not_eq_true']
      exact ⟨fun h=>⟨h,0,by omega,m.1,⟨m,hm,rfl,h1⟩,.zero⟩,fun h=>h.1⟩
    · have h2 : m.2.1 = 2 := by rcases hk m hm with h | h | h <;> omega
      have hz0:∀t,Tk c t→m.1=t→False:=fun t ht e=>ht.top hs m.2.2.1 (show t∈kids c m.2.2.1 by rw [←e];exact kid_of hm h2)
      cases hp:par c m with
      |none =>
        have e:chn c (n+1) m o=([m],false,o||strB c m):=by conv=>lhs;unfold chn;rw [if_neg h1,hp]
        rw [e]
        simp only [Bool.false_eq_true,false_iff]
        rintro ⟨_,d,hd,t,ht,hpt⟩
        rcases pth_inv hpt with ⟨_,e⟩|⟨k,z,_,h4,hz⟩
        · exact hz0 t ht e
        · obtain ⟨x, hx, h5, h6⟩ := pth_nr h4 ht.nr
          rw [par_of hs hx (by rw [h5];exact (kid_par hs hm hz).2.symm) h6] at hp
          cases hp
      |some x =>
        have e:chn c (n+1) m o=(m::(chn c n x (o||strB c m)).1,(chn c n x (o||strB c m)).2):=by conv=>lhs;unfold chn;rw [if_neg h1,hp]
        rw [e]
        obtain ⟨hx,hx1,hx3⟩:=par_mem hp
        have hkid:m.1∈kids c x.1:=by rw [hx1];exact kid_of hm h2
        rw [chn_std hs hk n (o:=o||strB c m) hx hx3]
        refine and_congr_right fun _=>?_
        constructor
        · rintro ⟨d, hd, t, ht, hpt⟩
          exact ⟨d+1,by omega,t,ht,.step hpt hkid⟩
        · rintro ⟨d, hd, t, ht, hpt⟩
          rcases pth_inv hpt with ⟨_,e⟩|⟨k,z,hk',h4,hz⟩
          · exact (hz0 t ht e).elim
          · rw [par_one hs hz hkid] at h4
            exact ⟨k,by omega,t,ht,h4⟩
theorem last_cons {m:Mg} {l:List Mg} (h:l≠[]):(m::l).getD ((m::l).length - 1) zM=l.getD (l.length - 1) zM:=by
  cases l with
  |nil=>exact absurd rfl h
  |cons a l=>rfl
theorem chn_last (hs:SI c) (hk:Kd3 c):∀(n:Nat) {m:Mg} {o:Bool},m∈c→m.2.1≠3→(chn c n m o).2.1=true →
    Tk c ((chn c n m o).1.getD ((chn c n m o).1.length - 1) zM).1∧∃d,Pth c ((chn c n m o).1.getD ((chn c n m o).1.length - 1) zM).1 d m.1
  |0,m,o,_,_,h=>by simp [chn] at h
  |n+1,m,o,hm,h3,h=>by
    by_cases h1:m.2.1=1
    · have e : chn c (n + 1) m o = ([m], !o, o) := by unfold chn; rw [if_pos h1]
      rw [e]
      exact ⟨⟨m,hm,rfl,h1⟩,0,.zero⟩
    · have h2 : m.2.1 = 2 := by rcases hk m hm with h | h | h <;> omega
      cases hp:par c m with
      |none =>
        have e:chn c (n+1) m o=([m],false,o||strB c m):=by conv=>lhs;unfold chn;rw [if_neg h1,hp]
        rw [e] at h;cases h
      |some x =>
        have e:chn c (n+1) m o=(m::(chn c n x (o||strB c m)).1,(chn c n x (o||strB c m)).2):=by conv=>lhs;unfold chn;rw [if_neg h1,hp]
        rw [e] at h ⊢
        obtain ⟨hx,hx1,hx3⟩:=par_mem hp
        have hkid:m.1∈kids c x.1:=by rw [hx1];exact kid_of hm h2
        have hn:(chn c n x (o||strB c m)).1≠[]:=by
          cases n with
          |zero=>simp [chn] at h
          |succ n=>exact chn_ne
        rw [last_cons hn]
        obtain ⟨q1,d,q2⟩:=chn_last hs hk n hx hx3 h
        exact ⟨q1,d+1,.step q2 hkid⟩
theorem stk_top {t:ByteArray} (ht:Top c t):stkB c t=false:=by
  cases h:stkB c t with
  |false=>rfl
  |true =>
    obtain ⟨p,y,hy,hd⟩:=stkB_iff.1 h
    obtain ⟨n,hp⟩:=hd.pth
    rcases pth_inv hp with ⟨_,e⟩|⟨_,_,_,_,hz⟩
    · rw [←e] at hy;exact absurd (dir_sub hy) (ht _)
    · exact absurd hz (ht _)
theorem stk_up {x z:ByteArray} (h:stkB c z=false) (hz:z∈kids c x):stkB c x=false:=by
  cases h':stkB c x with
  |false=>rfl
  |true=>rw [stk_clo h' hz] at h;cases h
theorem stk_pth {n:Nat} {x z:ByteArray} (hp:Pth c x n z) (h:stkB c z=false):stkB c x=false:=by
  induction hp with
  |zero=>exact h
  |step _ hz ih=>exact ih (stk_up h hz)
theorem std_iff (hs : SI c) (hk : Kd3 c) : ∀ {n : Nat} {x t : ByteArray}, stdF c n x = some t ↔ Tk c t ∧ stkB c x = false ∧ ∃ d, d < n ∧ Pth c t d x
  |0,x,t=>by simp [stdF]
  |n+1,x,t=>by
    unfold stdF
    by_cases hm:isM c x=true
    · rw [if_pos hm]
      obtain ⟨hm1,hm2⟩:=msg_mem hs hm
      by_cases h3:(msg c x).2.1=3
      · rw [if_pos h3]
        simp only [reduceCtorEq,false_iff]
        rintro ⟨ht,_,d,_,hp⟩
        obtain ⟨m,hm',e,h3'⟩:=pth_nr hp ht.nr
        have:=hs.inj hm' hm1 (by rw [e,hm2])
        rw [this] at h3'
        exact h3' h3
      · rw [if_neg h3]
        by_cases hst:stkB c x=true
        · rw [if_pos hst]
          simp only [reduceCtorEq,false_iff]
          rintro ⟨_,h,_⟩
          rw [h] at hst;cases hst
        · rw [if_neg hst]
          have hst:stkB c x=false:=by simpa using hst
          by_cases h1:(msg c x).2.1=1
          · rw [if_pos h1]
            have ht:Tk c x:=⟨_,hm1,hm2,h1⟩
            constructor
            · intro e
              obtain rfl:=Option.some.inj e
              exact ⟨ht,hst,0,by omega,.zero⟩
            · rintro ⟨_, _, d, _, hp⟩
              rcases pth_inv hp with ⟨_,e⟩|⟨_,_,_,_,hz⟩
              · rw [e]
              · exact absurd hz (ht.top hs _)
          · rw [if_neg h1, std_iff hs hk]
            have h2:(msg c x).2.1=2:=by rcases hk _ hm1 with h|h|h<;>omega
            have hkid:x∈kids c (msg c x).2.2.1:=by have:=kid_of hm1 h2;rwa [hm2] at this
            constructor
            · rintro ⟨ht, _, d, hd, hp⟩
              exact ⟨ht,hst,d+1,by omega,.step hp hkid⟩
            · rintro ⟨ht, _, d, hd, hp⟩
              rcases pth_inv hp with ⟨_,e⟩|⟨k,z,hk',h4,hz⟩
              · exact absurd (by rw [←e];exact hkid) (ht.top hs _)
              · rw [par_one hs hz hkid] at h4
                exact ⟨ht,stk_up hst hkid,k,by omega,h4⟩
    · rw [if_neg hm]
      simp only [reduceCtorEq,false_iff]
      rintro ⟨ht,_,d,_,hp⟩
      exact hm (isM_iff.2 (pth_ids hp ht.ids))
theorem std'_iff (hs:SI c) (hk:Kd3 c) {x t:ByteArray}:std' c x=some t↔Tk c t∧stkB c x=false∧∃d,Pth c t d x:=by
  rw [std_iff hs hk]
  exact and_congr_right fun ht=>and_congr_right fun _=>⟨fun ⟨d,_,h⟩=>⟨d,h⟩,fun ⟨d,h⟩=>⟨d,h.short hs (ht.top hs) ht.ids,h⟩⟩
theorem tk_one (hs:SI c) {t t' x:ByteArray} {n m:Nat} (ht:Tk c t) (ht':Tk c t') (h:Pth c t n x) (h':Pth c t' m x):t=t':=by
  rcases Nat.le_total n m with hle|hle
  · rcases pth_inv (h.up hs h' hle) with ⟨_, e⟩ | ⟨_, _, _, _, hz⟩
    · exact e
    · exact absurd hz (ht.top hs _)
  · rcases pth_inv (h'.up hs h hle) with ⟨_, e⟩ | ⟨_, _, _, _, hz⟩
    · exact e.symm
    · exact absurd hz (ht'.top hs _)
theorem chn9 (hs:SI c) (hk:Kd3 c) (hl:c.length≤9) {m:Mg} (hm:m∈c) (h3:m.2.1≠3) :
    (chn c 9 m false).2.2=stkB c m.1∧(chn c 9 m false).2.1=(std' c m.1).isSome∧∀t,std' c m.1=some t→((chn c 9 m false).1.getD ((chn c 9 m false).1.length - 1) zM).1=t:=by
  have ho:(chn c 9 m false).2.2=stkB c m.1:=by
    rw [Bool.eq_iff_iff,chn_out hs hk 9 hm h3,stkB_iff]
    simp only [Bool.false_eq_true,false_or]
    constructor
    · rintro ⟨d,_,p,y,hy,hp⟩;exact ⟨p,y,hy,hp.desc⟩
    · rintro ⟨p, y, hy, hd⟩
      obtain ⟨n,hp⟩:=hd.pth
      obtain ⟨d,hd,hp⟩:=pth_short (kids_ids (dir_sub hy)) n hp
      exact ⟨d,by omega,p,y,hy,hp⟩
  have hst:(chn c 9 m false).2.1=(std' c m.1).isSome:=by
    rw [Bool.eq_iff_iff,chn_std hs hk 9 hm h3,Option.isSome_iff_exists,ho]
    simp only [std'_iff hs hk]
    constructor
    · rintro ⟨h,d,_,t,ht,hp⟩;exact ⟨t,ht,h,d,hp⟩
    · rintro ⟨t, ht, h, d, hp⟩
      exact ⟨h,d,by have:=hp.short hs (ht.top hs) ht.ids;omega,t,ht,hp⟩
  refine ⟨ho,hst,fun t ht=>?_⟩
  obtain ⟨q1,d,q2⟩:=chn_last hs hk 9 hm h3 (by rw [hst,ht];rfl)
  obtain ⟨h1,_,d',h2⟩:=(std'_iff hs hk).1 ht
  exact tk_one hs q1 h1 q2 h2
def verV (c:List Mg) (x:ByteArray):Option ByteArray:=if liv c x=[] then std' c x else none
theorem verV_some {x t:ByteArray}:verV c x=some t↔liv c x=[]∧std' c x=some t:=by
  unfold verV;split<;>simp [*]
theorem liv_iff {x y:ByteArray}:y∈liv c x↔y∈kids c x∧stkB c y=false:=by
  unfold liv;rw [List.mem_filter];simp
theorem kid_std (hs:SI c) (hk:Kd3 c) {x y t:ByteArray} (hx:std' c x=some t) (hy:y∈kids c x):(std' c y).isSome = !stkB c y:=by
  rw [Bool.eq_iff_iff,Option.isSome_iff_exists,Bool.not_eq_true']
  simp only [std'_iff hs hk]
  obtain ⟨h1,_,d,h2⟩:=(std'_iff hs hk).1 hx
  exact ⟨fun ⟨_,_,h,_⟩=>h,fun h=>⟨t,h1,h,d+1,.step h2 hy⟩⟩
theorem k35' (hs:SI c) (hk:Kd3 c) (hl:c.length≤9) {m:Mg} (hm:m∈c):∃r,run0 (F35 c m)=some (r,(verV c m.1).isSome,())∧∀t,verV c m.1=some t→r=t:=by
  rw [k35 (by omega)]
  by_cases h3:m.2.1=3
  · rw [if_pos h3]
    have hn:verV c m.1=none:=by
      cases h:verV c m.1 with
      |none=>rfl
      |some t =>
        obtain ⟨ht,_,d,hp⟩:=(std'_iff hs hk).1 (verV_some.1 h).2
        obtain ⟨x,hx,e,h3'⟩:=pth_nr hp ht.nr
        rw [hs.inj hx hm e] at h3'
        exact absurd h3 h3'
    rw [hn]
    exact ⟨_,rfl,fun t h=>by cases h⟩
  · rw [if_neg h3]
    obtain ⟨ho,hst,hla⟩:=chn9 hs hk hl hm h3
    have hkS:kidS c m=true↔∃y∈kids c m.1,(std' c y).isSome=true:=by
      unfold kidS
      rw [List.any_eq_true]
      constructor
      · rintro ⟨x, hx, h⟩
        obtain ⟨h2,h4,h5⟩:=of_decide_eq_true h
        exact ⟨x.1,by rw [←h4];exact kid_of hx h2,by rw [←(chn9 hs hk hl hx (by omega)).2.1];exact h5⟩
      · rintro ⟨y, hy, h⟩
        obtain ⟨x,hx,rfl,h2,h4⟩:=kids_iff.1 hy
        exact ⟨x,hx,decide_eq_true ⟨h2,h4,by rw [(chn9 hs hk hl hx (by omega)).2.1];exact h⟩⟩
    cases hs':std' c m.1 with
    |none =>
      have hn:verV c m.1=none:=by unfold verV;rw [hs'];split<;>rfl
      rw [hn]
      split
      · exact ⟨_,rfl,fun t h=>by cases h⟩
      · exact ⟨_,by rw [hst,hs'],fun t h=>by cases h⟩
    |some t =>
      by_cases hlv:liv c m.1=[]
      · have hv : verV c m.1 = some t := by unfold verV; rw [if_pos hlv, hs']
        rw [hv,if_neg,hst,hs',hla t hs']
        · exact ⟨_,rfl,fun t h=>by cases h;rfl⟩
        · rw [hkS]
          rintro ⟨y,hy,h⟩
          rw [kid_std hs hk hs' hy,Bool.not_eq_true'] at h
          have:=liv_iff.2 ⟨hy,h⟩
          rw [hlv] at this;cases this
      · have hv : verV c m.1 = none := by unfold verV; rw [if_neg hlv]
        rw [hv,if_pos]
        · exact ⟨_,rfl,fun t h=>by cases h⟩
        · obtain ⟨y, hy⟩ := List.exists_mem_of_ne_nil _ hlv
          obtain ⟨h1,h2⟩:=liv_iff.1 hy
          exact hkS.2 ⟨y,h1,by rw [kid_std hs hk hs' h1,h2];rfl⟩
theorem mem_verF {y : ByteArray} : ∀ {n : Nat} {x : ByteArray}, stkB c x = false → (y ∈ verF c n x ↔ liv c y = [] ∧ stkB c y = false ∧ ∃ d, d < n ∧ Pth c x d y)
  |0,x,_=>by simp [verF]
  |n+1,x,hx=>by
    unfold verF
    split
    · rename_i hl
      rw [List.mem_singleton]
      constructor
      · rintro rfl;exact ⟨hl,hx,0,by omega,.zero⟩
      · rintro ⟨_, h2, d, _, hp⟩
        cases d with
        | zero => rcases pth_inv hp with ⟨_, e⟩ | ⟨_, _, h, _, _⟩
                  · exact e
                  · omega
        |succ d =>
          rw [Nat.add_comm] at hp
          obtain ⟨z,hz1,hz2⟩:=pth_mid hp
          rcases pth_inv hz1 with ⟨h,_⟩|⟨k,w,hk,hw,hzk⟩
          · omega
          · obtain rfl : k = 0 := by omega
            rcases pth_inv hw with ⟨_,rfl⟩|⟨_,_,h,_,_⟩
            · have := liv_iff.2 ⟨hzk, stk_pth hz2 h2⟩
              rw [hl] at this;cases this
            · omega
    · rename_i k l hl
      rw [(sortK_perm (t:=.str) _).mem_iff,List.mem_flatMap,←hl]
      constructor
      · rintro ⟨z, hz, h⟩
        obtain ⟨h1,h2⟩:=liv_iff.1 hz
        obtain ⟨h3,h4,d,hd,hp⟩:=(mem_verF h2).1 h
        exact ⟨h3,h4,1+d,by omega,Pth.add (.step .zero h1) hp⟩
      · rintro ⟨h3, h4, d, hd, hp⟩
        cases d with
        |zero =>
          rcases pth_inv hp with ⟨_,e⟩|⟨_,_,h,_,_⟩
          · subst e;rw [hl] at h3;cases h3
          · omega
        |succ d =>
          rw [Nat.add_comm] at hp
          obtain ⟨z,hz1,hz2⟩:=pth_mid hp
          rcases pth_inv hz1 with ⟨h,_⟩|⟨k,w,hk,hw,hzk⟩
          · omega
          · obtain rfl : k = 0 := by omega
            rcases pth_inv hw with ⟨_,rfl⟩|⟨_,_,h,_,_⟩
            · have hsz := stk_pth hz2 h4
              exact ⟨z,liv_iff.2 ⟨hzk,hsz⟩,(mem_verF hsz).2 ⟨h3,h4,d,by omega,hz2⟩⟩
            · omega
theorem mem_ver (hs:SI c) (hk:Kd3 c) {t y:ByteArray} (ht:Tk c t):y∈ver c t↔verV c y=some t:=by
  unfold ver
  rw [mem_verF (stk_top (ht.top hs)),verV_some,std'_iff hs hk]
  refine and_congr_right fun _=>?_
  constructor
  · rintro ⟨h,d,_,hp⟩;exact ⟨ht,h,d,hp⟩
  · rintro ⟨_,h,d,hp⟩;exact ⟨h,d,by have:=hp.short hs (ht.top hs) ht.ids;omega,hp⟩
theorem slt_irf (x:ByteArray):slt x x=false:=dlt_irf (t:=.str) kS x
theorem slt_asy {x y:ByteArray} (h:slt x y=true) (h':slt y x=true):False:=dlt_asym (t:=.str) kS h h'
theorem str_ext {l l':List ByteArray} (h:l.Pairwise fun a b=>slt a b=true) (h':l'.Pairwise fun a b=>slt a b=true) (hm:∀x,x∈l↔x∈l'):l=l' :=
  sorted_ext (r:=fun a b=>slt a b=true) (fun a h=>by rw [slt_irf] at h;cases h) (fun a b h1 h2=>slt_asy h1 h2) h h' hm
theorem srt_strict {l:List ByteArray} (h:Srt .str l) (hn:l.Nodup):l.Pairwise fun a b=>slt a b=true:=by
  refine List.Pairwise.imp₂ (fun a b h1 h2=>?_) h hn
  cases hlt:slt a b with
  |true=>rfl
  |false=>exact absurd (dlt_total (t:=.str) kS hlt h1) h2
theorem verF_srt : ∀ {n : Nat} {x : ByteArray}, Srt .str (verF c n x)
  |0,_=>.nil
  |n+1,x=>by
    unfold verF
    split
    · exact List.pairwise_singleton _ _
    · exact sortK_srt (t:=.str) kS _
theorem ver_eq (hs:SI c) (hk:Kd3 c) {t:ByteArray} (ht:Tk c t):ver c t=(c.filter fun m=>decide (verV c m.1=some t)).map (·.1):=by
  refine str_ext (srt_strict verF_srt (verF_nd hs (ht.top hs) .zero)) ?_ fun y=>?_
  · rw [List.pairwise_map];exact List.Pairwise.filter _ hs
  · rw [mem_ver hs hk ht, List.mem_map]
    constructor
    · intro h
      obtain ⟨_,_,d,hp⟩:=(std'_iff hs hk).1 (verV_some.1 h).2
      obtain ⟨m,hm,rfl⟩:=List.mem_map.1 (pth_ids hp ht.ids)
      exact ⟨m,List.mem_filter.2 ⟨hm,by simpa using h⟩,rfl⟩
    · rintro ⟨m, hm, rfl⟩
      simpa using (List.mem_filter.1 hm).2
end
end Go.Proofs.Tryz
end
section
namespace Go.Proofs.Tryz
open Go.AM
set_option maxRecDepth 100000
set_option maxHeartbeats 1000000
def betM (x:ByteArray) (b z:Mg):Mg:=if z.1=x∧(b.2.1=0∨dlt tM z b=true) then z else b
def bestM (l:List Mg) (x:ByteArray):Mg:=l.foldl (betM x) zM
def cntF (l:List Mg) (r:List ByteArray):List Mg:=(r.map (bestM l)).filter fun m=>decide (0<m.2.1)
theorem dltM {z b:Mg} (h:z.1=b.1):dlt tM z b=(decide (z.2.1<b.2.1)||(decide (z.2.1=b.2.1)&&(slt z.2.2.1 b.2.2.1||(decide (z.2.2.1=b.2.2.1)&&(slt z.2.2.2.1 b.2.2.2.1||(decide (z.2.2.2.1=b.2.2.2.1)&&decide (z.2.2.2.2<b.2.2.2.2))))))):=by
 have e:dlt tM z b=(slt z.1 b.1||(deq .str z.1 b.1&&(decide (z.2.1<b.2.1)||((z.2.1==b.2.1)&&(slt z.2.2.1 b.2.2.1||(deq .str z.2.2.1 b.2.2.1&&(slt z.2.2.2.1 b.2.2.2.1||(deq .str z.2.2.2.1 b.2.2.2.1&&decide (z.2.2.2.2<b.2.2.2.2))))))))):=rfl
 rw [e,h,slt_irf,deq_str,deq_str,deq_str]
 simp only [decide_true,Bool.false_or,Bool.true_and]
 congr 2
theorem k30_1 {l b0:List Mg} {nv:Nat} {x:ByteArray} {v9:List ByteArray} {v10 v11:Int} (hl:l.length<1000000000) :
  iter (fun a=>run0 (g30_1 a)) (l,nv,x,v9,v10,v11,l,((l.length:Nat):Int),(0:Int),b0,bs [],(0:Int),bs [],bs [],(0:Int),()) =
   some (l,nv,v9,v10,v11,b0,(bestM l x).1,(bestM l x).2.1,(bestM l x).2.2.1,(bestM l x).2.2.2.1,(bestM l x).2.2.2.2,()):=by
 refine iter_list l (fun k (b : Mg) => (l, nv, x, v9, v10, v11, l, ((l.length : Nat) : Int), (k : Int), b0, b.1, b.2.1, b.2.2.1, b.2.2.2.1, b.2.2.2.2, ()))
  (fun b r=>(l,nv,v9,v10,v11,b0,(r.foldl (betM x) b).1,(r.foldl (betM x) b).2.1,(r.foldl (betM x) b).2.2.1,(r.foldl (betM x) b).2.2.2.1,(r.foldl (betM x) b).2.2.2.2,())) (fun _ b=>b.2.1=0∨b.1=x) ?_ ?_ (s:=zM) (.inl rfl)
 ·intro pre z post b hz hb
  have hlen:l.length=pre.length+(post.length+1):=by rw [hz];simp
  have hd:l.getD pre.length (bs [],(0:Int),bs [],bs [],(0:Int))=z:=by rw [hz];exact getD_mid rfl
  have i1:inb (pre.length:Int) ((l.length:Nat):Int)=true:=inb_t (by omega) (by omega)
  have r1:rng .i64 ((pre.length:Int)+1)=true:=rng_i64 (by omega) (by omega)
  left
  refine ⟨betM x b z,?_,?_,rfl⟩
  ·simp only [g30_1, run_br, run_nb, run_ni, run_ret, Int.toNat_natCast, hd, i1, r1, need_true, br_d, br_eq, seq_eq]
   rw [if_pos (by omega)]
   simp only [br_if]
   unfold betM
   by_cases hx:z.1=x
   ·by_cases h0 : b.2.1 = 0
    ·rw [if_pos hx,if_pos h0,if_pos ⟨hx,.inl h0⟩];rfl
    ·have hbx : b.1 = x := hb.resolve_left h0
     rw [if_pos hx,if_neg h0]
     have hdl:=dltM (z:=z) (b:=b) (by rw [hx,hbx])
     by_cases k1:z.2.1<b.2.1
     ·rw [if_pos k1,if_pos ⟨hx,.inr (by rw [hdl];simp [k1])⟩];rfl
     ·rw [if_neg k1]
      by_cases k2:z.2.1=b.2.1
      ·rw [if_pos k2]
       cases k3:slt z.2.2.1 b.2.2.1 with
       |true=>rw [if_pos rfl,if_pos ⟨hx,.inr (by rw [hdl];simp [k2,k3])⟩];rfl
       |false =>
        rw [if_neg (by simp)]
        by_cases k4:z.2.2.1=b.2.2.1
        ·rw [if_pos k4]
         cases k5:slt z.2.2.2.1 b.2.2.2.1 with
         |true=>rw [if_pos rfl,if_pos ⟨hx,.inr (by rw [hdl];simp [k2,k4,k5])⟩];rfl
         |false =>
          rw [if_neg (by simp)]
          by_cases k6:z.2.2.2.1=b.2.2.2.1
          ·rw [if_pos k6]
           by_cases k7:z.2.2.2.2<b.2.2.2.2
           ·rw [if_pos k7,if_pos ⟨hx,.inr (by rw [hdl];simp [k2,k4,k6,k7])⟩];rfl
           ·rw [if_neg k7, if_neg]; · rfl
            rintro ⟨_,h|h⟩
            ·exact h0 h
            ·rw [hdl,k3,k5] at h;simp [k1,k7] at h
          ·rw [if_neg k6, if_neg]; · rfl
           rintro ⟨_,h|h⟩
           ·exact h0 h
           ·rw [hdl,k3,k5] at h;simp [k1,k6] at h
        ·rw [if_neg k4, if_neg]; · rfl
         rintro ⟨_,h|h⟩
         ·exact h0 h
         ·rw [hdl,k3] at h;simp [k1,k4] at h
      ·rw [if_neg k2, if_neg]; · rfl
       rintro ⟨_,h|h⟩
       ·exact h0 h
       ·rw [hdl] at h;simp [k1,k2] at h
   ·rw [if_neg hx,if_neg (fun h=>hx h.1)];rfl
  ·unfold betM
   split
   ·rename_i h;exact .inr h.1
   ·exact hb
 ·intro b _
  simp only [g30_1,run_br,run_ret,br_d]
  rw [if_neg (by omega)]
  rfl
theorem k30_0 {l:List Mg} (hl:l.length<1000000000):iter (fun a=>run0 (g30_0 a)) (l,(0:Nat),id8,((id8.length:Nat):Int),(0:Int),[],())=some ((cntF l id8).length,cntF l id8,()):=by
 refine iter_list id8 (fun k (o:List Mg)=>(l,o.length,id8,((id8.length:Nat):Int),(k:Int),o,())) (fun o r=>((o++cntF l r).length,o++cntF l r,())) (fun pre o=>o.length≤pre.length) ?_ ?_ (s:=[]) (Nat.le_refl _)
 ·intro pre x post o hx ho
  have hlen:id8.length=pre.length+(post.length+1):=by rw [hx];simp
  have h8:id8.length=8:=rfl
  have hd:id8.getD pre.length (bs [])=x:=by rw [hx];exact getD_mid rfl
  have i1:inb (pre.length:Int) ((id8.length:Nat):Int)=true:=inb_t (by omega) (by omega)
  have r1:rng .i64 ((pre.length:Int)+1)=true:=rng_i64 (by omega) (by omega)
  have d1:decide (o.length+1<bigL)=true:=decide_eq_true (by rw [bigL_eq];omega)
  have e1:(([((bestM l x).1,(bestM l x).2.1,(bestM l x).2.2.1,(bestM l x).2.2.2.1,(bestM l x).2.2.2.2)]:List Mg).take 1)=[bestM l x]:=rfl
  have hk:=k30_1 (l:=l) (b0:=o) (nv:=o.length) (x:=x) (v9:=id8) (v10:=((id8.length:Nat):Int)) (v11:=(pre.length:Int)) hl
  left
  by_cases hb:0<(bestM l x).2.1
  ·have hc : cntF l (x :: post) = bestM l x :: cntF l post := by unfold cntF; rw [List.map_cons, List.filter_cons_of_pos (by simpa using hb)]
   refine ⟨o++[bestM l x],?_,by simp;omega,by rw [hc];simp⟩
   simp only [g30_0,run_br,run_bd,run_it,run_nb,run_nd,run_ni,run_ret,Int.toNat_natCast,hd,i1,need_true,br_d]
   rw [if_pos (by omega),bind_of hk]
   simp only
   rw [if_pos hb]
   simp only [e1,List.length_singleton,d1,r1,need_true,List.drop_zero,List.take_length,List.length_append]
   rfl
  ·have hc : cntF l (x :: post) = cntF l post := by unfold cntF; rw [List.map_cons, List.filter_cons_of_neg (by simpa using hb)]
   refine ⟨o,?_,by simp;omega,by rw [hc]⟩
   simp only [g30_0,run_br,run_bd,run_it,run_nb,run_nd,run_ni,run_ret,Int.toNat_natCast,hd,i1,need_true,br_d]
   rw [if_pos (by omega),bind_of hk]
   simp only
   rw [if_neg hb]
   simp only [r1,need_true]
   rfl
 ·intro o _
  simp only [g30_0,run_br,run_ret,br_d]
  rw [if_neg (by omega)]
  simp [cntF]
theorem k31:run0 F31=some (id8,()):=rfl
def BS (x:ByteArray) (l:List Mg) (b:Mg):Prop:=(b=zM∧∀m∈l,m.1≠x)∨(b∈l∧b.1=x∧∀m∈l,m.1=x→m=b∨dlt tM b m=true)
theorem best_fold {x : ByteArray} : ∀ {l pre : List Mg} {b : Mg}, (∀ m ∈ pre ++ l, 1 ≤ m.2.1) → BS x pre b → BS x (pre ++ l) (l.foldl (betM x) b)
 |[],pre,b,_,h=>by simpa using h
 |z::l,pre,b,hk,h=>by
  have hn:BS x (pre++[z]) (betM x b z):=by
   unfold betM
   rcases h with ⟨rfl,h⟩|⟨h1,h2,h3⟩
   ·by_cases hx : z.1 = x
    ·rw [if_pos ⟨hx, .inl rfl⟩]
     refine .inr ⟨by simp,hx,fun m hm e=>?_⟩
     rcases List.mem_append.1 hm with hm|hm
     ·exact absurd e (h m hm)
     ·exact .inl (List.mem_singleton.1 hm)
    ·rw [if_neg (fun h => hx h.1)]
     refine .inl ⟨rfl,fun m hm=>?_⟩
     rcases List.mem_append.1 hm with hm|hm
     ·exact h m hm
     ·rw [List.mem_singleton.1 hm];exact hx
   ·have hb0 : ¬ b.2.1 = 0 := by have := hk b (by simp [h1]); omega
    by_cases hc:z.1=x∧(b.2.1=0∨dlt tM z b=true)
    ·rw [if_pos hc]
     have hzb:=hc.2.resolve_left hb0
     refine .inr ⟨by simp,hc.1,fun m hm e=>?_⟩
     rcases List.mem_append.1 hm with hm|hm
     ·rcases h3 m hm e with rfl | h4
      ·exact .inr hzb
      ·exact .inr (dlt_trans kM hzb h4)
     ·exact .inl (List.mem_singleton.1 hm)
    ·rw [if_neg hc]
     refine .inr ⟨by simp [h1],h2,fun m hm e=>?_⟩
     rcases List.mem_append.1 hm with hm|hm
     ·exact h3 m hm e
     ·rw [List.mem_singleton.1 hm] at e ⊢
      cases h4:dlt tM b z with
      |true=>exact .inr rfl
      |false =>
       cases h5:dlt tM z b with
       |true=>exact absurd ⟨e,.inr h5⟩ hc
       |false=>exact .inl (dlt_total kM h5 h4)
  have:=best_fold (l:=l) (pre:=pre++[z]) (b:=betM x b z) (by simpa using hk) hn
  simpa using this
theorem best_ok {l:List Mg} (hk:∀m∈l,1≤m.2.1) (x:ByteArray):BS x l (bestM l x):=by
 have:=best_fold (x:=x) (l:=l) (pre:=[]) (b:=zM) (by simpa using hk) (.inl ⟨rfl,fun m h=>by cases h⟩)
 rw [List.nil_append] at this
 exact this
theorem chk_kind {m:Mg} (h:chk m=0):m.2.1=1∨m.2.1=2∨m.2.1=3:=by
 unfold chk at h
 split at h
 ·cases h
 ·omega
theorem id8_srt:id8.Pairwise fun a b=>slt a b=true:=of_decide_eq_true (by kernel_rfl)
theorem si_ext {c c':List Mg} (h:SI c) (h':SI c') (hm:∀m,m∈c↔m∈c'):c=c' :=
 sorted_ext (r:=fun a b:Mg=>slt a.1 b.1=true) (fun a h=>by rw [slt_irf] at h;cases h) (fun a b h1 h2=>slt_asy h1 h2) h h' hm
theorem cntF_eq {l:List Mg} (hg:Gd l) (hl:l.length≤60) (hi:∀m∈l,m.1∈id8):cntF l id8=cnt (toldL l):=by
 have hk:∀m∈l,1≤m.2.1:=fun m hm=>by rcases chk_kind (hg m hm) with h|h|h<;>omega
 have key:∀r:List ByteArray,(r.Pairwise fun a b=>slt a b=true)→SI (cntF l r)∧∀m,m∈cntF l r↔∃x∈r,bestM l x=m∧m.1=x∧m∈l:=by
  intro r
  have hmem:∀m,m∈cntF l r↔∃x∈r,bestM l x=m∧m.1=x∧m∈l:=fun m=>by
   unfold cntF
   rw [List.mem_filter,List.mem_map]
   constructor
   ·rintro ⟨⟨x, hx, rfl⟩, h0⟩
    rcases best_ok hk x with ⟨e,_⟩|⟨h1,h2,_⟩
    ·rw [e] at h0;simp at h0
    ·exact ⟨x,hx,rfl,h2,h1⟩
   ·rintro ⟨x, hx, rfl, h2, h1⟩
    exact ⟨⟨x,hx,rfl⟩,by have:=hk _ h1;simp;omega⟩
  refine fun hr=>⟨?_,hmem⟩
  induction r with
  |nil=>exact .nil
  |cons x r ih =>
   rw [List.pairwise_cons] at hr
   have ih':SI (cntF l r):=by
    refine ih (fun m=>?_) hr.2
    unfold cntF
    rw [List.mem_filter,List.mem_map]
    constructor
    ·rintro ⟨⟨x, hx, rfl⟩, h0⟩
     rcases best_ok hk x with ⟨e,_⟩|⟨h1,h2,_⟩
     ·rw [e] at h0;simp at h0
     ·exact ⟨x,hx,rfl,h2,h1⟩
    ·rintro ⟨x, hx, rfl, h2, h1⟩
     exact ⟨⟨x,hx,rfl⟩,by have:=hk _ h1;simp;omega⟩
   unfold cntF
   rw [List.map_cons]
   by_cases h0:0<(bestM l x).2.1
   ·rw [List.filter_cons_of_pos (by simpa using h0)]
    refine List.pairwise_cons.2 ⟨fun m hm=>?_,ih'⟩
    obtain ⟨hm1,hm2⟩:=List.mem_filter.1 hm
    obtain ⟨y,hy,rfl⟩:=List.mem_map.1 hm1
    rcases best_ok hk x with ⟨e,_⟩|⟨_,h2,_⟩
    ·rw [e] at h0;simp at h0
    rcases best_ok hk y with ⟨e,_⟩|⟨_,h4,_⟩
    ·rw [e] at hm2;simp at hm2
    rw [h2,h4];exact hr.1 y hy
   ·rw [List.filter_cons_of_neg (by simpa using h0)]
    exact ih'
 obtain ⟨h1,h2⟩:=key id8 id8_srt
 refine si_ext h1 (cnt_si _) fun m=>?_
 rw [h2,cnt_iff (OKB.told l).s,told_mem hg hl]
 constructor
 ·rintro ⟨x, hx, hb, e, hm⟩
  refine ⟨hm,fun y hy e'=>?_⟩
  rcases best_ok hk x with ⟨q,_⟩|⟨_,_,h3⟩
  ·rw [hb] at q;rw [q] at hm;have:=hk _ hm;simp at this
  ·rw [hb] at h3
   exact h3 y ((told_mem hg hl y).1 hy) (by rw [e',e])
 ·rintro ⟨hm, h3⟩
  refine ⟨m.1,hi m hm,?_,rfl,hm⟩
  rcases best_ok hk m.1 with ⟨_,q⟩|⟨q1,q2,q3⟩
  ·exact absurd rfl (q m hm)
  ·rcases q3 m hm rfl with e | h4
   ·exact e.symm
   ·rcases h3 _ ((told_mem hg hl _).2 q1) q2 with e | h5
    ·exact e
    ·exact (dlt_asym kM h4 h5).elim
theorem k30 {l:List Mg} (hg:Gd l) (hl:l.length≤60) (hi:∀m∈l,m.1∈id8):run0 (F30 l)=some (cnt (toldL l),()):=by
 have hlen:(cntF l id8).length<1000000:=by
  have:(cntF l id8).length≤8:=by unfold cntF;exact Nat.le_trans (List.length_filter_le ..) (by simp [id8])
  omega
 unfold F30
 simp only [run_bd,run_it]
 rw [bind_of k31]
 simp only
 rw [bind_of (k30_0 (by omega))]
 simp only [run_ret,List.drop_zero,List.take_length]
 rw [cntF_eq hg hl hi]
theorem getD_in {l:List ByteArray} {k:Nat} (h:k<l.length):l.getD k (bs [])∈l:=by
 rw [List.getD_eq_getElem?_getD,List.getElem?_eq_getElem h];exact List.getElem_mem h
theorem lt_id8 {n:Int} (h:0≤n) (h2:n<8):lt1 97 n∈id8:=by
 have h8:id8.length=8:=rfl
 have:n=0∨n=1∨n=2∨n=3∨n=4∨n=5∨n=6∨n=7:=by omega
 rcases this with rfl|rfl|rfl|rfl|rfl|rfl|rfl|rfl
 ·exact (show id8.getD 0 (bs [])=lt1 97 0 by kernel_rfl)▸getD_in (l:=id8) (k:=0) (by omega)
 ·exact (show id8.getD 1 (bs [])=lt1 97 1 by kernel_rfl)▸getD_in (l:=id8) (k:=1) (by omega)
 ·exact (show id8.getD 2 (bs [])=lt1 97 2 by kernel_rfl)▸getD_in (l:=id8) (k:=2) (by omega)
 ·exact (show id8.getD 3 (bs [])=lt1 97 3 by kernel_rfl)▸getD_in (l:=id8) (k:=3) (by omega)
 ·exact (show id8.getD 4 (bs [])=lt1 97 4 by kernel_rfl)▸getD_in (l:=id8) (k:=4) (by omega)
 ·exact (show id8.getD 5 (bs [])=lt1 97 5 by kernel_rfl)▸getD_in (l:=id8) (k:=5) (by omega)
 ·exact (show id8.getD 6 (bs [])=lt1 97 6 by kernel_rfl)▸getD_in (l:=id8) (k:=6) (by omega)
 ·exact (show id8.getD 7 (bs [])=lt1 97 7 by kernel_rfl)▸getD_in (l:=id8) (k:=7) (by omega)
theorem lt_acc3 {n:Int} (h:0≤n) (h2:n<3):lt1 120 n∈acc3:=by
 have h8:acc3.length=3:=rfl
 have:n=0∨n=1∨n=2:=by omega
 rcases this with rfl|rfl|rfl
 ·exact (show acc3.getD 0 (bs [])=lt1 120 0 by kernel_rfl)▸getD_in (l:=acc3) (k:=0) (by omega)
 ·exact (show acc3.getD 1 (bs [])=lt1 120 1 by kernel_rfl)▸getD_in (l:=acc3) (k:=1) (by omega)
 ·exact (show acc3.getD 2 (bs [])=lt1 120 2 by kernel_rfl)▸getD_in (l:=acc3) (k:=2) (by omega)
structure ByN (m:Mg):Prop where
 chk:chk m=0
 id:m.1∈id8
 of:m.2.1≠1→m.2.2.1∈id8
 acc:m.2.1≠3→m.2.2.2.1∈acc3
 amt : -3≤m.2.2.2.2∧m.2.2.2.2≤8
theorem mk_byN {x:Nu} (h:U8s x):ByN (mkM x):=by
 have ho:=ofN_b h
 have hc:=chk_mk h
 obtain ⟨⟨a1,a2⟩,⟨b1,b2⟩,⟨c1,c2⟩,d1,d2⟩:=h
 have ta:=tm8 a1 8 (by omega)
 have tc:=tm8 c1 3 (by omega)
 have te:=td_b c1 c2
 have tf:=tm8 te.1 12 (by omega)
 have n1:=lt_id8 ta.1 ta.2
 have n2:=lt_id8 ho.1 ho.2.1
 have n3:=lt_acc3 tc.1 tc.2
 refine ⟨hc,?_,?_,?_,?_⟩
 ·unfold mkM; simp only; split
  ·exact n1
  ·split<;>exact n1
 ·unfold mkM; simp only; split
  ·intro h;exact absurd rfl h
  ·split<;>exact fun _=>n2
 ·unfold mkM; simp only; split
  ·exact fun _=>n3
  ·split
   ·intro h;exact absurd rfl h
   ·exact fun _=>n3
 ·unfold mkM; simp only; split
  ·simp only;omega
  ·split
   ·simp
   ·simp only;omega
theorem made_byN {p:List Nu} (hp:∀x∈p,U8s x):∀m∈madeL p,ByN m:=fun m hm=>by
 obtain ⟨x,hx,rfl⟩:=List.mem_map.1 hm
 exact mk_byN (hp x (List.mem_of_mem_take hx))
structure CN (c:List Mg):Prop where
 si:SI c
 k3:Kd3 c
 byN:∀m∈c,ByN m
 len:c.length≤8
theorem made_cn {p:List Nu} (hp:∀x∈p,U8s x):CN (cnt (toldL (madeL p))):=by
 have hml:=madeL_len p
 have hb:∀m∈cnt (toldL (madeL p)),ByN m:=fun m hm=>made_byN hp m ((told_mem (made_gd hp) (by omega) m).1 (cnt_sub hm))
 refine ⟨cnt_si _,fun m hm=>chk_kind (hb m hm).chk,hb,?_⟩
 rw [←cntF_eq (made_gd hp) (by omega) fun m hm=>(made_byN hp m hm).id]
 unfold cntF
 exact Nat.le_trans (List.length_filter_le ..) (by simp [id8])
theorem made_k30 {p:List Nu} (hp:∀x∈p,U8s x):run0 (F30 (madeL p))=some (cnt (toldL (madeL p)),()) :=
 k30 (made_gd hp) (by have:=madeL_len p;omega) fun m hm=>(made_byN hp m hm).id
end Go.Proofs.Tryz
end
section
namespace Go.Proofs.Tryz
open Go.AM
set_option maxRecDepth 100000
set_option maxHeartbeats 2000000
section
variable {c:List Mg}
theorem msg_none {x:ByteArray} (h:isM c x=false):msg c x=zM:=mget_none h
theorem fnd_foldl (hs:SI c) (x:ByteArray):c.foldl (fun b z=>if z.1=x then z else b) zM=msg c x:=by
 have key:∀(l:List Mg) (b:Mg),(∀m∈l,m∈c)→(l.foldl (fun b z=>if z.1=x then z else b) b=b∧∀m∈l,m.1≠x)∨((l.foldl (fun b z=>if z.1=x then z else b) b).1=x∧l.foldl (fun b z=>if z.1=x then z else b) b∈c):=by
  intro l
  induction l with
  |nil=>intro b _;exact .inl ⟨rfl,fun m h=>by cases h⟩
  |cons z l ih =>
   intro b hl
   rw [List.foldl_cons]
   rcases ih (if z.1=x then z else b) fun m hm=>hl m (List.mem_cons_of_mem _ hm) with ⟨h1,h2⟩|h
   ·by_cases hz : z.1 = x
    ·rw [if_pos hz] at h1 ⊢
     rw [h1]
     exact .inr ⟨hz,hl z (List.mem_cons_self ..)⟩
    ·rw [if_neg hz] at h1 ⊢
     refine .inl ⟨h1,fun m hm=>?_⟩
     rcases List.mem_cons.1 hm with rfl|hm
     ·exact hz
     ·exact h2 m hm
   ·exact .inr h
 rcases key c zM fun m h=>h with ⟨h1,h2⟩|⟨h1,h2⟩
 ·rw [h1]
  refine (msg_none ?_).symm
  cases h:isM c x with
  |false=>rfl
  |true =>
   obtain ⟨h3,h4⟩:=msg_mem hs h
   exact absurd h4 (h2 _ h3)
 ·have := msg_of hs h2
  rw [h1] at this
  exact this.symm
theorem k5_1 {x:ByteArray} {v39:List ByteArray} {v40 v41:Int} {m2:List (Mg×Bool)} (hs:SI c) (hc:c.length<1000000) :
  iter (fun a=>run0 (g5_1 a)) (c,x,v39,v40,v41,c,((c.length:Nat):Int),(0:Int),bs [],(0:Int),bs [],bs [],(0:Int),m2,()) =
   some (c,x,v39,v40,v41,(msg c x).1,(msg c x).2.1,(msg c x).2.2.1,(msg c x).2.2.2.1,(msg c x).2.2.2.2,m2,()):=by
 rw [←fnd_foldl hs x]
 refine iter_list c (fun k (b : Mg) => (c, x, v39, v40, v41, c, ((c.length : Nat) : Int), (k : Int), b.1, b.2.1, b.2.2.1, b.2.2.2.1, b.2.2.2.2, m2, ()))
  (fun b r=>(c,x,v39,v40,v41,(r.foldl (fun b z=>if z.1=x then z else b) b).1,(r.foldl (fun b z=>if z.1=x then z else b) b).2.1,(r.foldl (fun b z=>if z.1=x then z else b) b).2.2.1,(r.foldl (fun b z=>if z.1=x then z else b) b).2.2.2.1,(r.foldl (fun b z=>if z.1=x then z else b) b).2.2.2.2,m2,())) (fun _ _=>True) ?_ ?_ (s:=zM) trivial
 ·intro pre z post b hz _
  have hlen:c.length=pre.length+(post.length+1):=by rw [hz];simp
  have hd:c.getD pre.length (bs [],(0:Int),bs [],bs [],(0:Int))=z:=by rw [hz];exact getD_mid rfl
  have i1:inb (pre.length:Int) ((c.length:Nat):Int)=true:=inb_t (by omega) (by omega)
  have r1:rng .i64 ((pre.length:Int)+1)=true:=rng_i64 (by omega) (by omega)
  left
  refine ⟨if z.1=x then z else b,?_,trivial,rfl⟩
  simp only [g5_1,run_br,run_nb,run_ni,run_ret,Int.toNat_natCast,hd,i1,r1,need_true,br_d,seq_eq]
  rw [if_pos (by omega)]
  split<;>rfl
 ·intro b _
  simp only [g5_1,run_br,run_ret,br_d]
  rw [if_neg (by omega)]
  rfl
def allV (c:List Mg) (t:ByteArray):List ByteArray:=(c.filter fun m=>decide (verV c m.1=some t)).map (·.1)
theorem allV_len {t:ByteArray}:(allV c t).length≤c.length:=by unfold allV;rw [List.length_map];exact List.length_filter_le ..
theorem isV_iff {x r:ByteArray} (t:ByteArray) (h:∀t,verV c x=some t→r=t):verV c x=some t↔(verV c x).isSome=true∧r=t:=by
 constructor
 ·intro e;rw [e];exact ⟨rfl,h t e⟩
 ·rintro ⟨h1, rfl⟩
  obtain ⟨t,ht⟩:=Option.isSome_iff_exists.1 h1
  rw [h t ht,ht]
theorem k5_2 (hs:SI c) (hk:Kd3 c) (hl:c.length≤9) {v7 t:ByteArray} {v11 v12 v14 v21 v40 v41 v74:Int} {nv13:Nat} {v17 v18 v20 v75:Bool} {v39 b2:List ByteArray} {m:Mg} {m4:List (Mg×Bool)} :
  iter (fun a=>run0 (g5_2 a)) (c,v7,v11,v12,nv13,v14,v17,v18,t,v20,v21,(0:Nat),v39,v40,v41,v74,v75,c,((c.length:Nat):Int),(0:Int),m.1,m.2.1,m.2.2.1,m.2.2.2.1,m.2.2.2.2,b2,[],m4,()) =
   some (c,v7,v11,v12,nv13,v14,v17,v18,v20,v21,(if v20=true then allV c t else []).length,v39,v40,v41,v74,v75,m.1,m.2.1,m.2.2.1,m.2.2.2.1,m.2.2.2.2,b2,if v20=true then allV c t else [],m4,()):=by
 refine iter_list c (fun k (o : List ByteArray) => (c, v7, v11, v12, nv13, v14, v17, v18, t, v20, v21, o.length, v39, v40, v41, v74, v75, c, ((c.length : Nat) : Int), (k : Int), m.1, m.2.1, m.2.2.1, m.2.2.2.1, m.2.2.2.2, b2, o, m4, ()))
  (fun o r=>(c,v7,v11,v12,nv13,v14,v17,v18,v20,v21,(o++(if v20=true then (r.filter fun m=>decide (verV c m.1=some t)).map (·.1) else [])).length,v39,v40,v41,v74,v75,m.1,m.2.1,m.2.2.1,m.2.2.2.1,m.2.2.2.2,b2,o++(if v20=true then (r.filter fun m=>decide (verV c m.1=some t)).map (·.1) else []),m4,())) (fun pre o=>o.length≤pre.length) ?_ ?_ (s:=[]) (Nat.le_refl _)
 ·intro pre z post o hz ho
  have hlen:c.length=pre.length+(post.length+1):=by rw [hz];simp
  have hd:c.getD pre.length (bs [],(0:Int),bs [],bs [],(0:Int))=z:=by rw [hz];exact getD_mid rfl
  have i1:inb (pre.length:Int) ((c.length:Nat):Int)=true:=inb_t (by omega) (by omega)
  have r1:rng .i64 ((pre.length:Int)+1)=true:=rng_i64 (by omega) (by omega)
  have d1:decide (o.length+1<bigL)=true:=decide_eq_true (by rw [bigL_eq];omega)
  obtain ⟨r,h35,hr⟩:=k35' hs hk hl (m:=z) (by rw [hz];simp)
  have h35':run0 (F35 c (z.1,z.2.1,z.2.2.1,z.2.2.2.1,z.2.2.2.2))=_:=h35
  have hv:=isV_iff (c:=c) t hr
  left
  by_cases hq:v20=true∧verV c z.1=some t
  ·obtain ⟨rfl, hq⟩ := hq
   obtain ⟨q1,q2⟩:=hv.1 hq
   refine ⟨o++[z.1],?_,by simp;omega,by rw [List.filter_cons_of_pos (by simpa using hq)];simp⟩
   simp only [g5_2,run_br,run_nb,run_nd,run_ni,run_ret,run_bd,Int.toNat_natCast,hd,i1,r1,need_true,br_d,seq_eq]
   rw [if_pos (by omega),bind_of h35']
   simp only [q1,brO_true,if_pos q2,List.drop_zero,List.take_succ_cons,List.take_zero,List.length_singleton,d1,need_true,List.take_length,List.length_append]
   rfl
  ·refine ⟨o, ?_, by simp; omega, ?_⟩
   ·simp only [g5_2, run_br, run_nb, run_nd, run_ni, run_ret, run_bd, Int.toNat_natCast, hd, i1, r1, need_true, br_d, seq_eq]
    rw [if_pos (by omega),bind_of h35']
    cases v20 with
    |false=>rw [brO_false];rfl
    |true =>
     rw [brO_true]
     cases hi:(verV c z.1).isSome with
     |false=>simp only [brO_false];rfl
     |true =>
      simp only [brO_true]
      rw [if_neg fun e=>hq ⟨rfl,hv.2 ⟨hi,e⟩⟩]
      rfl
   ·cases v20 with
    |false=>rfl
    |true=>rw [List.filter_cons_of_neg (by simpa using hq)]
 ·intro o _
  simp only [g5_2,run_br,run_ret,br_d]
  rw [if_neg (by omega)]
  simp
theorem k5_3 {v5:List Mg} {v7:ByteArray} {v11 v12 v14 v21 v40 v41 v74:Int} {nv13 nv22:Nat} {v75 v145 v148 v149:Bool} {v39 b2 A:List ByteArray} {m:Mg} {m4:List (Mg×Bool)} (hA:A.length<1000000) :
  iter (fun a=>run0 (g5_3 a)) (v5,v7,v11,v12,nv13,v14,v21,nv22,v39,v40,v41,v74,v75,v145,v148,v149,A.length,((A.length:Nat):Int),(0:Int),m.1,m.2.1,m.2.2.1,m.2.2.2.1,m.2.2.2.2,b2,A,m4,()) =
   some (v5,v7,v11,v12,nv13,v14,if memB v7 A=true then 4 else v21,nv22,v39,v40,v41,v74,v75,v145,v148,v149,m.1,m.2.1,m.2.2.1,m.2.2.2.1,m.2.2.2.2,b2,A,m4,()):=by
 refine iter_list A (fun k (w : Int) => (v5, v7, v11, v12, nv13, v14, w, nv22, v39, v40, v41, v74, v75, v145, v148, v149, A.length, ((A.length : Nat) : Int), (k : Int), m.1, m.2.1, m.2.2.1, m.2.2.2.1, m.2.2.2.2, b2, A, m4, ()))
  (fun w r=>(v5,v7,v11,v12,nv13,v14,if memB v7 r=true then 4 else w,nv22,v39,v40,v41,v74,v75,v145,v148,v149,m.1,m.2.1,m.2.2.1,m.2.2.2.1,m.2.2.2.2,b2,A,m4,())) (fun _ _=>True) ?_ ?_ (s:=v21) trivial
 ·intro pre z post w hz _
  have hlen:A.length=pre.length+(post.length+1):=by rw [hz];simp
  have hd:A.getD pre.length (bs [])=z:=by rw [hz];exact getD_mid rfl
  have i1:inb (pre.length:Int) ((A.length:Nat):Int)=true:=inb_t (by omega) (by omega)
  have r1:rng .i64 ((pre.length:Int)+1)=true:=rng_i64 (by omega) (by omega)
  have d1:decide (pre.length<A.length)=true:=decide_eq_true (by omega)
  left
  refine ⟨if z=v7 then 4 else w,?_,trivial,?_⟩
  ·simp only [g5_3, run_br, run_nb, run_nd, run_ni, run_ret, Int.toNat_natCast, Nat.zero_add, hd, i1, r1, d1, need_true, br_d, seq_eq]
   rw [if_pos (by omega)]
   split<;>rfl
  ·unfold memB
   rw [List.any_cons]
   by_cases h:z=v7
   ·rw [if_pos h,decide_eq_true h,Bool.true_or,if_pos rfl];split<;>rfl
   ·rw [if_neg h,decide_eq_false h,Bool.false_or]
 ·intro w _
  simp only [g5_3,run_br,run_ret,br_d]
  rw [if_neg (by omega)]
  rfl
theorem k5_4 (hs:SI c) (hk:Kd3 c) (hl:c.length≤9) {t:ByteArray} {v14 v40 v41 v74 v171 v172:Int} {nv13:Nat} {v75 v173:Bool} {v39 b1:List ByteArray} {m:Mg} {m4:List (Mg×Bool)} :
  iter (fun a=>run0 (g5_4 a)) (c,t,nv13,v14,(0:Nat),v39,v40,v41,v74,v75,v171,v172,v173,c,((c.length:Nat):Int),(0:Int),b1,[],m.1,m.2.1,m.2.2.1,m.2.2.2.1,m.2.2.2.2,m4,()) =
   some (c,nv13,v14,(allV c t).length,v39,v40,v41,v74,v75,v171,v172,v173,b1,allV c t,m.1,m.2.1,m.2.2.1,m.2.2.2.1,m.2.2.2.2,m4,()):=by
 refine iter_list c (fun k (o : List ByteArray) => (c, t, nv13, v14, o.length, v39, v40, v41, v74, v75, v171, v172, v173, c, ((c.length : Nat) : Int), (k : Int), b1, o, m.1, m.2.1, m.2.2.1, m.2.2.2.1, m.2.2.2.2, m4, ()))
  (fun o r=>(c,nv13,v14,(o++(r.filter fun m=>decide (verV c m.1=some t)).map (·.1)).length,v39,v40,v41,v74,v75,v171,v172,v173,b1,o++(r.filter fun m=>decide (verV c m.1=some t)).map (·.1),m.1,m.2.1,m.2.2.1,m.2.2.2.1,m.2.2.2.2,m4,())) (fun pre o=>o.length≤pre.length) ?_ ?_ (s:=[]) (Nat.le_refl _)
 ·intro pre z post o hz ho
  have hlen:c.length=pre.length+(post.length+1):=by rw [hz];simp
  have hd:c.getD pre.length (bs [],(0:Int),bs [],bs [],(0:Int))=z:=by rw [hz];exact getD_mid rfl
  have i1:inb (pre.length:Int) ((c.length:Nat):Int)=true:=inb_t (by omega) (by omega)
  have r1:rng .i64 ((pre.length:Int)+1)=true:=rng_i64 (by omega) (by omega)
  have d1:decide (o.length+1<bigL)=true:=decide_eq_true (by rw [bigL_eq];omega)
  obtain ⟨r,h35,hr⟩:=k35' hs hk hl (m:=z) (by rw [hz];simp)
  have h35':run0 (F35 c (z.1,z.2.1,z.2.2.1,z.2.2.2.1,z.2.2.2.2))=_:=h35
  have hv:=isV_iff (c:=c) t hr
  left
  by_cases hq:verV c z.1=some t
  ·obtain ⟨q1, q2⟩ := hv.1 hq
   refine ⟨o++[z.1],?_,by simp;omega,by rw [List.filter_cons_of_pos (by simpa using hq)];simp⟩
   simp only [g5_4,run_br,run_nb,run_nd,run_ni,run_ret,run_bd,Int.toNat_natCast,hd,i1,r1,need_true,br_d,seq_eq]
   rw [if_pos (by omega),bind_of h35']
   simp only [q1,brO_true,if_pos q2,List.drop_zero,List.take_succ_cons,List.take_zero,List.length_singleton,d1,need_true,List.take_length,List.length_append]
   rfl
  ·refine ⟨o, ?_, by simp; omega, ?_⟩
   ·simp only [g5_4, run_br, run_nb, run_nd, run_ni, run_ret, run_bd, Int.toNat_natCast, hd, i1, r1, need_true, br_d, seq_eq]
    rw [if_pos (by omega),bind_of h35']
    cases hi:(verV c z.1).isSome with
    |false=>simp only [brO_false];rfl
    |true =>
     simp only [brO_true]
     rw [if_neg fun e=>hq (hv.2 ⟨hi,e⟩)]
     rfl
   ·rw [List.filter_cons_of_neg (by simpa using hq)]
 ·intro o _
  simp only [g5_4,run_br,run_ret,br_d]
  rw [if_neg (by omega)]
  simp
end
theorem k5_0 {L:List Mg} (hL:OKB L) (hC:CN (cnt L)) (k:Nat) (hk8:k<8):run0 (g5_0 (cnt L,id8,((id8.length:Nat):Int),(k:Int),bk L,()))=some (.inl (cnt L,id8,((id8.length:Nat):Int),((k+1:Nat):Int),bk L,())):=by
 have hs:=hC.si
 have hk:=hC.k3
 have h8:=hC.len
 have hl9:(cnt L).length≤9:=by omega
 have hi8:id8.length=8:=rfl
 have i1:inb (k:Int) ((id8.length:Nat):Int)=true:=inb_t (by omega) (by omega)
 have r1:rng .i64 ((k:Int)+1)=true:=rng_i64 (by omega) (by omega)
 generalize hx:id8.getD k (bs [])=x
 have h32:=kH32 hL x
 have h33:=kH33 hL x
 simp only [g5_0,run_br,run_nb,run_bd,run_it,br_d,Int.toNat_natCast,i1,need_true,hx]
 rw [if_pos (by omega),bind_of (k5_1 hs (by omega))]
 simp only
 rw [bind_of h32]
 simp only
 rw [bind_of h33]
 simp only [run_br,br_eq]
 generalize cnt L=c at *
 by_cases hM:isM c x=true
 ·obtain ⟨hm1, hm2⟩ := msg_mem hs hM
  have hkk:=hk _ hm1
  by_cases h3:(msg c x).2.1=3
  ·have e1 : stateL c x = (0, 18) := by unfold stateL; rw [if_pos hM, if_pos h3]
   have e2:versL c x=([],18):=by unfold versL;rw [if_pos hM,if_neg (by omega)]
   rw [if_neg (by omega),if_pos h3]
   simp only [run_jx,run_br,run_ret,run_ni,br_eq,if_pos h3,bindO_s,onS,e1,e2,List.length_nil,br_not,reduceIte,r1,need_true]
   rfl
  ·have h34 := k34 (c := c) (by omega) (msg c x)
   obtain ⟨ho,hst,_⟩:=chn9 hs hk hl9 hm1 h3
   obtain ⟨r,h35,hr⟩:=k35' hs hk hl9 hm1
   rw [hm2] at ho hst h35 hr
   have h34':run0 (F34 c ((msg c x).1,(msg c x).2.1,(msg c x).2.2.1,(msg c x).2.2.2.1,(msg c x).2.2.2.2))=_:=h34
   have h35':run0 (F35 c ((msg c x).1,(msg c x).2.1,(msg c x).2.2.1,(msg c x).2.2.2.1,(msg c x).2.2.2.2))=_:=h35
   rw [ho,hst] at h34'
   rw [if_neg (by omega),if_neg h3,bind_of h34']
   simp only
   rw [bind_of h35']
   simp only [run_jx,run_br,run_ret,run_bd,run_it,br_not]
   have hfin:∀(w:Int),stateL c x=(w,0)→stateL c x=(w,0):=fun w h=>h
   have hvk:∀t,verV c x=some t→r=t:=hr
   -- what comes behind the state: its versions
   have hv1:(msg c x).2.1=1→versL c x=(allV c x,0)∧0<(allV c x).length:=fun h1=>by
    have ht:Tk c x:=⟨_,hm1,hm2,h1⟩
    have e:allV c x=ver c x:=(ver_eq hs hk ht).symm
    refine ⟨by unfold versL;rw [if_pos hM,if_pos h1,e],?_⟩
    rw [e];exact List.length_pos_iff.2 (ver_ne hs ⟨hM,h1⟩)
   have hv2:(msg c x).2.1≠1→versL c x=([],18):=fun h1=>by unfold versL;rw [if_pos hM,if_neg h1]
   cases hsk:stkB c x with
   |true =>
    have hsd:std' c x=none:=by
     cases h:std' c x with
     |none=>rfl
     |some t=>have:=((std'_iff hs hk).1 h).2.1;rw [hsk] at this;cases this
    have hvd:verV c x=none:=by unfold verV;rw [hsd];split<;>rfl
    have e1:stateL c x=(2,0):=by unfold stateL;rw [if_pos hM,if_neg h3,if_pos hsk]
    simp only [hsd,hvd,Option.isSome_none,brO_true,brO_false,br_eq,br_not,reduceIte,bindO_s,onS]
    rw [bind_of (k5_2 hs hk hl9)]
    simp only [Bool.false_eq_true,if_false,if_true,brO_true,brO_false,br_eq,br_not,reduceIte,bindO_s,onS,e1,List.length_nil,List.drop_zero,List.take_nil,run_ni,run_ret,run_br,run_bd,run_it]
    by_cases h1:(msg c x).2.1=1
    ·obtain ⟨h5, h6⟩ := hv1 h1
     rw [if_pos h1,bind_of (k5_4 hs hk hl9),h5]
     simp only [br_eq,br_not,reduceIte,List.take_length,List.drop_zero]
     rw [if_neg (by omega),bind_of (k36 (by have:=allV_len (c:=c) (t:=x);omega))]
     simp only [decide_true,brO_true,run_ni,run_ret,r1,need_true]
     rfl
    ·rw [if_neg h1, hv2 h1]
     simp only [br_eq,br_not,reduceIte,List.length_nil,r1,need_true]
     rfl
   |false =>
    cases hsd:std' c x with
    |none =>
     have hvd:verV c x=none:=by unfold verV;rw [hsd];split<;>rfl
     have e1:stateL c x=(1,0):=by unfold stateL;rw [if_pos hM,if_neg h3,if_neg (by simp [hsk]),hsd]
     simp only [hvd,Option.isSome_none,brO_true,brO_false,br_eq,br_not,reduceIte,bindO_s,onS]
     rw [bind_of (k5_2 hs hk hl9)]
     simp only [Bool.false_eq_true,if_false,if_true,brO_true,brO_false,br_eq,br_not,reduceIte,bindO_s,onS,e1,List.length_nil,List.drop_zero,List.take_nil,run_ni,run_ret,run_br,run_bd,run_it]
     by_cases h1:(msg c x).2.1=1
     ·obtain ⟨h5, h6⟩ := hv1 h1
      rw [if_pos h1,bind_of (k5_4 hs hk hl9),h5]
      simp only [br_eq,br_not,reduceIte,List.take_length,List.drop_zero]
      rw [if_neg (by omega),bind_of (k36 (by have:=allV_len (c:=c) (t:=x);omega))]
      simp only [decide_true,brO_true,run_ni,run_ret,r1,need_true]
      rfl
     ·rw [if_neg h1, hv2 h1]
      simp only [br_eq,br_not,reduceIte,List.length_nil,r1,need_true]
      rfl
    |some t =>
     have htk:Tk c t:=((std'_iff hs hk).1 hsd).1
     have hmv:=mem_ver hs hk (y:=x) htk
     by_cases hlv:liv c x=[]
     ·have hvd : verV c x = some t := verV_some.2 ⟨hlv, hsd⟩
      obtain rfl:=hr t hvd
      have hmem:memB x (allV c r)=true:=memB_iff.2 (by rw [show allV c r=ver c r from (ver_eq hs hk htk).symm];exact hmv.2 hvd)
      have e0:stateL c x=if 1<(allV c r).length then (5,0) else (4,0):=by
       unfold stateL
       rw [if_pos hM,if_neg h3,if_neg (by simp [hsk]),hsd,show allV c r=ver c r from (ver_eq hs hk htk).symm]
       simp only
       rw [if_pos (memB_iff.2 (hmv.2 hvd))]
      have e1p:1<(allV c r).length→stateL c x=(5,0):=fun h=>by rw [e0,if_pos h]
      have e1n:¬1<(allV c r).length→stateL c x=(4,0):=fun h=>by rw [e0,if_neg h]
      simp only [hvd,Option.isSome_some,brO_true,brO_false,br_eq,br_not,reduceIte,bindO_s,onS]
      rw [bind_of (k5_2 hs hk hl9)]
      simp only [if_true,brO_true,brO_false,br_not,reduceIte,bindO_s,onS,run_ni,run_ret,run_br,run_bd,run_it]
      rw [bind_of (k5_3 (by have:=allV_len (c:=c) (t:=r);omega))]
      simp only [hmem,if_true,brO_true,brO_false,br_eq,br_d,br_not,reduceIte,bindO_s,onS]
      by_cases h1l:1<(allV c r).length
      ·rw [if_pos (by omega)]
       have e1:=e1p h1l
       simp only [bindO_s,onS,e1,run_ni,run_ret,run_br,run_bd,run_it,br_eq,br_not,reduceIte,List.drop_zero]
       by_cases h1:(msg c x).2.1=1
       ·obtain ⟨h5, h6⟩ := hv1 h1
        rw [if_pos h1,bind_of (k5_4 hs hk hl9),h5]
        simp only [br_eq,br_not,reduceIte,List.take_length,List.drop_zero]
        rw [if_neg (by omega),bind_of (k36 (by have:=allV_len (c:=c) (t:=x);omega))]
        simp only [decide_true,brO_true,run_ni,run_ret,r1,need_true]
        rfl
       ·rw [if_neg h1, hv2 h1]
        simp only [br_eq,br_not,reduceIte,List.length_nil,r1,need_true]
        rfl
      ·rw [if_neg (by omega)]
       have e1:=e1n h1l
       simp only [bindO_s,onS,e1,run_ni,run_ret,run_br,run_bd,run_it,br_eq,br_not,reduceIte,List.drop_zero]
       by_cases h1:(msg c x).2.1=1
       ·obtain ⟨h5, h6⟩ := hv1 h1
        rw [if_pos h1,bind_of (k5_4 hs hk hl9),h5]
        simp only [br_eq,br_not,reduceIte,List.take_length,List.drop_zero]
        rw [if_neg (by omega),bind_of (k36 (by have:=allV_len (c:=c) (t:=x);omega))]
        simp only [decide_true,brO_true,run_ni,run_ret,r1,need_true]
        rfl
       ·rw [if_neg h1, hv2 h1]
        simp only [br_eq,br_not,reduceIte,List.length_nil,r1,need_true]
        rfl
     ·have hvd : verV c x = none := by unfold verV; rw [if_neg hlv]
      have hmem:memB x (ver c t)=false:=by
       cases h:memB x (ver c t) with
       |false=>rfl
       |true=>have:=hmv.1 (memB_iff.1 h);rw [hvd] at this;cases this
      have e1:stateL c x=(3,0):=by
       unfold stateL
       rw [if_pos hM,if_neg h3,if_neg (by simp [hsk]),hsd]
       simp only
       rw [if_neg (by simp [hmem])]
      simp only [hvd,Option.isSome_none,Option.isSome_some,brO_true,brO_false,br_eq,br_not,reduceIte,bindO_s,onS]
      rw [bind_of (k5_2 hs hk hl9)]
      simp only [Bool.false_eq_true,if_false,if_true,brO_true,brO_false,br_eq,br_not,reduceIte,bindO_s,onS,e1,List.length_nil,List.drop_zero,List.take_nil,run_ni,run_ret,run_br,run_bd,run_it]
      by_cases h1:(msg c x).2.1=1
      ·obtain ⟨h5, h6⟩ := hv1 h1
       rw [if_pos h1,bind_of (k5_4 hs hk hl9),h5]
       simp only [br_eq,br_not,reduceIte,List.take_length,List.drop_zero]
       rw [if_neg (by omega),bind_of (k36 (by have:=allV_len (c:=c) (t:=x);omega))]
       simp only [decide_true,brO_true,run_ni,run_ret,r1,need_true]
       rfl
      ·rw [if_neg h1, hv2 h1]
       simp only [br_eq,br_not,reduceIte,List.length_nil,r1,need_true]
       rfl
 ·have e0 : msg c x = zM := msg_none (by simpa using hM)
  have e1:stateL c x=(0,5):=by unfold stateL;rw [if_neg hM]
  have e2:versL c x=([],5):=by unfold versL;rw [if_neg hM]
  have e03:¬(0:Int)=3:=by omega
  rw [e0,e1,e2]
  simp only [run_jx,run_br,run_ret,run_ni,br_eq,reduceIte,if_neg e03,bindO_s,onS,List.length_nil,br_not,r1,need_true]
  rfl
theorem k5 {p:List Nu} (hp:∀x∈p,U8s x):run0 (F5 p)=some (true,()):=by
 have hml:=madeL_len p
 have hL:=OKB.told (madeL p)
 have hC:=made_cn hp
 have hit:iter (fun a=>run0 (g5_0 a)) (cnt (toldL (madeL p)),id8,((id8.length:Nat):Int),(0:Int),bk (toldL (madeL p)),())=some (.inr ()):=by
  refine iter_count 8 (fun k=>(cnt (toldL (madeL p)),id8,((id8.length:Nat):Int),(k:Int),bk (toldL (madeL p)),())) (fun k hk=>k5_0 hL hC k hk) ?_
  have hi8:id8.length=8:=rfl
  simp only [g5_0,run_br,run_ret,br_d]
  rw [if_neg (by omega)]
 unfold F5
 simp only [run_bd]
 rw [bind_of (k28 hp)]
 simp only
 rw [bind_of (kH29 (by omega) (made_sh p))]
 simp only
 rw [bind_of (made_k30 hp),bind_of k31]
 simp only [run_it]
 refine Eq.trans (bind_of hit) ?_
 simp only [run_sr,run_bd]
 rw [bind_of k17]
 rfl
theorem law5 (p:List Nu) (hW:WfAll [.list nuT] (p,())):run0 (F5 p)=some (true,()):=k5 fun x hx=>nu_of (hW.1.2 x hx)
end Go.Proofs.Tryz
end
