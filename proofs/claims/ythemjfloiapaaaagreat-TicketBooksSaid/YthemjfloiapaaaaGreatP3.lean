/- Tools for laws: rounds that count, find or keep something; needs. Rounds over a list, with a function that says what comes out. Plain Lean. DERIVED: THE SHELF's CONTRACTS AT THIS DUMP, IN PLAIN WORDS (tools/lay-plain.mjs out of 'TryzShelf.lean', which tools/lay-shelf.mjs wrote): THE SAME DECLARATIONS UNDER THE SAME NAMES: 'import', 'namespace', 'open', 'def', 'theorem' AND NOTHING ELSE: no command of the shelf's: FOR A HAND-IN. Each laying: the table of numbers ('.._ren') and one theorem, a field a fact of the dump's own or the kernel's comparison; each contract: ONE APPLICATION. -/
import Derived.Test.YthemjfloiapaaaaGreatAMf
import Derived.Test.YthemjfloiapaaaaGreatProg
import Derived.Shelf.SlGeneric
import Derived.Ground.NamesProg
import Derived.Ground.SlmcProg
import Derived.Ground.SlsfProg
import Derived.Shelf.Sort.Plain
import Derived.Shelf.SlMaps.Clone
import Derived.Shelf.SlSortCmp.WholeK
set_option linter.unusedSectionVars false
set_option linter.unusedVariables false
set_option linter.unusedSimpArgs false
section
namespace Go.AM
theorem cO:bp=1073741824:=by decide
theorem mR {X:Type} {i:Int} {x:Option X} (h:0<=i) (h2:i<1000000000):need (bT i ((bp:Nat):Int)) x=x:=EG h (by rw [cO];omega)
theorem adb {α β γ : Type} {step : α → Option (α ⊕ β)} (n : Nat) (g : Nat → α) (stop : Nat → Option γ) (inj : γ → β) {b : β}
  (hr:∀k,k<n->(∀j,j<k->stop j=none)->step (g k)=match stop k with|none=>some (.inl (g (k+1)))|some c=>some (.inr (inj c))) (he:(∀j,j<n->stop j=none)->step (g n)=some (.inr b)) :
  iter step (g 0)=some (((List.range n).findSome? stop).elim b inj):=by
 have key:∀m k,k+m=n->(∀j,j<k->stop j=none)->iter step (g k)=some (((List.range' k m).findSome? stop).elim b inj):=by
  intro m
  induction m with
  |zero =>
   intro k hk hs
   have:k=n:=by omega
   subst this
   simpa using jt (he hs)
  |succ m ih =>
   intro k hk hs0
   have h:=hr k (by omega) hs0
   rw [List.range'_succ,List.findSome?_cons]
   cases hs:stop k with
   |none =>
    rw [hs] at h
    refine oS h (ih (k+1) (by omega) fun j hj=>?_)
    by_cases e:j=k
    ·rw [e,hs]
    ·exact hs0 j (by omega)
   |some c=>rw [hs] at h;exact jt h
 rw [List.range_eq_range']
 exact key n 0 (by omega) (fun j hj=>by omega)
theorem dI {α β : Type} {step : α → Option (α ⊕ β)} (n : Nat) (I : Nat → α → Prop) (Q : β → Prop) (hr : ∀ k x, k < n → I k x → ∃ y, step x = some (.inl y) ∧ I (k + 1) y) (he : ∀ x, I n x → ∃ b, step x = some (.inr b) ∧ Q b)
  {x:α} (h0:I 0 x):∃b,iter step x=some b/\Q b:=by
 have key:∀m k x,k+m=n->I k x->∃b,iter step x=some b/\Q b:=by
  intro m
  induction m with
  |zero =>
   intro k x hk hx
   have:k=n:=by omega
   subst this
   obtain ⟨b,h1,h2⟩:=he x hx
   exact ⟨b,jt h1,h2⟩
  |succ m ih =>
   intro k x hk hx
   obtain ⟨y,h1,h2⟩:=hr k x (by omega) hx
   obtain ⟨b,h3,h4⟩:=ih (k+1) y (by omega) h2
   exact ⟨b,oS h1 h3,h4⟩
 exact key n 0 x (by omega) h0
theorem getD_take {α:Type} {l:List α} {k n:Nat} {d:α} (h:k<n):(l.take n).getD k d=l.getD k d:=by
 simp [List.getD_eq_getElem?_getD,List.getElem?_take,h]
end Go.AM
end
section
namespace Go.AM
theorem aT {α:Type} {A B:List α} {x d:α} {n:Nat} (h:n=A.length):(A++x::B).getD n d=x:=by
 subst h;simp [List.getD_eq_getElem?_getD]
theorem aQ {A B S X : Type} {f : A → Option (A ⊕ B)} (xs : List X) (mk : Nat → S → A) (G : S → List X → B) (Inv : List X → S → Prop)
  (hs:∀pre x post s,xs=pre++x::post->Inv pre s ->
   (∃s',f (mk pre.length s)=some (.inl (mk (pre.length+1) s'))/\Inv (pre++[x]) s'/\G s (x::post)=G s' post)\/f (mk pre.length s)=some (.inr (G s (x::post))))
  (he:∀s,Inv xs s->f (mk xs.length s)=some (.inr (G s []))) {s:S} (h0:Inv [] s):iter f (mk 0 s)=some (G s xs):=by
 have key:∀(post pre:List X) (s:S),xs=pre++post->Inv pre s->iter f (mk pre.length s)=some (G s post):=by
  intro post
  induction post with
  |nil =>
   intro pre s hx hi
   have:pre=xs:=by rw [hx];simp
   subst this
   exact jt (he s hi)
  |cons x post ih =>
   intro pre s hx hi
   rcases hs pre x post s hx hi with ⟨s',h1,h2,h3⟩|h1
   ·refine oS h1 ?_
    rw [h3]
    have:=ih (pre++[x]) s' (by rw [hx];simp) h2
    simpa using this
   ·exact jt h1
 exact key xs [] s (by simp) h0
theorem bind_eq {A X:Type} {o:Option A} {a:A} {f:A->Option X} {y:Option X} (h:o=some a) (e:f a=y):cI o f=y:=by rw [h,aF,e]
theorem PX:((bp:Nat):Int)=1073741824:=by decide
theorem EU {X:Type} {n:Nat} {x:Option X} (h:n<1000000000):need (decide (n<bp)) x=x:=cm (by have:=PX;omega)
theorem EW {X:Type} {x y:Option X}:lF false x y=y:=by simp
theorem jR {X:Type} {c:Bool} {x y:Option X}:lF c x y=if c=true then x else y:=by cases c<;>simp
end Go.AM
end
section
namespace Go.Proofs
open Go.Shelf
def Tryz.yL:Go.Shelf.Ren:=⟨fun|190=>105|125=>125|258=>124|128=>144|129=>145|302=>135|303=>136|304=>137|305=>138|306=>139|307=>140|308=>141|309=>142|310=>143|333=>163|329=>164|330=>165|334=>166|335=>167|336=>130|344=>174|n=>n,fun|31=>23|9=>9|3=>3|46=>168|0=>0|51=>185|53=>187|4=>4|183=>177|182=>176|131=>182|5=>5|218=>199|222=>203|228=>209|229=>210|n=>n,fun|n=>n⟩
theorem Tryz.aas : Go.Proofs.Lays.n190 Tryz.prog Tryz.yL := {
 mixed:=by kernel_rfl
 f125:=Tryz.func125.trans (congrArg some (by kernel_rfl))
 f128:=Tryz.func144.trans (congrArg some (by kernel_rfl))
 f129:=Tryz.func145.trans (congrArg some (by kernel_rfl))
 f190:=Tryz.func105.trans (congrArg some (by kernel_rfl))
 f258:=Tryz.func124.trans (congrArg some (by kernel_rfl))
 f302:=Tryz.func135.trans (congrArg some (by kernel_rfl))
 f303:=Tryz.func136.trans (congrArg some (by kernel_rfl))
 f304:=Tryz.func137.trans (congrArg some (by kernel_rfl))
 f305:=Tryz.func138.trans (congrArg some (by kernel_rfl))
 f306:=Tryz.func139.trans (congrArg some (by kernel_rfl))
 f307:=Tryz.func140.trans (congrArg some (by kernel_rfl))
 f308:=Tryz.func141.trans (congrArg some (by kernel_rfl))
 f309:=Tryz.func142.trans (congrArg some (by kernel_rfl))
 f310:=Tryz.func143.trans (congrArg some (by kernel_rfl))
 f329:=Tryz.func164.trans (congrArg some (by kernel_rfl))
 f330:=Tryz.func165.trans (congrArg some (by kernel_rfl))
 f333:=Tryz.func163.trans (congrArg some (by kernel_rfl))
 f334:=Tryz.func166.trans (congrArg some (by kernel_rfl))
 f335:=Tryz.func167.trans (congrArg some (by kernel_rfl))
 f336:=Tryz.func130.trans (congrArg some (by kernel_rfl))
 f344:=Tryz.func174.trans (congrArg some (by kernel_rfl))
 t0:=Tryz.underlying0
 a0:=Tryz.isAgg0
 z0:=Tryz.sizeOf0
 v0:=Tryz.zeroValue0
 t3:=Tryz.underlying3
 a3:=Tryz.isAgg3
 z3:=Tryz.sizeOf3
 v3:=Tryz.zeroValue3
 t4:=Tryz.underlying4
 a4:=Tryz.isAgg4
 z4:=Tryz.sizeOf4
 v4:=Tryz.zeroValue4
 t5:=Tryz.underlying5
 a5:=Tryz.isAgg5
 z5:=Tryz.sizeOf5
 v5:=Tryz.zeroValue5
 t9:=Tryz.underlying9
 a9:=Tryz.isAgg9
 z9:=Tryz.sizeOf9
 v9:=Tryz.zeroValue9
 t31:=Tryz.underlying23
 a31:=Tryz.isAgg23
 z31:=Tryz.sizeOf23
 v31:=Tryz.zeroValue23
 t46:=Tryz.underlying168
 a46:=Tryz.isAgg168
 z46:=Tryz.sizeOf168
 v46:=Tryz.zeroValue168
 t51:=Tryz.underlying185
 a51:=Tryz.isAgg185
 z51:=Tryz.sizeOf185
 v51:=Tryz.zeroValue185
 t53:=Tryz.underlying187
 a53:=Tryz.isAgg187
 z53:=Tryz.sizeOf187
 v53:=Tryz.zeroValue187
 t131:=Tryz.underlying182
 a131:=Tryz.isAgg182
 z131:=Tryz.sizeOf182
 v131:=Tryz.zeroValue182
 t182:=Tryz.underlying176
 a182:=Tryz.isAgg176
 z182:=Tryz.sizeOf176
 v182:=Tryz.zeroValue176
 t183:=Tryz.underlying177
 a183:=Tryz.isAgg177
 z183:=Tryz.sizeOf177
 v183:=Tryz.zeroValue177
 t218:=Tryz.underlying199
 a218:=Tryz.isAgg199
 z218:=Tryz.sizeOf199
 v218:=Tryz.zeroValue199
 t222:=Tryz.underlying203
 a222:=Tryz.isAgg203
 z222:=Tryz.sizeOf203
 v222:=Tryz.zeroValue203
 t228:=Tryz.underlying209
 a228:=Tryz.isAgg209
 z228:=Tryz.sizeOf209
 v228:=Tryz.zeroValue209
 t229:=Tryz.underlying210
 a229:=Tryz.isAgg210
 z229:=Tryz.sizeOf210
 v229:=Tryz.zeroValue210 }
def Tryz.yM:Go.Shelf.Ren:=⟨fun|189=>122|125=>125|257=>134|128=>144|129=>145|294=>154|295=>155|296=>156|297=>157|298=>158|299=>159|216=>160|300=>161|301=>162|328=>171|329=>164|330=>165|331=>172|332=>173|215=>131|343=>176|n=>n,fun|28=>38|3=>3|46=>168|0=>0|51=>185|53=>187|4=>4|183=>177|182=>176|131=>182|5=>5|9=>9|218=>199|222=>203|228=>209|229=>210|n=>n,fun|n=>n⟩
theorem Tryz.aat : Go.Proofs.Lays.n189 Tryz.prog Tryz.yM := {
 mixed:=by kernel_rfl
 f125:=Tryz.func125.trans (congrArg some (by kernel_rfl))
 f128:=Tryz.func144.trans (congrArg some (by kernel_rfl))
 f129:=Tryz.func145.trans (congrArg some (by kernel_rfl))
 f189:=Tryz.func122.trans (congrArg some (by kernel_rfl))
 f215:=Tryz.func131.trans (congrArg some (by kernel_rfl))
 f216:=Tryz.func160.trans (congrArg some (by kernel_rfl))
 f257:=Tryz.func134.trans (congrArg some (by kernel_rfl))
 f294:=Tryz.func154.trans (congrArg some (by kernel_rfl))
 f295:=Tryz.func155.trans (congrArg some (by kernel_rfl))
 f296:=Tryz.func156.trans (congrArg some (by kernel_rfl))
 f297:=Tryz.func157.trans (congrArg some (by kernel_rfl))
 f298:=Tryz.func158.trans (congrArg some (by kernel_rfl))
 f299:=Tryz.func159.trans (congrArg some (by kernel_rfl))
 f300:=Tryz.func161.trans (congrArg some (by kernel_rfl))
 f301:=Tryz.func162.trans (congrArg some (by kernel_rfl))
 f328:=Tryz.func171.trans (congrArg some (by kernel_rfl))
 f329:=Tryz.func164.trans (congrArg some (by kernel_rfl))
 f330:=Tryz.func165.trans (congrArg some (by kernel_rfl))
 f331:=Tryz.func172.trans (congrArg some (by kernel_rfl))
 f332:=Tryz.func173.trans (congrArg some (by kernel_rfl))
 f343:=Tryz.func176.trans (congrArg some (by kernel_rfl))
 t0:=Tryz.underlying0
 a0:=Tryz.isAgg0
 z0:=Tryz.sizeOf0
 v0:=Tryz.zeroValue0
 t3:=Tryz.underlying3
 a3:=Tryz.isAgg3
 z3:=Tryz.sizeOf3
 v3:=Tryz.zeroValue3
 t4:=Tryz.underlying4
 a4:=Tryz.isAgg4
 z4:=Tryz.sizeOf4
 v4:=Tryz.zeroValue4
 t5:=Tryz.underlying5
 a5:=Tryz.isAgg5
 z5:=Tryz.sizeOf5
 v5:=Tryz.zeroValue5
 t9:=Tryz.underlying9
 a9:=Tryz.isAgg9
 z9:=Tryz.sizeOf9
 v9:=Tryz.zeroValue9
 t28:=Tryz.underlying38
 a28:=Tryz.isAgg38
 z28:=Tryz.sizeOf38
 v28:=Tryz.zeroValue38
 t46:=Tryz.underlying168
 a46:=Tryz.isAgg168
 z46:=Tryz.sizeOf168
 v46:=Tryz.zeroValue168
 t51:=Tryz.underlying185
 a51:=Tryz.isAgg185
 z51:=Tryz.sizeOf185
 v51:=Tryz.zeroValue185
 t53:=Tryz.underlying187
 a53:=Tryz.isAgg187
 z53:=Tryz.sizeOf187
 v53:=Tryz.zeroValue187
 t131:=Tryz.underlying182
 a131:=Tryz.isAgg182
 z131:=Tryz.sizeOf182
 v131:=Tryz.zeroValue182
 t182:=Tryz.underlying176
 a182:=Tryz.isAgg176
 z182:=Tryz.sizeOf176
 v182:=Tryz.zeroValue176
 t183:=Tryz.underlying177
 a183:=Tryz.isAgg177
 z183:=Tryz.sizeOf177
 v183:=Tryz.zeroValue177
 t218:=Tryz.underlying199
 a218:=Tryz.isAgg199
 z218:=Tryz.sizeOf199
 v218:=Tryz.zeroValue199
 t222:=Tryz.underlying203
 a222:=Tryz.isAgg203
 z222:=Tryz.sizeOf203
 v222:=Tryz.zeroValue203
 t228:=Tryz.underlying209
 a228:=Tryz.isAgg209
 z228:=Tryz.sizeOf209
 v228:=Tryz.zeroValue209
 t229:=Tryz.underlying210
 a229:=Tryz.isAgg210
 z229:=Tryz.sizeOf210
 v229:=Tryz.zeroValue210 }
def Tryz.Bg:Go.Shelf.Ren:=⟨fun|5=>89|7=>115|n=>n,fun|23=>81|25=>33|3=>4|4=>4|20=>20|n=>n,fun|n=>n⟩
theorem Tryz.aeA : Go.Proofs.SlLaysW.n5 Tryz.prog Tryz.Bg := {
 mixed:=by kernel_rfl
 f5:=⟨Tryz.f89.name,by decide,Tryz.func89.trans (congrArg some (by kernel_rfl))⟩
 f7:=Tryz.func115.trans (congrArg some (by kernel_rfl))
 t4:=Tryz.underlying4
 a4:=Tryz.isAgg4
 z4:=Tryz.sizeOf4
 v4:=Tryz.zeroValue4
 t20:=Tryz.underlying20
 a20:=Tryz.isAgg20
 z20:=Tryz.sizeOf20
 v20:=Tryz.zeroValue20
 t23:=Tryz.underlying81
 a23:=Tryz.isAgg81
 z23:=Tryz.sizeOf81
 v23:=Tryz.zeroValue81 }
def Tryz.yN:Go.Shelf.Ren:=⟨fun|6=>110|15=>125|14=>129|28=>144|29=>145|20=>146|21=>147|22=>148|23=>149|24=>150|25=>151|26=>152|27=>153|46=>168|47=>164|48=>165|49=>169|50=>170|57=>175|n=>n,fun|22=>22|24=>33|25=>127|3=>3|39=>168|0=>0|53=>185|55=>187|4=>4|46=>177|45=>176|50=>182|5=>5|9=>9|66=>199|70=>203|76=>209|77=>210|n=>n,fun|n=>n⟩
theorem Tryz.aau : Go.Proofs.SlLaysF0.n6 Tryz.prog Tryz.yN := {
 mixed:=by kernel_rfl
 f6:=⟨Tryz.f110.name,by decide,Tryz.func110.trans (congrArg some (by kernel_rfl))⟩
 f14:=⟨Tryz.f129.name,by decide,Tryz.func129.trans (congrArg some (by kernel_rfl))⟩
 f15:=Tryz.func125.trans (congrArg some (by kernel_rfl))
 f20:=⟨Tryz.f146.name,by decide,Tryz.func146.trans (congrArg some (by kernel_rfl))⟩
 f21:=⟨Tryz.f147.name,by decide,Tryz.func147.trans (congrArg some (by kernel_rfl))⟩
 f22:=⟨Tryz.f148.name,by decide,Tryz.func148.trans (congrArg some (by kernel_rfl))⟩
 f23:=⟨Tryz.f149.name,by decide,Tryz.func149.trans (congrArg some (by kernel_rfl))⟩
 f24:=⟨Tryz.f150.name,by decide,Tryz.func150.trans (congrArg some (by kernel_rfl))⟩
 f25:=⟨Tryz.f151.name,by decide,Tryz.func151.trans (congrArg some (by kernel_rfl))⟩
 f26:=⟨Tryz.f152.name,by decide,Tryz.func152.trans (congrArg some (by kernel_rfl))⟩
 f27:=⟨Tryz.f153.name,by decide,Tryz.func153.trans (congrArg some (by kernel_rfl))⟩
 f28:=Tryz.func144.trans (congrArg some (by kernel_rfl))
 f29:=Tryz.func145.trans (congrArg some (by kernel_rfl))
 f46:=⟨Tryz.f168.name,by decide,Tryz.func168.trans (congrArg some (by kernel_rfl))⟩
 f47:=Tryz.func164.trans (congrArg some (by kernel_rfl))
 f48:=Tryz.func165.trans (congrArg some (by kernel_rfl))
 f49:=⟨Tryz.f169.name,by decide,Tryz.func169.trans (congrArg some (by kernel_rfl))⟩
 f50:=⟨Tryz.f170.name,by decide,Tryz.func170.trans (congrArg some (by kernel_rfl))⟩
 f57:=⟨Tryz.f175.name,by decide,Tryz.func175.trans (congrArg some (by kernel_rfl))⟩
 t0:=Tryz.underlying0
 a0:=Tryz.isAgg0
 z0:=Tryz.sizeOf0
 v0:=Tryz.zeroValue0
 t3:=Tryz.underlying3
 a3:=Tryz.isAgg3
 z3:=Tryz.sizeOf3
 v3:=Tryz.zeroValue3
 t4:=Tryz.underlying4
 a4:=Tryz.isAgg4
 z4:=Tryz.sizeOf4
 v4:=Tryz.zeroValue4
 t5:=Tryz.underlying5
 a5:=Tryz.isAgg5
 z5:=Tryz.sizeOf5
 v5:=Tryz.zeroValue5
 t9:=Tryz.underlying9
 a9:=Tryz.isAgg9
 z9:=Tryz.sizeOf9
 v9:=Tryz.zeroValue9
 t22:=Tryz.underlying22
 a22:=Tryz.isAgg22
 z22:=Tryz.sizeOf22
 v22:=Tryz.zeroValue22
 t25:=Tryz.underlying127
 a25:=Tryz.isAgg127
 z25:=Tryz.sizeOf127
 v25:=Tryz.zeroValue127
 t39:=Tryz.underlying168
 a39:=Tryz.isAgg168
 z39:=Tryz.sizeOf168
 v39:=Tryz.zeroValue168
 t45:=Tryz.underlying176
 a45:=Tryz.isAgg176
 z45:=Tryz.sizeOf176
 v45:=Tryz.zeroValue176
 t46:=Tryz.underlying177
 a46:=Tryz.isAgg177
 z46:=Tryz.sizeOf177
 v46:=Tryz.zeroValue177
 t50:=Tryz.underlying182
 a50:=Tryz.isAgg182
 z50:=Tryz.sizeOf182
 v50:=Tryz.zeroValue182
 t53:=Tryz.underlying185
 a53:=Tryz.isAgg185
 z53:=Tryz.sizeOf185
 v53:=Tryz.zeroValue185
 t55:=Tryz.underlying187
 a55:=Tryz.isAgg187
 z55:=Tryz.sizeOf187
 v55:=Tryz.zeroValue187
 t66:=Tryz.underlying199
 a66:=Tryz.isAgg199
 z66:=Tryz.sizeOf199
 v66:=Tryz.zeroValue199
 t70:=Tryz.underlying203
 a70:=Tryz.isAgg203
 z70:=Tryz.sizeOf203
 v70:=Tryz.zeroValue203
 t76:=Tryz.underlying209
 a76:=Tryz.isAgg209
 z76:=Tryz.sizeOf209
 v76:=Tryz.zeroValue209
 t77:=Tryz.underlying210
 a77:=Tryz.isAgg210
 z77:=Tryz.sizeOf210
 v77:=Tryz.zeroValue210 }
end Go.Proofs
end
