/- The small machine's code: what must hold for it to end well. -/
import Derived.Test.YtigglifniejbpaaAM3
set_option linter.unusedVariables false
set_option linter.unusedSimpArgs false
namespace Go.AM

def rwO (c : O) (b : Bool) (S : St) : St := match c with
  | .t n => rw2 n b S
  | .c _ => S

def isData : Nat → V → Bool
  | 0, _ => false
  | n + 1, v => match v with
    | .sl _ _ _ _ => false
    | .ptr _ _ => false
    | .ep _ _ _ _ => false
    | .yl _ => false
    | .ipc cs => cs.all (isData n)
    | .fn _ a b => a.all (isData n) && b.all (isData n)
    | .agg cs => cs.all (isData n)
    | .tup cs => cs.all (isData n)
    | .ifc _ v => isData n v
    | _ => true

def mapO (g : V → Option V) : List V → Option (List V)
  | [] => some []
  | v :: r => match g v with
    | some x => match mapO g r with
      | some xs => some (x :: xs)
      | none => none
    | none => none

/-- A value as data, all blocks read for ever. -/
def fin (ar : Ar) (bl : Blks) : Nat → V → Option V
  | 0, _ => none
  | n + 1, v => match v with
    | .sl id t lo m => match bget id bl with
      | some (.arr t' xs _) => if t = t' then some (.lst t' (ar.sub' xs lo m)) else none
      | _ => none
    | .ptr id off => match bget id bl with
      | some (.cells cs _) => match mapO (fin ar bl n) cs with
        | some ds => if off ≤ ds.length then some (.ipc (ds.drop off)) else none
        | none => none
      | _ => none
    | .ep _ _ _ _ => none
    | .yl _ => none
    | .fn f a b => match mapO (fin ar bl n) a, mapO (fin ar bl n) b with
      | some a, some b => some (.fn f a b)
      | _, _ => none
    | .agg cs => match mapO (fin ar bl n) cs with
      | some cs => some (.agg cs)
      | none => none
    | .tup cs => match mapO (fin ar bl n) cs with
      | some cs => some (.tup cs)
      | none => none
    | .ifc t v => match fin ar bl n v with
      | some v => some (.ifc t v)
      | none => none
    | .ipc cs => if cs.all (isData n) then some (.ipc cs) else none
    | v => some v

def vid : V → List Nat
  | .sl id _ _ _ => [id]
  | .ptr id _ => [id]
  | .ep id _ _ _ => [id]
  | _ => []

def vids : V → List Nat
  | .agg cs => cs.flatMap vid
  | v => vid v

/-- The blocks that an operation reads. -/
def rdOf (i : I) (env : List (Nat × V)) : List Nat := match i with
  | .load _ _ x => vid (x.ev env)
  | .store _ a x => vid (a.ev env) ++ vids (x.ev env)
  | .bslice _ xs => (xs.map (·.ev env)).flatMap vids
  | .append _ x y => vid (x.ev env) ++ vid (y.ev env)
  | _ => []

def memN (x : Nat) : List Nat → Bool
  | [] => false
  | y :: r => match Nat.beq y x with
    | true => true
    | false => memN x r

def disjN : List Nat → List Nat → Bool
  | [], _ => true
  | x :: r, l => match memN x l with
    | true => false
    | false => disjN r l

/-- What an item has read and written of the heap. -/
structure DR where
  k : Nat
  rd : List Nat
  wr : List Nat

def drPair (preds : List (List Nat)) (a b : DR) : Bool :=
  match memN a.k (preds.getD b.k []) with
  | true => true
  | false => match disjN a.wr b.rd with
    | false => false
    | true => match disjN a.wr b.wr with
      | false => false
      | true => disjN a.rd b.wr

def drOne (preds : List (List Nat)) (a : DR) : List DR → Bool
  | [] => true
  | b :: r => match drPair preds a b with
    | true => drOne preds a r
    | false => false

def drOk (preds : List (List Nat)) : List DR → Bool
  | [] => true
  | a :: r => match drOne preds a r with
    | true => drOk preds r
    | false => false

def addR (k : Nat) (rd wr : List Nat) (recs : List DR) : List DR := match rd, wr with
  | [], [] => recs
  | _, _ => recs ++ [⟨k, rd, wr⟩]

/-- A value that is no list and holds none. -/
def scal : V → Bool
  | .bool _ => true
  | .tf _ => true
  | .int _ _ => true
  | .tup vs => vs.all fun
    | .bool _ => true
    | .tf _ => true
    | .int _ _ => true
    | _ => false
  | _ => false

/-- What is put where a guard looks is known. -/
def putG (gs : List Nat) (d : Option Nat) (v : V) (env : List (Nat × V)) (K : List (Nat × V) → Prop) : Prop := match d with
  | none => K env
  | some t => match memN t gs with
    | false => K (setE t v env)
    | true => match v with
      | .bool c => Br c (fun _ => K (setE t (.tf true) env)) (fun _ => K (setE t (.tf false) env))
      | v => K (setE t v env)

def gOk (g : Option (Nat × Bool)) (env : List (Nat × V)) : Option Bool := match g with
  | none => some true
  | some (s, b) => match get s env with
    | .tf c => match c, b with
      | true, true => some true
      | false, false => some true
      | _, _ => some false
    | .tup _ => some false
    | _ => none

/-- The blocks that 'fin' reads. -/
def fids (bl : Blks) : Nat → V → List Nat
  | 0, _ => []
  | n + 1, v => match v with
    | .sl id _ _ _ => [id]
    | .ptr id _ => id :: (match bget id bl with
      | some (.cells cs _) => cs.flatMap (fids bl n)
      | _ => [])
    | .fn _ a b => a.flatMap (fids bl n) ++ b.flatMap (fids bl n)
    | .agg cs => cs.flatMap (fids bl n)
    | .tup cs => cs.flatMap (fids bl n)
    | .ifc _ v => fids bl n v
    | _ => []

def idsOf (bl : Blks) (vs : List V) : List Nat := vs.flatMap (fids bl 8)

def wpDr (ar : Ar) (gs : List Nat) (b : Nat) : List Itm → Nat → List (Nat × V) → Blks → List DR → (List (Nat × V) → Blks → List DR → Prop) → Prop
  | [], _, env, bl, recs, K => K env bl recs
  | .op d g i :: r, k, env, bl, recs, K => match gOk g env with
    | some true => match evI ar i env bl (b + k) with
      | some (ob, v, u) => AllB ob ∧ putG gs d v env fun env' => wpDr ar gs b r (k + 1) env' (bupd u bl) (addR k (rdOf i env) (u.map (·.1)) recs) K
      | none => False
    | some false => wpDr ar gs b r (k + 1) (put d (.tup []) env) bl recs K
    | none => False
  | .call d g f a tys :: r, k, env, bl, recs, K => match gOk g env with
    | some true => match f.ev env with
      | .fn f fs cs => match fs ++ normL tys (a.map (·.ev env)) ++ cs with
        | vs => match mapO (fin ar bl 8) vs with
          | some vs' => ∃ x, ar.pcall f vs' x ∧ (scal x || vs.all (isData 8)) = true ∧ putG gs d x env fun env' => wpDr ar gs b r (k + 1) env' bl (addR k (idsOf bl vs) [] recs) K
          | none => False
      | _ => False
    | some false => wpDr ar gs b r (k + 1) (put d (.tup []) env) bl recs K
    | none => False

def gslots : List Itm → List Nat
  | [] => []
  | .op _ (some (s, _)) _ :: r => s :: gslots r
  | .call _ (some (s, _)) _ _ _ :: r => s :: gslots r
  | _ :: r => gslots r

def wpDraw (ar : Ar) (preds : List (List Nat)) (is : List Itm) (S : St) (K : St → Prop) : Prop :=
  wpDr ar (gslots is) S.H.next is 0 S.env S.H.bl [] fun env bl recs => drOk preds recs = true ∧ K ⟨env, ⟨S.H.next + is.length, bl⟩, S.ms⟩

def wpE (ar : Ar) : C → St → (Ex → St → Prop) → Prop
  | .skip, S, K => K .normal S
  | .reg is, S, K => wpItms ar is S fun S => K .normal S
  | .draw ps is, S, K => wpDraw ar ps is S fun S => K .normal S
  | .seq a b, S, K => wpE ar a S fun e S => match e with
    | .normal => wpE ar b S K
    | .exit id => K (.exit id) S
    | .ret => K .ret S
  | .cond c a b, S, K => match c.ev S.env with
    | .tf true => wpE ar a S K
    | .tf false => wpE ar b S K
    | .bool x => Br x (fun _ => wpE ar a (rwO c true S) K) (fun _ => wpE ar b (rwO c false S) K)
    | _ => False
  | .block id c, S, K => wpE ar c S fun e S => match e with
    | .normal => K .normal S
    | .exit id' => match Nat.beq id' id with
      | true => K .normal S
      | false => K (.exit id') S
    | .ret => K .ret S
  | .loop c, S, K => ar.loop c S K
  | .exit id, S, K => K (.exit id) S
  | .ret, S, K => K .ret S
  | .rangeF f ps a b, S, K => ar.rangeF f ps a b S K

def args : Nat → List V → List (Nat × V)
  | _, [] => []
  | n, v :: r => (n, v) :: args (n + 1) r
end Go.AM
