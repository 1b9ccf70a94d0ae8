/- The small machine, run. -/
import Derived.Test.YtigglifniejbpaaAM24
set_option linter.unusedVariables false
set_option linter.unusedSimpArgs false
namespace Go.AM

def ar0 : Ar := mkAr (fun _ _ _ _ => False) (fun _ _ _ => False) (fun _ _ _ => False) (fun _ _ _ _ => False) (fun _ _ _ _ _ _ => False)

section
variable {c1 : Nat → List V → Heap → (V → Heap → Prop) → Prop} {c2 : Nat → List V → V → Prop} {c3 : C → St → (Ex → St → Prop) → Prop}
  {c4 : Nat → List V → Heap → (V → Heap → Prop) → Prop} {c5 : O → List Nat → C → C → St → (Ex → St → Prop) → Prop} {bl : Blks}

theorem ofVs_ar : ∀ {t : Ty} {vs : List V}, ofVs (mkAr c1 c2 c3 c4 c5) bl t vs = ofVs ar0 bl t vs
  | .unit, vs => by simp only [ofVs]
  | .prod a b, vs => by simp only [ofVs, ofVs_ar (t := a), ofVs_ar (t := b)]
  | .bool, [] => rfl
  | .str, [] => rfl
  | .int _, [] => rfl
  | .list _, [] => rfl
  | .bool, c :: cs => by cases c <;> rfl
  | .str, c :: cs => by cases c <;> rfl
  | .int k, c :: cs => by cases c <;> rfl
  | .list t, c :: cs => by cases c <;> rfl

theorem ofVl_ar {t : Ty} : ∀ {vs : List V}, ofVl (mkAr c1 c2 c3 c4 c5) bl t vs = ofVl ar0 bl t vs
  | [] => rfl
  | v :: r => by simp only [ofVl, ofVs_ar, ofVl_ar (vs := r)]

theorem setP_ar : ∀ {t : Ty} {x : t.den} {p : List Bool} {vs : List V}, setP (mkAr c1 c2 c3 c4 c5) bl t x p vs = setP ar0 bl t x p vs
  | t, x, [], vs => by cases t <;> simp only [setP, ofVs_ar]
  | .prod a b, x, false :: p, vs => by simp only [setP, setP_ar (t := a)]
  | .prod a b, x, true :: p, vs => by simp only [setP, setP_ar (t := b)]
  | .unit, _, _ :: _, _ => by simp [setP]
  | .bool, _, _ :: _, _ => by simp [setP]
  | .str, _, _ :: _, _ => by simp [setP]
  | .int _, _, _ :: _, _ => by simp [setP]
  | .list _, _, _ :: _, _ => by simp [setP]

theorem elems_ar {t : Ty} {v : V} : elems (mkAr c1 c2 c3 c4 c5) bl t v = elems ar0 bl t v := by cases v <;> rfl

theorem eqCells_ar : ∀ {ks : List Kd} {xs ys : List V}, eqCells (mkAr c1 c2 c3 c4 c5) ks xs ys = eqCells ar0 ks xs ys := by
  intro ks
  induction ks with
  | nil => intro xs ys; cases xs <;> cases ys <;> rfl
  | cons k ks ih =>
    intro xs ys
    cases xs with
    | nil => cases k <;> rfl
    | cons x xs =>
      cases ys with
      | nil => cases k <;> cases x <;> rfl
      | cons y ys => cases k <;> cases x <;> cases y <;> first | rfl | (simp only [eqCells, ih]; rfl)

theorem minmaxI_ar {mx : Bool} {k : IntKind} : ∀ {ys : List V} {a : Int}, minmaxI (mkAr c1 c2 c3 c4 c5) mx k a ys = minmaxI ar0 mx k a ys := by
  intro ys
  induction ys with
  | nil => intro a; rfl
  | cons y ys ih => intro a; cases y <;> first | rfl | (simp only [minmaxI, ih]; rfl)

theorem evI_ar {i : I} {env : List (Nat × V)} {nid : Nat} : evI (mkAr c1 c2 c3 c4 c5) i env bl nid = evI ar0 i env bl nid := by
  cases i <;> first | rfl | (simp only [evI, ofVl_ar, setP_ar, elems_ar, eqCells_ar, minmaxI_ar]; done) | (simp only [evI, ofVl_ar, setP_ar, elems_ar, eqCells_ar, minmaxI_ar]; rfl)

theorem mapO_congr {g h : V → Option V} (e : ∀ v, g v = h v) : ∀ vs, mapO g vs = mapO h vs
  | [] => rfl
  | v :: r => by simp only [mapO, e v, mapO_congr e r]

theorem fin_ar : ∀ {n : Nat} {v : V}, fin (mkAr c1 c2 c3 c4 c5) bl n v = fin ar0 bl n v
  | 0, v => rfl
  | n + 1, v => by
    have := mapO_congr (fun v => fin_ar (n := n) (v := v))
    cases v <;> first | rfl | (simp only [fin, this]; done) | (simp only [fin, fin_ar]; done) | (simp only [fin]; rfl)
end

def ev_mv (ar : Ar) (x : O) (env : List (Nat × V)) (bl : Blks) (nid : Nat) : Out := some ([], x.ev env, [])

def ev_pick (ar : Ar) (c : O) (a : O) (b : O) (env : List (Nat × V)) (bl : Blks) (nid : Nat) : Out :=
    match c.ev env with
    | .tf true => some ([], a.ev env, [])
    | .tf false => some ([], b.ev env, [])
    | .bool c => match asB (a.ev env), asB (b.ev env) with
      | some x, some y => some ([], .bool (ar.bite c x y), [])
      | _, _ => none
    | _ => none

def ev_alloc (ar : Ar) (z : List V) (env : List (Nat × V)) (bl : Blks) (nid : Nat) : Out := some ([], .ptr nid 0, [(nid, some (.cells z false))])

def ev_box (ar : Ar) (x : O) (env : List (Nat × V)) (bl : Blks) (nid : Nat) : Out := match (x.ev env).cells? with
    | some cs => some ([], .ptr nid 0, [(nid, some (.cells cs false))])
    | none => none

def ev_build (ar : Ar) (z : List V) (parts : List (Nat × Nat × O)) (env : List (Nat × V)) (bl : Blks) (nid : Nat) : Out := match fillV parts env z with
    | some cs => some ([], .agg cs, [])
    | none => none

def ev_bslice (ar : Ar) (t : Ty) (xs : List O) (env : List (Nat × V)) (bl : Blks) (nid : Nat) : Out := match ofVl ar bl t (xs.map (·.ev env)) with
    | some (ys, u) => some ([], .sl nid t 0 xs.length, u ++ [(nid, some (.arr t ys false))])
    | none => none

def ev_load (ar : Ar) (agg : Bool) (k : Nat) (x : O) (env : List (Nat × V)) (bl : Blks) (nid : Nat) : Out :=
    match x.ev env with
    | .ptr id off => match bget id bl with
      | some (.cells cs _) => match cut off k cs with
        | some vs => match wrapC agg vs with
          | some v => some ([], v, [])
          | none => none
        | none => none
      | _ => none
    | .ipc cs => match cut 0 k cs with
      | some vs => match wrapC agg vs with
        | some v => some ([], v, [])
        | none => none
      | none => none
    | .ep id t i p => match bget id bl with
      | some (.arr t' xs _) => if t = t' then
          match getP t' (ar.get t'.zero xs i) p with
          | some ⟨t2, y⟩ => match toVs t2 y with
            | vs => if vs.length = k then (match wrapC agg vs with
              | some v => some ([ar.ilt i (ar.len xs)], v, [])
              | none => none) else none
          | none => none
        else none
      | _ => none
    | .ip t y => match toVs t y with
      | vs => if vs.length = k then (match wrapC agg vs with
        | some v => some ([], v, [])
        | none => none) else none
    | _ => none

def ev_store (ar : Ar) (k : Nat) (a : O) (x : O) (env : List (Nat × V)) (bl : Blks) (nid : Nat) : Out :=
    match (x.ev env).cells? with
    | none => none
    | some vs => if vs.length = k then
      (match a.ev env with
      | .ptr id off => match bget id bl with
        | some (.cells cs false) => match setCs off vs cs with
          | some cs' => some ([], .any, [(id, some (.cells cs' false))])
          | none => none
        | _ => none
      | .ep id t i p => match bget id bl with
        | some (.arr t' xs false) => if t = t' then
            match setP ar bl t' (ar.get t'.zero xs i) p vs with
            | some (y, u) => match notIn id u with
              | true => some ([ar.ilt i (ar.len xs)], .any, u ++ [(id, some (.arr t' (ar.set xs i y) false))])
              | false => none
            | none => none
          else none
        | _ => none
      | _ => none) else none

def ev_bin (ar : Ar) (op : IBin) (x : O) (y : O) (env : List (Nat × V)) (bl : Blks) (nid : Nat) : Out :=
    match x.ev env, y.ev env with
    | .int k a, .int k' b => match op with
      | .shl => shBin ar .shl k a b
      | .shr => shBin ar .shr k a b
      | _ => if k = k' then intBin ar op k a b else none
    | .str a, .str b => strBin ar op a b
    | _, _ => none

def ev_eqb (ar : Ar) (neg : Bool) (x : O) (y : O) (env : List (Nat × V)) (bl : Blks) (nid : Nat) : Out := match asB (x.ev env), asB (y.ev env) with
    | some a, some b => some ([], .bool (match neg with | true => ar.bnot (ar.beq a b) | false => ar.beq a b), [])
    | _, _ => none

def ev_eqs (ar : Ar) (neg : Bool) (ks : List Kd) (x : O) (y : O) (env : List (Nat × V)) (bl : Blks) (nid : Nat) : Out :=
    match x.ev env, y.ev env with
    | .agg xs, .agg ys => match eqCells ar ks xs ys with
      | some c => some ([], .bool (match neg with | true => ar.bnot c | false => c), [])
      | none => none
    | _, _ => none

def ev_neg (ar : Ar) (x : O) (env : List (Nat × V)) (bl : Blks) (nid : Nat) : Out := match x.ev env with
    | .int k a => match ar.sub 0 a with | z => some ([ar.rng k z], .int k z, [])
    | _ => none

def ev_not (ar : Ar) (x : O) (env : List (Nat × V)) (bl : Blks) (nid : Nat) : Out := match x.ev env with
    | .tf b => some ([], .tf (!b), [])
    | .bool b => some ([], .bool (ar.bnot b), [])
    | _ => none

def ev_conv (ar : Ar) (k : IntKind) (x : O) (env : List (Nat × V)) (bl : Blks) (nid : Nat) : Out := match x.ev env with
    | .int _ n => some ([ar.rng k n], .int k n, [])
    | _ => none

def ev_fld (ar : Ar) (off : Nat) (path : List Bool) (x : O) (env : List (Nat × V)) (bl : Blks) (nid : Nat) : Out := match x.ev env with
    | .ptr id o => some ([], .ptr id (o + off), [])
    | .ipc cs => if off ≤ cs.length then some ([], .ipc (cs.drop off), []) else none
    | .ep id t i p => match t.atP p with
      | some t1 => if t1.offP path = off then (match t1.atP path with
        | some _ => some ([], .ep id t i (p ++ path), [])
        | none => none) else none
      | none => none
    | .ip t y => if t.offP path = off then (match getP t y path with
      | some ⟨t2, z⟩ => some ([], .ip t2 z, [])
      | none => none) else none
    | _ => none

def ev_field (ar : Ar) (agg : Bool) (off : Nat) (k : Nat) (x : O) (env : List (Nat × V)) (bl : Blks) (nid : Nat) : Out := match x.ev env with
    | .agg cs => match cut off k cs with
      | some vs => match wrapC agg vs with
        | some v => some ([], v, [])
        | none => none
      | none => none
    | _ => none

def ev_idx (ar : Ar) (esz : Nat) (x : O) (i : O) (env : List (Nat × V)) (bl : Blks) (nid : Nat) : Out :=
    match i.ev env with
    | .int _ n => match x.ev env with
      | .sl id t lo m => if t.sz = esz then some ([ar.inb n (Int.ofNat m)], .ep id t (ar.nadd lo (ar.toN n)) [], []) else none
      | .lst t xs => if t.sz = esz then some ([ar.inb n (Int.ofNat (ar.len xs))], .ip t (ar.get t.zero xs (ar.toN n)), []) else none
      | _ => none
    | _ => none

def ev_idxA (ar : Ar) (len : Nat) (esz : Nat) (x : O) (i : O) (env : List (Nat × V)) (bl : Blks) (nid : Nat) : Out :=
    match i.ev env with
    | .int _ (.ofNat n) => if n < len then
      (match x.ev env with
      | .ptr id o => some ([], .ptr id (o + n * esz), [])
      | .ipc cs => if n * esz ≤ cs.length then some ([], .ipc (cs.drop (n * esz)), []) else none
      | _ => none) else none
    | _ => none

def ev_ext (ar : Ar) (k : Nat) (x : O) (env : List (Nat × V)) (bl : Blks) (nid : Nat) : Out := match x.ev env with
    | .tup vs => match vs[k]? with
      | some v => some ([], v, [])
      | none => none
    | _ => none

def ev_len (ar : Ar) (x : O) (env : List (Nat × V)) (bl : Blks) (nid : Nat) : Out := match x.ev env with
    | .sl _ _ _ n => some ([], .int .i64 (Int.ofNat n), [])
    | .lst _ xs => some ([], .int .i64 (Int.ofNat (ar.len xs)), [])
    | .nsl => some ([], .int .i64 0, [])
    | _ => none

def ev_lens (ar : Ar) (x : O) (env : List (Nat × V)) (bl : Blks) (nid : Nat) : Out := match x.ev env with
    | .str s => some ([], .int .i64 (ar.slen s), [])
    | _ => none

def ev_lenA (ar : Ar) (n : Nat) (env : List (Nat × V)) (bl : Blks) (nid : Nat) : Out := some ([], .int .i64 (Int.ofNat n), [])

def ev_append (ar : Ar) (esz : Nat) (x : O) (y : O) (env : List (Nat × V)) (bl : Blks) (nid : Nat) : Out :=
    match x.ev env with
    | .nsl => match elemTy (y.ev env) with
      | some t => if t.sz = esz then
          (match elems ar bl t (y.ev env) with
          | some ys => match ar.len ys with
            | m => some ([ar.ilt m bigL], .sl nid t 0 m, [(nid, some (.arr t ys false))])
          | none => none) else none
      | none => none
    | .sl id t lo n => if t.sz = esz then
      (match bget id bl with
      | some (.arr t' xs false) => if t' = t then
        (match castL t' t xs with
        | some xs' => match elems ar bl t (y.ev env) with
          | some ys => match ar.nadd n (ar.len ys) with
            | m => some ([ar.ilt m bigL], .sl nid t 0 m, [(id, none), (nid, some (.arr t (ar.app (ar.sub' xs' lo n) ys) false))])
          | none => none
        | none => none) else none
      | _ => none) else none
    | _ => none

def ev_mkslice (ar : Ar) (t : Ty) (n : O) (env : List (Nat × V)) (bl : Blks) (nid : Nat) : Out := match n.ev env with
    | .int _ z => match ar.toN z with
      | m => some ([ar.inb z (Int.ofNat bigL)], .sl nid t 0 m, [(nid, some (.arr t (ar.rep m t.zero) false))])
    | _ => none

def ev_mkfn (ar : Ar) (f : Nat) (a : List O) (b : List O) (env : List (Nat × V)) (bl : Blks) (nid : Nat) : Out := some ([], .fn f (a.map (·.ev env)) (b.map (·.ev env)), [])

def ev_slice (ar : Ar) (esz : Nat) (x : O) (lo : Option O) (hi : Option O) (mx : Option O) (env : List (Nat × V)) (bl : Blks) (nid : Nat) : Out :=
    match mx with
    | some m => match hi with
      | some h => match intLit (m.ev env), intLit (h.ev env), optInt env 0 lo with
        | some a, some b, some c => match x.ev env with
          | .sl _ _ _ _ => some ([ar.eq a 0, ar.eq b 0, ar.eq c 0], .nsl, [])
          | .lst _ _ => some ([ar.eq a 0, ar.eq b 0, ar.eq c 0], .nsl, [])
          | .nsl => some ([ar.eq a 0, ar.eq b 0, ar.eq c 0], .nsl, [])
          | _ => none
        | _, _, _ => none
      | none => none
    | none =>
      match x.ev env with
      | .sl id t l n => if t.sz = esz then
        (match optInt env 0 lo, optInt env (Int.ofNat n) hi with
        | some a, some b => some ([ar.le 0 a, ar.le a b, ar.le b (Int.ofNat n)], .sl id t (ar.nadd l (ar.toN a)) (ar.nsub (ar.toN b) (ar.toN a)), [])
        | _, _ => none) else none
      | .lst t xs => if t.sz = esz then
        (match optInt env 0 lo, optInt env (Int.ofNat (ar.len xs)) hi with
        | some a, some b => some ([ar.le 0 a, ar.le a b, ar.le b (Int.ofNat (ar.len xs))], .lst t (ar.sub' xs (ar.toN a) (ar.nsub (ar.toN b) (ar.toN a))), [])
        | _, _ => none) else none
      | _ => none

def ev_minmax (ar : Ar) (mx : Bool) (x : O) (ys : List O) (env : List (Nat × V)) (bl : Blks) (nid : Nat) : Out := match x.ev env with
    | .int k a => match minmaxI ar mx k a (ys.map (·.ev env)) with
      | some z => some ([], .int k z, [])
      | none => none
    | _ => none

def evF (ar : Ar) (i : I) (env : List (Nat × V)) (bl : Blks) (nid : Nat) : Out := match i with
  | .mv x => ev_mv ar x env bl nid
  | .pick c a b => ev_pick ar c a b env bl nid
  | .alloc z => ev_alloc ar z env bl nid
  | .box x => ev_box ar x env bl nid
  | .build z parts => ev_build ar z parts env bl nid
  | .bslice t xs => ev_bslice ar t xs env bl nid
  | .load agg k x => ev_load ar agg k x env bl nid
  | .store k a x => ev_store ar k a x env bl nid
  | .bin op x y => ev_bin ar op x y env bl nid
  | .eqb neg x y => ev_eqb ar neg x y env bl nid
  | .eqs neg ks x y => ev_eqs ar neg ks x y env bl nid
  | .neg x => ev_neg ar x env bl nid
  | .not x => ev_not ar x env bl nid
  | .conv k x => ev_conv ar k x env bl nid
  | .fld off path x => ev_fld ar off path x env bl nid
  | .field agg off k x => ev_field ar agg off k x env bl nid
  | .idx esz x i => ev_idx ar esz x i env bl nid
  | .idxA len esz x i => ev_idxA ar len esz x i env bl nid
  | .ext k x => ev_ext ar k x env bl nid
  | .len x => ev_len ar x env bl nid
  | .lens x => ev_lens ar x env bl nid
  | .lenA n => ev_lenA ar n env bl nid
  | .append esz x y => ev_append ar esz x y env bl nid
  | .mkslice t n => ev_mkslice ar t n env bl nid
  | .mkfn f a b => ev_mkfn ar f a b env bl nid
  | .slice esz x lo hi mx => ev_slice ar esz x lo hi mx env bl nid
  | .minmax mx x ys => ev_minmax ar mx x ys env bl nid

theorem evF_eq {ar : Ar} {i : I} {env : List (Nat × V)} {bl : Blks} {nid : Nat} : evF ar i env bl nid = evI ar i env bl nid := by cases i <;> rfl

structure Rn where
  call : Nat → List V → Heap → Option (V × Heap)
  round : Nat → List V → Heap → Option (V × Heap)
  pcall : Nat → List V → Option V
  loop : Nat → Option Nat → C → St → Option (Ex × St)

def rGuard (g : Option (Nat × Bool)) (S : St) : Option (Bool × St) := match g with
  | none => some (true, S)
  | some (s, b) => match get s S.env with
    | .tf c => some (match c, b with | true, true => true | false, false => true | _, _ => false, S)
    | .bool c => some (match c, b with | true, true => true | false, false => true | _, _ => false, rw2 s c S)
    | .tup _ => some (false, S)
    | _ => none

def allTrue : List Bool → Bool
  | [] => true
  | true :: r => allTrue r
  | false :: _ => false

def rItms (rn : Rn) : List Itm → St → Option St
  | [], S => some S
  | .op d g i :: r, S => match rGuard g S with
    | some (true, S) => match evF ar0 i S.env S.H.bl S.H.next with
      | some (ob, v, u) => match allTrue ob with
        | true => rItms rn r ⟨put d v S.env, ⟨nx1 i.lays S.H.next, bupd u S.H.bl⟩, S.ms⟩
        | false => none
      | none => none
    | some (false, S) => rItms rn r ⟨put d (.tup []) S.env, S.H, S.ms⟩
    | none => none
  | .call d g f a tys :: r, S => match rGuard g S with
    | some (true, S) => match f.ev S.env with
      | .fn f fs cs => match rn.call f (fs ++ normL tys (a.map (·.ev S.env)) ++ cs) S.H with
        | some (v, H) => rItms rn r ⟨put d v S.env, H, S.ms⟩
        | none => none
      | .yl id => match rn.round id (normL tys (a.map (·.ev S.env))) S.H with
        | some (v, H) => rItms rn r ⟨put d v S.env, H, S.ms⟩
        | none => none
      | _ => none
    | some (false, S) => rItms rn r ⟨put d (.tup []) S.env, S.H, S.ms⟩
    | none => none

def putGv (gs : List Nat) (d : Option Nat) (v : V) : V := match d with
  | none => v
  | some t => match memN t gs with
    | false => v
    | true => match v with
      | .bool c => .tf c
      | v => v

def rDr (rn : Rn) (gs : List Nat) (b : Nat) : List Itm → Nat → List (Nat × V) → Blks → List DR → Option (List (Nat × V) × Blks × List DR)
  | [], _, env, bl, recs => some (env, bl, recs)
  | .op d g i :: r, k, env, bl, recs => match gOk g env with
    | some true => match evF ar0 i env bl (b + k) with
      | some (ob, v, u) => match allTrue ob with
        | true => rDr rn gs b r (k + 1) (put d (putGv gs d v) env) (bupd u bl) (addR k (rdOf i env) (u.map (·.1)) recs)
        | false => none
      | none => none
    | some false => rDr rn gs b r (k + 1) (put d (.tup []) env) bl recs
    | none => none
  | .call d g f a tys :: r, k, env, bl, recs => match gOk g env with
    | some true => match f.ev env with
      | .fn f fs cs => match fs ++ normL tys (a.map (·.ev env)) ++ cs with
        | vs => match mapO (fin ar0 bl 8) vs with
          | some vs' => match rn.pcall f vs' with
            | some x => match scal x || vs.all (isData 8) with
              | true => rDr rn gs b r (k + 1) (put d (putGv gs d x) env) bl (addR k (idsOf bl vs) [] recs)
              | false => none
            | none => none
          | none => none
      | _ => none
    | some false => rDr rn gs b r (k + 1) (put d (.tup []) env) bl recs
    | none => none

def rJump (j : Option Ex) (S : St) : Option (Ex × St) := match j with
  | none => some (.normal, S)
  | some e => match e with
    | .normal => none
    | .exit i => some (.exit i, S)
    | .ret => some (.ret, S)

def rAfter (id : Nat) (ms : List Nat) (S : St) (H : Heap) : Option (Ex × St) := match bget id H.bl with
  | some (.loop st j _ _ _ _ _ _) => match st with
    | .busy => none
    | _ => rJump j ⟨S.env, ⟨H.next, bdel id H.bl⟩, ms⟩
  | _ => none

def rE (rn : Rn) (N : Nat) (out : Option Nat) : C → St → Option (Ex × St)
  | .skip, S => some (.normal, S)
  | .reg is, S => match rItms rn is S with
    | some S => some (.normal, S)
    | none => none
  | .draw ps is, S => match rDr rn (gslots is) S.H.next is 0 S.env S.H.bl [] with
    | some (env, bl, recs) => match drOk ps recs with
      | true => some (.normal, ⟨env, ⟨S.H.next + is.length, bl⟩, S.ms⟩)
      | false => none
    | none => none
  | .seq a b, S => match rE rn N out a S with
    | some (.normal, S) => rE rn N out b S
    | r => r
  | .cond c a b, S => match c.ev S.env with
    | .tf true => rE rn N out a S
    | .tf false => rE rn N out b S
    | .bool true => rE rn N out a (rwO c true S)
    | .bool false => rE rn N out b (rwO c false S)
    | _ => none
  | .block id c, S => match rE rn N out c S with
    | some (.exit id', S) => match Nat.beq id' id with
      | true => some (.normal, S)
      | false => some (.exit id', S)
    | r => r
  | .loop c, S => rn.loop N out c S
  | .exit id, S => some (.exit id, S)
  | .ret, S => some (.ret, S)
  | .rangeF f ps a b, S => match ps.all (Nat.blt · N) with
    | false => none
    | true => match f.ev S.env with
      | .fn fid first cap => match out with
        | none => match rn.call fid (first ++ [.yl (S.H.next + 1)] ++ cap) ⟨S.H.next + 2, (S.H.next + 1, .loop .ready none S.H.next S.env ps a b N) :: (S.H.next, .dfr) :: S.H.bl⟩ with
          | some (_, H) => rAfter (S.H.next + 1) (S.H.next :: S.ms) S H
          | none => none
        | some id0 => match bget id0 S.H.bl with
          | some (.loop _ _ d _ _ _ _ _) => match rn.call fid (first ++ [.yl S.H.next] ++ cap) ⟨S.H.next + 1, (S.H.next, .loop .ready none d S.env ps a b N) :: S.H.bl⟩ with
            | some (_, H) => rAfter S.H.next S.ms S H
            | none => none
          | _ => none
      | _ => none

abbrev Tab := List (Nat × Fn)

def tget (f : Nat) : Tab → Option Fn
  | [] => none
  | (g, fn) :: r => match Nat.beq g f with
    | true => some fn
    | false => tget f r

def rRet (fn : Fn) (r : Option (Ex × St)) : Option (V × Heap) := match r with
  | some (e, S) => match e with
    | .exit _ => none
    | _ => match shutAll S.ms S.H.bl with
      | some bl => match resV ⟨S.env, ⟨S.H.next, bl⟩, []⟩ fn.res with
        | some vs => some (mkRes (normL fn.tys vs), ⟨S.H.next, bl⟩)
        | none => none
      | none => none
  | none => none

def rRoundEnd (id : Nat) (r : Option (Ex × St)) : Option (V × Heap) := match r with
  | some (e, S) => match bget id S.H.bl with
    | some (.loop .busy _ d env ps as bd N) => match e with
      | .normal => some (.tf true, ⟨S.H.next, (id, .loop .ready none d env ps as bd N) :: bdel id S.H.bl⟩)
      | .exit i => some (.tf false, ⟨S.H.next, (id, .loop .done (some (.exit i)) d env ps as bd N) :: bdel id S.H.bl⟩)
      | .ret => some (.tf false, ⟨S.H.next, (id, .loop .done (some .ret) d env ps as bd N) :: bdel id S.H.bl⟩)
    | _ => none
  | none => none

def rStep (tab : Tab) (rn : Rn) : Rn where
  call f vs H := match tget f tab with
    | some fn => match Nat.ble vs.length fn.np with
      | true => rRet fn (rE rn fn.N none fn.body ⟨args 0 vs, H, []⟩)
      | false => none
    | none => none
  round id vs H := match bget id H.bl with
    | some (.loop .ready none d env ps as bd N) => match Nat.beq vs.length ps.length with
      | true => match rE rn N (some id) as ⟨bindP ps vs env, H, []⟩ with
        | some (.normal, S) => match bget id S.H.bl with
          | some (.loop .ready none d' env' ps' as' bd' N') => rRoundEnd id (rE rn N (some id) bd ⟨S.env, ⟨S.H.next, (id, .loop .busy none d' env' ps' as' bd' N') :: bdel id S.H.bl⟩, S.ms⟩)
          | _ => none
        | _ => none
      | false => none
    | _ => none
  pcall f vs := match tget f tab with
    | some fn => match Nat.ble vs.length fn.np with
      | true => match rRet fn (rE rn fn.N none fn.body ⟨args 0 vs, ⟨0, []⟩, []⟩) with
        | some (v, H) => fin ar0 H.bl 8 v
        | none => none
      | false => none
    | none => none
  loop N out c S := match rE rn N out c S with
    | some (.normal, S) => rn.loop N out c S
    | r => r

def rn0 : Rn := ⟨fun _ _ _ => none, fun _ _ _ => none, fun _ _ => none, fun _ _ _ _ => none⟩

def runN (tab : Tab) (n : Nat) : Rn := Nat.rec rn0 (fun _ r => rStep tab r) n

section
variable {P : Program} {N : Nat} {Y : Ctx} {ι ι' : Iota} {μ μ' : Mu} {H : Heap} {w w' : World} {out : Option Nat} {base : Nat}

/-- What is run is so. -/
structure RnOk (P : Program) (rn : Rn) : Prop where
  call : ∀ {f vs H v H'}, rn.call f vs H = some (v, H') → acall P f vs H fun v2 H2 => v2 = v ∧ H2 = H'
  round : ∀ {id vs H v H'}, rn.round id vs H = some (v, H') → around P id vs H fun v2 H2 => v2 = v ∧ H2 = H'
  pcall : ∀ {f vs v}, rn.pcall f vs = some v → pcall P f vs v
  loop : ∀ {N out base c S e S' K}, rn.loop N out c S = some (e, S') → K e S' → ∃ n, unr (std P N out base) c n S K
  mixed : P.follows .mixedOrders = true

theorem around_mono {id : Nat} {vs : List V} {Q Q' : V → Heap → Prop} (h : around P id vs H Q) (hq : ∀ v H, Q v H → Q' v H) : around P id vs H Q' := fun Y ι μ w args L h1 h2 h3 => by
  obtain ⟨f, tmps, as, bd, w1, h4, h5⟩ := h Y ι μ w args L h1 h2 h3
  exact ⟨f, tmps, as, bd, w1, h4, h5.mono fun e w' ⟨v, ι', μ', r, H', h1, h2, h3, h4, h5, h6⟩ => ⟨v, ι', μ', r, H', h1, h2, h3, h4, h5, hq _ _ h6⟩⟩

theorem allTrue_B : ∀ {ob : List Bool}, allTrue ob = true → AllB ob
  | [], _ => trivial
  | [true], _ => rfl
  | true :: b :: r, h => ⟨rfl, allTrue_B (ob := b :: r) h⟩
  | false :: _, h => by cases h

theorem rGuard_ok {g : Option (Nat × Bool)} {d : Option Nat} {S S' : St} {c : Bool} (h : rGuard g S = some (c, S')) {K run : St → Prop} (hk : (c = true → run S') ∧ (c = false → K ⟨put d (.tup []) S'.env, S'.H, S'.ms⟩)) : wpGuard g d S K run := by
  cases g with
  | none => cases h; exact hk.1 rfl
  | some p =>
    obtain ⟨s, b⟩ := p
    simp only [rGuard] at h
    simp only [wpGuard]
    split at h <;> try (cases h; done)
    · rename_i c' hc
      cases h
      simp only [hc]
      cases c' <;> cases b <;> first | exact hk.1 rfl | exact hk.2 rfl
    · rename_i c' hc
      cases h
      simp only [hc]
      cases c'
      · refine ⟨fun e => (by cases e), fun _ => ?_⟩
        cases b <;> first | exact hk.1 rfl | exact hk.2 rfl
      · refine ⟨fun _ => ?_, fun e => (by cases e)⟩
        cases b <;> first | exact hk.1 rfl | exact hk.2 rfl
    · rename_i vs hc
      cases h
      simp only [hc]
      exact hk.2 rfl

theorem wpOp_of {ar : Ar} {d : Option Nat} {i : I} {S : St} {K : St → Prop} {ob : List Bool} {v : V} {u : Upd} (hev : evI ar i S.env S.H.bl S.H.next = some (ob, v, u)) (hob : AllB ob)
    (hk : K ⟨put d v S.env, ⟨nx1 i.lays S.H.next, bupd u S.H.bl⟩, S.ms⟩) : wpOp ar d i S K := by
  unfold wpOp
  rw [hev]
  cases ob with
  | nil => exact hk
  | cons b r => exact ⟨hob, hk⟩

theorem rItms_ok {rn : Rn} (hrn : RnOk P rn) : ∀ {is : List Itm} {S S' : St} {K : St → Prop}, rItms rn is S = some S' → K S' → wpItms (std P N out base) is S K
  | [], S, S', K, h, hK => by cases h; exact hK
  | .op d g i :: r, S, S', K, h, hK => by
    simp only [rItms] at h
    simp only [wpItms]
    split at h <;> try (cases h; done)
    · rename_i S1 hg
      split at h <;> try (cases h; done)
      rename_i ob v u hev
      split at h <;> try (cases h; done)
      rename_i hob
      exact rGuard_ok hg ⟨fun _ => wpOp_of (evI_ar.trans (evF_eq.symm.trans hev)) (allTrue_B hob) (rItms_ok hrn h hK), fun e => (by cases e)⟩
    · rename_i S1 hg
      exact rGuard_ok hg ⟨fun e => (by cases e), fun _ => rItms_ok hrn h hK⟩
  | .call d g f a tys :: r, S, S', K, h, hK => by
    simp only [rItms] at h
    simp only [wpItms]
    split at h <;> try (cases h; done)
    · rename_i S1 hg
      refine rGuard_ok hg ⟨fun _ => ?_, fun e => (by cases e)⟩
      split at h <;> try (cases h; done)
      · rename_i fid fs cs hf
        split at h <;> try (cases h; done)
        rename_i v H hc
        simp only [wpCall, hf]
        refine acall_mono (hrn.call hc) fun v2 H2 hq => ?_
        obtain ⟨rfl, rfl⟩ := hq
        exact rItms_ok hrn h hK
      · rename_i id hf
        split at h <;> try (cases h; done)
        rename_i v H hc
        simp only [wpCall, hf]
        refine around_mono (hrn.round hc) fun v2 H2 hq => ?_
        obtain ⟨rfl, rfl⟩ := hq
        exact rItms_ok hrn h hK
    · rename_i S1 hg
      exact rGuard_ok hg ⟨fun e => (by cases e), fun _ => rItms_ok hrn h hK⟩

theorem putG_of {gs : List Nat} {d : Option Nat} {v : V} {env : List (Nat × V)} {K : List (Nat × V) → Prop} (h : K (put d (putGv gs d v) env)) : putG gs d v env K := by
  unfold putG
  unfold putGv at h
  cases d with
  | none => exact h
  | some t =>
    simp only at h ⊢
    split
    · rename_i hm; rw [hm] at h; exact h
    · rename_i hm
      rw [hm] at h
      simp only at h
      split
      · rename_i c
        cases c
        · exact ⟨fun e => (by cases e), fun _ => h⟩
        · exact ⟨fun _ => h, fun e => (by cases e)⟩
      · rename_i hx
        cases v <;> first | exact h | exact absurd rfl (hx _)

theorem rDr_ok {rn : Rn} (hrn : RnOk P rn) {gs : List Nat} {b : Nat} : ∀ {is : List Itm} {k : Nat} {env env' : List (Nat × V)} {bl bl' : Blks} {recs recs' : List DR} {K : List (Nat × V) → Blks → List DR → Prop},
    rDr rn gs b is k env bl recs = some (env', bl', recs') → K env' bl' recs' → wpDr (std P N out base) gs b is k env bl recs K
  | [], k, env, env', bl, bl', recs, recs', K, h, hK => by cases h; exact hK
  | .op d g i :: r, k, env, env', bl, bl', recs, recs', K, h, hK => by
    simp only [rDr] at h
    simp only [wpDr]
    split at h <;> try (cases h; done)
    · rename_i hg
      split at h <;> try (cases h; done)
      rename_i ob v u hev
      split at h <;> try (cases h; done)
      rename_i hob
      have hev' : evI (std P N out base) i env bl (b + k) = some (ob, v, u) := evI_ar.trans (evF_eq.symm.trans hev)
      simp only [hg, hev']
      exact ⟨allTrue_B hob, putG_of (rDr_ok hrn h hK)⟩
    · rename_i hg
      simp only [hg]
      exact rDr_ok hrn h hK
  | .call d g f a tys :: r, k, env, env', bl, bl', recs, recs', K, h, hK => by
    simp only [rDr] at h
    simp only [wpDr]
    split at h <;> try (cases h; done)
    · rename_i hg
      split at h <;> try (cases h; done)
      rename_i fid fs cs hf
      split at h <;> try (cases h; done)
      rename_i vs' hm
      split at h <;> try (cases h; done)
      rename_i x hp
      split at h <;> try (cases h; done)
      rename_i hs
      have hm' : mapO (fin (std P N out base) bl 8) (fs ++ normL tys (a.map (·.ev env)) ++ cs) = some vs' := (mapO_congr (fun v => fin_ar) _).trans hm
      simp only [hg, hf, hm']
      exact ⟨x, hrn.pcall hp, hs, putG_of (rDr_ok hrn h hK)⟩
    · rename_i hg
      simp only [hg]
      exact rDr_ok hrn h hK

theorem rAfter_ok {id : Nat} {ms : List Nat} {S : St} {e : Ex} {S' : St} {H : Heap} (h : rAfter id ms S H = some (e, S')) {K : Ex → St → Prop} (hK : K e S') : afterLoop id ms S K H := by
  unfold rAfter at h
  unfold afterLoop
  have key : ∀ {j S1}, rJump j S1 = some (e, S') → jumpK j S1 K := fun {j S1} hj => by
    unfold rJump at hj
    unfold jumpK
    cases j with
    | none => cases hj; exact hK
    | some e' => cases e' <;> simp only at hj ⊢ <;> cases hj <;> exact hK
  split at h <;> try (cases h; done)
  rename_i st j _ _ _ _ _ _ hb
  simp only [hb]
  cases st <;> first | (cases h; done) | exact key h

theorem rE_ok {rn : Rn} (hrn : RnOk P rn) : ∀ {c : C} {S S' : St} {e : Ex} {K : Ex → St → Prop}, rE rn N out c S = some (e, S') → K e S' → wpE (std P N out base) c S K := by
  intro c
  induction c with
  | skip => intro S S' e K h hK; cases h; exact hK
  | reg is =>
    intro S S' e K h hK
    simp only [rE] at h
    split at h <;> try (cases h; done)
    rename_i S1 hS
    cases h
    exact rItms_ok hrn hS hK
  | draw ps is =>
    intro S S' e K h hK
    simp only [rE] at h
    split at h <;> try (cases h; done)
    rename_i env bl recs hd
    split at h <;> try (cases h; done)
    rename_i hok
    cases h
    exact rDr_ok hrn hd ⟨hok, hK⟩
  | seq a b iha ihb =>
    intro S S' e K h hK
    simp only [rE] at h
    simp only [wpE]
    split at h
    · rename_i S1 ha
      exact iha ha (ihb h hK)
    · rename_i r hr
      have : e ≠ .normal := fun he => by subst he; exact hr _ h
      refine iha h ?_
      cases e with
      | normal => exact absurd rfl this
      | exit id => exact hK
      | ret => exact hK
  | cond c a b iha ihb =>
    intro S S' e K h hK
    simp only [rE] at h
    simp only [wpE]
    split at h <;> try (cases h; done)
    · rename_i hc; simp only [hc]; exact iha h hK
    · rename_i hc; simp only [hc]; exact ihb h hK
    · rename_i hc; simp only [hc]; exact ⟨fun _ => iha h hK, fun e => (by cases e)⟩
    · rename_i hc; simp only [hc]; exact ⟨fun e => (by cases e), fun _ => ihb h hK⟩
  | block id c ih =>
    intro S S' e K h hK
    simp only [rE] at h
    simp only [wpE]
    split at h
    · rename_i id' S1 hc
      refine ih hc ?_
      simp only
      split at h
      · rename_i hb; cases h; simp only [hb]; exact hK
      · rename_i hb; cases h; simp only [hb]; exact hK
    · rename_i r hr
      refine ih h ?_
      cases e with
      | normal => exact hK
      | exit id' => exact absurd h (hr _ _)
      | ret => exact hK
  | loop c ih =>
    intro S S' e K h hK
    obtain ⟨n, hn⟩ := hrn.loop h hK
    exact loop_unr (drawOk hrn.mixed) hn
  | exit id => intro S S' e K h hK; cases h; exact hK
  | ret => intro S S' e K h hK; cases h; exact hK
  | rangeF f ps a b iha ihb =>
    intro S S' e K h hK
    simp only [rE] at h
    simp only [wpE]
    refine rangeF_rule ?_
    unfold rangeS
    split at h <;> try (cases h; done)
    rename_i hall
    refine ⟨hall, ?_⟩
    split at h <;> try (cases h; done)
    rename_i fid first cap hf
    simp only [hf]
    cases out with
    | none =>
      simp only at h ⊢
      split at h <;> try (cases h; done)
      rename_i v H1 hc
      refine acall_mono (hrn.call hc) fun v2 H2 hq => ?_
      obtain ⟨rfl, rfl⟩ := hq
      exact rAfter_ok h hK
    | some id0 =>
      simp only at h ⊢
      split at h <;> try (cases h; done)
      rename_i hb
      split at h <;> try (cases h; done)
      rename_i v H1 hc
      simp only [hb]
      refine acall_mono (hrn.call hc) fun v2 H2 hq => ?_
      obtain ⟨rfl, rfl⟩ := hq
      exact rAfter_ok h hK

def TabOk (P : Program) (tab : Tab) : Prop := ∀ f fn, tget f tab = some fn → ∃ func, P.funcs[f]? = some func ∧ trF P func = some fn ∧ Enters P f

theorem TabOk.nil : TabOk P [] := fun f fn h => by cases h

theorem TabOk.cons {tab : Tab} (h : TabOk P tab) {g : Nat} {fn : Fn} {func : Func} (h1 : P.funcs[g]? = some func) (h2 : trF P func = some fn) (h3 : Enters P g) : TabOk P ((g, fn) :: tab) := fun f fn' hf => by
  simp only [tget] at hf
  split at hf
  · rename_i hb
    have := Nat.eq_of_beq_eq_true hb
    subst this; cases hf
    exact ⟨func, h1, h2, h3⟩
  · exact h f fn' hf

theorem rRet_H {fn : Fn} {r : Option (Ex × St)} {v : V} {H' : Heap} (h : rRet fn r = some (v, H')) : ∃ e S, r = some (e, S) ∧ RetH fn.res fn.tys (fun v2 H2 => v2 = v ∧ H2 = H') e S := by
  unfold rRet at h
  split at h <;> try (cases h; done)
  rename_i e S
  refine ⟨e, S, rfl, ?_⟩
  have key : (match shutAll S.ms S.H.bl with
      | some bl => match resV ⟨S.env, ⟨S.H.next, bl⟩, []⟩ fn.res with
        | some vs => some (mkRes (normL fn.tys vs), (⟨S.H.next, bl⟩ : Heap))
        | none => none
      | none => none) = some (v, H') → RetH.RetS fn.res fn.tys (fun v2 H2 => v2 = v ∧ H2 = H') S := fun h => by
    unfold RetH.RetS
    split at h <;> try (cases h; done)
    rename_i bl hbl
    simp only [hbl]
    split at h <;> try (cases h; done)
    rename_i vs hvs
    simp only [hvs]
    cases h
    exact ⟨rfl, rfl⟩
  cases e with
  | exit i => cases h
  | normal => exact key h
  | ret => exact key h

theorem rStep_ok {tab : Tab} (htab : TabOk P tab) (hm : P.follows .mixedOrders = true) {rn : Rn} (hrn : RnOk P rn) : RnOk P (rStep tab rn) where
  call := by
    intro f vs H v H' h
    simp only [rStep] at h
    split at h <;> try (cases h; done)
    rename_i fn hf
    split at h <;> try (cases h; done)
    rename_i hle
    obtain ⟨func, h1, h2, h3⟩ := htab f fn hf
    obtain ⟨e, S, hr, hq⟩ := rRet_H h
    exact acall_of h1 h2 h3 (drawOk hm) (Nat.le_of_ble_eq_true hle) (rE_ok hrn hr hq)
  round := by
    intro id vs H v H' h
    simp only [rStep] at h
    refine around_of (fun N => drawOk hm) ?_
    split at h <;> try (cases h; done)
    rename_i d env ps as bd N hb
    split at h <;> try (cases h; done)
    rename_i hl
    simp only [roundS, hb]
    refine ⟨Nat.eq_of_beq_eq_true hl, ?_⟩
    split at h <;> try (cases h; done)
    rename_i S hS
    refine rE_ok hrn hS ?_
    simp only
    split at h <;> try (cases h; done)
    rename_i d1 env1 ps1 as1 bd1 N1 hb1
    simp only [hb1]
    unfold rRoundEnd at h
    split at h <;> try (cases h; done)
    rename_i e S3 hr
    refine rE_ok hrn hr ?_
    unfold roundEnd
    split at h <;> try (cases h; done)
    rename_i hb3
    simp only [hb3]
    cases e <;> (cases h; exact ⟨rfl, rfl⟩)
  pcall := by
    intro f vs v h
    simp only [rStep] at h
    split at h <;> try (cases h; done)
    rename_i fn hf
    split at h <;> try (cases h; done)
    rename_i hle
    split at h <;> try (cases h; done)
    rename_i v0 H0 hr
    obtain ⟨func, h1, h2, h3⟩ := htab f fn hf
    obtain ⟨e, S, hr, hq⟩ := rRet_H hr
    refine pcall_of h1 h2 h3 (drawOk hm) (Nat.le_of_ble_eq_true hle) (rE_ok hrn hr ?_)
    have key : RetH.RetS fn.res fn.tys (fun v2 H2 => v2 = v0 ∧ H2 = H0) S → RetD.RetS (std P fn.N none 0) fn.res fn.tys (· = v) S := fun hq => by
      unfold RetH.RetS at hq
      unfold RetD.RetS
      split at hq <;> try (exact hq.elim)
      rename_i bl hbl
      try simp only [hbl]
      split at hq <;> try (exact hq.elim)
      rename_i vs' hvs
      try simp only [hvs]
      obtain ⟨rfl, rfl⟩ := hq
      have : fin (std P fn.N none 0) bl 8 (mkRes (normL fn.tys vs')) = some v := fin_ar.trans h
      rw [this]
    cases e with
    | exit i => exact hq.elim
    | normal => exact key hq
    | ret => exact key hq
  loop := by
    intro N out base c S e S' K h hK
    simp only [rStep] at h
    split at h
    · rename_i S1 hr
      obtain ⟨n, hn⟩ := hrn.loop (base := base) h hK
      exact ⟨n + 1, rE_ok hrn hr hn⟩
    · rename_i r hr
      refine ⟨1, rE_ok hrn h ?_⟩
      cases e with
      | normal => exact absurd h (hr _)
      | exit i => exact hK
      | ret => exact hK
  mixed := hm

theorem runN_ok {tab : Tab} (htab : TabOk P tab) (hm : P.follows .mixedOrders = true) : ∀ n, RnOk P (runN tab n)
  | 0 => ⟨fun h => (by cases h), fun h => (by cases h), fun h => (by cases h), fun h => (by cases h), hm⟩
  | n + 1 => rStep_ok htab hm (runN_ok htab hm n)
end
end Go.AM
