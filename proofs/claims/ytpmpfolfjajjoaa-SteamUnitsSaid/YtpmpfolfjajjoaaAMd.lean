/- Code with its loops as functions, out of the program's own: no text of it is needed. A loop whose number of rounds is known is gone through round by round. Strings out of their bytes; what is said of them, of maps and of clearing, plainly. -/
import Derived.Test.YtpmpfolfjajjoaaAMc
set_option linter.unusedSectionVars false
set_option linter.unusedVariables false
set_option linter.unusedSimpArgs false
section
namespace Go.AM
/-- A loop that stands in a code. -/
inductive LR (P : Program) (N : Nat) (out : Option Nat) (base : Nat) : Type 1 where
 | l (x : LoopS P N out base)
 | r (x : RangeS P N out base)
 | m (x : MapS P N out base)
 | x
/-- How many loops stand in a code, those within loops left out. -/
def nl : C → Nat
 | .seq a b => nl a + nl b
 | .cond _ a b => nl a + nl b
 | .block _ a => nl a
 | .loop _ => 1
 | .rangeF _ _ _ _ => 1
 | .mapR _ _ _ _ _ _ _ _ _ _ _ => 1
 | _ => 0
section
variable {P : Program} {N : Nat} {out : Option Nat} {base : Nat}
def lrAt : List (LR P N out base) → Nat → LR P N out base
 | [], _ => .x
 | y :: _, 0 => y
 | _ :: r, n + 1 => lrAt r n
/-- The code with these loops, from number i on. -/
def dO (ls : List (LR P N out base)) : C → Nat → D P N out base
 | .skip, _ => .skip
 | .reg is, _ => .reg is
 | .draw ps is, _ => .draw ps is
 | .seq a b, i => .seq (dO ls a i) (dO ls b (i + nl a))
 | .cond c a b, i => .cond c (dO ls a i) (dO ls b (i + nl a))
 | .block n a, i => .block n (dO ls a i)
 | .loop c, i => match lrAt ls i with
  | .l l => .loop l
  | _ => .loop (deadLoop c)
 | .exit n, _ => .exit n
 | .ret, _ => .ret
 | .rangeF f ps a b, i => match lrAt ls i with
  | .r l => .rangeF l
  | _ => .rangeF (deadRange f ps a b)
 | .mapR p m t cl e kt kg vt vg d b, i => match lrAt ls i with
  | .m l => .mapR l
  | _ => .mapR (deadMap p m t cl e kt kg vt vg d b)
end
/-- The body of the k-th loop of a code; 'b': of one over a function, its second part. -/
def loopAt (b : Bool) : C → Nat → C
 | .seq x y, k => match Nat.blt k (nl x) with
  | true => loopAt b x k
  | false => loopAt b y (k - nl x)
 | .cond _ x y, k => match Nat.blt k (nl x) with
  | true => loopAt b x k
  | false => loopAt b y (k - nl x)
 | .block _ x, k => loopAt b x k
 | .loop c, _ => c
 | .rangeF _ _ x y, _ => match b with
  | true => y
  | false => x
 | .mapR _ _ _ _ _ _ _ _ _ _ x, _ => x
 | c, _ => c
def pick : C → List (Nat × Bool) → C
 | c, [] => c
 | c, (k, b) :: r => pick (loopAt b c k) r
/-- A function's code. -/
def kd (P : Program) (f : Func) : C := match trF P f with
 | some t => t.body
 | none => .skip
@[reducible] def hI : SP := .c (.hole (.int .i64))
@[reducible] def hL : SP := .c (.hole (.list (.int .i64)))
@[reducible] def hLL : SP := .c (.hole (.list (.list (.int .i64))))
@[reducible] def tI : Ty := .int .i64
end Go.AM
end
section
namespace Go.AM
section
variable {P : Program} {N : Nat} {out : Option Nat} {base : Nat}
end
/-! Loops over maps, as functions of their data. -/
section
variable {P : Program} {N : Nat} {out : Option Nat} {base : Nat}
end
end Go.AM
end
section
namespace Go.AM
/-- A string out of its bytes. -/
@[reducible] def bs (l : List Nat) : ByteArray := ⟨(l.map UInt8.ofNat).toArray⟩
end Go.AM
end
