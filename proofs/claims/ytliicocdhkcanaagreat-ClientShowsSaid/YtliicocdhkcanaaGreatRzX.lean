/-
  runes: Text, as the executor has it: a function that is proved by itself.
-/
import Derived.Test.YtliicocdhkcanaaGreatEg
import Derived.Lib.RuneBytes
set_option linter.unusedSimpArgs false
set_option linter.unusedVariables false
namespace Go.Proofs.YtliicocdhkcanaaGreat.X
open Go Go.Ax
def valid (x : Int) : Bool := (decide (0 ≤ x) && decide (x < 55296)) || (decide (57343 < x) && decide (x ≤ 1114111))
def okR (x : Int) : Bool := decide (x = -1) || valid x
def chk (l : List Int) : Int := if 64 < l.length then 4 else if l.all okR then 0 else 8
def i32s : List AV → Option (List Int)
  | [] => some []
  | .sc (.int .i32 n) :: l => match i32s l with
    | some m => match decide (-2147483648 ≤ n) && decide (n ≤ 2147483647) with
      | true => some (n :: m)
      | false => none
    | none => none
  | _ => none
def row32 : AV → Option (List Int)
  | .sc (.slice none 0 0) => some []
  | .pv cs len _ st => match Nat.beq cs.length len && Nat.beq st 1 with
    | true => i32s cs
    | false => none
  | _ => none
def zMT (mark : List UInt8) (l : List Int) : List UInt8 := l.flatMap fun r => if r = -1 then mark else Lib.encodeRune r
def zeS (mark : List UInt8) (l : List Int) : AV := match chk l with
  | .ofNat 0 => .tup [.sc (.string ⟨(zMT mark l).toArray⟩), .sc (.int .i64 0)]
  | e => .tup [.sc (.string ⟨#[]⟩), .sc (.int .i64 e)]
def extText (args : List AV) : Option AV := match args with
  | [a, .sc (.string m)] => match Nat.ble m.size 1000000 with
    | true => match row32 a with
      | some l => some (zeS m.data.toList l)
      | none => none
    | false => none
  | _ => none
end Go.Proofs.YtliicocdhkcanaaGreat.X
