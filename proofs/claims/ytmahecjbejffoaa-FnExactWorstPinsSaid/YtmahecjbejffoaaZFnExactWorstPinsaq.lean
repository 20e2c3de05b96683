/- WInv of the law FnExactWorstPins: taken over, declaration by declaration, as far as the law leans on it (the words and the printed functions are the kit's own print). No condition but what each says. -/
import Derived.Test.YtmahecjbejffoaaZFnExactWorstPinsac
namespace Go.Proofs.YtmahecjbejffoaaW.PrintLast
/-- Number i is listed too. -/
def up (b : Nat → Bool) (i : Nat) : Nat → Bool := fun j => if j = i then true else b j
section
variable {P : Program} {ops : Array Oper} {Q : Exit → Act → World → Prop} {md : Region.Mode} {T : Bool × List (List Nat × List Nat)} {B : List Nat} {O : List Nat} {b : Nat → Bool} {i j n : Nat}
end
end Go.Proofs.YtmahecjbejffoaaW.PrintLast
