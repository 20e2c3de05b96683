/- Open of the law FnTables: taken over, declaration by declaration, as far as the law leans on it (the words and the printed functions are the kit's own print). No condition but what each says. -/
import Derived.SizedLaws
import Derived.ChangeArms
import Derived.DataElems
import Derived.Test.YtedcdhnbceaaeaaZFnTablesaa
namespace Go.Proofs.Ytedcdhnbceaaeaa.Opening
open Go.Proofs.YtedcdhnbceaaeaaW.PrintWords
section
variable {H : Type} {enc : TypeId × Value → H} {P : Program} {W : World} {t : TypeId} {d0 : DataW H} {ps : List MemPlace} {ts : List TypeId} {ds : List (DataW H)} {j : Nat}
end
end Go.Proofs.Ytedcdhnbceaaeaa.Opening
