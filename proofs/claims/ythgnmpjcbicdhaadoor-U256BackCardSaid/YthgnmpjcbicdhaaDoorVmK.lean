/- The abstract machine: words for what is to be shown. -/
import Derived.Test.YthgnmpjcbicdhaaDoorVmE
import Derived.Test.YthgnmpjcbicdhaaDoorProg
set_option linter.unusedVariables false
namespace Go.Proofs.YthgnmpjcbicdhaaDoor
open Go Go.RowKit
theorem follows : Tryd.prog.follows .mixedOrders = true := by kernel_rfl
/-- What is told of an operation that looks at no memory. -/
theorem vext (w : World) {p : World → Prop} (h : ∀ w, p w) : ∀ (ρ : Env) (w' : World), Fr No w w' → p w' := fun _ w' _ => h w'
/-- What is told of a call. -/
theorem vcall (w : World) {p : World → Prop} (h : ∀ w, p w) : ∀ (w' : World), Fr No w w' → p w' := fun w' _ => h w'
/-- To look at one thing alone. -/
theorem chk {A : Prop} (h : A) (i : Nat) (o : Out) (e : o.vc[i]? = some A) : True := trivial
theorem chkEnd {v : AV} {Γ : Ctx} {fn : Func} (o : Out) (e : (endRun Γ fn o).map (·.1) = some v) : True := trivial
end Go.Proofs.YthgnmpjcbicdhaaDoor

