/- The program's FirstDesk returns what the reference's FirstDesk returns, and hands out new memory at each call: there are no arguments and no conditions. -/
import Derived.Test.YtnoejflancomaaaPFnExactFirstDeskx2
namespace Go.Proofs.Ytnoejflancomaaa.Pure
open Go.RowKit Go.Proofs.Ytnoejflancomaaa.PFnExactFirstDesk Go.Proofs.YtnoejflancomaaaW.PrintWords Go.Proofs.YtnoejflancomaaaW.PrintLast

theorem FnExactFirstDesk : laws_FnExactFirstDesk.Pure := by
  exact ⟨40, by decide +kernel⟩

end Go.Proofs.Ytnoejflancomaaa.Pure
