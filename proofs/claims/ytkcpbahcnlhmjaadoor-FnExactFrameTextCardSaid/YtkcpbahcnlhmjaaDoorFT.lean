/-
  strings.Join.
-/
import Derived.Test.YtkcpbahcnlhmjaaDoorN
import Derived.Test.YtkcpbahcnlhmjaaDoorK2
import Derived.Test.YtkcpbahcnlhmjaaDoorVD
namespace Go.Proofs.YtkcpbahcnlhmjaaDoor.V
open Go
set_option linter.unusedVariables false
set_option linter.unusedSimpArgs false
theorem tr_n_strings_Join (a0 : List ByteArray) (a1 : ByteArray) (h0 : fitL fitS a0) (h1 : fitS a1) : Tr Tryd.prog 71 [.ro ⟨false, [.sl 1 (a0.map encS)]⟩, .ro ⟨false, [dS a1]⟩] [⟨false, [dS (joinB a0 a1)]⟩] :=
  tr_join ⟨_, _, Tryd.func71, rfl, rfl⟩ Tryd.strings_Join_none (fun bk o c xs sep w => Tryd.strings_Join bk o c xs sep w) a0 a1 (join_le h0 h1).1 (join_le h0 h1).2
end Go.Proofs.YtkcpbahcnlhmjaaDoor.V
