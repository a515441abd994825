/-
  strings.Join.
-/
import Derived.Test.YtglilpigoocgeaaGreatDoorN
import Derived.Test.YtglilpigoocgeaaGreatDoorK2
import Derived.Test.YtglilpigoocgeaaGreatDoorVD
namespace Go.Proofs.YtglilpigoocgeaaGreatDoor.V
open Go
set_option linter.unusedVariables false
set_option linter.unusedSimpArgs false
theorem tr_n_strings_Join (a0 : List ByteArray) (a1 : ByteArray) (h0 : fitL fitS a0) (h1 : fitS a1) : Tr Tryz.prog 78 [.ro ⟨false, [.sl 1 (a0.map encS)]⟩, .ro ⟨false, [dS a1]⟩] [⟨false, [dS (joinB a0 a1)]⟩] :=
  tr_join ⟨_, _, Tryz.func78, rfl, rfl⟩ Tryz.strings_Join_none (fun bk o c xs sep w => Tryz.strings_Join bk o c xs sep w) a0 a1 (join_le h0 h1).1 (join_le h0 h1).2
end Go.Proofs.YtglilpigoocgeaaGreatDoor.V
