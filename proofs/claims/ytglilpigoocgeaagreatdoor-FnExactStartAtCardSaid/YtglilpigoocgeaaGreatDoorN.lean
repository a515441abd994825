/-
  The structures of the program, as native ones.
-/
import Derived.Test.YtglilpigoocgeaaGreatDoorVC
import Derived.Test.YtglilpigoocgeaaGreatDoorVT
namespace Go.Proofs.YtglilpigoocgeaaGreatDoor.V
open Go
set_option linter.unusedVariables false
set_option linter.unusedSimpArgs false
def encI : Int → List Dat := fun v => [dI v]
def encS : ByteArray → List Dat := fun v => [dS v]
def encB : Bool → List Dat := fun v => [dB v]
def encY : Int → List Dat := fun v => [.lf (.int .u8 v)]
structure Quest where
  Name : ByteArray
  Typ : Int
  deriving DecidableEq, Inhabited
def Quest.cells (a : Quest) : List Dat := [dS (a.Name), dI (a.Typ)]
structure Quest.Fit (a : Quest) : Prop where
  mk ::
  Name : fitS a.Name
structure Quest.Bnd (a : Quest) : Prop where
  mk ::
  Name : bndS a.Name
  Typ : bndI a.Typ
def Quest.wt (a : Quest) : Nat := 0
structure Record where
  Name : ByteArray
  Typ : Int
  Ttl : Int
  N : Int
  Host : ByteArray
  Text : ByteArray
  deriving DecidableEq, Inhabited
def Record.cells (a : Record) : List Dat := [dS (a.Name), dI (a.Typ), dI (a.Ttl), dI (a.N), dS (a.Host), dS (a.Text)]
structure Record.Fit (a : Record) : Prop where
  mk ::
  Name : fitS a.Name
  Host : fitS a.Host
  Text : fitS a.Text
structure Record.Bnd (a : Record) : Prop where
  mk ::
  Name : bndS a.Name
  Typ : bndI a.Typ
  Ttl : bndI a.Ttl
  N : bndI a.N
  Host : bndS a.Host
  Text : bndS a.Text
def Record.wt (a : Record) : Nat := 0
structure Entry where
  Q : Quest
  Kind : Int
  L : List Record
  Rank : Int
  Until : Int
  deriving DecidableEq, Inhabited
def Entry.cells (a : Entry) : List Dat := [dS (a.Q.Name), dI (a.Q.Typ), dI (a.Kind), .sl 6 (a.L.map Record.cells), dI (a.Rank), dI (a.Until)]
structure Entry.Fit (a : Entry) : Prop where
  mk ::
  Q : Quest.Fit a.Q
  L : fitL Record.Fit a.L
structure Entry.Bnd (a : Entry) : Prop where
  mk ::
  Q : Quest.Bnd a.Q
  Kind : bndI a.Kind
  L : bndL Record.Bnd a.L
  Rank : bndI a.Rank
  Until : bndI a.Until
def Entry.wt (a : Entry) : Nat := 0 + Quest.wt a.Q + wtL Record.wt a.L
structure Cache where
  Cap : Int
  L : List Entry
  deriving DecidableEq, Inhabited
def Cache.cells (a : Cache) : List Dat := [dI (a.Cap), .sl 6 (a.L.map Entry.cells)]
structure Cache.Fit (a : Cache) : Prop where
  mk ::
  L : fitL Entry.Fit a.L
structure Cache.Bnd (a : Cache) : Prop where
  mk ::
  Cap : bndI a.Cap
  L : bndL Entry.Bnd a.L
def Cache.wt (a : Cache) : Nat := 0 + wtL Entry.wt a.L
end Go.Proofs.YtglilpigoocgeaaGreatDoor.V
