/-
  The structures of the program, as native ones.
-/
import Derived.Test.YtkcpbahcnlhmjaaDoorVC
import Derived.Test.YtkcpbahcnlhmjaaDoorVT
namespace Go.Proofs.YtkcpbahcnlhmjaaDoor.V
open Go
set_option linter.unusedVariables false
set_option linter.unusedSimpArgs false
def encI : Int → List Dat := fun v => [dI v]
def encS : ByteArray → List Dat := fun v => [dS v]
def encB : Bool → List Dat := fun v => [dB v]
def encY : Int → List Dat := fun v => [.lf (.int .u8 v)]
structure Quest where
  Name : ByteArray
  Typ : Int
  deriving DecidableEq, Inhabited
def Quest.cells (a : Quest) : List Dat := [dS (a.Name), dI (a.Typ)]
structure Quest.Fit (a : Quest) : Prop where
  mk ::
  Name : fitS a.Name
structure Quest.Bnd (a : Quest) : Prop where
  mk ::
  Name : bndS a.Name
  Typ : bndI a.Typ
def Quest.wt (a : Quest) : Nat := 0
structure Record where
  Name : ByteArray
  Typ : Int
  Ttl : Int
  N : Int
  Host : ByteArray
  Text : ByteArray
  deriving DecidableEq, Inhabited
def Record.cells (a : Record) : List Dat := [dS (a.Name), dI (a.Typ), dI (a.Ttl), dI (a.N), dS (a.Host), dS (a.Text)]
structure Record.Fit (a : Record) : Prop where
  mk ::
  Name : fitS a.Name
  Host : fitS a.Host
  Text : fitS a.Text
structure Record.Bnd (a : Record) : Prop where
  mk ::
  Name : bndS a.Name
  Typ : bndI a.Typ
  Ttl : bndI a.Ttl
  N : bndI a.N
  Host : bndS a.Host
  Text : bndS a.Text
def Record.wt (a : Record) : Nat := 0
structure Exch where
  Id : Int
  Addr : Int
  Try : Int
  Due : Int
  deriving DecidableEq, Inhabited
def Exch.cells (a : Exch) : List Dat := [dI (a.Id), dI (a.Addr), dI (a.Try), dI (a.Due)]
structure Exch.Fit (a : Exch) : Prop where
  mk ::
structure Exch.Bnd (a : Exch) : Prop where
  mk ::
  Id : bndI a.Id
  Addr : bndI a.Addr
  Try : bndI a.Try
  Due : bndI a.Due
def Exch.wt (a : Exch) : Nat := 0
structure Frame where
  Ask : Quest
  Q : Quest
  Links : List Record
  Apex : ByteArray
  Servers : List Int
  Need : List ByteArray
  Down : Int
  Left : Int
  Pc : Int
  X : Exch
  deriving DecidableEq, Inhabited
def Frame.cells (a : Frame) : List Dat := [dS (a.Ask.Name), dI (a.Ask.Typ), dS (a.Q.Name), dI (a.Q.Typ), .sl 6 (a.Links.map Record.cells), dS (a.Apex), .sl 1 (a.Servers.map encI), .sl 1 (a.Need.map encS), dI (a.Down), dI (a.Left), dI (a.Pc), dI (a.X.Id), dI (a.X.Addr), dI (a.X.Try), dI (a.X.Due)]
structure Frame.Fit (a : Frame) : Prop where
  mk ::
  Ask : Quest.Fit a.Ask
  Q : Quest.Fit a.Q
  Links : fitL Record.Fit a.Links
  Apex : fitS a.Apex
  Servers : fitL fitU a.Servers
  Need : fitL fitS a.Need
  X : Exch.Fit a.X
structure Frame.Bnd (a : Frame) : Prop where
  mk ::
  Ask : Quest.Bnd a.Ask
  Q : Quest.Bnd a.Q
  Links : bndL Record.Bnd a.Links
  Apex : bndS a.Apex
  Servers : bndL bndI a.Servers
  Need : bndL bndS a.Need
  Down : bndI a.Down
  Left : bndI a.Left
  Pc : bndI a.Pc
  X : Exch.Bnd a.X
def Frame.wt (a : Frame) : Nat := 0 + Quest.wt a.Ask + Quest.wt a.Q + wtL Record.wt a.Links + wtL wtU a.Servers + wtL wtU a.Need + Exch.wt a.X
structure Entry where
  Q : Quest
  Kind : Int
  L : List Record
  Rank : Int
  Until : Int
  deriving DecidableEq, Inhabited
def Entry.cells (a : Entry) : List Dat := [dS (a.Q.Name), dI (a.Q.Typ), dI (a.Kind), .sl 6 (a.L.map Record.cells), dI (a.Rank), dI (a.Until)]
structure Entry.Fit (a : Entry) : Prop where
  mk ::
  Q : Quest.Fit a.Q
  L : fitL Record.Fit a.L
structure Entry.Bnd (a : Entry) : Prop where
  mk ::
  Q : Quest.Bnd a.Q
  Kind : bndI a.Kind
  L : bndL Record.Bnd a.L
  Rank : bndI a.Rank
  Until : bndI a.Until
def Entry.wt (a : Entry) : Nat := 0 + Quest.wt a.Q + wtL Record.wt a.L
structure Cache where
  Cap : Int
  L : List Entry
  deriving DecidableEq, Inhabited
def Cache.cells (a : Cache) : List Dat := [dI (a.Cap), .sl 6 (a.L.map Entry.cells)]
structure Cache.Fit (a : Cache) : Prop where
  mk ::
  L : fitL Entry.Fit a.L
structure Cache.Bnd (a : Cache) : Prop where
  mk ::
  Cap : bndI a.Cap
  L : bndL Entry.Bnd a.L
def Cache.wt (a : Cache) : Nat := 0 + wtL Entry.wt a.L
structure Conf where
  Quota : Int
  Depth : Int
  Chain : Int
  Glue : Int
  Tries : Int
  Addrs : Int
  Cap : Int
  Roots : List Int
  deriving DecidableEq, Inhabited
def Conf.cells (a : Conf) : List Dat := [dI (a.Quota), dI (a.Depth), dI (a.Chain), dI (a.Glue), dI (a.Tries), dI (a.Addrs), dI (a.Cap), .sl 1 (a.Roots.map encI)]
structure Conf.Fit (a : Conf) : Prop where
  mk ::
  Roots : fitL fitU a.Roots
structure Conf.Bnd (a : Conf) : Prop where
  mk ::
  Quota : bndI a.Quota
  Depth : bndI a.Depth
  Chain : bndI a.Chain
  Glue : bndI a.Glue
  Tries : bndI a.Tries
  Addrs : bndI a.Addrs
  Cap : bndI a.Cap
  Roots : bndL bndI a.Roots
def Conf.wt (a : Conf) : Nat := 0 + wtL wtU a.Roots
structure Job where
  No : Int
  Client : Int
  Ask : Quest
  Sent : Int
  Fetched : Int
  Stack : List Frame
  deriving DecidableEq, Inhabited
def Job.cells (a : Job) : List Dat := [dI (a.No), dI (a.Client), dS (a.Ask.Name), dI (a.Ask.Typ), dI (a.Sent), dI (a.Fetched), .sl 15 (a.Stack.map Frame.cells)]
structure Job.Fit (a : Job) : Prop where
  mk ::
  Ask : Quest.Fit a.Ask
  Stack : fitL Frame.Fit a.Stack
structure Job.Bnd (a : Job) : Prop where
  mk ::
  No : bndI a.No
  Client : bndI a.Client
  Ask : Quest.Bnd a.Ask
  Sent : bndI a.Sent
  Fetched : bndI a.Fetched
  Stack : bndL Frame.Bnd a.Stack
def Job.wt (a : Job) : Nat := 0 + Quest.wt a.Ask + wtL Frame.wt a.Stack
end Go.Proofs.YtkcpbahcnlhmjaaDoor.V
