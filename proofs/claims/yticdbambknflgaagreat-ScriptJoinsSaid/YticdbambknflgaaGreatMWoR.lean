/- Schemes, tapes, answers as data. -/
import Derived.Test.YticdbambknflgaaGreatMWoS
import Derived.Test.YticdbambknflgaaGreatMSimZf
namespace Go.Proofs.YticdbambknflgaaGreat.Sim
open Go
set_option maxRecDepth 100000
set_option maxHeartbeats 4000000
set_option linter.unusedVariables false
set_option linter.unusedSimpArgs false
attribute [local irreducible] Go Mean
abbrev iD (n:Int):D:=.at (.int .i64 n)
abbrev bD (b:Bool):D:=.at (.bool b)
structure PSch where
 kind:Int
 sv:Int
 deg:Int
 grp:Int
abbrev vSch (s:PSch):V:=.ag [I s.kind,I s.sv,I s.deg,I s.grp]
structure PAns where
 known:Bool
 row:List Int
def eAns (a:PAns):List D:=[bD a.known,dInts a.row]
abbrev dAns (l:List PAns):D:=.sl 2 (l.map eAns)
def noAns:PAns:=⟨false,[]⟩
def eAnss (l:List PAns):List D:=[dAns l]
abbrev dAnss (l:List (List PAns)):D:=.sl 1 (l.map eAnss)
def eQ (q:List (List Int)):List D:=[dRows q]
abbrev dQs (l:List (List (List Int))):D:=.sl 1 (l.map eQ)
def eTwo (p:Int × Int):List D:=[iD p.1,iD p.2]
abbrev dTwos (l:List (Int × Int)):D:=.sl 2 (l.map eTwo)
abbrev vTape (t:List Int) (a:Int):V:=.ag [.d (dInts t),I a]
structure POut where
 code:Int
 row:List Int
 wrong:List Int
def eOut (o:POut):List D:=[iD o.code,dInts o.row,dInts o.wrong]
abbrev dOuts (l:List POut):D:=.sl 3 (l.map eOut)
def noOut:POut:=⟨0,[],[]⟩
end Go.Proofs.YticdbambknflgaaGreat.Sim
