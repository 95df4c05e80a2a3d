/- What readers read: the bytes that are left, the first error. -/
import Derived.Test.YtdjnjhlgpflcjaaOn
import Derived.Test.YtdjnjhlgpflcjaaLenH
import Derived.Test.YtdjnjhlgpflcjaaLenF
namespace Go.Proofs.Ytdjnjhlgpflcjaa
open Go.RowKit

/-- What is read: a fixed number, a counted number, a counted text, one byte of some; the bytes that are left, the error. -/
def rF (n : Int) (s : List UInt8 × Int) : Int × (List UInt8 × Int) := if s.2 = 0 then (if (readF s.1 n).2 = 0 then ((readF s.1 n).1, (s.1.drop n.toNat, 0)) else ((readF s.1 n).1, (s.1, (readF s.1 n).2))) else (0, s)
def rI (s : List UInt8 × Int) : Int × (List UInt8 × Int) := if s.2 = 0 then (if (readI s.1).2.2 = 0 then ((readI s.1).1, (s.1.drop (readI s.1).2.1, 0)) else ((readI s.1).1, (s.1, (readI s.1).2.2))) else (0, s)
def rT (s : List UInt8 × Int) : List UInt8 × (List UInt8 × Int) := if s.2 = 0 then (if (readT s.1).2.2 = 0 then ((readT s.1).1, (s.1.drop (readT s.1).2.1, 0)) else ((readT s.1).1, (s.1, (readT s.1).2.2))) else ([], s)
/-- What is read is wrong. -/
def rW (bad : Bool) (s : List UInt8 × Int) : List UInt8 × Int := if s.2 = 0 ∧ bad = true then (s.1, 5) else s
/-- A byte that is one of these. -/
def rM (p : UInt8 → Bool) (s : List UInt8 × Int) : List UInt8 × Int := rW (!p (UInt8.ofNat (rF 1 s).1.toNat)) (rF 1 s).2
/-- Bytes that are left are wrong. -/
def rO (s : List UInt8 × Int) : List UInt8 × Int := rW (decide (0 < s.1.length)) s

/-- A method that gives one value. -/
def RetR (a w : World) (g : Nat) (v : Value) (s : List UInt8 × Int) (e : Ending) (w' : World) : Prop := e = .returned v ∧ Rdr a w' g s ∧ On g w w'
end Go.Proofs.Ytdjnjhlgpflcjaa
