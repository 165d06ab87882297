/- walks: the reference's octal, letter, single -/
import Derived.Test.YtpakciceohgfhaaDoorTb
namespace Go.Proofs.YtpakciceohgfhaaDoor
open Go.RowKit
open Tx
/-- the letter of the escape sequence of a byte, 0 if there is none -/
def letC (c : Int) : Int := if c = 7 then 97 else if c = 8 then 98 else if c = 9 then 116 else if c = 10 then 110 else if c = 11 then 118 else if c = 12 then 102 else if c = 13 then 114 else if c = 92 then 92 else 0
end Go.Proofs.YtpakciceohgfhaaDoor
