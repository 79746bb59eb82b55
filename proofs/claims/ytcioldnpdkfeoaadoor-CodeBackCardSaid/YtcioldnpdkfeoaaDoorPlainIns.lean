/- What is asked of an operation that comes in: its numbers are of 64 bits. -/
import Derived.Test.YtcioldnpdkfeoaaDoorPureC1
namespace Cin
def ok64 (n : Int) : Prop := -9223372036854775808 ≤ n ∧ n ≤ 9223372036854775807
def InsWf (d : Ins) : Prop := ok64 d.At ∧ ok64 d.Op ∧ ok64 d.A ∧ ok64 d.B
end Cin
