/- Printed contracts, handed on as given ones. -/
import Derived.Test.YtlinllnlokikpaaDoorPConx
namespace Go.Proofs.YtlinllnlokikpaaDoor
open Go.RowKit Go.Proofs.YtlinllnlokikpaaDoorW.PrintWords
def rehearsalref15_convert.f (a0 : ByteArray) (a1 : Int) : Option (ByteArray × Bool) := PCon.rehearsalref15_convert.f a0 a1
theorem rehearsalref15_convert.calls (a0 : ByteArray) (a1 : Int) (r1 : ByteArray) (r2 : Bool) (w : World) (h : rehearsalref15_convert.f a0 a1 = some (r1, r2)) :
    Calls Tryd.prog 31 #[.string a0, .int .u8 a1] w fun e w' => e = .returned (.tuple #[.string r1, .bool r2]) ∧ Below w.heap.size w w' := PCon.rehearsalref15_convert.calls a0 a1 r1 r2 w h
def text_Echo.f (l0 : List ByteArray) : Option ByteArray := PCon.text_Echo.f l0
theorem text_Echo.calls (A0 : Option Addr) (c0 : Nat) (l0 : List ByteArray) (r : ByteArray) (w : World) (hr0 : Kd.C Kd.string w A0 l0.length l0) (hc0 : l0.length ≤ c0) (h : text_Echo.f l0 = some r) :
    Calls Tryd.prog 9 #[.slice A0 l0.length c0] w fun e w' => e = .returned (.string r) ∧ Below w.heap.size w w' := PCon.text_Echo.calls A0 c0 l0 r w hr0 hc0 h
end Go.Proofs.YtlinllnlokikpaaDoor
