/- The walks of chapter 3's laws, out of the printed walks and the plain laws. -/
import Derived.Test.YtnpnablnnfekkaaDoorPathD
namespace Go.Proofs.YtnpnablnnfekkaaDoor
open Go.RowKit
theorem PathNames.walk (a0 : ByteArray) (W : World) (h : a0.size ≤ 140737488351232) :
    Calls Tryd.prog 12 #[.string a0] W fun e w' => e = .returned (.bool true) ∧ Below W.heap.size W w' := PAll.rehearsallaw03_PathNames.walk PAll.PathNames a0 W h
theorem PathParts.walk (a0 : ByteArray) (W : World) (h : a0.size ≤ 140737488351232) :
    Calls Tryd.prog 9 #[.string a0] W fun e w' => e = .returned (.bool true) ∧ Below W.heap.size W w' := PAll.rehearsallaw03_PathParts.walk PAll.PathParts a0 W h
theorem PathCleans.walk (a0 : ByteArray) (W : World) (h : a0.size ≤ 140737488351232) :
    Calls Tryd.prog 10 #[.string a0] W fun e w' => e = .returned (.bool true) ∧ Below W.heap.size W w' := PAll.rehearsallaw03_PathCleans.walk PAll.PathCleans a0 W h
theorem PathJoins.walk (a0 a1 : ByteArray) (W : World) (h : a0.size ≤ 140737488351232) (h1 : a1.size ≤ 140737488351232) :
    Calls Tryd.prog 14 #[.string a0, .string a1] W fun e w' => e = .returned (.bool true) ∧ Below W.heap.size W w' := PAll.rehearsallaw03_PathJoins.walk PAll.PathJoins a0 a1 W h h1
theorem PathBack.walk (a0 a1 : ByteArray) (W : World) (h : a0.size ≤ 140737488351232) (h1 : a1.size ≤ 140737488351232) :
    Calls Tryd.prog 13 #[.string a0, .string a1] W fun e w' => e = .returned (.bool true) ∧ Below W.heap.size W w' := PAll.rehearsallaw03_PathBack.walk PAll.PathBack a0 a1 W h h1
theorem PathEnds.walk (a0 : ByteArray) (W : World) (h : a0.size ≤ 1048576) :
    Calls Tryd.prog 11 #[.string a0] W fun e w' => e = .returned (.bool true) ∧ Below W.heap.size W w' := PAll.rehearsallaw03_PathEnds.calls _ a0 true W (PAll.PathEnds a0 (by omega))
end Go.Proofs.YtnpnablnnfekkaaDoor
