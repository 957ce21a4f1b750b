/- A part of the proof. -/
import Derived.Lib.Hide
set_option linter.all false
namespace Go.Proofs.YthdkamnclbfehaaGreatDoor
open Go.RowKit
theorem hD {p:Prop} (h:p):Hid p:=Lib.hid h
theorem n3 {α:Sort _} {β:α→Sort _} {γ:(a:α)→β a→Prop} (a:α) (b:β a) (h:γ a b):γ a b:=h
end Go.Proofs.YthdkamnclbfehaaGreatDoor
