import Derived.Test.YtdjpdllehhecpaaGreatDoorQ24
import Derived.Test.YtdjpdllehhecpaaGreatDoorQ10
open List renaming getElem?_toArray → zA, getElem?_cons_succ → zB, getElem?_cons_zero → zC, setIfInBounds_toArray → zD, set_cons_zero → zE, set_cons_succ → zF
namespace Go.Proofs.YtdjpdllehhecpaaGreatDoor
open Go.RowKit
set_option linter.unusedVariables false
end Go.Proofs.YtdjpdllehhecpaaGreatDoor
